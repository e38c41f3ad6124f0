/- Walks: the law's functions on frames. -/
import Derived.Test.YtlhpkogdcgebeaaW4
import Derived.Test.YtlhpkogdcgebeaaW8
set_option linter.unusedVariables false
set_option linter.unusedSimpArgs false
set_option synthInstance.maxSize 4000
set_option synthInstance.maxHeartbeats 400000
namespace Go.Proofs.Ytlhpkogdcgebeaa
open Go.RowKit
set_option maxHeartbeats 400000 in
set_option maxRecDepth 20000 in
theorem RFrame_spec (xs : List UInt8) (w : World) (pA0 : Option Addr) (pc0 : Nat) (ph0 : (Z.Ty.slice Z.Ty.byte).rep w (Z.nt []) [.slice pA0 xs.length pc0] xs)  :
    Calls Try.prog 13 #[.slice pA0 xs.length pc0] w fun e w' => ∃ (rA0 : Option Addr) (rc0 : Nat), e = .returned (.tuple #[.slice rA0 (Codec.frameB xs).length rc0, .int .i64 (Codec.frameE xs)]) ∧ Z.Own Z.Ty.byte 5 w.heap.size w' Z.no rA0 rc0 (Codec.frameB xs) ∧ Z.Ch [] w w' := by
  refine Z.enter Try.func13 rfl Try.ntmps13 (Nat.le_of_ble_eq_true rfl) fun a hf => ?_
  have hle_pA0 := Z.rep_le ph0
  have ph0o := Z.rep_ol ph0
  have hil := Codec.encInt_length (xs.length : Int)
  refine Z.qseq [.n, .n] [] [] [] Z.k0 hf ?_; clear hf a; intro a hf
  refine Z.seq' (Z.Pq.body _ _ _) fun Q1 hp2 hn3 he4 => ?_
  refine Z.qseq [.n, .n, .n] [6] [] [(6, .bool (decide (65536 < (xs.length : Int))))] Z.k0 hf ?_; clear hf a; intro a hf
  refine Z.condp hf rfl ?_ ?_
  · intro hp5
    refine Z.qseq [.n, .n] [2, 3] [] [(2, .slice none 0 0), (3, .int .i64 3)] Z.k0 hf ?_; clear hf a; intro a hf
    refine Z.ret ?_
    refine he4 _ _ _ (by simp) ?_
    have hxs6 : ([] : List UInt8) = (Codec.frameB xs : List UInt8) := by first | rfl | (unfold Codec.frameB; rw [if_neg (by omega)]; done) | (unfold Codec.frameB; rw [if_pos (by omega)]; done)
    have ho7 := hxs6 ▸ (Z.Own.nil Z.Ty.byte 5 w.heap.size w Z.no)
    replace hf := hf.setv (d := 2) (y := .slice none ((Codec.frameB xs).length) 0) rfl (by rw [← hxs6] <;> first | done | rfl)
    replace hf := hf.setv (d := 3) (y := .int .i64 (Codec.frameE xs)) rfl (congrArg (Value.int .i64) (by first | rfl | (unfold Codec.frameE; rw [if_neg (by omega)]; done) | (unfold Codec.frameE; rw [if_pos (by omega)]; done)))
    refine Z.ret2 hf Try.results13 rfl rfl ?_
    exact ⟨none, 0, rfl, ho7, (Z.Ch.refl w)⟩
  · intro hp8
    refine Z.skip ?_
    refine hn3 _ _ ?_
    refine Z.seq' (Z.Pq.body _ _ _) fun Q9 hp10 hn11 he12 => ?_
    refine Z.reg ?_
    refine Z.qr [.n, .n] [8] [] [(8, .int .i64 (xs.length : Int))] Z.k0 hf ?_; clear hf a; intro a hf
    refine Z.call1 hf rfl (Z.r_call cf27 hf (xs := [.tmp 8]) rfl) (RInt_spec (xs.length : Int) w  (by unfold Codec.okInt; omega)) ?_; clear hf a
    rintro _ w13 ⟨A14, c15, rfl, ho16, hc18⟩
    have hzhc18 := hc18.size
    refine ⟨_, rfl, ?_⟩; intro a hf
    refine Z.qr [.n] [10] [] [(10, .slice pA0 xs.length pc0)] Z.k0 hf ?_; clear hf a; intro a hf
    have hr19 := Z.rep_to (F' := (Z.ol [] w.heap.size)) ph0o hc18
    refine Z.st_append_flat (t := Z.Ty.byte) hf rfl Try.underlying40 inf5.1 inf5.2.1 inf5.2.2.1 inf5.2.2.2.1 inf5.2.2.2.2 (by decide) (by decide) rfl rfl (by first | rfl | omega) ho16 rfl hr19 (by first | omega | (simp only [List.length_cons, List.length_nil, List.length_append]; omega) | (simp; done))  (by omega) ?_; clear hf a; intro A20 c21 w22 a ho23 hc24 hcas25 hf
    have hzhc24 := hc24.size
    have hob26 : ∀ k, k ∈ Z.obl A20 → w.heap.size ≤ k ∧ k < w13.heap.size ∨ k = w13.heap.size := fun k hk => by rcases hcas25 k hk with h | h; (have := ho16.lt k h; omega); omega
    refine Z.qe [.n, .n] [2, 3] [] [(2, .slice A20 (((Codec.encInt (xs.length : Int)) ++ xs).length) c21), (3, .int .i64 0)] Z.k0 hf ?_; clear hf a; intro a hf
    refine hn11 _ _ ?_
    refine Z.ret ?_
    have hxs28 : (Codec.encInt (xs.length : Int)) ++ xs = (Codec.frameB xs : List UInt8) := by first | rfl | (unfold Codec.frameB; rw [if_neg (by omega)]; done) | (unfold Codec.frameB; rw [if_pos (by omega)]; done)
    have ho29 := hxs28 ▸ ho23
    replace hf := hf.setv (d := 2) (y := .slice A20 ((Codec.frameB xs).length) c21) rfl (by rw [← hxs28] <;> first | done | rfl)
    replace hf := hf.setv (d := 3) (y := .int .i64 (Codec.frameE xs)) rfl (congrArg (Value.int .i64) (by first | rfl | (unfold Codec.frameE; rw [if_neg (by omega)]; done) | (unfold Codec.frameE; rw [if_pos (by omega)]; done)))
    have hq30 : Z.Ch ([] ++ Z.obl A14) w w22 := hc18.then hc24 (by simp) (by first | (intro k hk; simp [hk]; done) | (intro k hk; simp at hk; simp [hk]; done) | (intro k hk; simp at hk; rcases hk with hk | hk <;> simp [hk]))
    refine Z.ret2 hf Try.results13 rfl rfl ?_
    exact ⟨A20, c21, rfl, ho29, (Z.Ch.mono hq30 (by intro k hk; exact (Classical.em (k ∈ Z.obl A14)).elim (fun hm0 => by have hob := ho16.lt k hm0; (try simp only [List.mem_cons, List.mem_append, List.not_mem_nil, or_false, false_or]) <;> omega) (fun hm0 => by (try simp only [hm0, List.mem_cons, List.mem_append, List.not_mem_nil, or_false, false_or] at hk ⊢) <;> omega)))⟩

set_option maxHeartbeats 400000 in
set_option maxRecDepth 20000 in
theorem same_spec (xs : List (List UInt8)) (ys : List (List UInt8)) (w : World) (pA0 : Option Addr) (pc0 : Nat) (pA1 : Option Addr) (pc1 : Nat) (ph0 : (Z.Ty.slice (Z.Ty.slice Z.Ty.byte)).rep w (Z.nt []) [.slice pA0 xs.length pc0] xs) (ph1 : (Z.Ty.slice (Z.Ty.slice Z.Ty.byte)).rep w (Z.nt []) [.slice pA1 ys.length pc1] ys)  :
    Calls Try.prog 15 #[.slice pA0 xs.length pc0, .slice pA1 ys.length pc1] w fun e w' => e = .returned (.bool (decide (xs = ys))) ∧ Z.Ch [] w w' := by
  refine Z.enter Try.func15 rfl Try.ntmps15 (Nat.le_of_ble_eq_true rfl) fun a hf => ?_
  have hle_pA0 := Z.rep_le ph0
  have ph0o := Z.rep_ol ph0
  have hle_pA1 := Z.rep_le ph1
  have ph1o := Z.rep_ol ph1
  refine Z.qseq [.n] [] [] [] Z.k0 hf ?_; clear hf a; intro a hf
  refine Z.seq' (Z.Pq.body _ _ _) fun Q1 hp2 hn3 he4 => ?_
  refine Z.qseq [.n, .n, .n, .n, .n] [10] [] [(10, .bool (decide ((xs.length : Int) ≠ (ys.length : Int))))] Z.k0 hf ?_; clear hf a; intro a hf
  refine Z.condp hf rfl ?_ ?_
  · intro hp5
    have hcond := hp5
    refine Z.qseq [.n] [4] [] [(4, .bool false)] Z.k0 hf ?_; clear hf a; intro a hf
    refine Z.ret ?_
    refine he4 _ _ _ (by simp) ?_
    replace hf := hf.setv (d := 4) (y := .bool (decide (xs = ys))) rfl (congrArg Value.bool (by first | (symm; apply decide_eq_false; intro h; first | (refine hcond ?_; rw [h]; done) | (rw [h, heb] at hea; injection hea with hea; simp [hea] at hcond; done)) | (exact Codec.same_true (Codec.take_end hp5 ht hp5))))
    refine Z.ret1 hf Try.results15 rfl ?_
    exact ⟨rfl, (Z.Ch.refl w)⟩
  · intro hp6
    have hcond := hp6
    refine Z.skip ?_
    refine hn3 _ _ ?_
    refine Z.seq' (Z.Pq.body _ _ _) fun Q7 hp8 hn9 he10 => ?_
    refine Z.qseq [.n, .n, .n] [12, 13] [] [(12, .int .i64 (xs.length : Int)), (13, .int .i64 0)] Z.k0 hf ?_; clear hf a; intro a hf
    refine Z.block' hp8 fun Q11 hp12 hn13 hx14 he15 => ?_
    refine Z.loop' hp12 (fun m a wl => ∃ (k : Nat), m = xs.length - k ∧ Z.Ch [] w wl ∧ (k ≤ xs.length) ∧ (xs.take k = ys.take k) ∧ Z.Fr a 27 [] [(0, .slice pA0 xs.length pc0), (1, .slice pA1 ys.length pc1), (12, .int .i64 (xs.length : Int)), (13, .int .i64 (k : Int))]) (xs.length - 0) ?_ ?_
    · replace hf := hf.setv (d := 13) (y := .int .i64 (0 : Int)) rfl (congrArg (Value.int .i64) (by first | rfl | omega | (simp; done) | (simp; omega)))
      exact ⟨0, rfl, (Z.Ch.refl w), (by omega), (by simp), (hf.keep [0, 1, 12, 13])⟩
    · rintro m26 a w16 ⟨k19, hm18, hc17, hk24, ht25, hf⟩ Q20 hp21 hn22 he23
      have hzhc17 := hc17.size
      refine Z.qseq [.n] [14] [] [(14, .bool (decide ((k19 : Int) < (xs.length : Int))))] Z.k0 hf ?_; clear hf a; intro a hf
      refine Z.seq' hp21 fun Q27 hp28 hn29 he30 => ?_
      refine Z.condp hf rfl ?_ ?_
      · intro hp31
        have hcond := hp31
        refine Z.skip ?_
        refine hn29 _ _ ?_
        refine Z.seq' hp21 fun Q32 hp33 hn34 he35 => ?_
        refine Z.block' hp33 fun Q36 hp37 hn38 hx39 he40 => ?_
        refine Z.qseq [.n, .n] [5] [] [(5, .int .i64 (k19 : Int))] Z.k0 hf ?_; clear hf a; intro a hf
        refine Z.seq' hp37 fun Q41 hp42 hn43 he44 => ?_
        refine Z.dr_reg (S := fun w' => Z.Ch [] w16 w') mixed ?_; intro w45 hc46 hz47
        refine Z.dqr [true, true, false, false, true, true, false, false, false, false] 6 [(0, .n), (1, .n), (4, .n), (5, .n)] [16, 17, 20, 21] [] [(16, .slice pA0 xs.length pc0), (17, .int .i64 (k19 : Int)), (20, .slice pA1 ys.length pc1), (21, .int .i64 (k19 : Int))] hp42 hc46 (fun w hw => Z.k0) hf ?_; clear hf a; intro a hf
        have hr48 := Z.rep_to (F' := (Z.ol [] w.heap.size)) ph0o hc17
        have hkx51 : k19 < (xs).length := (by omega)
        obtain ⟨ad49, es50, x51, hA52, hF53, hl54, hx55, hc56, hr57⟩ := Z.rep_el hr48 hkx51
        have hok58 := Z.rep_ok _ hr57
        obtain ⟨A59, c60, he61, hn62, hn63⟩ := Z.rep_slice hr57
        rw [he61] at hr57
        have hle_A59 := Z.rep_le hr57
        have he64 : es50 = [.slice A59 x51.length c60] := by simp only [he61, List.cons_append, List.nil_append]
        rw [he64] at hc56
        have hea := hx55
        refine Z.dr_val 2 hf rfl rfl (by kernel_rfl) (by kernel_rfl) hp42 hc46 Z.wanted_none (fun _ hw => Z.r_indexAddrE Try.underlying46 Try.sizeOf40 (hf.eval rfl) hA52 (hf.eval rfl) (k := k19) (by first | rfl | omega) (by omega)) ?_; clear hf a; intro a hf
        refine Z.dqr [true, true, true, true, true, true, false, false, false, false] 4 [(3, .e 0 0)] [19] [] [(19, .slice A59 x51.length c60)] hp42 hc46 (fun w hw => (Z.ke (hc56.ch0 hw) Z.k0)) hf ?_; clear hf a; intro a hf
        have hr65 := Z.rep_to (F' := (Z.ol [] w.heap.size)) ph1o hc17
        have hkx68 : k19 < (ys).length := (by omega)
        obtain ⟨ad66, es67, x68, hA69, hF70, hl71, hx72, hc73, hr74⟩ := Z.rep_el hr65 hkx68
        have hok75 := Z.rep_ok _ hr74
        obtain ⟨A76, c77, he78, hn79, hn80⟩ := Z.rep_slice hr74
        rw [he78] at hr74
        have hle_A76 := Z.rep_le hr74
        have he81 : es67 = [.slice A76 x68.length c77] := by simp only [he78, List.cons_append, List.nil_append]
        rw [he81] at hc73
        have heb := hx72
        refine Z.dr_val 6 hf rfl rfl (by kernel_rfl) (by kernel_rfl) hp42 hc46 Z.wanted_none (fun _ hw => Z.r_indexAddrE Try.underlying46 Try.sizeOf40 (hf.eval rfl) hA69 (hf.eval rfl) (k := k19) (by first | rfl | omega) (by omega)) ?_; clear hf a; intro a hf
        refine Z.dqr [true, true, true, true, true, true, true, true, false, false] 2 [(7, .e 0 0)] [23] [] [(23, .slice A76 x68.length c77)] hp42 hc46 (fun w hw => (Z.ke (hc73.ch0 hw) Z.k0)) hf ?_; clear hf a; intro a hf
        refine Z.dr_one 8 rfl (by kernel_rfl) ?_
        have hr82 := Z.rep_to (F' := (Z.nt [])) hr57 hc46
        have hr83 := Z.rep_to (F' := (Z.nt [])) hr74 hc46
        refine Z.call1 hf rfl (Z.r_call cf10 hf (xs := [.tmp 19, .tmp 23]) rfl) (Equal_spec x51 x68 w45 A59 c60 A76 c77 hr82 hr83) ?_; clear hf a
        rintro _ w84 ⟨rfl, hc85⟩
        have hzhc85 := hc85.size
        refine ⟨_, rfl, ?_⟩; intro a hf
        refine Z.done ?_
        have hq86 : Z.Ch [] w16 w84 := hc46.then hc85
        refine And.intro hq86 ?_
        refine Z.dqr [true, true, true, true, true, true, true, true, true, true] 0 [(9, .n)] [25] [] [(25, .bool (!(decide (x51 = x68))))] hp42 hq86 (fun w hw => Z.k0) hf ?_; clear hf a; intro a hf
        refine Z.dr_done (by kernel_rfl) ?_
        refine hn43 _ _ ?_
        refine Z.cond hf rfl ?_ ?_
        · intro hp87
          have hcond := hp87
          refine Z.qseq [.n] [4] [] [(4, .bool false)] Z.k0 hf ?_; clear hf a; intro a hf
          refine Z.ret ?_
          refine he40 _ _ _ (by simp) (by simp) ?_
          refine he35 _ _ _ (by simp) ?_
          refine he23 _ _ _ (by simp) ?_
          refine he15 _ _ _ (by simp) (by simp) ?_
          refine he10 _ _ _ (by simp) ?_
          replace hf := hf.setv (d := 4) (y := .bool (decide (xs = ys))) rfl (congrArg Value.bool (by first | (symm; apply decide_eq_false; intro h; first | (refine hcond ?_; rw [h]; done) | (rw [h, heb] at hea; injection hea with hea; simp [hea] at hcond; done)) | (exact Codec.same_true (Codec.take_end hp6 ht25 hp87))))
          have hq88 : Z.Ch [] w w45 := hc17.then hc46
          have hq89 : Z.Ch [] w w84 := hq88.then hc85
          refine Z.ret1 hf Try.results15 rfl ?_
          exact ⟨rfl, hq89⟩
        · intro hp90
          have hcond := hp90
          refine Z.skip ?_
          refine hn38 _ _ ?_
          refine hn34 _ _ ?_
          refine Z.qreg [.n, .n] [13] [Z.R64 ((k19 : Int) + 1)] [(13, .int .i64 ((k19 : Int) + 1))] Z.k0 hf ?_; clear hf a; intro a hf
          refine hn22 (xs.length - (k19 + 1)) _ _ ?_ ?_
          rotate_left
          replace hf := hf.setv (d := 13) (y := .int .i64 ((k19 + 1 : Nat) : Int)) rfl (congrArg (Value.int .i64) (by first | rfl | omega | (simp; done) | (simp; omega)))
          have hq91 : Z.Ch [] w w45 := hc17.then hc46
          have hq92 : Z.Ch [] w w84 := hq91.then hc85
          exact ⟨k19 + 1, rfl, hq92, (by omega), (by exact Codec.take_step ht25 hea heb (fun hne => hne (by simpa using hcond))), (hf.keep [0, 1, 12, 13])⟩
          rw [hm18]; omega
      · intro hp93
        have hcond := hp93
        refine Z.exit ?_
        refine he30 _ _ _ (by simp) ?_
        refine he23 _ _ _ (by simp) ?_
        refine hx14 _ _ ?_
        refine hn9 _ _ ?_
        refine Z.qseq [.n] [4] [] [(4, .bool true)] Z.k0 hf ?_; clear hf a; intro a hf
        refine Z.ret ?_
        replace hf := hf.setv (d := 4) (y := .bool (decide (xs = ys))) rfl (congrArg Value.bool (by first | (symm; apply decide_eq_false; intro h; first | (refine hcond ?_; rw [h]; done) | (rw [h, heb] at hea; injection hea with hea; simp [hea] at hcond; done)) | (exact Codec.same_true (Codec.take_end hp6 ht25 hp93))))
        refine Z.ret1 hf Try.results15 rfl ?_
        exact ⟨rfl, hc17⟩

end Go.Proofs.Ytlhpkogdcgebeaa
