/- Walks: the law's own functions on messages. -/
import Derived.Test.YtlhpkogdcgebeaaW3
import Derived.Test.YtlhpkogdcgebeaaEq
import Derived.Test.YtlhpkogdcgebeaaEr
set_option linter.unusedVariables false
set_option linter.unusedSimpArgs false
set_option synthInstance.maxSize 4000
set_option synthInstance.maxHeartbeats 400000
namespace Go.Proofs.Ytlhpkogdcgebeaa
open Go.RowKit
set_option maxHeartbeats 400000 in
set_option maxRecDepth 20000 in
theorem sameRecs_spec (xs : List D59) (ys : List D59) (w : World) (pA0 : Option Addr) (pc0 : Nat) (pA1 : Option Addr) (pc1 : Nat) (ph0 : (Z.Ty.slice T59).rep w (Z.nt []) [.slice pA0 xs.length pc0] xs) (ph1 : (Z.Ty.slice T59).rep w (Z.nt []) [.slice pA1 ys.length pc1] ys)  :
    Calls Try.prog 22 #[.slice pA0 xs.length pc0, .slice pA1 ys.length pc1] w fun e w' => e = .returned (.bool (decide (xs = ys))) ∧ Z.Ch [] w w' := by
  refine Z.enter Try.func22 rfl Try.ntmps22 (Nat.le_of_ble_eq_true rfl) fun a hf => ?_
  have hle_pA0 := Z.rep_le ph0
  have ph0o := Z.rep_ol ph0
  have hle_pA1 := Z.rep_le ph1
  have ph1o := Z.rep_ol ph1
  refine Z.qseq [.n] [] [] [] Z.k0 hf ?_; clear hf a; intro a hf
  refine Z.seq' (Z.Pq.body _ _ _) fun Q1 hp2 hn3 he4 => ?_
  refine Z.qseq [.n, .n, .n, .n, .n] [10] [] [(10, .bool (decide ((xs.length : Int) ≠ (ys.length : Int))))] Z.k0 hf ?_; clear hf a; intro a hf
  refine Z.condp hf rfl ?_ ?_
  · intro hp5
    have hcond := hp5
    refine Z.qseq [.n] [4] [] [(4, .bool false)] Z.k0 hf ?_; clear hf a; intro a hf
    refine Z.ret ?_
    refine he4 _ _ _ (by simp) ?_
    replace hf := hf.setv (d := 4) (y := .bool (decide (xs = ys))) rfl (congrArg Value.bool (by first | (symm; apply decide_eq_false; intro h; first | (refine hgd ?_; rw [h]; done) | (refine hcond ?_; rw [h]; done) | (simp only [Bool.not_eq_true', decide_eq_false_iff_not] at hgd; refine hgd ?_; rw [h]; done) | (simp only [Bool.not_eq_true', decide_eq_false_iff_not] at hcond; refine hcond ?_; rw [h]; done) | (rw [h, heb] at hea; injection hea with hea; exact hcond hea.symm)) | (exact Codec.same_true (Codec.take_end (by first | assumption | omega) ht (by first | assumption | omega)))))
    refine Z.ret1 hf Try.results22 rfl ?_
    exact ⟨rfl, (Z.Ch.refl w)⟩
  · intro hp6
    have hcond := hp6
    refine Z.skip ?_
    refine hn3 _ _ ?_
    refine Z.seq' (Z.Pq.body _ _ _) fun Q7 hp8 hn9 he10 => ?_
    refine Z.qseq [.n] [5] [] [(5, .int .i64 0)] Z.k0 hf ?_; clear hf a; intro a hf
    refine Z.block' hp8 fun Q11 hp12 hn13 hx14 he15 => ?_
    refine Z.loop' hp12 (fun m a wl => ∃ (k : Nat), m = xs.length - k ∧ Z.Ch [] w wl ∧ (k ≤ xs.length) ∧ (xs.take k = ys.take k) ∧ Z.Fr a 26 [] [(0, .slice pA0 xs.length pc0), (1, .slice pA1 ys.length pc1), (5, .int .i64 (k : Int))]) (xs.length - 0) ?_ ?_
    · replace hf := hf.setv (d := 5) (y := .int .i64 (0 : Int)) rfl (congrArg (Value.int .i64) (by first | rfl | omega | (simp; done) | (simp; omega)))
      exact ⟨0, rfl, (Z.Ch.refl w), (by omega), (by simp), (hf.keep [0, 1, 5])⟩
    · rintro m26 a w16 ⟨k19, hm18, hc17, hk24, ht25, hf⟩ Q20 hp21 hn22 he23
      have hzhc17 := hc17.size
      refine Z.seq' hp21 fun Q27 hp28 hn29 he30 => ?_
      refine Z.qseq [.n, .n, .n, .n] [14] [] [(14, .bool (decide ((k19 : Int) < (xs.length : Int))))] Z.k0 hf ?_; clear hf a; intro a hf
      refine Z.condp hf rfl ?_ ?_
      · intro hp31
        have hcond := hp31
        refine Z.skip ?_
        refine hn29 _ _ ?_
        refine Z.seq' hp21 fun Q32 hp33 hn34 he35 => ?_
        refine Z.block' hp33 fun Q36 hp37 hn38 hx39 he40 => ?_
        refine Z.seq' hp37 fun Q41 hp42 hn43 he44 => ?_
        refine Z.dr_reg (S := fun w' => Z.Ch [] w16 w') mixed ?_; intro w45 hc46 hz47
        refine Z.dqr [true, true, false, false, true, true, false, false, false] 5 [(0, .n), (1, .n), (4, .n), (5, .n)] [17, 18, 21, 22] [] [(17, .slice pA0 xs.length pc0), (18, .int .i64 (k19 : Int)), (21, .slice pA1 ys.length pc1), (22, .int .i64 (k19 : Int))] hp42 hc46 (fun w hw => Z.k0) hf ?_; clear hf a; intro a hf
        have hr48 := Z.rep_to (F' := (Z.ol [] w.heap.size)) ph0o hc17
        have hkx51 : k19 < (xs).length := (by omega)
        obtain ⟨ad49, es50, x51, hA52, hF53, hl54, hx55, hc56, hr57⟩ := Z.rep_el hr48 hkx51
        have hok58 := Z.rep_ok _ hr57
        obtain ⟨ca59, cb60, he61, hr62, hr63⟩ := hr57
        have he64 := hr62.1
        have he65 := hr63.1
        have he66 : es50 = [.int .i64 x51.1, .string x51.2] := by simp only [he61, he64, he65, List.cons_append, List.nil_append]
        rw [he66] at hc56
        have hea := hx55
        refine Z.dr_val 2 hf rfl rfl (by kernel_rfl) (by kernel_rfl) hp42 hc46 Z.wanted_none (fun _ hw => Z.r_indexAddrE Try.underlying27 Try.sizeOf60 (hf.eval rfl) hA52 (hf.eval rfl) (k := k19) (by first | rfl | omega) (by omega)) ?_; clear hf a; intro a hf
        refine Z.dqr [true, true, true, true, true, true, false, false, false] 3 [(3, .e 0 0)] [20] [] [(20, .agg #[.int .i64 x51.1, .string x51.2])] hp42 hc46 (fun w hw => (Z.ke (hc56.ch0 hw) Z.k0)) hf ?_; clear hf a; intro a hf
        have hr67 := Z.rep_to (F' := (Z.ol [] w.heap.size)) ph1o hc17
        have hkx70 : k19 < (ys).length := (by omega)
        obtain ⟨ad68, es69, x70, hA71, hF72, hl73, hx74, hc75, hr76⟩ := Z.rep_el hr67 hkx70
        have hok77 := Z.rep_ok _ hr76
        obtain ⟨ca78, cb79, he80, hr81, hr82⟩ := hr76
        have he83 := hr81.1
        have he84 := hr82.1
        have he85 : es69 = [.int .i64 x70.1, .string x70.2] := by simp only [he80, he83, he84, List.cons_append, List.nil_append]
        rw [he85] at hc75
        have heb := hx74
        refine Z.dr_val 6 hf rfl rfl (by kernel_rfl) (by kernel_rfl) hp42 hc46 Z.wanted_none (fun _ hw => Z.r_indexAddrE Try.underlying27 Try.sizeOf60 (hf.eval rfl) hA71 (hf.eval rfl) (k := k19) (by first | rfl | omega) (by omega)) ?_; clear hf a; intro a hf
        refine Z.dqr [true, true, true, true, true, true, true, true, false] 1 [(7, .e 0 0)] [24] [] [(24, .agg #[.int .i64 x70.1, .string x70.2])] hp42 hc46 (fun w hw => (Z.ke (hc75.ch0 hw) Z.k0)) hf ?_; clear hf a; intro a hf
        refine Z.dr_val 8 hf rfl rfl (by kernel_rfl) (by kernel_rfl) hp42 hc46 Z.wanted_none (fun _ hw => eqagg_neq60 (x := x51) (y := x70) (hf.eval rfl) (hf.eval rfl)) ?_; clear hf a; intro a hf
        refine Z.dr_done (by kernel_rfl) ?_
        refine hn43 _ _ ?_
        refine Z.condp hf rfl ?_ ?_
        · intro hp86
          have hcond := hp86
          refine Z.qseq [.n] [4] [] [(4, .bool false)] Z.k0 hf ?_; clear hf a; intro a hf
          refine Z.ret ?_
          refine he40 _ _ _ (by simp) (by simp) ?_
          refine he35 _ _ _ (by simp) ?_
          refine he23 _ _ _ (by simp) ?_
          refine he15 _ _ _ (by simp) (by simp) ?_
          refine he10 _ _ _ (by simp) ?_
          replace hf := hf.setv (d := 4) (y := .bool (decide (xs = ys))) rfl (congrArg Value.bool (by first | (symm; apply decide_eq_false; intro h; first | (refine hgd ?_; rw [h]; done) | (refine hcond ?_; rw [h]; done) | (simp only [Bool.not_eq_true', decide_eq_false_iff_not] at hgd; refine hgd ?_; rw [h]; done) | (simp only [Bool.not_eq_true', decide_eq_false_iff_not] at hcond; refine hcond ?_; rw [h]; done) | (rw [h, heb] at hea; injection hea with hea; exact hcond hea.symm)) | (exact Codec.same_true (Codec.take_end (by first | assumption | omega) ht25 (by first | assumption | omega)))))
          have hq87 : Z.Ch [] w w45 := hc17.then hc46
          refine Z.ret1 hf Try.results22 rfl ?_
          exact ⟨rfl, hq87⟩
        · intro hp88
          have hcond := hp88
          refine Z.skip ?_
          refine hn38 _ _ ?_
          refine hn34 _ _ ?_
          refine Z.qreg [.n, .n, .n] [5] [Z.R64 ((k19 : Int) + 1)] [(5, .int .i64 ((k19 : Int) + 1))] Z.k0 hf ?_; clear hf a; intro a hf
          refine hn22 (xs.length - (k19 + 1)) _ _ ?_ ?_
          rotate_left
          replace hf := hf.setv (d := 5) (y := .int .i64 ((k19 + 1 : Nat) : Int)) rfl (congrArg (Value.int .i64) (by first | rfl | omega | (simp; done) | (simp; omega)))
          have hq89 : Z.Ch [] w w45 := hc17.then hc46
          exact ⟨k19 + 1, rfl, hq89, (by omega), (by exact Codec.take_step ht25 hea heb hcond), (hf.keep [0, 1, 5])⟩
          rw [hm18]; omega
      · intro hp90
        have hcond := hp90
        refine Z.exit ?_
        refine he30 _ _ _ (by simp) ?_
        refine he23 _ _ _ (by simp) ?_
        refine hx14 _ _ ?_
        refine hn9 _ _ ?_
        refine Z.qseq [.n] [4] [] [(4, .bool true)] Z.k0 hf ?_; clear hf a; intro a hf
        refine Z.ret ?_
        replace hf := hf.setv (d := 4) (y := .bool (decide (xs = ys))) rfl (congrArg Value.bool (by first | (symm; apply decide_eq_false; intro h; first | (refine hgd ?_; rw [h]; done) | (refine hcond ?_; rw [h]; done) | (simp only [Bool.not_eq_true', decide_eq_false_iff_not] at hgd; refine hgd ?_; rw [h]; done) | (simp only [Bool.not_eq_true', decide_eq_false_iff_not] at hcond; refine hcond ?_; rw [h]; done) | (rw [h, heb] at hea; injection hea with hea; exact hcond hea.symm)) | (exact Codec.same_true (Codec.take_end (by first | assumption | omega) ht25 (by first | assumption | omega)))))
        refine Z.ret1 hf Try.results22 rfl ?_
        exact ⟨rfl, hc17⟩

set_option maxHeartbeats 400000 in
set_option maxRecDepth 20000 in
theorem SameMoves_spec (xs : List D63) (ys : List D63) (w : World) (pA0 : Option Addr) (pc0 : Nat) (pA1 : Option Addr) (pc1 : Nat) (ph0 : (Z.Ty.slice T63).rep w (Z.nt []) [.slice pA0 xs.length pc0] xs) (ph1 : (Z.Ty.slice T63).rep w (Z.nt []) [.slice pA1 ys.length pc1] ys)  :
    Calls Try.prog 46 #[.slice pA0 xs.length pc0, .slice pA1 ys.length pc1] w fun e w' => e = .returned (.bool (decide (xs = ys))) ∧ Z.Ch [] w w' := by
  refine Z.enter Try.func46 rfl Try.ntmps46 (Nat.le_of_ble_eq_true rfl) fun a hf => ?_
  have hle_pA0 := Z.rep_le ph0
  have ph0o := Z.rep_ol ph0
  have hle_pA1 := Z.rep_le ph1
  have ph1o := Z.rep_ol ph1
  refine Z.qseq [.n] [] [] [] Z.k0 hf ?_; clear hf a; intro a hf
  refine Z.seq' (Z.Pq.body _ _ _) fun Q1 hp2 hn3 he4 => ?_
  refine Z.qseq [.n, .n, .n, .n, .n] [10] [] [(10, .bool (decide ((xs.length : Int) ≠ (ys.length : Int))))] Z.k0 hf ?_; clear hf a; intro a hf
  refine Z.condp hf rfl ?_ ?_
  · intro hp5
    have hcond := hp5
    refine Z.qseq [.n] [4] [] [(4, .bool false)] Z.k0 hf ?_; clear hf a; intro a hf
    refine Z.ret ?_
    refine he4 _ _ _ (by simp) ?_
    replace hf := hf.setv (d := 4) (y := .bool (decide (xs = ys))) rfl (congrArg Value.bool (by first | (symm; apply decide_eq_false; intro h; first | (refine hgd ?_; rw [h]; done) | (refine hcond ?_; rw [h]; done) | (simp only [Bool.not_eq_true', decide_eq_false_iff_not] at hgd; refine hgd ?_; rw [h]; done) | (simp only [Bool.not_eq_true', decide_eq_false_iff_not] at hcond; refine hcond ?_; rw [h]; done) | (rw [h, heb] at hea; injection hea with hea; exact hcond hea.symm)) | (exact Codec.same_true (Codec.take_end (by first | assumption | omega) ht (by first | assumption | omega)))))
    refine Z.ret1 hf Try.results46 rfl ?_
    exact ⟨rfl, (Z.Ch.refl w)⟩
  · intro hp6
    have hcond := hp6
    refine Z.skip ?_
    refine hn3 _ _ ?_
    refine Z.seq' (Z.Pq.body _ _ _) fun Q7 hp8 hn9 he10 => ?_
    refine Z.qseq [.n] [5] [] [(5, .int .i64 0)] Z.k0 hf ?_; clear hf a; intro a hf
    refine Z.block' hp8 fun Q11 hp12 hn13 hx14 he15 => ?_
    refine Z.loop' hp12 (fun m a wl => ∃ (k : Nat), m = xs.length - k ∧ Z.Ch [] w wl ∧ (k ≤ xs.length) ∧ (xs.take k = ys.take k) ∧ Z.Fr a 26 [] [(0, .slice pA0 xs.length pc0), (1, .slice pA1 ys.length pc1), (5, .int .i64 (k : Int))]) (xs.length - 0) ?_ ?_
    · replace hf := hf.setv (d := 5) (y := .int .i64 (0 : Int)) rfl (congrArg (Value.int .i64) (by first | rfl | omega | (simp; done) | (simp; omega)))
      exact ⟨0, rfl, (Z.Ch.refl w), (by omega), (by simp), (hf.keep [0, 1, 5])⟩
    · rintro m26 a w16 ⟨k19, hm18, hc17, hk24, ht25, hf⟩ Q20 hp21 hn22 he23
      have hzhc17 := hc17.size
      refine Z.seq' hp21 fun Q27 hp28 hn29 he30 => ?_
      refine Z.qseq [.n, .n, .n, .n] [14] [] [(14, .bool (decide ((k19 : Int) < (xs.length : Int))))] Z.k0 hf ?_; clear hf a; intro a hf
      refine Z.condp hf rfl ?_ ?_
      · intro hp31
        have hcond := hp31
        refine Z.skip ?_
        refine hn29 _ _ ?_
        refine Z.seq' hp21 fun Q32 hp33 hn34 he35 => ?_
        refine Z.block' hp33 fun Q36 hp37 hn38 hx39 he40 => ?_
        refine Z.seq' hp37 fun Q41 hp42 hn43 he44 => ?_
        refine Z.dr_reg (S := fun w' => Z.Ch [] w16 w') mixed ?_; intro w45 hc46 hz47
        refine Z.dqr [true, true, false, false, true, true, false, false, false] 5 [(0, .n), (1, .n), (4, .n), (5, .n)] [17, 18, 21, 22] [] [(17, .slice pA0 xs.length pc0), (18, .int .i64 (k19 : Int)), (21, .slice pA1 ys.length pc1), (22, .int .i64 (k19 : Int))] hp42 hc46 (fun w hw => Z.k0) hf ?_; clear hf a; intro a hf
        have hr48 := Z.rep_to (F' := (Z.ol [] w.heap.size)) ph0o hc17
        have hkx51 : k19 < (xs).length := (by omega)
        obtain ⟨ad49, es50, x51, hA52, hF53, hl54, hx55, hc56, hr57⟩ := Z.rep_el hr48 hkx51
        have hok58 := Z.rep_ok _ hr57
        obtain ⟨ca59, cb60, he61, hr62, hr63⟩ := hr57
        have he64 := hr62.1
        obtain ⟨ca65, cb66, he67, hr68, hr69⟩ := hr63
        have he70 := hr68.1
        obtain ⟨ca71, cb72, he73, hr74, hr75⟩ := hr69
        have he76 := hr74.1
        obtain ⟨ca77, cb78, he79, hr80, hr81⟩ := hr75
        have he82 := hr80.1
        obtain ⟨ca83, cb84, he85, hr86, hr87⟩ := hr81
        have he88 := hr86.1
        obtain ⟨ca89, cb90, he91, hr92, hr93⟩ := hr87
        have he94 := hr92.1
        have he95 := hr93.1
        have he96 : es50 = [.int .i64 x51.1, .int .i64 x51.2.1, .int .i64 x51.2.2.1, .int .i64 x51.2.2.2.1, .int .i64 x51.2.2.2.2.1, .int .i64 x51.2.2.2.2.2.1, .string x51.2.2.2.2.2.2] := by simp only [he61, he64, he67, he70, he73, he76, he79, he82, he85, he88, he91, he94, he95, List.cons_append, List.nil_append]
        rw [he96] at hc56
        have hea := hx55
        refine Z.dr_val 2 hf rfl rfl (by kernel_rfl) (by kernel_rfl) hp42 hc46 Z.wanted_none (fun _ hw => Z.r_indexAddrE Try.underlying31 Try.sizeOf64 (hf.eval rfl) hA52 (hf.eval rfl) (k := k19) (by first | rfl | omega) (by omega)) ?_; clear hf a; intro a hf
        refine Z.dqr [true, true, true, true, true, true, false, false, false] 3 [(3, .e 0 0)] [20] [] [(20, .agg #[.int .i64 x51.1, .int .i64 x51.2.1, .int .i64 x51.2.2.1, .int .i64 x51.2.2.2.1, .int .i64 x51.2.2.2.2.1, .int .i64 x51.2.2.2.2.2.1, .string x51.2.2.2.2.2.2])] hp42 hc46 (fun w hw => (Z.ke (hc56.ch0 hw) Z.k0)) hf ?_; clear hf a; intro a hf
        have hr97 := Z.rep_to (F' := (Z.ol [] w.heap.size)) ph1o hc17
        have hkx100 : k19 < (ys).length := (by omega)
        obtain ⟨ad98, es99, x100, hA101, hF102, hl103, hx104, hc105, hr106⟩ := Z.rep_el hr97 hkx100
        have hok107 := Z.rep_ok _ hr106
        obtain ⟨ca108, cb109, he110, hr111, hr112⟩ := hr106
        have he113 := hr111.1
        obtain ⟨ca114, cb115, he116, hr117, hr118⟩ := hr112
        have he119 := hr117.1
        obtain ⟨ca120, cb121, he122, hr123, hr124⟩ := hr118
        have he125 := hr123.1
        obtain ⟨ca126, cb127, he128, hr129, hr130⟩ := hr124
        have he131 := hr129.1
        obtain ⟨ca132, cb133, he134, hr135, hr136⟩ := hr130
        have he137 := hr135.1
        obtain ⟨ca138, cb139, he140, hr141, hr142⟩ := hr136
        have he143 := hr141.1
        have he144 := hr142.1
        have he145 : es99 = [.int .i64 x100.1, .int .i64 x100.2.1, .int .i64 x100.2.2.1, .int .i64 x100.2.2.2.1, .int .i64 x100.2.2.2.2.1, .int .i64 x100.2.2.2.2.2.1, .string x100.2.2.2.2.2.2] := by simp only [he110, he113, he116, he119, he122, he125, he128, he131, he134, he137, he140, he143, he144, List.cons_append, List.nil_append]
        rw [he145] at hc105
        have heb := hx104
        refine Z.dr_val 6 hf rfl rfl (by kernel_rfl) (by kernel_rfl) hp42 hc46 Z.wanted_none (fun _ hw => Z.r_indexAddrE Try.underlying31 Try.sizeOf64 (hf.eval rfl) hA101 (hf.eval rfl) (k := k19) (by first | rfl | omega) (by omega)) ?_; clear hf a; intro a hf
        refine Z.dqr [true, true, true, true, true, true, true, true, false] 1 [(7, .e 0 0)] [24] [] [(24, .agg #[.int .i64 x100.1, .int .i64 x100.2.1, .int .i64 x100.2.2.1, .int .i64 x100.2.2.2.1, .int .i64 x100.2.2.2.2.1, .int .i64 x100.2.2.2.2.2.1, .string x100.2.2.2.2.2.2])] hp42 hc46 (fun w hw => (Z.ke (hc105.ch0 hw) Z.k0)) hf ?_; clear hf a; intro a hf
        refine Z.dr_val 8 hf rfl rfl (by kernel_rfl) (by kernel_rfl) hp42 hc46 Z.wanted_none (fun _ hw => eqagg_neq64 (x := x51) (y := x100) (hf.eval rfl) (hf.eval rfl)) ?_; clear hf a; intro a hf
        refine Z.dr_done (by kernel_rfl) ?_
        refine hn43 _ _ ?_
        refine Z.condp hf rfl ?_ ?_
        · intro hp146
          have hcond := hp146
          refine Z.qseq [.n] [4] [] [(4, .bool false)] Z.k0 hf ?_; clear hf a; intro a hf
          refine Z.ret ?_
          refine he40 _ _ _ (by simp) (by simp) ?_
          refine he35 _ _ _ (by simp) ?_
          refine he23 _ _ _ (by simp) ?_
          refine he15 _ _ _ (by simp) (by simp) ?_
          refine he10 _ _ _ (by simp) ?_
          replace hf := hf.setv (d := 4) (y := .bool (decide (xs = ys))) rfl (congrArg Value.bool (by first | (symm; apply decide_eq_false; intro h; first | (refine hgd ?_; rw [h]; done) | (refine hcond ?_; rw [h]; done) | (simp only [Bool.not_eq_true', decide_eq_false_iff_not] at hgd; refine hgd ?_; rw [h]; done) | (simp only [Bool.not_eq_true', decide_eq_false_iff_not] at hcond; refine hcond ?_; rw [h]; done) | (rw [h, heb] at hea; injection hea with hea; exact hcond hea.symm)) | (exact Codec.same_true (Codec.take_end (by first | assumption | omega) ht25 (by first | assumption | omega)))))
          have hq147 : Z.Ch [] w w45 := hc17.then hc46
          refine Z.ret1 hf Try.results46 rfl ?_
          exact ⟨rfl, hq147⟩
        · intro hp148
          have hcond := hp148
          refine Z.skip ?_
          refine hn38 _ _ ?_
          refine hn34 _ _ ?_
          refine Z.qreg [.n, .n, .n] [5] [Z.R64 ((k19 : Int) + 1)] [(5, .int .i64 ((k19 : Int) + 1))] Z.k0 hf ?_; clear hf a; intro a hf
          refine hn22 (xs.length - (k19 + 1)) _ _ ?_ ?_
          rotate_left
          replace hf := hf.setv (d := 5) (y := .int .i64 ((k19 + 1 : Nat) : Int)) rfl (congrArg (Value.int .i64) (by first | rfl | omega | (simp; done) | (simp; omega)))
          have hq149 : Z.Ch [] w w45 := hc17.then hc46
          exact ⟨k19 + 1, rfl, hq149, (by omega), (by exact Codec.take_step ht25 hea heb hcond), (hf.keep [0, 1, 5])⟩
          rw [hm18]; omega
      · intro hp150
        have hcond := hp150
        refine Z.exit ?_
        refine he30 _ _ _ (by simp) ?_
        refine he23 _ _ _ (by simp) ?_
        refine hx14 _ _ ?_
        refine hn9 _ _ ?_
        refine Z.qseq [.n] [4] [] [(4, .bool true)] Z.k0 hf ?_; clear hf a; intro a hf
        refine Z.ret ?_
        replace hf := hf.setv (d := 4) (y := .bool (decide (xs = ys))) rfl (congrArg Value.bool (by first | (symm; apply decide_eq_false; intro h; first | (refine hgd ?_; rw [h]; done) | (refine hcond ?_; rw [h]; done) | (simp only [Bool.not_eq_true', decide_eq_false_iff_not] at hgd; refine hgd ?_; rw [h]; done) | (simp only [Bool.not_eq_true', decide_eq_false_iff_not] at hcond; refine hcond ?_; rw [h]; done) | (rw [h, heb] at hea; injection hea with hea; exact hcond hea.symm)) | (exact Codec.same_true (Codec.take_end (by first | assumption | omega) ht25 (by first | assumption | omega)))))
        refine Z.ret1 hf Try.results46 rfl ?_
        exact ⟨rfl, hc17⟩

set_option maxHeartbeats 400000 in
set_option maxRecDepth 20000 in
theorem SameEntries_spec (xs : List D57) (ys : List D57) (w : World) (pA0 : Option Addr) (pc0 : Nat) (pA1 : Option Addr) (pc1 : Nat) (ph0 : (Z.Ty.slice T57).rep w (Z.nt []) [.slice pA0 xs.length pc0] xs) (ph1 : (Z.Ty.slice T57).rep w (Z.nt []) [.slice pA1 ys.length pc1] ys)  :
    Calls Try.prog 24 #[.slice pA0 xs.length pc0, .slice pA1 ys.length pc1] w fun e w' => e = .returned (.bool (decide (xs = ys))) ∧ Z.Ch [] w w' := by
  refine Z.enter Try.func24 rfl Try.ntmps24 (Nat.le_of_ble_eq_true rfl) fun a hf => ?_
  have hle_pA0 := Z.rep_le ph0
  have ph0o := Z.rep_ol ph0
  have hle_pA1 := Z.rep_le ph1
  have ph1o := Z.rep_ol ph1
  refine Z.qseq [.n] [] [] [] Z.k0 hf ?_; clear hf a; intro a hf
  refine Z.seq' (Z.Pq.body _ _ _) fun Q1 hp2 hn3 he4 => ?_
  refine Z.qseq [.n, .n, .n, .n, .n] [10] [] [(10, .bool (decide ((xs.length : Int) ≠ (ys.length : Int))))] Z.k0 hf ?_; clear hf a; intro a hf
  refine Z.condp hf rfl ?_ ?_
  · intro hp5
    have hcond := hp5
    refine Z.qseq [.n] [4] [] [(4, .bool false)] Z.k0 hf ?_; clear hf a; intro a hf
    refine Z.ret ?_
    refine he4 _ _ _ (by simp) ?_
    replace hf := hf.setv (d := 4) (y := .bool (decide (xs = ys))) rfl (congrArg Value.bool (by first | (symm; apply decide_eq_false; intro h; first | (refine hgd ?_; rw [h]; done) | (refine hcond ?_; rw [h]; done) | (simp only [Bool.not_eq_true', decide_eq_false_iff_not] at hgd; refine hgd ?_; rw [h]; done) | (simp only [Bool.not_eq_true', decide_eq_false_iff_not] at hcond; refine hcond ?_; rw [h]; done) | (rw [h, heb] at hea; injection hea with hea; exact hcond hea.symm)) | (exact Codec.same_true (Codec.take_end (by first | assumption | omega) ht (by first | assumption | omega)))))
    refine Z.ret1 hf Try.results24 rfl ?_
    exact ⟨rfl, (Z.Ch.refl w)⟩
  · intro hp6
    have hcond := hp6
    refine Z.skip ?_
    refine hn3 _ _ ?_
    refine Z.seq' (Z.Pq.body _ _ _) fun Q7 hp8 hn9 he10 => ?_
    refine Z.qseq [.n] [5] [] [(5, .int .i64 0)] Z.k0 hf ?_; clear hf a; intro a hf
    refine Z.block' hp8 fun Q11 hp12 hn13 hx14 he15 => ?_
    refine Z.loop' hp12 (fun m a wl => ∃ (k : Nat), m = xs.length - k ∧ Z.Ch [] w wl ∧ (k ≤ xs.length) ∧ (xs.take k = ys.take k) ∧ Z.Fr a 26 [] [(0, .slice pA0 xs.length pc0), (1, .slice pA1 ys.length pc1), (5, .int .i64 (k : Int))]) (xs.length - 0) ?_ ?_
    · replace hf := hf.setv (d := 5) (y := .int .i64 (0 : Int)) rfl (congrArg (Value.int .i64) (by first | rfl | omega | (simp; done) | (simp; omega)))
      exact ⟨0, rfl, (Z.Ch.refl w), (by omega), (by simp), (hf.keep [0, 1, 5])⟩
    · rintro m26 a w16 ⟨k19, hm18, hc17, hk24, ht25, hf⟩ Q20 hp21 hn22 he23
      have hzhc17 := hc17.size
      refine Z.seq' hp21 fun Q27 hp28 hn29 he30 => ?_
      refine Z.qseq [.n, .n, .n, .n] [14] [] [(14, .bool (decide ((k19 : Int) < (xs.length : Int))))] Z.k0 hf ?_; clear hf a; intro a hf
      refine Z.condp hf rfl ?_ ?_
      · intro hp31
        have hcond := hp31
        refine Z.skip ?_
        refine hn29 _ _ ?_
        refine Z.seq' hp21 fun Q32 hp33 hn34 he35 => ?_
        refine Z.block' hp33 fun Q36 hp37 hn38 hx39 he40 => ?_
        refine Z.seq' hp37 fun Q41 hp42 hn43 he44 => ?_
        refine Z.dr_reg (S := fun w' => Z.Ch [] w16 w') mixed ?_; intro w45 hc46 hz47
        refine Z.dqr [true, true, false, false, true, true, false, false, false] 5 [(0, .n), (1, .n), (4, .n), (5, .n)] [17, 18, 21, 22] [] [(17, .slice pA0 xs.length pc0), (18, .int .i64 (k19 : Int)), (21, .slice pA1 ys.length pc1), (22, .int .i64 (k19 : Int))] hp42 hc46 (fun w hw => Z.k0) hf ?_; clear hf a; intro a hf
        have hr48 := Z.rep_to (F' := (Z.ol [] w.heap.size)) ph0o hc17
        have hkx51 : k19 < (xs).length := (by omega)
        obtain ⟨ad49, es50, x51, hA52, hF53, hl54, hx55, hc56, hr57⟩ := Z.rep_el hr48 hkx51
        have hok58 := Z.rep_ok _ hr57
        obtain ⟨ca59, cb60, he61, hr62, hr63⟩ := hr57
        have he64 := hr62.1
        obtain ⟨ca65, cb66, he67, hr68, hr69⟩ := hr63
        have he70 := hr68.1
        obtain ⟨ca71, cb72, he73, hr74, hr75⟩ := hr69
        have he76 := hr74.1
        have he77 := hr75.1
        have he78 : es50 = [.int .i64 x51.1, .int .i64 x51.2.1, .string x51.2.2.1, .int .i64 x51.2.2.2] := by simp only [he61, he64, he67, he70, he73, he76, he77, List.cons_append, List.nil_append]
        rw [he78] at hc56
        have hea := hx55
        refine Z.dr_val 2 hf rfl rfl (by kernel_rfl) (by kernel_rfl) hp42 hc46 Z.wanted_none (fun _ hw => Z.r_indexAddrE Try.underlying34 Try.sizeOf58 (hf.eval rfl) hA52 (hf.eval rfl) (k := k19) (by first | rfl | omega) (by omega)) ?_; clear hf a; intro a hf
        refine Z.dqr [true, true, true, true, true, true, false, false, false] 3 [(3, .e 0 0)] [20] [] [(20, .agg #[.int .i64 x51.1, .int .i64 x51.2.1, .string x51.2.2.1, .int .i64 x51.2.2.2])] hp42 hc46 (fun w hw => (Z.ke (hc56.ch0 hw) Z.k0)) hf ?_; clear hf a; intro a hf
        have hr79 := Z.rep_to (F' := (Z.ol [] w.heap.size)) ph1o hc17
        have hkx82 : k19 < (ys).length := (by omega)
        obtain ⟨ad80, es81, x82, hA83, hF84, hl85, hx86, hc87, hr88⟩ := Z.rep_el hr79 hkx82
        have hok89 := Z.rep_ok _ hr88
        obtain ⟨ca90, cb91, he92, hr93, hr94⟩ := hr88
        have he95 := hr93.1
        obtain ⟨ca96, cb97, he98, hr99, hr100⟩ := hr94
        have he101 := hr99.1
        obtain ⟨ca102, cb103, he104, hr105, hr106⟩ := hr100
        have he107 := hr105.1
        have he108 := hr106.1
        have he109 : es81 = [.int .i64 x82.1, .int .i64 x82.2.1, .string x82.2.2.1, .int .i64 x82.2.2.2] := by simp only [he92, he95, he98, he101, he104, he107, he108, List.cons_append, List.nil_append]
        rw [he109] at hc87
        have heb := hx86
        refine Z.dr_val 6 hf rfl rfl (by kernel_rfl) (by kernel_rfl) hp42 hc46 Z.wanted_none (fun _ hw => Z.r_indexAddrE Try.underlying34 Try.sizeOf58 (hf.eval rfl) hA83 (hf.eval rfl) (k := k19) (by first | rfl | omega) (by omega)) ?_; clear hf a; intro a hf
        refine Z.dqr [true, true, true, true, true, true, true, true, false] 1 [(7, .e 0 0)] [24] [] [(24, .agg #[.int .i64 x82.1, .int .i64 x82.2.1, .string x82.2.2.1, .int .i64 x82.2.2.2])] hp42 hc46 (fun w hw => (Z.ke (hc87.ch0 hw) Z.k0)) hf ?_; clear hf a; intro a hf
        refine Z.dr_val 8 hf rfl rfl (by kernel_rfl) (by kernel_rfl) hp42 hc46 Z.wanted_none (fun _ hw => eqagg_neq58 (x := x51) (y := x82) (hf.eval rfl) (hf.eval rfl)) ?_; clear hf a; intro a hf
        refine Z.dr_done (by kernel_rfl) ?_
        refine hn43 _ _ ?_
        refine Z.condp hf rfl ?_ ?_
        · intro hp110
          have hcond := hp110
          refine Z.qseq [.n] [4] [] [(4, .bool false)] Z.k0 hf ?_; clear hf a; intro a hf
          refine Z.ret ?_
          refine he40 _ _ _ (by simp) (by simp) ?_
          refine he35 _ _ _ (by simp) ?_
          refine he23 _ _ _ (by simp) ?_
          refine he15 _ _ _ (by simp) (by simp) ?_
          refine he10 _ _ _ (by simp) ?_
          replace hf := hf.setv (d := 4) (y := .bool (decide (xs = ys))) rfl (congrArg Value.bool (by first | (symm; apply decide_eq_false; intro h; first | (refine hgd ?_; rw [h]; done) | (refine hcond ?_; rw [h]; done) | (simp only [Bool.not_eq_true', decide_eq_false_iff_not] at hgd; refine hgd ?_; rw [h]; done) | (simp only [Bool.not_eq_true', decide_eq_false_iff_not] at hcond; refine hcond ?_; rw [h]; done) | (rw [h, heb] at hea; injection hea with hea; exact hcond hea.symm)) | (exact Codec.same_true (Codec.take_end (by first | assumption | omega) ht25 (by first | assumption | omega)))))
          have hq111 : Z.Ch [] w w45 := hc17.then hc46
          refine Z.ret1 hf Try.results24 rfl ?_
          exact ⟨rfl, hq111⟩
        · intro hp112
          have hcond := hp112
          refine Z.skip ?_
          refine hn38 _ _ ?_
          refine hn34 _ _ ?_
          refine Z.qreg [.n, .n, .n] [5] [Z.R64 ((k19 : Int) + 1)] [(5, .int .i64 ((k19 : Int) + 1))] Z.k0 hf ?_; clear hf a; intro a hf
          refine hn22 (xs.length - (k19 + 1)) _ _ ?_ ?_
          rotate_left
          replace hf := hf.setv (d := 5) (y := .int .i64 ((k19 + 1 : Nat) : Int)) rfl (congrArg (Value.int .i64) (by first | rfl | omega | (simp; done) | (simp; omega)))
          have hq113 : Z.Ch [] w w45 := hc17.then hc46
          exact ⟨k19 + 1, rfl, hq113, (by omega), (by exact Codec.take_step ht25 hea heb hcond), (hf.keep [0, 1, 5])⟩
          rw [hm18]; omega
      · intro hp114
        have hcond := hp114
        refine Z.exit ?_
        refine he30 _ _ _ (by simp) ?_
        refine he23 _ _ _ (by simp) ?_
        refine hx14 _ _ ?_
        refine hn9 _ _ ?_
        refine Z.qseq [.n] [4] [] [(4, .bool true)] Z.k0 hf ?_; clear hf a; intro a hf
        refine Z.ret ?_
        replace hf := hf.setv (d := 4) (y := .bool (decide (xs = ys))) rfl (congrArg Value.bool (by first | (symm; apply decide_eq_false; intro h; first | (refine hgd ?_; rw [h]; done) | (refine hcond ?_; rw [h]; done) | (simp only [Bool.not_eq_true', decide_eq_false_iff_not] at hgd; refine hgd ?_; rw [h]; done) | (simp only [Bool.not_eq_true', decide_eq_false_iff_not] at hcond; refine hcond ?_; rw [h]; done) | (rw [h, heb] at hea; injection hea with hea; exact hcond hea.symm)) | (exact Codec.same_true (Codec.take_end (by first | assumption | omega) ht25 (by first | assumption | omega)))))
        refine Z.ret1 hf Try.results24 rfl ?_
        exact ⟨rfl, hc17⟩

set_option maxHeartbeats 1000000 in
set_option maxRecDepth 20000 in
theorem Same_spec (x : D100) (y : D100) (w : World) (pA0 : Option Addr) (pc0 : Nat) (pA1 : Option Addr) (pc1 : Nat) (ph0 : (Z.Ty.slice T85).rep w (Z.nt []) [.slice pA0 x.length pc0] x) (pk1 : Z.Ty.ok T100 x) (ph1 : (Z.Ty.slice T85).rep w (Z.nt []) [.slice pA1 y.length pc1] y) (pk3 : Z.Ty.ok T100 y)  :
    Calls Try.prog 45 #[.agg #[.slice pA0 x.length pc0], .agg #[.slice pA1 y.length pc1]] w fun e w' => e = .returned (.bool (decide (x = y))) ∧ Z.Ch [] w w' := by
  refine Z.enter Try.func45 rfl Try.ntmps45 (Nat.le_of_ble_eq_true rfl) fun a hf => ?_
  have hle_pA0 := Z.rep_le ph0
  have ph0o := Z.rep_ol ph0
  have hle_pA1 := Z.rep_le ph1
  have ph1o := Z.rep_ol ph1
  refine Z.seq' (Z.Pq.body _ _ _) fun Q1 hp2 hn3 he4 => ?_
  refine Z.reg ?_
  refine Z.st_box hf rfl rfl rfl ?_; clear hf a; intro g5 w6 a hg7 hz8 hb9 hc10 hf
  refine Z.st_box hf rfl rfl rfl ?_; clear hf a; intro g11 w12 a hg13 hz14 hb15 hc16 hf
  refine Z.qe [.n] [] [] [] Z.k0 hf ?_; clear hf a; intro a hf
  refine hn3 _ _ ?_
  refine Z.seq' (Z.Pq.body _ _ _) fun Q17 hp18 hn19 he20 => ?_
  have hb21 := hb9.ch0 hc16
  refine Z.qseq [.n, .b 0 0, .n, .n, .b 1 0, .n, .n] [15] [] [(15, .bool (decide ((x.length : Int) ≠ (y.length : Int))))] (Z.kb hb21 (Z.kb hb15 Z.k0)) hf ?_; clear hf a; intro a hf
  refine Z.condp hf rfl ?_ ?_
  · intro hp22
    have hcond := hp22
    refine Z.qseq [.n] [4] [] [(4, .bool false)] Z.k0 hf ?_; clear hf a; intro a hf
    refine Z.ret ?_
    refine he20 _ _ _ (by simp) ?_
    replace hf := hf.setv (d := 4) (y := .bool (decide (x = y))) rfl (congrArg Value.bool (by first | (symm; apply decide_eq_false; intro h; first | (rw [h, heb] at hea; injection hea with hea; first | (refine hgd ?_; rw [hea]; done) | (refine hcond ?_; rw [hea]; done) | (rw [hea, hia] at hib; injection hib with hib; exact hcond hib)) | (refine hcond ?_; rw [h]; done)) | (exact Codec.same_true (Codec.take_end hp22 hNONE hp22))))
    have hq23 : Z.Ch [] w w12 := hc10.then hc16
    refine Z.ret1 hf Try.results45 rfl ?_
    exact ⟨rfl, hq23⟩
  · intro hp24
    have hcond := hp24
    refine Z.skip ?_
    refine hn19 _ _ ?_
    refine Z.seq' (Z.Pq.body _ _ _) fun Q25 hp26 hn27 he28 => ?_
    refine Z.qseq [.n] [5] [] [(5, .int .i64 0)] Z.k0 hf ?_; clear hf a; intro a hf
    refine Z.block' hp26 fun Q29 hp30 hn31 hx32 he33 => ?_
    refine Z.loop' hp30 (fun m a wl => ∃ (k : Nat), m = x.length - k ∧ Z.Ch [] w12 wl ∧ (k ≤ x.length) ∧ (x.take k = y.take k) ∧ Z.Fr a 100 [] [(2, .pointer (some ⟨g5, 0, none⟩)), (3, .pointer (some ⟨g11, 0, none⟩)), (5, .int .i64 (k : Int))]) (x.length - 0) ?_ ?_
    · replace hf := hf.setv (d := 5) (y := .int .i64 (0 : Int)) rfl (congrArg (Value.int .i64) (by first | rfl | omega | (simp; done) | (simp; omega)))
      exact ⟨0, rfl, (Z.Ch.refl w12), (by omega), (by simp), (hf.keep [2, 3, 5])⟩
    · rintro m44 a w34 ⟨k37, hm36, hc35, hk42, ht43, hf⟩ Q38 hp39 hn40 he41
      have hzhc35 := hc35.size
      refine Z.seq' hp39 fun Q45 hp46 hn47 he48 => ?_
      have hb49 := hb21.ch0 hc35
      refine Z.qseq [.n, .n, .b 0 0, .n, .n] [20] [] [(20, .bool (decide ((k37 : Int) < (x.length : Int))))] (Z.kb hb49 Z.k0) hf ?_; clear hf a; intro a hf
      refine Z.condp hf rfl ?_ ?_
      · intro hp50
        have hcond := hp50
        refine Z.skip ?_
        refine hn47 _ _ ?_
        refine Z.seq' hp39 fun Q51 hp52 hn53 he54 => ?_
        refine Z.block' hp52 fun Q55 hp56 hn57 hx58 he59 => ?_
        refine Z.seq' hp56 fun Q60 hp61 hn62 he63 => ?_
        refine Z.dr_reg (S := fun w' => Z.Ch [] w34 w') mixed ?_; intro w64 hc65 hz66
        have hb67 := hb15.ch0 hc35
        refine Z.dqr [true, true, true, false, false, true, true, true, false, false, false, false, false, false] 8 [(0, .n), (1, .b 0 0), (2, .n), (5, .n), (6, .b 1 0), (7, .n)] [24, 25, 29, 30] [] [(24, .slice pA0 x.length pc0), (25, .int .i64 (k37 : Int)), (29, .slice pA1 y.length pc1), (30, .int .i64 (k37 : Int))] hp61 hc65 (fun w hw => (Z.kb (hb49.ch0 hw) (Z.kb (hb67.ch0 hw) Z.k0))) hf ?_; clear hf a; intro a hf
        have hq68 : Z.Ch [] w w12 := hc10.then hc16
        have hq69 : Z.Ch [] w w34 := hq68.then hc35
        have hr70 := Z.rep_to (F' := (Z.ol [] w.heap.size)) ph0o hq69
        have hkx73 : k37 < (x).length := (by omega)
        obtain ⟨ad71, es72, x73, hA74, hF75, hl76, hx77, hc78, hr79⟩ := Z.rep_el hr70 hkx73
        have hok80 := Z.rep_ok _ hr79
        obtain ⟨ca81, cb82, he83, hr84, hr85⟩ := hr79
        have he86 := hr84.1
        obtain ⟨ca87, cb88, he89, hr90, hr91⟩ := hr85
        have he92 := hr90.1
        obtain ⟨ca93, cb94, he95, hr96, hr97⟩ := hr91
        obtain ⟨A98, c99, he100, hn101, hn102⟩ := Z.rep_slice hr96
        rw [he100] at hr96
        have hle_A98 := Z.rep_le hr96
        obtain ⟨ca103, cb104, he105, hr106, hr107⟩ := hr97
        obtain ⟨ca108, cb109, he110, hr111, hr112⟩ := hr106
        have he113 := hr111.1
        obtain ⟨ca114, cb115, he116, hr117, hr118⟩ := hr112
        have he119 := hr117.1
        have he120 := hr118.1
        obtain ⟨ca121, cb122, he123, hr124, hr125⟩ := hr107
        have he126 := hr124.1
        obtain ⟨ca127, cb128, he129, hr130, hr131⟩ := hr125
        have he132 := hr130.1
        have he133 := hr131.1
        have he134 : es72 = [.int .i64 x73.1, .int .i64 x73.2.1, .slice A98 x73.2.2.1.length c99, .int .i64 x73.2.2.2.1.1, .int .i64 x73.2.2.2.1.2.1, .string x73.2.2.2.1.2.2, .string x73.2.2.2.2.1, .int .i64 x73.2.2.2.2.2.1, .int .i64 x73.2.2.2.2.2.2] := by simp only [he83, he86, he89, he92, he95, he100, he105, he110, he113, he116, he119, he120, he123, he126, he129, he132, he133, List.cons_append, List.nil_append]
        rw [he134] at hc78
        have hea := hx77
        refine Z.dr_val 3 hf rfl rfl (by kernel_rfl) (by kernel_rfl) hp61 hc65 Z.wanted_none (fun _ hw => Z.r_indexAddrE Try.underlying30 Try.sizeOf86 (hf.eval rfl) hA74 (hf.eval rfl) (k := k37) (by first | rfl | omega) (by omega)) ?_; clear hf a; intro a hf
        refine Z.dqr [true, true, true, true, true, true, true, true, false, false, false, false, false, false] 6 [(4, .e 0 0)] [27] [] [(27, .agg #[.int .i64 x73.1, .int .i64 x73.2.1, .slice A98 x73.2.2.1.length c99, .int .i64 x73.2.2.2.1.1, .int .i64 x73.2.2.2.1.2.1, .string x73.2.2.2.1.2.2, .string x73.2.2.2.2.1, .int .i64 x73.2.2.2.2.2.1, .int .i64 x73.2.2.2.2.2.2])] hp61 hc65 (fun w hw => (Z.ke (hc78.ch0 hw) Z.k0)) hf ?_; clear hf a; intro a hf
        have hq135 : Z.Ch [] w w12 := hc10.then hc16
        have hq136 : Z.Ch [] w w34 := hq135.then hc35
        have hr137 := Z.rep_to (F' := (Z.ol [] w.heap.size)) ph1o hq136
        have hkx140 : k37 < (y).length := (by omega)
        obtain ⟨ad138, es139, x140, hA141, hF142, hl143, hx144, hc145, hr146⟩ := Z.rep_el hr137 hkx140
        have hok147 := Z.rep_ok _ hr146
        obtain ⟨ca148, cb149, he150, hr151, hr152⟩ := hr146
        have he153 := hr151.1
        obtain ⟨ca154, cb155, he156, hr157, hr158⟩ := hr152
        have he159 := hr157.1
        obtain ⟨ca160, cb161, he162, hr163, hr164⟩ := hr158
        obtain ⟨A165, c166, he167, hn168, hn169⟩ := Z.rep_slice hr163
        rw [he167] at hr163
        have hle_A165 := Z.rep_le hr163
        obtain ⟨ca170, cb171, he172, hr173, hr174⟩ := hr164
        obtain ⟨ca175, cb176, he177, hr178, hr179⟩ := hr173
        have he180 := hr178.1
        obtain ⟨ca181, cb182, he183, hr184, hr185⟩ := hr179
        have he186 := hr184.1
        have he187 := hr185.1
        obtain ⟨ca188, cb189, he190, hr191, hr192⟩ := hr174
        have he193 := hr191.1
        obtain ⟨ca194, cb195, he196, hr197, hr198⟩ := hr192
        have he199 := hr197.1
        have he200 := hr198.1
        have he201 : es139 = [.int .i64 x140.1, .int .i64 x140.2.1, .slice A165 x140.2.2.1.length c166, .int .i64 x140.2.2.2.1.1, .int .i64 x140.2.2.2.1.2.1, .string x140.2.2.2.1.2.2, .string x140.2.2.2.2.1, .int .i64 x140.2.2.2.2.2.1, .int .i64 x140.2.2.2.2.2.2] := by simp only [he150, he153, he156, he159, he162, he167, he172, he177, he180, he183, he186, he187, he190, he193, he196, he199, he200, List.cons_append, List.nil_append]
        rw [he201] at hc145
        have heb := hx144
        refine Z.dr_val 8 hf rfl rfl (by kernel_rfl) (by kernel_rfl) hp61 hc65 Z.wanted_none (fun _ hw => Z.r_indexAddrE Try.underlying30 Try.sizeOf86 (hf.eval rfl) hA141 (hf.eval rfl) (k := k37) (by first | rfl | omega) (by omega)) ?_; clear hf a; intro a hf
        refine Z.dqr [true, true, true, true, true, true, true, true, true, true, false, false, false, false] 4 [(9, .e 0 0)] [32] [] [(32, .agg #[.int .i64 x140.1, .int .i64 x140.2.1, .slice A165 x140.2.2.1.length c166, .int .i64 x140.2.2.2.1.1, .int .i64 x140.2.2.2.1.2.1, .string x140.2.2.2.1.2.2, .string x140.2.2.2.2.1, .int .i64 x140.2.2.2.2.2.1, .int .i64 x140.2.2.2.2.2.2])] hp61 hc65 (fun w hw => (Z.ke (hc145.ch0 hw) Z.k0)) hf ?_; clear hf a; intro a hf
        refine Z.dr_two 10 11 rfl rfl (by kernel_rfl) ?_ ?_
        · refine Z.st_alloc hf rfl Try.zeroValue86 rfl ?_; clear hf a; intro g202 w203 a hg204 hz205 hb206 hc207 hf
          refine Z.done ?_
          have hq208 : Z.Ch [] w34 w203 := hc65.then hc207
          refine And.intro hq208 ?_
          refine Z.dr_one 11 rfl (by kernel_rfl) ?_
          refine Z.st_alloc hf rfl Try.zeroValue86 rfl ?_; clear hf a; intro g209 w210 a hg211 hz212 hb213 hc214 hf
          refine Z.done ?_
          have hq215 : Z.Ch [] w34 w210 := hq208.then hc214
          refine And.intro hq215 ?_
          refine Z.dr_one 12 rfl (by kernel_rfl) ?_
          have hb216 := hb206.ch0 hc214
          refine Z.st_store hf hb216 rfl rfl Try.sizeOf86 rfl rfl rfl (by simp [Value.oneCell']) rfl ?_; clear hf a; intro w217 a hz218 hb219 hc220 hf
          refine Z.done ?_
          have hq221 : Z.Ch [g202] w34 w217 := hq215.then hc220
          refine And.intro (hq221.mono (by intro k hk; (try simp only [List.mem_cons, List.mem_append, List.not_mem_nil, or_false, false_or] at hk ⊢) <;> omega)) ?_
          refine Z.dr_one 13 rfl (by kernel_rfl) ?_
          have hb222 := hb213.ch hc220 (by simp only [List.mem_cons, List.mem_append, List.not_mem_nil, or_false, not_or, not_false_eq_true, and_true] <;> omega)
          refine Z.st_store hf hb222 rfl rfl Try.sizeOf86 rfl rfl rfl (by simp [Value.oneCell']) rfl ?_; clear hf a; intro w223 a hz224 hb225 hc226 hf
          refine Z.done ?_
          have hq227 : Z.Ch [g202, g209] w34 w223 := hq221.then hc226
          refine And.intro (hq227.mono (by intro k hk; (try simp only [List.mem_cons, List.mem_append, List.not_mem_nil, or_false, false_or] at hk ⊢) <;> omega)) ?_
          refine Z.dr_done (by kernel_rfl) ?_
          refine hn62 _ _ ?_
          refine Z.seq' hp56 fun Q228 hp229 hn230 he231 => ?_
          refine Z.seq' hp229 fun Q232 hp233 hn234 he235 => ?_
          refine Z.reg ?_
          have hb236 := hb219.ch hc226 (by simp only [List.mem_cons, List.mem_append, List.not_mem_nil, or_false, not_or, not_false_eq_true, and_true] <;> omega)
          refine Z.qr [.n, .b 0 0, .n, .b 1 0, .n, .n] [38] [] [(38, .bool (decide (x73.1 ≠ x140.1)))] (Z.kb hb236 (Z.kb hb225 Z.k0)) hf ?_; clear hf a; intro a hf
          by_cases hdec : x73.1 ≠ x140.1 <;> revert hdec
          · intro hp237
            have hgd := hp237
            replace hf := hf.setb (d := 38) (b' := true) rfl (decide_eq_true hp237)
            refine Z.qe [.off, .off, .off, .off, .off, .n, .n, .off, .off, .off, .off, .off, .n, .n, .off, .off, .off, .off, .off, .n, .n, .off, .off, .off, .off, .off, .n, .n, .off, .off, .off, .off, .off, .n, .n, .off, .off, .off, .off, .off, .off, .off, .n] [81] [] [(81, .bool true)] Z.k0 hf ?_; clear hf a; intro a hf
            refine hn234 _ _ ?_
            refine Z.condt hf rfl ?_
            refine Z.qseq [.n] [4] [] [(4, .bool false)] Z.k0 hf ?_; clear hf a; intro a hf
            refine Z.ret ?_
            refine he231 _ _ _ (by simp) ?_
            refine he59 _ _ _ (by simp) (by simp) ?_
            refine he54 _ _ _ (by simp) ?_
            refine he41 _ _ _ (by simp) ?_
            refine he33 _ _ _ (by simp) (by simp) ?_
            refine he28 _ _ _ (by simp) ?_
            replace hf := hf.setv (d := 4) (y := .bool (decide (x = y))) rfl (congrArg Value.bool (by first | (symm; apply decide_eq_false; intro h; first | (rw [h, heb] at hea; injection hea with hea; first | (refine hgd ?_; rw [hea]; done) | (refine hcond ?_; rw [hea]; done) | (rw [hea, hia] at hib; injection hib with hib; exact hcond hib)) | (refine hcond ?_; rw [h]; done)) | (exact Codec.same_true (Codec.take_end hp24 ht43 hp237))))
            have hq238 : Z.Ch [] w w12 := hc10.then hc16
            have hq239 : Z.Ch [] w w34 := hq238.then hc35
            have hq240 : Z.Ch [] w w64 := hq239.then hc65
            have hq241 : Z.Ch [] w w203 := hq240.then hc207
            have hq242 : Z.Ch [] w w210 := hq241.then hc214
            have hq243 : Z.Ch [g202] w w217 := hq242.then hc220
            have hq244 : Z.Ch [g202, g209] w w223 := hq243.then hc226
            refine Z.ret1 hf Try.results45 rfl ?_
            exact ⟨rfl, (Z.Ch.mono hq244 (by intro k hk; (try simp only [List.mem_cons, List.mem_append, List.not_mem_nil, or_false, false_or] at hk ⊢) <;> omega))⟩
          · intro hp245
            have hgd := hp245
            replace hf := hf.setb (d := 38) (b' := false) rfl (decide_eq_false hp245)
            refine Z.qr [(.on .n), (.on (.b 0 1)), (.on .n), (.on (.b 1 1)), (.on .n), .n, .n] [45] [] [(45, .bool (decide (x73.2.1 ≠ x140.2.1)))] (Z.kb hb236 (Z.kb hb225 Z.k0)) hf ?_; clear hf a; intro a hf
            by_cases hdec : x73.2.1 ≠ x140.2.1 <;> revert hdec
            · intro hp246
              have hgd := hp246
              replace hf := hf.setb (d := 45) (b' := true) rfl (decide_eq_true hp246)
              refine Z.qe [.off, .off, .off, .off, .off, .n, .n, .off, .off, .off, .off, .off, .n, .n, .off, .off, .off, .off, .off, .n, .n, .off, .off, .off, .off, .off, .n, .n, .off, .off, .off, .off, .off, .off, .off, .n] [81] [] [(81, .bool true)] Z.k0 hf ?_; clear hf a; intro a hf
              refine hn234 _ _ ?_
              refine Z.condt hf rfl ?_
              refine Z.qseq [.n] [4] [] [(4, .bool false)] Z.k0 hf ?_; clear hf a; intro a hf
              refine Z.ret ?_
              refine he231 _ _ _ (by simp) ?_
              refine he59 _ _ _ (by simp) (by simp) ?_
              refine he54 _ _ _ (by simp) ?_
              refine he41 _ _ _ (by simp) ?_
              refine he33 _ _ _ (by simp) (by simp) ?_
              refine he28 _ _ _ (by simp) ?_
              replace hf := hf.setv (d := 4) (y := .bool (decide (x = y))) rfl (congrArg Value.bool (by first | (symm; apply decide_eq_false; intro h; first | (rw [h, heb] at hea; injection hea with hea; first | (refine hgd ?_; rw [hea]; done) | (refine hcond ?_; rw [hea]; done) | (rw [hea, hia] at hib; injection hib with hib; exact hcond hib)) | (refine hcond ?_; rw [h]; done)) | (exact Codec.same_true (Codec.take_end hp24 ht43 hp246))))
              have hq247 : Z.Ch [] w w12 := hc10.then hc16
              have hq248 : Z.Ch [] w w34 := hq247.then hc35
              have hq249 : Z.Ch [] w w64 := hq248.then hc65
              have hq250 : Z.Ch [] w w203 := hq249.then hc207
              have hq251 : Z.Ch [] w w210 := hq250.then hc214
              have hq252 : Z.Ch [g202] w w217 := hq251.then hc220
              have hq253 : Z.Ch [g202, g209] w w223 := hq252.then hc226
              refine Z.ret1 hf Try.results45 rfl ?_
              exact ⟨rfl, (Z.Ch.mono hq253 (by intro k hk; (try simp only [List.mem_cons, List.mem_append, List.not_mem_nil, or_false, false_or] at hk ⊢) <;> omega))⟩
            · intro hp254
              have hgd := hp254
              replace hf := hf.setb (d := 45) (b' := false) rfl (decide_eq_false hp254)
              refine Z.qr [(.on .n), (.on (.b 0 3)), (.on .n), (.on (.b 1 3))] [47, 49] [] [(47, .agg #[.int .i64 x73.2.2.2.1.1, .int .i64 x73.2.2.2.1.2.1, .string x73.2.2.2.1.2.2]), (49, .agg #[.int .i64 x140.2.2.2.1.1, .int .i64 x140.2.2.2.1.2.1, .string x140.2.2.2.1.2.2])] (Z.kb hb236 (Z.kb hb225 Z.k0)) hf ?_; clear hf a; intro a hf
              refine Z.on hf rfl rfl ?_
              refine Z.val hf rfl (eqagg_neq62 (x := x73.2.2.2.1) (y := x140.2.2.2.1) (hf.eval rfl) (hf.eval rfl)) ?_; clear hf a; intro a hf
              refine Z.qr [.n, .n] [52] [] [(52, .bool (decide (x73.2.2.2.1 ≠ x140.2.2.2.1)))] Z.k0 hf ?_; clear hf a; intro a hf
              by_cases hdec : x73.2.2.2.1 ≠ x140.2.2.2.1 <;> revert hdec
              · intro hp255
                have hgd := hp255
                replace hf := hf.setb (d := 52) (b' := true) rfl (decide_eq_true hp255)
                refine Z.qe [.off, .off, .off, .off, .off, .n, .n, .off, .off, .off, .off, .off, .n, .n, .off, .off, .off, .off, .off, .n, .n, .off, .off, .off, .off, .off, .off, .off, .n] [81] [] [(81, .bool true)] Z.k0 hf ?_; clear hf a; intro a hf
                refine hn234 _ _ ?_
                refine Z.condt hf rfl ?_
                refine Z.qseq [.n] [4] [] [(4, .bool false)] Z.k0 hf ?_; clear hf a; intro a hf
                refine Z.ret ?_
                refine he231 _ _ _ (by simp) ?_
                refine he59 _ _ _ (by simp) (by simp) ?_
                refine he54 _ _ _ (by simp) ?_
                refine he41 _ _ _ (by simp) ?_
                refine he33 _ _ _ (by simp) (by simp) ?_
                refine he28 _ _ _ (by simp) ?_
                replace hf := hf.setv (d := 4) (y := .bool (decide (x = y))) rfl (congrArg Value.bool (by first | (symm; apply decide_eq_false; intro h; first | (rw [h, heb] at hea; injection hea with hea; first | (refine hgd ?_; rw [hea]; done) | (refine hcond ?_; rw [hea]; done) | (rw [hea, hia] at hib; injection hib with hib; exact hcond hib)) | (refine hcond ?_; rw [h]; done)) | (exact Codec.same_true (Codec.take_end hp24 ht43 hp255))))
                have hq256 : Z.Ch [] w w12 := hc10.then hc16
                have hq257 : Z.Ch [] w w34 := hq256.then hc35
                have hq258 : Z.Ch [] w w64 := hq257.then hc65
                have hq259 : Z.Ch [] w w203 := hq258.then hc207
                have hq260 : Z.Ch [] w w210 := hq259.then hc214
                have hq261 : Z.Ch [g202] w w217 := hq260.then hc220
                have hq262 : Z.Ch [g202, g209] w w223 := hq261.then hc226
                refine Z.ret1 hf Try.results45 rfl ?_
                exact ⟨rfl, (Z.Ch.mono hq262 (by intro k hk; (try simp only [List.mem_cons, List.mem_append, List.not_mem_nil, or_false, false_or] at hk ⊢) <;> omega))⟩
              · intro hp263
                have hgd := hp263
                replace hf := hf.setb (d := 52) (b' := false) rfl (decide_eq_false hp263)
                refine Z.qr [(.on .n), (.on (.b 0 6)), (.on .n), (.on (.b 1 6)), (.on .n), .n, .n] [59] [] [(59, .bool (decide (x73.2.2.2.2.1 ≠ x140.2.2.2.2.1)))] (Z.kb hb236 (Z.kb hb225 Z.k0)) hf ?_; clear hf a; intro a hf
                by_cases hdec : x73.2.2.2.2.1 ≠ x140.2.2.2.2.1 <;> revert hdec
                · intro hp264
                  have hgd := hp264
                  replace hf := hf.setb (d := 59) (b' := true) rfl (decide_eq_true hp264)
                  refine Z.qe [.off, .off, .off, .off, .off, .n, .n, .off, .off, .off, .off, .off, .n, .n, .off, .off, .off, .off, .off, .off, .off, .n] [81] [] [(81, .bool true)] Z.k0 hf ?_; clear hf a; intro a hf
                  refine hn234 _ _ ?_
                  refine Z.condt hf rfl ?_
                  refine Z.qseq [.n] [4] [] [(4, .bool false)] Z.k0 hf ?_; clear hf a; intro a hf
                  refine Z.ret ?_
                  refine he231 _ _ _ (by simp) ?_
                  refine he59 _ _ _ (by simp) (by simp) ?_
                  refine he54 _ _ _ (by simp) ?_
                  refine he41 _ _ _ (by simp) ?_
                  refine he33 _ _ _ (by simp) (by simp) ?_
                  refine he28 _ _ _ (by simp) ?_
                  replace hf := hf.setv (d := 4) (y := .bool (decide (x = y))) rfl (congrArg Value.bool (by first | (symm; apply decide_eq_false; intro h; first | (rw [h, heb] at hea; injection hea with hea; first | (refine hgd ?_; rw [hea]; done) | (refine hcond ?_; rw [hea]; done) | (rw [hea, hia] at hib; injection hib with hib; exact hcond hib)) | (refine hcond ?_; rw [h]; done)) | (exact Codec.same_true (Codec.take_end hp24 ht43 hp264))))
                  have hq265 : Z.Ch [] w w12 := hc10.then hc16
                  have hq266 : Z.Ch [] w w34 := hq265.then hc35
                  have hq267 : Z.Ch [] w w64 := hq266.then hc65
                  have hq268 : Z.Ch [] w w203 := hq267.then hc207
                  have hq269 : Z.Ch [] w w210 := hq268.then hc214
                  have hq270 : Z.Ch [g202] w w217 := hq269.then hc220
                  have hq271 : Z.Ch [g202, g209] w w223 := hq270.then hc226
                  refine Z.ret1 hf Try.results45 rfl ?_
                  exact ⟨rfl, (Z.Ch.mono hq271 (by intro k hk; (try simp only [List.mem_cons, List.mem_append, List.not_mem_nil, or_false, false_or] at hk ⊢) <;> omega))⟩
                · intro hp272
                  have hgd := hp272
                  replace hf := hf.setb (d := 59) (b' := false) rfl (decide_eq_false hp272)
                  refine Z.qr [(.on .n), (.on (.b 0 7)), (.on .n), (.on (.b 1 7)), (.on .n), .n, .n] [66] [] [(66, .bool (decide (x73.2.2.2.2.2.1 ≠ x140.2.2.2.2.2.1)))] (Z.kb hb236 (Z.kb hb225 Z.k0)) hf ?_; clear hf a; intro a hf
                  by_cases hdec : x73.2.2.2.2.2.1 ≠ x140.2.2.2.2.2.1 <;> revert hdec
                  · intro hp273
                    have hgd := hp273
                    replace hf := hf.setb (d := 66) (b' := true) rfl (decide_eq_true hp273)
                    refine Z.qe [.off, .off, .off, .off, .off, .n, .n, .off, .off, .off, .off, .off, .off, .off, .n] [81] [] [(81, .bool true)] Z.k0 hf ?_; clear hf a; intro a hf
                    refine hn234 _ _ ?_
                    refine Z.condt hf rfl ?_
                    refine Z.qseq [.n] [4] [] [(4, .bool false)] Z.k0 hf ?_; clear hf a; intro a hf
                    refine Z.ret ?_
                    refine he231 _ _ _ (by simp) ?_
                    refine he59 _ _ _ (by simp) (by simp) ?_
                    refine he54 _ _ _ (by simp) ?_
                    refine he41 _ _ _ (by simp) ?_
                    refine he33 _ _ _ (by simp) (by simp) ?_
                    refine he28 _ _ _ (by simp) ?_
                    replace hf := hf.setv (d := 4) (y := .bool (decide (x = y))) rfl (congrArg Value.bool (by first | (symm; apply decide_eq_false; intro h; first | (rw [h, heb] at hea; injection hea with hea; first | (refine hgd ?_; rw [hea]; done) | (refine hcond ?_; rw [hea]; done) | (rw [hea, hia] at hib; injection hib with hib; exact hcond hib)) | (refine hcond ?_; rw [h]; done)) | (exact Codec.same_true (Codec.take_end hp24 ht43 hp273))))
                    have hq274 : Z.Ch [] w w12 := hc10.then hc16
                    have hq275 : Z.Ch [] w w34 := hq274.then hc35
                    have hq276 : Z.Ch [] w w64 := hq275.then hc65
                    have hq277 : Z.Ch [] w w203 := hq276.then hc207
                    have hq278 : Z.Ch [] w w210 := hq277.then hc214
                    have hq279 : Z.Ch [g202] w w217 := hq278.then hc220
                    have hq280 : Z.Ch [g202, g209] w w223 := hq279.then hc226
                    refine Z.ret1 hf Try.results45 rfl ?_
                    exact ⟨rfl, (Z.Ch.mono hq280 (by intro k hk; (try simp only [List.mem_cons, List.mem_append, List.not_mem_nil, or_false, false_or] at hk ⊢) <;> omega))⟩
                  · intro hp281
                    have hgd := hp281
                    replace hf := hf.setb (d := 66) (b' := false) rfl (decide_eq_false hp281)
                    refine Z.qr [(.on .n), (.on (.b 0 8)), (.on .n), (.on (.b 1 8)), (.on .n), .n, .n] [73] [] [(73, .bool (decide (x73.2.2.2.2.2.2 ≠ x140.2.2.2.2.2.2)))] (Z.kb hb236 (Z.kb hb225 Z.k0)) hf ?_; clear hf a; intro a hf
                    by_cases hdec : x73.2.2.2.2.2.2 ≠ x140.2.2.2.2.2.2 <;> revert hdec
                    · intro hp282
                      have hgd := hp282
                      replace hf := hf.setb (d := 73) (b' := true) rfl (decide_eq_true hp282)
                      refine Z.qe [.off, .off, .off, .off, .off, .off, .off, .n] [81] [] [(81, .bool true)] Z.k0 hf ?_; clear hf a; intro a hf
                      refine hn234 _ _ ?_
                      refine Z.condt hf rfl ?_
                      refine Z.qseq [.n] [4] [] [(4, .bool false)] Z.k0 hf ?_; clear hf a; intro a hf
                      refine Z.ret ?_
                      refine he231 _ _ _ (by simp) ?_
                      refine he59 _ _ _ (by simp) (by simp) ?_
                      refine he54 _ _ _ (by simp) ?_
                      refine he41 _ _ _ (by simp) ?_
                      refine he33 _ _ _ (by simp) (by simp) ?_
                      refine he28 _ _ _ (by simp) ?_
                      replace hf := hf.setv (d := 4) (y := .bool (decide (x = y))) rfl (congrArg Value.bool (by first | (symm; apply decide_eq_false; intro h; first | (rw [h, heb] at hea; injection hea with hea; first | (refine hgd ?_; rw [hea]; done) | (refine hcond ?_; rw [hea]; done) | (rw [hea, hia] at hib; injection hib with hib; exact hcond hib)) | (refine hcond ?_; rw [h]; done)) | (exact Codec.same_true (Codec.take_end hp24 ht43 hp282))))
                      have hq283 : Z.Ch [] w w12 := hc10.then hc16
                      have hq284 : Z.Ch [] w w34 := hq283.then hc35
                      have hq285 : Z.Ch [] w w64 := hq284.then hc65
                      have hq286 : Z.Ch [] w w203 := hq285.then hc207
                      have hq287 : Z.Ch [] w w210 := hq286.then hc214
                      have hq288 : Z.Ch [g202] w w217 := hq287.then hc220
                      have hq289 : Z.Ch [g202, g209] w w223 := hq288.then hc226
                      refine Z.ret1 hf Try.results45 rfl ?_
                      exact ⟨rfl, (Z.Ch.mono hq289 (by intro k hk; (try simp only [List.mem_cons, List.mem_append, List.not_mem_nil, or_false, false_or] at hk ⊢) <;> omega))⟩
                    · intro hp290
                      have hgd := hp290
                      replace hf := hf.setb (d := 73) (b' := false) rfl (decide_eq_false hp290)
                      refine Z.qe [(.on .n), (.on (.b 0 2)), (.on .n), (.on .n), (.on (.b 1 2)), (.on .n), (.on .n), .n] [81] [] [(81, .bool (decide ((x73.2.2.1.length : Int) ≠ (x140.2.2.1.length : Int))))] (Z.kb hb236 (Z.kb hb225 Z.k0)) hf ?_; clear hf a; intro a hf
                      refine hn234 _ _ ?_
                      refine Z.condp hf rfl ?_ ?_
                      · intro hp291
                        have hcond := hp291
                        refine Z.qseq [.n] [4] [] [(4, .bool false)] Z.k0 hf ?_; clear hf a; intro a hf
                        refine Z.ret ?_
                        refine he231 _ _ _ (by simp) ?_
                        refine he59 _ _ _ (by simp) (by simp) ?_
                        refine he54 _ _ _ (by simp) ?_
                        refine he41 _ _ _ (by simp) ?_
                        refine he33 _ _ _ (by simp) (by simp) ?_
                        refine he28 _ _ _ (by simp) ?_
                        replace hf := hf.setv (d := 4) (y := .bool (decide (x = y))) rfl (congrArg Value.bool (by first | (symm; apply decide_eq_false; intro h; first | (rw [h, heb] at hea; injection hea with hea; first | (refine hgd ?_; rw [hea]; done) | (refine hcond ?_; rw [hea]; done) | (rw [hea, hia] at hib; injection hib with hib; exact hcond hib)) | (refine hcond ?_; rw [h]; done)) | (exact Codec.same_true (Codec.take_end hp24 ht43 hp291))))
                        have hq292 : Z.Ch [] w w12 := hc10.then hc16
                        have hq293 : Z.Ch [] w w34 := hq292.then hc35
                        have hq294 : Z.Ch [] w w64 := hq293.then hc65
                        have hq295 : Z.Ch [] w w203 := hq294.then hc207
                        have hq296 : Z.Ch [] w w210 := hq295.then hc214
                        have hq297 : Z.Ch [g202] w w217 := hq296.then hc220
                        have hq298 : Z.Ch [g202, g209] w w223 := hq297.then hc226
                        refine Z.ret1 hf Try.results45 rfl ?_
                        exact ⟨rfl, (Z.Ch.mono hq298 (by intro k hk; (try simp only [List.mem_cons, List.mem_append, List.not_mem_nil, or_false, false_or] at hk ⊢) <;> omega))⟩
                      · intro hp299
                        have hcond := hp299
                        refine Z.skip ?_
                        refine hn230 _ _ ?_
                        refine Z.qseq [.n] [8] [] [(8, .int .i64 0)] Z.k0 hf ?_; clear hf a; intro a hf
                        refine Z.block' hp56 fun Q300 hp301 hn302 hx303 he304 => ?_
                        refine Z.loop' hp301 (fun m a wl => ∃ (j : Nat), m = x73.2.2.1.length - j ∧ Z.Ch [] w223 wl ∧ (j ≤ x73.2.2.1.length) ∧ (x73.2.2.1.take j = x140.2.2.1.take j) ∧ Z.Fr a 100 [] [(2, .pointer (some ⟨g5, 0, none⟩)), (3, .pointer (some ⟨g11, 0, none⟩)), (5, .int .i64 (k37 : Int)), (6, .pointer (some ⟨g202, 0, none⟩)), (7, .pointer (some ⟨g209, 0, none⟩)), (8, .int .i64 (j : Int))]) (x73.2.2.1.length - 0) ?_ ?_
                        · replace hf := hf.setv (d := 8) (y := .int .i64 (0 : Int)) rfl (congrArg (Value.int .i64) (by first | rfl | omega | (simp; done) | (simp; omega)))
                          exact ⟨0, rfl, (Z.Ch.refl w223), (by omega), (by simp), (hf.keep [2, 3, 5, 6, 7, 8])⟩
                        · rintro m315 a w305 ⟨j308, hm307, hc306, hj313, hu314, hf⟩ Q309 hp310 hn311 he312
                          have hzhc306 := hc306.size
                          refine Z.seq' hp310 fun Q316 hp317 hn318 he319 => ?_
                          have hb320 := hb236.ch0 hc306
                          refine Z.qseq [.n, .n, .b 0 2, .n, .n] [86] [] [(86, .bool (decide ((j308 : Int) < (x73.2.2.1.length : Int))))] (Z.kb hb320 Z.k0) hf ?_; clear hf a; intro a hf
                          refine Z.condp hf rfl ?_ ?_
                          · intro hp321
                            have hcond := hp321
                            refine Z.skip ?_
                            refine hn318 _ _ ?_
                            refine Z.seq' hp310 fun Q322 hp323 hn324 he325 => ?_
                            refine Z.block' hp323 fun Q326 hp327 hn328 hx329 he330 => ?_
                            refine Z.seq' hp327 fun Q331 hp332 hn333 he334 => ?_
                            refine Z.dr_reg (S := fun w' => Z.Ch [] w305 w') mixed ?_; intro w335 hc336 hz337
                            have hb338 := hb225.ch0 hc306
                            refine Z.dqr [true, true, true, false, false, true, true, true, false, false, false] 5 [(0, .n), (1, .b 0 2), (2, .n), (5, .n), (6, .b 1 2), (7, .n)] [90, 91, 95, 96] [] [(90, .slice A98 x73.2.2.1.length c99), (91, .int .i64 (j308 : Int)), (95, .slice A165 x140.2.2.1.length c166), (96, .int .i64 (j308 : Int))] hp332 hc336 (fun w hw => (Z.kb (hb320.ch0 hw) (Z.kb (hb338.ch0 hw) Z.k0))) hf ?_; clear hf a; intro a hf
                            have hq339 : Z.Ch [g202, g209] w34 w305 := hq227.then hc306
                            have hr340 := Z.rep_to (F' := (Z.ol [] w.heap.size)) hr96 hq339
                            have hkx343 : j308 < (x73.2.2.1).length := (by omega)
                            obtain ⟨ad341, es342, x343, hA344, hF345, hl346, hx347, hc348, hr349⟩ := Z.rep_el hr340 hkx343
                            have hok350 := Z.rep_ok _ hr349
                            have he351 := hr349.1
                            have he352 : es342 = [.int .i64 x343] := by simp only [he351, List.cons_append, List.nil_append]
                            rw [he352] at hc348
                            have hia := hx347
                            refine Z.dr_val 3 hf rfl rfl (by kernel_rfl) (by kernel_rfl) hp332 hc336 Z.wanted_none (fun _ hw => Z.r_indexAddrE Try.underlying29 Try.sizeOf3 (hf.eval rfl) hA344 (hf.eval rfl) (k := j308) (by first | rfl | omega) (by omega)) ?_; clear hf a; intro a hf
                            refine Z.dqr [true, true, true, true, true, true, true, true, false, false, false] 3 [(4, .e 0 0)] [93] [] [(93, .int .i64 x343)] hp332 hc336 (fun w hw => (Z.ke (hc348.ch0 hw) Z.k0)) hf ?_; clear hf a; intro a hf
                            have hq353 : Z.Ch [g202, g209] w34 w305 := hq227.then hc306
                            have hr354 := Z.rep_to (F' := (Z.ol [] w.heap.size)) hr163 hq353
                            have hkx357 : j308 < (x140.2.2.1).length := (by omega)
                            obtain ⟨ad355, es356, x357, hA358, hF359, hl360, hx361, hc362, hr363⟩ := Z.rep_el hr354 hkx357
                            have hok364 := Z.rep_ok _ hr363
                            have he365 := hr363.1
                            have he366 : es356 = [.int .i64 x357] := by simp only [he365, List.cons_append, List.nil_append]
                            rw [he366] at hc362
                            have hib := hx361
                            refine Z.dr_val 8 hf rfl rfl (by kernel_rfl) (by kernel_rfl) hp332 hc336 Z.wanted_none (fun _ hw => Z.r_indexAddrE Try.underlying29 Try.sizeOf3 (hf.eval rfl) hA358 (hf.eval rfl) (k := j308) (by first | rfl | omega) (by omega)) ?_; clear hf a; intro a hf
                            refine Z.dqr [true, true, true, true, true, true, true, true, true, true, true] 0 [(9, .e 0 0), (10, .n)] [99] [] [(99, .bool (decide (x343 ≠ x357)))] hp332 hc336 (fun w hw => (Z.ke (hc362.ch0 hw) Z.k0)) hf ?_; clear hf a; intro a hf
                            refine Z.dr_done (by kernel_rfl) ?_
                            refine hn333 _ _ ?_
                            refine Z.condp hf rfl ?_ ?_
                            · intro hp367
                              have hcond := hp367
                              refine Z.qseq [.n] [4] [] [(4, .bool false)] Z.k0 hf ?_; clear hf a; intro a hf
                              refine Z.ret ?_
                              refine he330 _ _ _ (by simp) (by simp) ?_
                              refine he325 _ _ _ (by simp) ?_
                              refine he312 _ _ _ (by simp) ?_
                              refine he304 _ _ _ (by simp) (by simp) ?_
                              refine he59 _ _ _ (by simp) (by simp) ?_
                              refine he54 _ _ _ (by simp) ?_
                              refine he41 _ _ _ (by simp) ?_
                              refine he33 _ _ _ (by simp) (by simp) ?_
                              refine he28 _ _ _ (by simp) ?_
                              replace hf := hf.setv (d := 4) (y := .bool (decide (x = y))) rfl (congrArg Value.bool (by first | (symm; apply decide_eq_false; intro h; first | (rw [h, heb] at hea; injection hea with hea; first | (refine hgd ?_; rw [hea]; done) | (refine hcond ?_; rw [hea]; done) | (rw [hea, hia] at hib; injection hib with hib; exact hcond hib)) | (refine hcond ?_; rw [h]; done)) | (exact Codec.same_true (Codec.take_end hp24 ht43 hp367))))
                              have hq368 : Z.Ch [] w w12 := hc10.then hc16
                              have hq369 : Z.Ch [] w w34 := hq368.then hc35
                              have hq370 : Z.Ch [] w w64 := hq369.then hc65
                              have hq371 : Z.Ch [] w w203 := hq370.then hc207
                              have hq372 : Z.Ch [] w w210 := hq371.then hc214
                              have hq373 : Z.Ch [g202] w w217 := hq372.then hc220
                              have hq374 : Z.Ch [g202, g209] w w223 := hq373.then hc226
                              have hq375 : Z.Ch [g202, g209] w w305 := hq374.then hc306
                              have hq376 : Z.Ch [g202, g209] w w335 := hq375.then hc336
                              refine Z.ret1 hf Try.results45 rfl ?_
                              exact ⟨rfl, (Z.Ch.mono hq376 (by intro k hk; (try simp only [List.mem_cons, List.mem_append, List.not_mem_nil, or_false, false_or] at hk ⊢) <;> omega))⟩
                            · intro hp377
                              have hcond := hp377
                              refine Z.skip ?_
                              refine hn328 _ _ ?_
                              refine hn324 _ _ ?_
                              refine Z.qreg [.n, .n, .n] [8] [Z.R64 ((j308 : Int) + 1)] [(8, .int .i64 ((j308 : Int) + 1))] Z.k0 hf ?_; clear hf a; intro a hf
                              refine hn311 (x73.2.2.1.length - (j308 + 1)) _ _ ?_ ?_
                              rotate_left
                              replace hf := hf.setv (d := 8) (y := .int .i64 ((j308 + 1 : Nat) : Int)) rfl (congrArg (Value.int .i64) (by first | rfl | omega | (simp; done) | (simp; omega)))
                              have hq378 : Z.Ch [] w223 w335 := hc306.then hc336
                              exact ⟨j308 + 1, rfl, hq378, (by omega), (by exact Codec.take_step hu314 hia hib hcond), (hf.keep [2, 3, 5, 6, 7, 8])⟩
                              rw [hm307]; omega
                          · intro hp379
                            have hcond := hp379
                            refine Z.exit ?_
                            refine he319 _ _ _ (by simp) ?_
                            refine he312 _ _ _ (by simp) ?_
                            refine hx303 _ _ ?_
                            refine hn57 _ _ ?_
                            refine hn53 _ _ ?_
                            refine Z.qreg [.n, .n, .n] [5] [Z.R64 ((k37 : Int) + 1)] [(5, .int .i64 ((k37 : Int) + 1))] Z.k0 hf ?_; clear hf a; intro a hf
                            refine hn40 (x.length - (k37 + 1)) _ _ ?_ ?_
                            rotate_left
                            replace hf := hf.setv (d := 5) (y := .int .i64 ((k37 + 1 : Nat) : Int)) rfl (congrArg (Value.int .i64) (by first | rfl | omega | (simp; done) | (simp; omega)))
                            have hq380 : Z.Ch [] w12 w64 := hc35.then hc65
                            have hq381 : Z.Ch [] w12 w203 := hq380.then hc207
                            have hq382 : Z.Ch [] w12 w210 := hq381.then hc214
                            have hq383 : Z.Ch [g202] w12 w217 := hq382.then hc220
                            have hq384 : Z.Ch [g202, g209] w12 w223 := hq383.then hc226
                            have hq385 : Z.Ch [g202, g209] w12 w305 := hq384.then hc306
                            exact ⟨k37 + 1, rfl, (hq385.mono (by intro k hk; (try simp only [List.mem_cons, List.mem_append, List.not_mem_nil, or_false, false_or] at hk ⊢) <;> omega)), (by omega), (by exact Codec.take_step ht43 hea heb (fun hne => hne (Codec.node_ext (Codec.not_ne hp245) (Codec.not_ne hp254) (Codec.not_ne hp263) (Codec.not_ne hp272) (Codec.not_ne hp281) (Codec.not_ne hp290) (Codec.take_end hp299 hu314 hp379)))), (hf.keep [2, 3, 5])⟩
                            rw [hm36]; omega
        · refine Z.st_alloc hf rfl Try.zeroValue86 rfl ?_; clear hf a; intro g386 w387 a hg388 hz389 hb390 hc391 hf
          refine Z.done ?_
          have hq392 : Z.Ch [] w34 w387 := hc65.then hc391
          refine And.intro hq392 ?_
          refine Z.dr_one 10 rfl (by kernel_rfl) ?_
          refine Z.st_alloc hf rfl Try.zeroValue86 rfl ?_; clear hf a; intro g393 w394 a hg395 hz396 hb397 hc398 hf
          refine Z.done ?_
          have hq399 : Z.Ch [] w34 w394 := hq392.then hc398
          refine And.intro hq399 ?_
          refine Z.dr_one 12 rfl (by kernel_rfl) ?_
          refine Z.st_store hf hb397 rfl rfl Try.sizeOf86 rfl rfl rfl (by simp [Value.oneCell']) rfl ?_; clear hf a; intro w400 a hz401 hb402 hc403 hf
          refine Z.done ?_
          have hq404 : Z.Ch [g393] w34 w400 := hq399.then hc403
          refine And.intro (hq404.mono (by intro k hk; (try simp only [List.mem_cons, List.mem_append, List.not_mem_nil, or_false, false_or] at hk ⊢) <;> omega)) ?_
          refine Z.dr_one 13 rfl (by kernel_rfl) ?_
          have hq405 : Z.Ch [g393] w387 w400 := hc398.then hc403
          have hb406 := hb390.ch hq405 (by simp only [List.mem_cons, List.mem_append, List.not_mem_nil, or_false, not_or, not_false_eq_true, and_true] <;> omega)
          refine Z.st_store hf hb406 rfl rfl Try.sizeOf86 rfl rfl rfl (by simp [Value.oneCell']) rfl ?_; clear hf a; intro w407 a hz408 hb409 hc410 hf
          refine Z.done ?_
          have hq411 : Z.Ch [g393, g386] w34 w407 := hq404.then hc410
          refine And.intro (hq411.mono (by intro k hk; (try simp only [List.mem_cons, List.mem_append, List.not_mem_nil, or_false, false_or] at hk ⊢) <;> omega)) ?_
          refine Z.dr_done (by kernel_rfl) ?_
          refine hn62 _ _ ?_
          refine Z.seq' hp56 fun Q412 hp413 hn414 he415 => ?_
          refine Z.seq' hp413 fun Q416 hp417 hn418 he419 => ?_
          refine Z.reg ?_
          have hb420 := hb402.ch hc410 (by simp only [List.mem_cons, List.mem_append, List.not_mem_nil, or_false, not_or, not_false_eq_true, and_true] <;> omega)
          refine Z.qr [.n, .b 0 0, .n, .b 1 0, .n, .n] [38] [] [(38, .bool (decide (x73.1 ≠ x140.1)))] (Z.kb hb420 (Z.kb hb409 Z.k0)) hf ?_; clear hf a; intro a hf
          by_cases hdec : x73.1 ≠ x140.1 <;> revert hdec
          · intro hp421
            have hgd := hp421
            replace hf := hf.setb (d := 38) (b' := true) rfl (decide_eq_true hp421)
            refine Z.qe [.off, .off, .off, .off, .off, .n, .n, .off, .off, .off, .off, .off, .n, .n, .off, .off, .off, .off, .off, .n, .n, .off, .off, .off, .off, .off, .n, .n, .off, .off, .off, .off, .off, .n, .n, .off, .off, .off, .off, .off, .off, .off, .n] [81] [] [(81, .bool true)] Z.k0 hf ?_; clear hf a; intro a hf
            refine hn418 _ _ ?_
            refine Z.condt hf rfl ?_
            refine Z.qseq [.n] [4] [] [(4, .bool false)] Z.k0 hf ?_; clear hf a; intro a hf
            refine Z.ret ?_
            refine he415 _ _ _ (by simp) ?_
            refine he59 _ _ _ (by simp) (by simp) ?_
            refine he54 _ _ _ (by simp) ?_
            refine he41 _ _ _ (by simp) ?_
            refine he33 _ _ _ (by simp) (by simp) ?_
            refine he28 _ _ _ (by simp) ?_
            replace hf := hf.setv (d := 4) (y := .bool (decide (x = y))) rfl (congrArg Value.bool (by first | (symm; apply decide_eq_false; intro h; first | (rw [h, heb] at hea; injection hea with hea; first | (refine hgd ?_; rw [hea]; done) | (refine hcond ?_; rw [hea]; done) | (rw [hea, hia] at hib; injection hib with hib; exact hcond hib)) | (refine hcond ?_; rw [h]; done)) | (exact Codec.same_true (Codec.take_end hp24 ht43 hp421))))
            have hq422 : Z.Ch [] w w12 := hc10.then hc16
            have hq423 : Z.Ch [] w w34 := hq422.then hc35
            have hq424 : Z.Ch [] w w64 := hq423.then hc65
            have hq425 : Z.Ch [] w w387 := hq424.then hc391
            have hq426 : Z.Ch [] w w394 := hq425.then hc398
            have hq427 : Z.Ch [g393] w w400 := hq426.then hc403
            have hq428 : Z.Ch [g393, g386] w w407 := hq427.then hc410
            refine Z.ret1 hf Try.results45 rfl ?_
            exact ⟨rfl, (Z.Ch.mono hq428 (by intro k hk; (try simp only [List.mem_cons, List.mem_append, List.not_mem_nil, or_false, false_or] at hk ⊢) <;> omega))⟩
          · intro hp429
            have hgd := hp429
            replace hf := hf.setb (d := 38) (b' := false) rfl (decide_eq_false hp429)
            refine Z.qr [(.on .n), (.on (.b 0 1)), (.on .n), (.on (.b 1 1)), (.on .n), .n, .n] [45] [] [(45, .bool (decide (x73.2.1 ≠ x140.2.1)))] (Z.kb hb420 (Z.kb hb409 Z.k0)) hf ?_; clear hf a; intro a hf
            by_cases hdec : x73.2.1 ≠ x140.2.1 <;> revert hdec
            · intro hp430
              have hgd := hp430
              replace hf := hf.setb (d := 45) (b' := true) rfl (decide_eq_true hp430)
              refine Z.qe [.off, .off, .off, .off, .off, .n, .n, .off, .off, .off, .off, .off, .n, .n, .off, .off, .off, .off, .off, .n, .n, .off, .off, .off, .off, .off, .n, .n, .off, .off, .off, .off, .off, .off, .off, .n] [81] [] [(81, .bool true)] Z.k0 hf ?_; clear hf a; intro a hf
              refine hn418 _ _ ?_
              refine Z.condt hf rfl ?_
              refine Z.qseq [.n] [4] [] [(4, .bool false)] Z.k0 hf ?_; clear hf a; intro a hf
              refine Z.ret ?_
              refine he415 _ _ _ (by simp) ?_
              refine he59 _ _ _ (by simp) (by simp) ?_
              refine he54 _ _ _ (by simp) ?_
              refine he41 _ _ _ (by simp) ?_
              refine he33 _ _ _ (by simp) (by simp) ?_
              refine he28 _ _ _ (by simp) ?_
              replace hf := hf.setv (d := 4) (y := .bool (decide (x = y))) rfl (congrArg Value.bool (by first | (symm; apply decide_eq_false; intro h; first | (rw [h, heb] at hea; injection hea with hea; first | (refine hgd ?_; rw [hea]; done) | (refine hcond ?_; rw [hea]; done) | (rw [hea, hia] at hib; injection hib with hib; exact hcond hib)) | (refine hcond ?_; rw [h]; done)) | (exact Codec.same_true (Codec.take_end hp24 ht43 hp430))))
              have hq431 : Z.Ch [] w w12 := hc10.then hc16
              have hq432 : Z.Ch [] w w34 := hq431.then hc35
              have hq433 : Z.Ch [] w w64 := hq432.then hc65
              have hq434 : Z.Ch [] w w387 := hq433.then hc391
              have hq435 : Z.Ch [] w w394 := hq434.then hc398
              have hq436 : Z.Ch [g393] w w400 := hq435.then hc403
              have hq437 : Z.Ch [g393, g386] w w407 := hq436.then hc410
              refine Z.ret1 hf Try.results45 rfl ?_
              exact ⟨rfl, (Z.Ch.mono hq437 (by intro k hk; (try simp only [List.mem_cons, List.mem_append, List.not_mem_nil, or_false, false_or] at hk ⊢) <;> omega))⟩
            · intro hp438
              have hgd := hp438
              replace hf := hf.setb (d := 45) (b' := false) rfl (decide_eq_false hp438)
              refine Z.qr [(.on .n), (.on (.b 0 3)), (.on .n), (.on (.b 1 3))] [47, 49] [] [(47, .agg #[.int .i64 x73.2.2.2.1.1, .int .i64 x73.2.2.2.1.2.1, .string x73.2.2.2.1.2.2]), (49, .agg #[.int .i64 x140.2.2.2.1.1, .int .i64 x140.2.2.2.1.2.1, .string x140.2.2.2.1.2.2])] (Z.kb hb420 (Z.kb hb409 Z.k0)) hf ?_; clear hf a; intro a hf
              refine Z.on hf rfl rfl ?_
              refine Z.val hf rfl (eqagg_neq62 (x := x73.2.2.2.1) (y := x140.2.2.2.1) (hf.eval rfl) (hf.eval rfl)) ?_; clear hf a; intro a hf
              refine Z.qr [.n, .n] [52] [] [(52, .bool (decide (x73.2.2.2.1 ≠ x140.2.2.2.1)))] Z.k0 hf ?_; clear hf a; intro a hf
              by_cases hdec : x73.2.2.2.1 ≠ x140.2.2.2.1 <;> revert hdec
              · intro hp439
                have hgd := hp439
                replace hf := hf.setb (d := 52) (b' := true) rfl (decide_eq_true hp439)
                refine Z.qe [.off, .off, .off, .off, .off, .n, .n, .off, .off, .off, .off, .off, .n, .n, .off, .off, .off, .off, .off, .n, .n, .off, .off, .off, .off, .off, .off, .off, .n] [81] [] [(81, .bool true)] Z.k0 hf ?_; clear hf a; intro a hf
                refine hn418 _ _ ?_
                refine Z.condt hf rfl ?_
                refine Z.qseq [.n] [4] [] [(4, .bool false)] Z.k0 hf ?_; clear hf a; intro a hf
                refine Z.ret ?_
                refine he415 _ _ _ (by simp) ?_
                refine he59 _ _ _ (by simp) (by simp) ?_
                refine he54 _ _ _ (by simp) ?_
                refine he41 _ _ _ (by simp) ?_
                refine he33 _ _ _ (by simp) (by simp) ?_
                refine he28 _ _ _ (by simp) ?_
                replace hf := hf.setv (d := 4) (y := .bool (decide (x = y))) rfl (congrArg Value.bool (by first | (symm; apply decide_eq_false; intro h; first | (rw [h, heb] at hea; injection hea with hea; first | (refine hgd ?_; rw [hea]; done) | (refine hcond ?_; rw [hea]; done) | (rw [hea, hia] at hib; injection hib with hib; exact hcond hib)) | (refine hcond ?_; rw [h]; done)) | (exact Codec.same_true (Codec.take_end hp24 ht43 hp439))))
                have hq440 : Z.Ch [] w w12 := hc10.then hc16
                have hq441 : Z.Ch [] w w34 := hq440.then hc35
                have hq442 : Z.Ch [] w w64 := hq441.then hc65
                have hq443 : Z.Ch [] w w387 := hq442.then hc391
                have hq444 : Z.Ch [] w w394 := hq443.then hc398
                have hq445 : Z.Ch [g393] w w400 := hq444.then hc403
                have hq446 : Z.Ch [g393, g386] w w407 := hq445.then hc410
                refine Z.ret1 hf Try.results45 rfl ?_
                exact ⟨rfl, (Z.Ch.mono hq446 (by intro k hk; (try simp only [List.mem_cons, List.mem_append, List.not_mem_nil, or_false, false_or] at hk ⊢) <;> omega))⟩
              · intro hp447
                have hgd := hp447
                replace hf := hf.setb (d := 52) (b' := false) rfl (decide_eq_false hp447)
                refine Z.qr [(.on .n), (.on (.b 0 6)), (.on .n), (.on (.b 1 6)), (.on .n), .n, .n] [59] [] [(59, .bool (decide (x73.2.2.2.2.1 ≠ x140.2.2.2.2.1)))] (Z.kb hb420 (Z.kb hb409 Z.k0)) hf ?_; clear hf a; intro a hf
                by_cases hdec : x73.2.2.2.2.1 ≠ x140.2.2.2.2.1 <;> revert hdec
                · intro hp448
                  have hgd := hp448
                  replace hf := hf.setb (d := 59) (b' := true) rfl (decide_eq_true hp448)
                  refine Z.qe [.off, .off, .off, .off, .off, .n, .n, .off, .off, .off, .off, .off, .n, .n, .off, .off, .off, .off, .off, .off, .off, .n] [81] [] [(81, .bool true)] Z.k0 hf ?_; clear hf a; intro a hf
                  refine hn418 _ _ ?_
                  refine Z.condt hf rfl ?_
                  refine Z.qseq [.n] [4] [] [(4, .bool false)] Z.k0 hf ?_; clear hf a; intro a hf
                  refine Z.ret ?_
                  refine he415 _ _ _ (by simp) ?_
                  refine he59 _ _ _ (by simp) (by simp) ?_
                  refine he54 _ _ _ (by simp) ?_
                  refine he41 _ _ _ (by simp) ?_
                  refine he33 _ _ _ (by simp) (by simp) ?_
                  refine he28 _ _ _ (by simp) ?_
                  replace hf := hf.setv (d := 4) (y := .bool (decide (x = y))) rfl (congrArg Value.bool (by first | (symm; apply decide_eq_false; intro h; first | (rw [h, heb] at hea; injection hea with hea; first | (refine hgd ?_; rw [hea]; done) | (refine hcond ?_; rw [hea]; done) | (rw [hea, hia] at hib; injection hib with hib; exact hcond hib)) | (refine hcond ?_; rw [h]; done)) | (exact Codec.same_true (Codec.take_end hp24 ht43 hp448))))
                  have hq449 : Z.Ch [] w w12 := hc10.then hc16
                  have hq450 : Z.Ch [] w w34 := hq449.then hc35
                  have hq451 : Z.Ch [] w w64 := hq450.then hc65
                  have hq452 : Z.Ch [] w w387 := hq451.then hc391
                  have hq453 : Z.Ch [] w w394 := hq452.then hc398
                  have hq454 : Z.Ch [g393] w w400 := hq453.then hc403
                  have hq455 : Z.Ch [g393, g386] w w407 := hq454.then hc410
                  refine Z.ret1 hf Try.results45 rfl ?_
                  exact ⟨rfl, (Z.Ch.mono hq455 (by intro k hk; (try simp only [List.mem_cons, List.mem_append, List.not_mem_nil, or_false, false_or] at hk ⊢) <;> omega))⟩
                · intro hp456
                  have hgd := hp456
                  replace hf := hf.setb (d := 59) (b' := false) rfl (decide_eq_false hp456)
                  refine Z.qr [(.on .n), (.on (.b 0 7)), (.on .n), (.on (.b 1 7)), (.on .n), .n, .n] [66] [] [(66, .bool (decide (x73.2.2.2.2.2.1 ≠ x140.2.2.2.2.2.1)))] (Z.kb hb420 (Z.kb hb409 Z.k0)) hf ?_; clear hf a; intro a hf
                  by_cases hdec : x73.2.2.2.2.2.1 ≠ x140.2.2.2.2.2.1 <;> revert hdec
                  · intro hp457
                    have hgd := hp457
                    replace hf := hf.setb (d := 66) (b' := true) rfl (decide_eq_true hp457)
                    refine Z.qe [.off, .off, .off, .off, .off, .n, .n, .off, .off, .off, .off, .off, .off, .off, .n] [81] [] [(81, .bool true)] Z.k0 hf ?_; clear hf a; intro a hf
                    refine hn418 _ _ ?_
                    refine Z.condt hf rfl ?_
                    refine Z.qseq [.n] [4] [] [(4, .bool false)] Z.k0 hf ?_; clear hf a; intro a hf
                    refine Z.ret ?_
                    refine he415 _ _ _ (by simp) ?_
                    refine he59 _ _ _ (by simp) (by simp) ?_
                    refine he54 _ _ _ (by simp) ?_
                    refine he41 _ _ _ (by simp) ?_
                    refine he33 _ _ _ (by simp) (by simp) ?_
                    refine he28 _ _ _ (by simp) ?_
                    replace hf := hf.setv (d := 4) (y := .bool (decide (x = y))) rfl (congrArg Value.bool (by first | (symm; apply decide_eq_false; intro h; first | (rw [h, heb] at hea; injection hea with hea; first | (refine hgd ?_; rw [hea]; done) | (refine hcond ?_; rw [hea]; done) | (rw [hea, hia] at hib; injection hib with hib; exact hcond hib)) | (refine hcond ?_; rw [h]; done)) | (exact Codec.same_true (Codec.take_end hp24 ht43 hp457))))
                    have hq458 : Z.Ch [] w w12 := hc10.then hc16
                    have hq459 : Z.Ch [] w w34 := hq458.then hc35
                    have hq460 : Z.Ch [] w w64 := hq459.then hc65
                    have hq461 : Z.Ch [] w w387 := hq460.then hc391
                    have hq462 : Z.Ch [] w w394 := hq461.then hc398
                    have hq463 : Z.Ch [g393] w w400 := hq462.then hc403
                    have hq464 : Z.Ch [g393, g386] w w407 := hq463.then hc410
                    refine Z.ret1 hf Try.results45 rfl ?_
                    exact ⟨rfl, (Z.Ch.mono hq464 (by intro k hk; (try simp only [List.mem_cons, List.mem_append, List.not_mem_nil, or_false, false_or] at hk ⊢) <;> omega))⟩
                  · intro hp465
                    have hgd := hp465
                    replace hf := hf.setb (d := 66) (b' := false) rfl (decide_eq_false hp465)
                    refine Z.qr [(.on .n), (.on (.b 0 8)), (.on .n), (.on (.b 1 8)), (.on .n), .n, .n] [73] [] [(73, .bool (decide (x73.2.2.2.2.2.2 ≠ x140.2.2.2.2.2.2)))] (Z.kb hb420 (Z.kb hb409 Z.k0)) hf ?_; clear hf a; intro a hf
                    by_cases hdec : x73.2.2.2.2.2.2 ≠ x140.2.2.2.2.2.2 <;> revert hdec
                    · intro hp466
                      have hgd := hp466
                      replace hf := hf.setb (d := 73) (b' := true) rfl (decide_eq_true hp466)
                      refine Z.qe [.off, .off, .off, .off, .off, .off, .off, .n] [81] [] [(81, .bool true)] Z.k0 hf ?_; clear hf a; intro a hf
                      refine hn418 _ _ ?_
                      refine Z.condt hf rfl ?_
                      refine Z.qseq [.n] [4] [] [(4, .bool false)] Z.k0 hf ?_; clear hf a; intro a hf
                      refine Z.ret ?_
                      refine he415 _ _ _ (by simp) ?_
                      refine he59 _ _ _ (by simp) (by simp) ?_
                      refine he54 _ _ _ (by simp) ?_
                      refine he41 _ _ _ (by simp) ?_
                      refine he33 _ _ _ (by simp) (by simp) ?_
                      refine he28 _ _ _ (by simp) ?_
                      replace hf := hf.setv (d := 4) (y := .bool (decide (x = y))) rfl (congrArg Value.bool (by first | (symm; apply decide_eq_false; intro h; first | (rw [h, heb] at hea; injection hea with hea; first | (refine hgd ?_; rw [hea]; done) | (refine hcond ?_; rw [hea]; done) | (rw [hea, hia] at hib; injection hib with hib; exact hcond hib)) | (refine hcond ?_; rw [h]; done)) | (exact Codec.same_true (Codec.take_end hp24 ht43 hp466))))
                      have hq467 : Z.Ch [] w w12 := hc10.then hc16
                      have hq468 : Z.Ch [] w w34 := hq467.then hc35
                      have hq469 : Z.Ch [] w w64 := hq468.then hc65
                      have hq470 : Z.Ch [] w w387 := hq469.then hc391
                      have hq471 : Z.Ch [] w w394 := hq470.then hc398
                      have hq472 : Z.Ch [g393] w w400 := hq471.then hc403
                      have hq473 : Z.Ch [g393, g386] w w407 := hq472.then hc410
                      refine Z.ret1 hf Try.results45 rfl ?_
                      exact ⟨rfl, (Z.Ch.mono hq473 (by intro k hk; (try simp only [List.mem_cons, List.mem_append, List.not_mem_nil, or_false, false_or] at hk ⊢) <;> omega))⟩
                    · intro hp474
                      have hgd := hp474
                      replace hf := hf.setb (d := 73) (b' := false) rfl (decide_eq_false hp474)
                      refine Z.qe [(.on .n), (.on (.b 0 2)), (.on .n), (.on .n), (.on (.b 1 2)), (.on .n), (.on .n), .n] [81] [] [(81, .bool (decide ((x73.2.2.1.length : Int) ≠ (x140.2.2.1.length : Int))))] (Z.kb hb420 (Z.kb hb409 Z.k0)) hf ?_; clear hf a; intro a hf
                      refine hn418 _ _ ?_
                      refine Z.condp hf rfl ?_ ?_
                      · intro hp475
                        have hcond := hp475
                        refine Z.qseq [.n] [4] [] [(4, .bool false)] Z.k0 hf ?_; clear hf a; intro a hf
                        refine Z.ret ?_
                        refine he415 _ _ _ (by simp) ?_
                        refine he59 _ _ _ (by simp) (by simp) ?_
                        refine he54 _ _ _ (by simp) ?_
                        refine he41 _ _ _ (by simp) ?_
                        refine he33 _ _ _ (by simp) (by simp) ?_
                        refine he28 _ _ _ (by simp) ?_
                        replace hf := hf.setv (d := 4) (y := .bool (decide (x = y))) rfl (congrArg Value.bool (by first | (symm; apply decide_eq_false; intro h; first | (rw [h, heb] at hea; injection hea with hea; first | (refine hgd ?_; rw [hea]; done) | (refine hcond ?_; rw [hea]; done) | (rw [hea, hia] at hib; injection hib with hib; exact hcond hib)) | (refine hcond ?_; rw [h]; done)) | (exact Codec.same_true (Codec.take_end hp24 ht43 hp475))))
                        have hq476 : Z.Ch [] w w12 := hc10.then hc16
                        have hq477 : Z.Ch [] w w34 := hq476.then hc35
                        have hq478 : Z.Ch [] w w64 := hq477.then hc65
                        have hq479 : Z.Ch [] w w387 := hq478.then hc391
                        have hq480 : Z.Ch [] w w394 := hq479.then hc398
                        have hq481 : Z.Ch [g393] w w400 := hq480.then hc403
                        have hq482 : Z.Ch [g393, g386] w w407 := hq481.then hc410
                        refine Z.ret1 hf Try.results45 rfl ?_
                        exact ⟨rfl, (Z.Ch.mono hq482 (by intro k hk; (try simp only [List.mem_cons, List.mem_append, List.not_mem_nil, or_false, false_or] at hk ⊢) <;> omega))⟩
                      · intro hp483
                        have hcond := hp483
                        refine Z.skip ?_
                        refine hn414 _ _ ?_
                        refine Z.qseq [.n] [8] [] [(8, .int .i64 0)] Z.k0 hf ?_; clear hf a; intro a hf
                        refine Z.block' hp56 fun Q484 hp485 hn486 hx487 he488 => ?_
                        refine Z.loop' hp485 (fun m a wl => ∃ (j : Nat), m = x73.2.2.1.length - j ∧ Z.Ch [] w407 wl ∧ (j ≤ x73.2.2.1.length) ∧ (x73.2.2.1.take j = x140.2.2.1.take j) ∧ Z.Fr a 100 [] [(2, .pointer (some ⟨g5, 0, none⟩)), (3, .pointer (some ⟨g11, 0, none⟩)), (5, .int .i64 (k37 : Int)), (6, .pointer (some ⟨g393, 0, none⟩)), (7, .pointer (some ⟨g386, 0, none⟩)), (8, .int .i64 (j : Int))]) (x73.2.2.1.length - 0) ?_ ?_
                        · replace hf := hf.setv (d := 8) (y := .int .i64 (0 : Int)) rfl (congrArg (Value.int .i64) (by first | rfl | omega | (simp; done) | (simp; omega)))
                          exact ⟨0, rfl, (Z.Ch.refl w407), (by omega), (by simp), (hf.keep [2, 3, 5, 6, 7, 8])⟩
                        · rintro m499 a w489 ⟨j492, hm491, hc490, hj497, hu498, hf⟩ Q493 hp494 hn495 he496
                          have hzhc490 := hc490.size
                          refine Z.seq' hp494 fun Q500 hp501 hn502 he503 => ?_
                          have hb504 := hb420.ch0 hc490
                          refine Z.qseq [.n, .n, .b 0 2, .n, .n] [86] [] [(86, .bool (decide ((j492 : Int) < (x73.2.2.1.length : Int))))] (Z.kb hb504 Z.k0) hf ?_; clear hf a; intro a hf
                          refine Z.condp hf rfl ?_ ?_
                          · intro hp505
                            have hcond := hp505
                            refine Z.skip ?_
                            refine hn502 _ _ ?_
                            refine Z.seq' hp494 fun Q506 hp507 hn508 he509 => ?_
                            refine Z.block' hp507 fun Q510 hp511 hn512 hx513 he514 => ?_
                            refine Z.seq' hp511 fun Q515 hp516 hn517 he518 => ?_
                            refine Z.dr_reg (S := fun w' => Z.Ch [] w489 w') mixed ?_; intro w519 hc520 hz521
                            have hb522 := hb409.ch0 hc490
                            refine Z.dqr [true, true, true, false, false, true, true, true, false, false, false] 5 [(0, .n), (1, .b 0 2), (2, .n), (5, .n), (6, .b 1 2), (7, .n)] [90, 91, 95, 96] [] [(90, .slice A98 x73.2.2.1.length c99), (91, .int .i64 (j492 : Int)), (95, .slice A165 x140.2.2.1.length c166), (96, .int .i64 (j492 : Int))] hp516 hc520 (fun w hw => (Z.kb (hb504.ch0 hw) (Z.kb (hb522.ch0 hw) Z.k0))) hf ?_; clear hf a; intro a hf
                            have hq523 : Z.Ch [g393, g386] w34 w489 := hq411.then hc490
                            have hr524 := Z.rep_to (F' := (Z.ol [] w.heap.size)) hr96 hq523
                            have hkx527 : j492 < (x73.2.2.1).length := (by omega)
                            obtain ⟨ad525, es526, x527, hA528, hF529, hl530, hx531, hc532, hr533⟩ := Z.rep_el hr524 hkx527
                            have hok534 := Z.rep_ok _ hr533
                            have he535 := hr533.1
                            have he536 : es526 = [.int .i64 x527] := by simp only [he535, List.cons_append, List.nil_append]
                            rw [he536] at hc532
                            have hia := hx531
                            refine Z.dr_val 3 hf rfl rfl (by kernel_rfl) (by kernel_rfl) hp516 hc520 Z.wanted_none (fun _ hw => Z.r_indexAddrE Try.underlying29 Try.sizeOf3 (hf.eval rfl) hA528 (hf.eval rfl) (k := j492) (by first | rfl | omega) (by omega)) ?_; clear hf a; intro a hf
                            refine Z.dqr [true, true, true, true, true, true, true, true, false, false, false] 3 [(4, .e 0 0)] [93] [] [(93, .int .i64 x527)] hp516 hc520 (fun w hw => (Z.ke (hc532.ch0 hw) Z.k0)) hf ?_; clear hf a; intro a hf
                            have hq537 : Z.Ch [g393, g386] w34 w489 := hq411.then hc490
                            have hr538 := Z.rep_to (F' := (Z.ol [] w.heap.size)) hr163 hq537
                            have hkx541 : j492 < (x140.2.2.1).length := (by omega)
                            obtain ⟨ad539, es540, x541, hA542, hF543, hl544, hx545, hc546, hr547⟩ := Z.rep_el hr538 hkx541
                            have hok548 := Z.rep_ok _ hr547
                            have he549 := hr547.1
                            have he550 : es540 = [.int .i64 x541] := by simp only [he549, List.cons_append, List.nil_append]
                            rw [he550] at hc546
                            have hib := hx545
                            refine Z.dr_val 8 hf rfl rfl (by kernel_rfl) (by kernel_rfl) hp516 hc520 Z.wanted_none (fun _ hw => Z.r_indexAddrE Try.underlying29 Try.sizeOf3 (hf.eval rfl) hA542 (hf.eval rfl) (k := j492) (by first | rfl | omega) (by omega)) ?_; clear hf a; intro a hf
                            refine Z.dqr [true, true, true, true, true, true, true, true, true, true, true] 0 [(9, .e 0 0), (10, .n)] [99] [] [(99, .bool (decide (x527 ≠ x541)))] hp516 hc520 (fun w hw => (Z.ke (hc546.ch0 hw) Z.k0)) hf ?_; clear hf a; intro a hf
                            refine Z.dr_done (by kernel_rfl) ?_
                            refine hn517 _ _ ?_
                            refine Z.condp hf rfl ?_ ?_
                            · intro hp551
                              have hcond := hp551
                              refine Z.qseq [.n] [4] [] [(4, .bool false)] Z.k0 hf ?_; clear hf a; intro a hf
                              refine Z.ret ?_
                              refine he514 _ _ _ (by simp) (by simp) ?_
                              refine he509 _ _ _ (by simp) ?_
                              refine he496 _ _ _ (by simp) ?_
                              refine he488 _ _ _ (by simp) (by simp) ?_
                              refine he59 _ _ _ (by simp) (by simp) ?_
                              refine he54 _ _ _ (by simp) ?_
                              refine he41 _ _ _ (by simp) ?_
                              refine he33 _ _ _ (by simp) (by simp) ?_
                              refine he28 _ _ _ (by simp) ?_
                              replace hf := hf.setv (d := 4) (y := .bool (decide (x = y))) rfl (congrArg Value.bool (by first | (symm; apply decide_eq_false; intro h; first | (rw [h, heb] at hea; injection hea with hea; first | (refine hgd ?_; rw [hea]; done) | (refine hcond ?_; rw [hea]; done) | (rw [hea, hia] at hib; injection hib with hib; exact hcond hib)) | (refine hcond ?_; rw [h]; done)) | (exact Codec.same_true (Codec.take_end hp24 ht43 hp551))))
                              have hq552 : Z.Ch [] w w12 := hc10.then hc16
                              have hq553 : Z.Ch [] w w34 := hq552.then hc35
                              have hq554 : Z.Ch [] w w64 := hq553.then hc65
                              have hq555 : Z.Ch [] w w387 := hq554.then hc391
                              have hq556 : Z.Ch [] w w394 := hq555.then hc398
                              have hq557 : Z.Ch [g393] w w400 := hq556.then hc403
                              have hq558 : Z.Ch [g393, g386] w w407 := hq557.then hc410
                              have hq559 : Z.Ch [g393, g386] w w489 := hq558.then hc490
                              have hq560 : Z.Ch [g393, g386] w w519 := hq559.then hc520
                              refine Z.ret1 hf Try.results45 rfl ?_
                              exact ⟨rfl, (Z.Ch.mono hq560 (by intro k hk; (try simp only [List.mem_cons, List.mem_append, List.not_mem_nil, or_false, false_or] at hk ⊢) <;> omega))⟩
                            · intro hp561
                              have hcond := hp561
                              refine Z.skip ?_
                              refine hn512 _ _ ?_
                              refine hn508 _ _ ?_
                              refine Z.qreg [.n, .n, .n] [8] [Z.R64 ((j492 : Int) + 1)] [(8, .int .i64 ((j492 : Int) + 1))] Z.k0 hf ?_; clear hf a; intro a hf
                              refine hn495 (x73.2.2.1.length - (j492 + 1)) _ _ ?_ ?_
                              rotate_left
                              replace hf := hf.setv (d := 8) (y := .int .i64 ((j492 + 1 : Nat) : Int)) rfl (congrArg (Value.int .i64) (by first | rfl | omega | (simp; done) | (simp; omega)))
                              have hq562 : Z.Ch [] w407 w519 := hc490.then hc520
                              exact ⟨j492 + 1, rfl, hq562, (by omega), (by exact Codec.take_step hu498 hia hib hcond), (hf.keep [2, 3, 5, 6, 7, 8])⟩
                              rw [hm491]; omega
                          · intro hp563
                            have hcond := hp563
                            refine Z.exit ?_
                            refine he503 _ _ _ (by simp) ?_
                            refine he496 _ _ _ (by simp) ?_
                            refine hx487 _ _ ?_
                            refine hn57 _ _ ?_
                            refine hn53 _ _ ?_
                            refine Z.qreg [.n, .n, .n] [5] [Z.R64 ((k37 : Int) + 1)] [(5, .int .i64 ((k37 : Int) + 1))] Z.k0 hf ?_; clear hf a; intro a hf
                            refine hn40 (x.length - (k37 + 1)) _ _ ?_ ?_
                            rotate_left
                            replace hf := hf.setv (d := 5) (y := .int .i64 ((k37 + 1 : Nat) : Int)) rfl (congrArg (Value.int .i64) (by first | rfl | omega | (simp; done) | (simp; omega)))
                            have hq564 : Z.Ch [] w12 w64 := hc35.then hc65
                            have hq565 : Z.Ch [] w12 w387 := hq564.then hc391
                            have hq566 : Z.Ch [] w12 w394 := hq565.then hc398
                            have hq567 : Z.Ch [g393] w12 w400 := hq566.then hc403
                            have hq568 : Z.Ch [g393, g386] w12 w407 := hq567.then hc410
                            have hq569 : Z.Ch [g393, g386] w12 w489 := hq568.then hc490
                            exact ⟨k37 + 1, rfl, (hq569.mono (by intro k hk; (try simp only [List.mem_cons, List.mem_append, List.not_mem_nil, or_false, false_or] at hk ⊢) <;> omega)), (by omega), (by exact Codec.take_step ht43 hea heb (fun hne => hne (Codec.node_ext (Codec.not_ne hp429) (Codec.not_ne hp438) (Codec.not_ne hp447) (Codec.not_ne hp456) (Codec.not_ne hp465) (Codec.not_ne hp474) (Codec.take_end hp483 hu498 hp563)))), (hf.keep [2, 3, 5])⟩
                            rw [hm36]; omega
      · intro hp570
        have hcond := hp570
        refine Z.exit ?_
        refine he48 _ _ _ (by simp) ?_
        refine he41 _ _ _ (by simp) ?_
        refine hx32 _ _ ?_
        refine hn27 _ _ ?_
        refine Z.qseq [.n] [4] [] [(4, .bool true)] Z.k0 hf ?_; clear hf a; intro a hf
        refine Z.ret ?_
        replace hf := hf.setv (d := 4) (y := .bool (decide (x = y))) rfl (congrArg Value.bool (by first | (symm; apply decide_eq_false; intro h; first | (rw [h, heb] at hea; injection hea with hea; first | (refine hgd ?_; rw [hea]; done) | (refine hcond ?_; rw [hea]; done) | (rw [hea, hia] at hib; injection hib with hib; exact hcond hib)) | (refine hcond ?_; rw [h]; done)) | (exact Codec.same_true (Codec.take_end hp24 ht43 hp570))))
        have hq571 : Z.Ch [] w w12 := hc10.then hc16
        have hq572 : Z.Ch [] w w34 := hq571.then hc35
        refine Z.ret1 hf Try.results45 rfl ?_
        exact ⟨rfl, hq572⟩

set_option maxHeartbeats 400000 in
set_option maxRecDepth 20000 in
theorem SameDelta_spec (x : D32) (y : D32) (w : World) (pA0 : Option Addr) (pc0 : Nat) (pA1 : Option Addr) (pc1 : Nat) (pA2 : Option Addr) (pc2 : Nat) (pA3 : Option Addr) (pc3 : Nat) (pA4 : Option Addr) (pc4 : Nat) (pA5 : Option Addr) (pc5 : Nat) (ph0 : (Z.Ty.slice (Z.Ty.int .i64)).rep w (Z.nt []) [.slice pA0 x.1.length pc0] x.1) (ph1 : (Z.Ty.slice T85).rep w (Z.nt []) [.slice pA1 x.2.1.length pc1] x.2.1) (ph2 : (Z.Ty.slice T63).rep w (Z.nt []) [.slice pA2 x.2.2.length pc2] x.2.2) (pk3 : Z.Ty.ok T32 x) (ph3 : (Z.Ty.slice (Z.Ty.int .i64)).rep w (Z.nt []) [.slice pA3 y.1.length pc3] y.1) (ph4 : (Z.Ty.slice T85).rep w (Z.nt []) [.slice pA4 y.2.1.length pc4] y.2.1) (ph5 : (Z.Ty.slice T63).rep w (Z.nt []) [.slice pA5 y.2.2.length pc5] y.2.2) (pk7 : Z.Ty.ok T32 y)  :
    Calls Try.prog 23 #[.agg #[.slice pA0 x.1.length pc0, .slice pA1 x.2.1.length pc1, .slice pA2 x.2.2.length pc2], .agg #[.slice pA3 y.1.length pc3, .slice pA4 y.2.1.length pc4, .slice pA5 y.2.2.length pc5]] w fun e w' => e = .returned (.bool (decide (x = y))) ∧ Z.Ch [] w w' := by
  refine Z.enter Try.func23 rfl Try.ntmps23 (Nat.le_of_ble_eq_true rfl) fun a hf => ?_
  have hle_pA0 := Z.rep_le ph0
  have ph0o := Z.rep_ol ph0
  have hle_pA1 := Z.rep_le ph1
  have ph1o := Z.rep_ol ph1
  have hle_pA2 := Z.rep_le ph2
  have ph2o := Z.rep_ol ph2
  have hle_pA3 := Z.rep_le ph3
  have ph3o := Z.rep_ol ph3
  have hle_pA4 := Z.rep_le ph4
  have ph4o := Z.rep_ol ph4
  have hle_pA5 := Z.rep_le ph5
  have ph5o := Z.rep_ol ph5
  refine Z.seq' (Z.Pq.body _ _ _) fun Q1 hp2 hn3 he4 => ?_
  refine Z.reg ?_
  refine Z.st_box hf rfl rfl rfl ?_; clear hf a; intro g5 w6 a hg7 hz8 hb9 hc10 hf
  refine Z.st_box hf rfl rfl rfl ?_; clear hf a; intro g11 w12 a hg13 hz14 hb15 hc16 hf
  refine Z.qe [.n] [] [] [] Z.k0 hf ?_; clear hf a; intro a hf
  refine hn3 _ _ ?_
  refine Z.seq' (Z.Pq.body _ _ _) fun Q17 hp18 hn19 he20 => ?_
  refine Z.seq' hp18 fun Q21 hp22 hn23 he24 => ?_
  refine Z.reg ?_
  have hb25 := hb9.ch0 hc16
  refine Z.qr [.n, .b 0 0, .n, .n, .b 1 0, .n, .n, .n] [13] [] [(13, .bool (decide ((x.1.length : Int) ≠ (y.1.length : Int))))] (Z.kb hb25 (Z.kb hb15 Z.k0)) hf ?_; clear hf a; intro a hf
  by_cases hdec : (x.1.length : Int) ≠ (y.1.length : Int) <;> revert hdec
  · intro hp26
    have hgd := hp26
    replace hf := hf.setb (d := 13) (b' := true) rfl (decide_eq_true hp26)
    refine Z.qe [.off, .off, .off, .off, .off, .off, .off, .off, .n, .n, .off, .off, .off, .off, .off, .off, .n] [30] [] [(30, .bool true)] Z.k0 hf ?_; clear hf a; intro a hf
    refine hn23 _ _ ?_
    refine Z.condt hf rfl ?_
    refine Z.qseq [.n] [4] [] [(4, .bool false)] Z.k0 hf ?_; clear hf a; intro a hf
    refine Z.ret ?_
    refine he20 _ _ _ (by simp) ?_
    replace hf := hf.setv (d := 4) (y := .bool (decide (x = y))) rfl (congrArg Value.bool (by first | (symm; apply decide_eq_false; intro h; first | (refine hgd ?_; rw [h]; done) | (refine hcond ?_; rw [h]; done) | (simp only [Bool.not_eq_true', decide_eq_false_iff_not] at hgd; refine hgd ?_; rw [h]; done) | (simp only [Bool.not_eq_true', decide_eq_false_iff_not] at hcond; refine hcond ?_; rw [h]; done) | (rw [h, heb] at hea; injection hea with hea; exact hcond hea.symm)) | (exact Codec.same_true (Codec.delta_ext (by simpa using hNONE) (by simpa using hNONE) (Codec.take_end hp26 ht hp26)))))
    have hq27 : Z.Ch [] w w12 := hc10.then hc16
    refine Z.ret1 hf Try.results23 rfl ?_
    exact ⟨rfl, hq27⟩
  · intro hp28
    have hgd := hp28
    replace hf := hf.setb (d := 13) (b' := false) rfl (decide_eq_false hp28)
    refine Z.qr [(.on .n), (.on (.b 0 1)), (.on .n), (.on .n), (.on (.b 1 1)), (.on .n)] [16, 19] [] [(16, .agg #[.slice pA1 x.2.1.length pc1]), (19, .agg #[.slice pA4 y.2.1.length pc4])] (Z.kb hb25 (Z.kb hb15 Z.k0)) hf ?_; clear hf a; intro a hf
    refine Z.on hf rfl rfl ?_
    have hq29 : Z.Ch [] w w12 := hc10.then hc16
    have hr30 := Z.rep_to (F' := (Z.nt [])) ph1o hq29
    have hr31 := Z.rep_to (F' := (Z.nt [])) ph4o hq29
    refine Z.call1 hf rfl (Z.r_call cf45 hf (xs := [.tmp 16, .tmp 19]) rfl) (Same_spec x.2.1 y.2.1 w12 pA1 pc1 pA4 pc4 hr30 pk3.2.1 hr31 pk7.2.1) ?_; clear hf a
    rintro _ w32 ⟨rfl, hc33⟩
    have hzhc33 := hc33.size
    refine ⟨_, rfl, ?_⟩; intro a hf
    refine Z.qr [(.on .n), .n, .n] [23] [] [(23, .bool (!(decide (x.2.1 = y.2.1))))] Z.k0 hf ?_; clear hf a; intro a hf
    cases hdec : (!(decide (x.2.1 = y.2.1))) <;> revert hdec
    · intro hp34
      have hgd := hp34
      replace hf := hf.setb (d := 23) (b' := false) rfl hp34
      have hb35 := hb15.ch0 hc33
      have hb36 := hb25.ch0 hc33
      refine Z.qr [(.on .n), (.on (.b 0 2)), (.on .n), (.on (.b 1 2))] [25, 27] [] [(25, .slice pA2 x.2.2.length pc2), (27, .slice pA5 y.2.2.length pc5)] (Z.kb hb36 (Z.kb hb35 Z.k0)) hf ?_; clear hf a; intro a hf
      refine Z.on hf rfl rfl ?_
      have hq37 : Z.Ch [] w w32 := hq29.then hc33
      have hr38 := Z.rep_to (F' := (Z.nt [])) ph2o hq37
      have hr39 := Z.rep_to (F' := (Z.nt [])) ph5o hq37
      refine Z.call1 hf rfl (Z.r_call cf46 hf (xs := [.tmp 25, .tmp 27]) rfl) (SameMoves_spec x.2.2 y.2.2 w32 pA2 pc2 pA5 pc5 hr38 hr39) ?_; clear hf a
      rintro _ w40 ⟨rfl, hc41⟩
      have hzhc41 := hc41.size
      refine ⟨_, rfl, ?_⟩; intro a hf
      refine Z.qe [(.on .n), .n] [30] [] [(30, .bool (!(decide (x.2.2 = y.2.2))))] Z.k0 hf ?_; clear hf a; intro a hf
      refine hn23 _ _ ?_
      refine Z.cond hf rfl ?_ ?_
      · intro hp42
        have hcond := hp42
        refine Z.qseq [.n] [4] [] [(4, .bool false)] Z.k0 hf ?_; clear hf a; intro a hf
        refine Z.ret ?_
        refine he20 _ _ _ (by simp) ?_
        replace hf := hf.setv (d := 4) (y := .bool (decide (x = y))) rfl (congrArg Value.bool (by first | (symm; apply decide_eq_false; intro h; first | (refine hgd ?_; rw [h]; done) | (refine hcond ?_; rw [h]; done) | (simp only [Bool.not_eq_true', decide_eq_false_iff_not] at hgd; refine hgd ?_; rw [h]; done) | (simp only [Bool.not_eq_true', decide_eq_false_iff_not] at hcond; refine hcond ?_; rw [h]; done) | (rw [h, heb] at hea; injection hea with hea; exact hcond hea.symm)) | (exact Codec.same_true (Codec.delta_ext (by simpa using hp34) (by simpa using hp42) (Codec.take_end hp28 ht hp42)))))
        have hq43 : Z.Ch [] w w40 := hq37.then hc41
        refine Z.ret1 hf Try.results23 rfl ?_
        exact ⟨rfl, hq43⟩
      · intro hp44
        have hcond := hp44
        refine Z.skip ?_
        refine hn19 _ _ ?_
        refine Z.seq' (Z.Pq.body _ _ _) fun Q45 hp46 hn47 he48 => ?_
        refine Z.qseq [.n] [5] [] [(5, .int .i64 0)] Z.k0 hf ?_; clear hf a; intro a hf
        refine Z.block' hp46 fun Q49 hp50 hn51 hx52 he53 => ?_
        refine Z.loop' hp50 (fun m a wl => ∃ (k : Nat), m = x.1.length - k ∧ Z.Ch [] w40 wl ∧ (k ≤ x.1.length) ∧ (x.1.take k = y.1.take k) ∧ Z.Fr a 49 [] [(2, .pointer (some ⟨g5, 0, none⟩)), (3, .pointer (some ⟨g11, 0, none⟩)), (5, .int .i64 (k : Int))]) (x.1.length - 0) ?_ ?_
        · replace hf := hf.setv (d := 5) (y := .int .i64 (0 : Int)) rfl (congrArg (Value.int .i64) (by first | rfl | omega | (simp; done) | (simp; omega)))
          exact ⟨0, rfl, (Z.Ch.refl w40), (by omega), (by simp), (hf.keep [2, 3, 5])⟩
        · rintro m64 a w54 ⟨k57, hm56, hc55, hk62, ht63, hf⟩ Q58 hp59 hn60 he61
          have hzhc55 := hc55.size
          refine Z.seq' hp59 fun Q65 hp66 hn67 he68 => ?_
          have hq69 : Z.Ch [] w32 w54 := hc41.then hc55
          have hb70 := hb36.ch0 hq69
          refine Z.qseq [.n, .n, .b 0 0, .n, .n] [35] [] [(35, .bool (decide ((k57 : Int) < (x.1.length : Int))))] (Z.kb hb70 Z.k0) hf ?_; clear hf a; intro a hf
          refine Z.condp hf rfl ?_ ?_
          · intro hp71
            have hcond := hp71
            refine Z.skip ?_
            refine hn67 _ _ ?_
            refine Z.seq' hp59 fun Q72 hp73 hn74 he75 => ?_
            refine Z.block' hp73 fun Q76 hp77 hn78 hx79 he80 => ?_
            refine Z.seq' hp77 fun Q81 hp82 hn83 he84 => ?_
            refine Z.dr_reg (S := fun w' => Z.Ch [] w54 w') mixed ?_; intro w85 hc86 hz87
            have hb88 := hb35.ch0 hq69
            refine Z.dqr [true, true, true, false, false, true, true, true, false, false, false] 5 [(0, .n), (1, .b 0 0), (2, .n), (5, .n), (6, .b 1 0), (7, .n)] [39, 40, 44, 45] [] [(39, .slice pA0 x.1.length pc0), (40, .int .i64 (k57 : Int)), (44, .slice pA3 y.1.length pc3), (45, .int .i64 (k57 : Int))] hp82 hc86 (fun w hw => (Z.kb (hb70.ch0 hw) (Z.kb (hb88.ch0 hw) Z.k0))) hf ?_; clear hf a; intro a hf
            have hq89 : Z.Ch [] w w40 := hq37.then hc41
            have hq90 : Z.Ch [] w w54 := hq89.then hc55
            have hr91 := Z.rep_to (F' := (Z.ol [] w.heap.size)) ph0o hq90
            have hkx94 : k57 < (x.1).length := (by omega)
            obtain ⟨ad92, es93, x94, hA95, hF96, hl97, hx98, hc99, hr100⟩ := Z.rep_el hr91 hkx94
            have hok101 := Z.rep_ok _ hr100
            have he102 := hr100.1
            have he103 : es93 = [.int .i64 x94] := by simp only [he102, List.cons_append, List.nil_append]
            rw [he103] at hc99
            have hea := hx98
            refine Z.dr_val 3 hf rfl rfl (by kernel_rfl) (by kernel_rfl) hp82 hc86 Z.wanted_none (fun _ hw => Z.r_indexAddrE Try.underlying29 Try.sizeOf3 (hf.eval rfl) hA95 (hf.eval rfl) (k := k57) (by first | rfl | omega) (by omega)) ?_; clear hf a; intro a hf
            refine Z.dqr [true, true, true, true, true, true, true, true, false, false, false] 3 [(4, .e 0 0)] [42] [] [(42, .int .i64 x94)] hp82 hc86 (fun w hw => (Z.ke (hc99.ch0 hw) Z.k0)) hf ?_; clear hf a; intro a hf
            have hq104 : Z.Ch [] w w40 := hq37.then hc41
            have hq105 : Z.Ch [] w w54 := hq104.then hc55
            have hr106 := Z.rep_to (F' := (Z.ol [] w.heap.size)) ph3o hq105
            have hkx109 : k57 < (y.1).length := (by omega)
            obtain ⟨ad107, es108, x109, hA110, hF111, hl112, hx113, hc114, hr115⟩ := Z.rep_el hr106 hkx109
            have hok116 := Z.rep_ok _ hr115
            have he117 := hr115.1
            have he118 : es108 = [.int .i64 x109] := by simp only [he117, List.cons_append, List.nil_append]
            rw [he118] at hc114
            have heb := hx113
            refine Z.dr_val 8 hf rfl rfl (by kernel_rfl) (by kernel_rfl) hp82 hc86 Z.wanted_none (fun _ hw => Z.r_indexAddrE Try.underlying29 Try.sizeOf3 (hf.eval rfl) hA110 (hf.eval rfl) (k := k57) (by first | rfl | omega) (by omega)) ?_; clear hf a; intro a hf
            refine Z.dqr [true, true, true, true, true, true, true, true, true, true, true] 0 [(9, .e 0 0), (10, .n)] [48] [] [(48, .bool (decide (x94 ≠ x109)))] hp82 hc86 (fun w hw => (Z.ke (hc114.ch0 hw) Z.k0)) hf ?_; clear hf a; intro a hf
            refine Z.dr_done (by kernel_rfl) ?_
            refine hn83 _ _ ?_
            refine Z.condp hf rfl ?_ ?_
            · intro hp119
              have hcond := hp119
              refine Z.qseq [.n] [4] [] [(4, .bool false)] Z.k0 hf ?_; clear hf a; intro a hf
              refine Z.ret ?_
              refine he80 _ _ _ (by simp) (by simp) ?_
              refine he75 _ _ _ (by simp) ?_
              refine he61 _ _ _ (by simp) ?_
              refine he53 _ _ _ (by simp) (by simp) ?_
              refine he48 _ _ _ (by simp) ?_
              replace hf := hf.setv (d := 4) (y := .bool (decide (x = y))) rfl (congrArg Value.bool (by first | (symm; apply decide_eq_false; intro h; first | (refine hgd ?_; rw [h]; done) | (refine hcond ?_; rw [h]; done) | (simp only [Bool.not_eq_true', decide_eq_false_iff_not] at hgd; refine hgd ?_; rw [h]; done) | (simp only [Bool.not_eq_true', decide_eq_false_iff_not] at hcond; refine hcond ?_; rw [h]; done) | (rw [h, heb] at hea; injection hea with hea; exact hcond hea.symm)) | (exact Codec.same_true (Codec.delta_ext (by simpa using hp34) (by simpa using hp44) (Codec.take_end hp28 ht63 hp119)))))
              have hq120 : Z.Ch [] w w40 := hq37.then hc41
              have hq121 : Z.Ch [] w w54 := hq120.then hc55
              have hq122 : Z.Ch [] w w85 := hq121.then hc86
              refine Z.ret1 hf Try.results23 rfl ?_
              exact ⟨rfl, hq122⟩
            · intro hp123
              have hcond := hp123
              refine Z.skip ?_
              refine hn78 _ _ ?_
              refine hn74 _ _ ?_
              refine Z.qreg [.n, .n, .n] [5] [Z.R64 ((k57 : Int) + 1)] [(5, .int .i64 ((k57 : Int) + 1))] Z.k0 hf ?_; clear hf a; intro a hf
              refine hn60 (x.1.length - (k57 + 1)) _ _ ?_ ?_
              rotate_left
              replace hf := hf.setv (d := 5) (y := .int .i64 ((k57 + 1 : Nat) : Int)) rfl (congrArg (Value.int .i64) (by first | rfl | omega | (simp; done) | (simp; omega)))
              have hq124 : Z.Ch [] w40 w85 := hc55.then hc86
              exact ⟨k57 + 1, rfl, hq124, (by omega), (by exact Codec.take_step ht63 hea heb hcond), (hf.keep [2, 3, 5])⟩
              rw [hm56]; omega
          · intro hp125
            have hcond := hp125
            refine Z.exit ?_
            refine he68 _ _ _ (by simp) ?_
            refine he61 _ _ _ (by simp) ?_
            refine hx52 _ _ ?_
            refine hn47 _ _ ?_
            refine Z.qseq [.n] [4] [] [(4, .bool true)] Z.k0 hf ?_; clear hf a; intro a hf
            refine Z.ret ?_
            replace hf := hf.setv (d := 4) (y := .bool (decide (x = y))) rfl (congrArg Value.bool (by first | (symm; apply decide_eq_false; intro h; first | (refine hgd ?_; rw [h]; done) | (refine hcond ?_; rw [h]; done) | (simp only [Bool.not_eq_true', decide_eq_false_iff_not] at hgd; refine hgd ?_; rw [h]; done) | (simp only [Bool.not_eq_true', decide_eq_false_iff_not] at hcond; refine hcond ?_; rw [h]; done) | (rw [h, heb] at hea; injection hea with hea; exact hcond hea.symm)) | (exact Codec.same_true (Codec.delta_ext (by simpa using hp34) (by simpa using hp44) (Codec.take_end hp28 ht63 hp125)))))
            have hq126 : Z.Ch [] w w40 := hq37.then hc41
            have hq127 : Z.Ch [] w w54 := hq126.then hc55
            refine Z.ret1 hf Try.results23 rfl ?_
            exact ⟨rfl, hq127⟩
    · intro hp128
      have hgd := hp128
      replace hf := hf.setb (d := 23) (b' := true) rfl hp128
      refine Z.qe [.off, .off, .off, .off, .off, .off, .n] [30] [] [(30, .bool true)] Z.k0 hf ?_; clear hf a; intro a hf
      refine hn23 _ _ ?_
      refine Z.condt hf rfl ?_
      refine Z.qseq [.n] [4] [] [(4, .bool false)] Z.k0 hf ?_; clear hf a; intro a hf
      refine Z.ret ?_
      refine he20 _ _ _ (by simp) ?_
      replace hf := hf.setv (d := 4) (y := .bool (decide (x = y))) rfl (congrArg Value.bool (by first | (symm; apply decide_eq_false; intro h; first | (refine hgd ?_; rw [h]; done) | (refine hcond ?_; rw [h]; done) | (simp only [Bool.not_eq_true', decide_eq_false_iff_not] at hgd; refine hgd ?_; rw [h]; done) | (simp only [Bool.not_eq_true', decide_eq_false_iff_not] at hcond; refine hcond ?_; rw [h]; done) | (rw [h, heb] at hea; injection hea with hea; exact hcond hea.symm)) | (exact Codec.same_true (Codec.delta_ext (by simpa using hp128) (by simpa using hNONE) (Codec.take_end hp28 ht63 hp128)))))
      have hq129 : Z.Ch [] w w32 := hq29.then hc33
      refine Z.ret1 hf Try.results23 rfl ?_
      exact ⟨rfl, hq129⟩

set_option maxHeartbeats 1000000 in
set_option maxRecDepth 20000 in
theorem SameMsg_spec (x : D36) (y : D36) (w : World) (pA0 : Option Addr) (pc0 : Nat) (pA1 : Option Addr) (pc1 : Nat) (pA2 : Option Addr) (pc2 : Nat) (pA3 : Option Addr) (pc3 : Nat) (pA4 : Option Addr) (pc4 : Nat) (pA5 : Option Addr) (pc5 : Nat) (pA6 : Option Addr) (pc6 : Nat) (pA7 : Option Addr) (pc7 : Nat) (pA8 : Option Addr) (pc8 : Nat) (pA9 : Option Addr) (pc9 : Nat) (pA10 : Option Addr) (pc10 : Nat) (pA11 : Option Addr) (pc11 : Nat) (ph0 : (Z.Ty.slice T59).rep w (Z.nt []) [.slice pA0 x.2.2.2.2.1.length pc0] x.2.2.2.2.1) (ph1 : (Z.Ty.slice T70).rep w (Z.nt []) [.slice pA1 x.2.2.2.2.2.1.length pc1] x.2.2.2.2.2.1) (ph2 : (Z.Ty.slice (Z.Ty.int .i64)).rep w (Z.nt []) [.slice pA2 x.2.2.2.2.2.2.1.1.length pc2] x.2.2.2.2.2.2.1.1) (ph3 : (Z.Ty.slice T85).rep w (Z.nt []) [.slice pA3 x.2.2.2.2.2.2.1.2.1.length pc3] x.2.2.2.2.2.2.1.2.1) (ph4 : (Z.Ty.slice T63).rep w (Z.nt []) [.slice pA4 x.2.2.2.2.2.2.1.2.2.length pc4] x.2.2.2.2.2.2.1.2.2) (ph5 : (Z.Ty.slice T57).rep w (Z.nt []) [.slice pA5 x.2.2.2.2.2.2.2.2.1.length pc5] x.2.2.2.2.2.2.2.2.1) (pk6 : Z.Ty.ok T36 x) (ph6 : (Z.Ty.slice T59).rep w (Z.nt []) [.slice pA6 y.2.2.2.2.1.length pc6] y.2.2.2.2.1) (ph7 : (Z.Ty.slice T70).rep w (Z.nt []) [.slice pA7 y.2.2.2.2.2.1.length pc7] y.2.2.2.2.2.1) (ph8 : (Z.Ty.slice (Z.Ty.int .i64)).rep w (Z.nt []) [.slice pA8 y.2.2.2.2.2.2.1.1.length pc8] y.2.2.2.2.2.2.1.1) (ph9 : (Z.Ty.slice T85).rep w (Z.nt []) [.slice pA9 y.2.2.2.2.2.2.1.2.1.length pc9] y.2.2.2.2.2.2.1.2.1) (ph10 : (Z.Ty.slice T63).rep w (Z.nt []) [.slice pA10 y.2.2.2.2.2.2.1.2.2.length pc10] y.2.2.2.2.2.2.1.2.2) (ph11 : (Z.Ty.slice T57).rep w (Z.nt []) [.slice pA11 y.2.2.2.2.2.2.2.2.1.length pc11] y.2.2.2.2.2.2.2.2.1) (pk13 : Z.Ty.ok T36 y)  :
    Calls Try.prog 9 #[.agg #[.int .i64 x.1, .int .i64 x.2.1, .int .i64 x.2.2.1.1, .int .i64 x.2.2.1.2, .int .i64 x.2.2.2.1.1, .int .i64 x.2.2.2.1.2.1, .int .i64 x.2.2.2.1.2.2.1, .int .i64 x.2.2.2.1.2.2.2.1, .int .i64 x.2.2.2.1.2.2.2.2.1, .int .i64 x.2.2.2.1.2.2.2.2.2, .slice pA0 x.2.2.2.2.1.length pc0, .slice pA1 x.2.2.2.2.2.1.length pc1, .slice pA2 x.2.2.2.2.2.2.1.1.length pc2, .slice pA3 x.2.2.2.2.2.2.1.2.1.length pc3, .slice pA4 x.2.2.2.2.2.2.1.2.2.length pc4, .int .i64 x.2.2.2.2.2.2.2.1, .slice pA5 x.2.2.2.2.2.2.2.2.1.length pc5, .bool x.2.2.2.2.2.2.2.2.2.1, .int .i64 x.2.2.2.2.2.2.2.2.2.2], .agg #[.int .i64 y.1, .int .i64 y.2.1, .int .i64 y.2.2.1.1, .int .i64 y.2.2.1.2, .int .i64 y.2.2.2.1.1, .int .i64 y.2.2.2.1.2.1, .int .i64 y.2.2.2.1.2.2.1, .int .i64 y.2.2.2.1.2.2.2.1, .int .i64 y.2.2.2.1.2.2.2.2.1, .int .i64 y.2.2.2.1.2.2.2.2.2, .slice pA6 y.2.2.2.2.1.length pc6, .slice pA7 y.2.2.2.2.2.1.length pc7, .slice pA8 y.2.2.2.2.2.2.1.1.length pc8, .slice pA9 y.2.2.2.2.2.2.1.2.1.length pc9, .slice pA10 y.2.2.2.2.2.2.1.2.2.length pc10, .int .i64 y.2.2.2.2.2.2.2.1, .slice pA11 y.2.2.2.2.2.2.2.2.1.length pc11, .bool y.2.2.2.2.2.2.2.2.2.1, .int .i64 y.2.2.2.2.2.2.2.2.2.2]] w fun e w' => e = .returned (.bool (decide (x = y))) ∧ Z.Ch [] w w' := by
  refine Z.enter Try.func9 rfl Try.ntmps9 (Nat.le_of_ble_eq_true rfl) fun a hf => ?_
  have hle_pA0 := Z.rep_le ph0
  have ph0o := Z.rep_ol ph0
  have hle_pA1 := Z.rep_le ph1
  have ph1o := Z.rep_ol ph1
  have hle_pA2 := Z.rep_le ph2
  have ph2o := Z.rep_ol ph2
  have hle_pA3 := Z.rep_le ph3
  have ph3o := Z.rep_ol ph3
  have hle_pA4 := Z.rep_le ph4
  have ph4o := Z.rep_ol ph4
  have hle_pA5 := Z.rep_le ph5
  have ph5o := Z.rep_ol ph5
  have hle_pA6 := Z.rep_le ph6
  have ph6o := Z.rep_ol ph6
  have hle_pA7 := Z.rep_le ph7
  have ph7o := Z.rep_ol ph7
  have hle_pA8 := Z.rep_le ph8
  have ph8o := Z.rep_ol ph8
  have hle_pA9 := Z.rep_le ph9
  have ph9o := Z.rep_ol ph9
  have hle_pA10 := Z.rep_le ph10
  have ph10o := Z.rep_ol ph10
  have hle_pA11 := Z.rep_le ph11
  have ph11o := Z.rep_ol ph11
  refine Z.seq' (Z.Pq.body _ _ _) fun Q1 hp2 hn3 he4 => ?_
  refine Z.reg ?_
  refine Z.st_box hf rfl rfl rfl ?_; clear hf a; intro g5 w6 a hg7 hz8 hb9 hc10 hf
  refine Z.st_box hf rfl rfl rfl ?_; clear hf a; intro g11 w12 a hg13 hz14 hb15 hc16 hf
  refine Z.qe [.n] [] [] [] Z.k0 hf ?_; clear hf a; intro a hf
  refine hn3 _ _ ?_
  refine Z.seq' (Z.Pq.body _ _ _) fun Q17 hp18 hn19 he20 => ?_
  refine Z.seq' hp18 fun Q21 hp22 hn23 he24 => ?_
  refine Z.reg ?_
  have hb25 := hb9.ch0 hc16
  refine Z.qr [.n, .b 0 0, .n, .b 1 0, .n, .n] [11] [] [(11, .bool (decide (x.1 ≠ y.1)))] (Z.kb hb25 (Z.kb hb15 Z.k0)) hf ?_; clear hf a; intro a hf
  by_cases hdec : x.1 ≠ y.1 <;> revert hdec
  · intro hp26
    have hgd := hp26
    replace hf := hf.setb (d := 11) (b' := true) rfl (decide_eq_true hp26)
    refine Z.qe [.off, .off, .off, .off, .off, .n, .n, .off, .off, .off, .off, .off, .n, .n, .off, .off, .off, .off, .off, .n, .n, .off, .off, .off, .off, .off, .n, .n, .off, .off, .off, .off, .off, .n, .n, .off, .off, .off, .off, .off, .n, .n, .off, .off, .off, .off, .off, .off, .off, .n] [61] [] [(61, .bool true)] Z.k0 hf ?_; clear hf a; intro a hf
    refine hn23 _ _ ?_
    refine Z.condt hf rfl ?_
    refine Z.qseq [.n] [4] [] [(4, .bool false)] Z.k0 hf ?_; clear hf a; intro a hf
    refine Z.ret ?_
    refine he20 _ _ _ (by simp) ?_
    replace hf := hf.setv (d := 4) (y := .bool (decide (x = y))) rfl (congrArg Value.bool (by first | (symm; apply decide_eq_false; intro h; first | (refine hgd ?_; rw [h]; done) | (refine hcond ?_; rw [h]; done) | (simp only [Bool.not_eq_true', decide_eq_false_iff_not] at hgd; refine hgd ?_; rw [h]; done) | (simp only [Bool.not_eq_true', decide_eq_false_iff_not] at hcond; refine hcond ?_; rw [h]; done) | (rw [h, heb] at hea; injection hea with hea; exact hcond hea.symm)) | (exact Codec.msg_iff (Codec.not_ne hp26) (Codec.not_ne hNONE) (Codec.not_ne hNONE) (Codec.not_ne hNONE) (Codec.not_ne hNONE) (Codec.not_ne hNONE) (Codec.not_ne hNONE) (Codec.take_end hNONE hNONE hNONE) hNONE hNONE)))
    have hq27 : Z.Ch [] w w12 := hc10.then hc16
    refine Z.ret1 hf Try.results9 rfl ?_
    exact ⟨rfl, hq27⟩
  · intro hp28
    have hgd := hp28
    replace hf := hf.setb (d := 11) (b' := false) rfl (decide_eq_false hp28)
    refine Z.qr [(.on .n), (.on (.b 0 1)), (.on .n), (.on (.b 1 1)), (.on .n), .n, .n] [18] [] [(18, .bool (decide (x.2.1 ≠ y.2.1)))] (Z.kb hb25 (Z.kb hb15 Z.k0)) hf ?_; clear hf a; intro a hf
    by_cases hdec : x.2.1 ≠ y.2.1 <;> revert hdec
    · intro hp29
      have hgd := hp29
      replace hf := hf.setb (d := 18) (b' := true) rfl (decide_eq_true hp29)
      refine Z.qe [.off, .off, .off, .off, .off, .n, .n, .off, .off, .off, .off, .off, .n, .n, .off, .off, .off, .off, .off, .n, .n, .off, .off, .off, .off, .off, .n, .n, .off, .off, .off, .off, .off, .n, .n, .off, .off, .off, .off, .off, .off, .off, .n] [61] [] [(61, .bool true)] Z.k0 hf ?_; clear hf a; intro a hf
      refine hn23 _ _ ?_
      refine Z.condt hf rfl ?_
      refine Z.qseq [.n] [4] [] [(4, .bool false)] Z.k0 hf ?_; clear hf a; intro a hf
      refine Z.ret ?_
      refine he20 _ _ _ (by simp) ?_
      replace hf := hf.setv (d := 4) (y := .bool (decide (x = y))) rfl (congrArg Value.bool (by first | (symm; apply decide_eq_false; intro h; first | (refine hgd ?_; rw [h]; done) | (refine hcond ?_; rw [h]; done) | (simp only [Bool.not_eq_true', decide_eq_false_iff_not] at hgd; refine hgd ?_; rw [h]; done) | (simp only [Bool.not_eq_true', decide_eq_false_iff_not] at hcond; refine hcond ?_; rw [h]; done) | (rw [h, heb] at hea; injection hea with hea; exact hcond hea.symm)) | (exact Codec.msg_iff (Codec.not_ne hp28) (Codec.not_ne hp29) (Codec.not_ne hNONE) (Codec.not_ne hNONE) (Codec.not_ne hNONE) (Codec.not_ne hNONE) (Codec.not_ne hNONE) (Codec.take_end hNONE hNONE hNONE) hNONE hNONE)))
      have hq30 : Z.Ch [] w w12 := hc10.then hc16
      refine Z.ret1 hf Try.results9 rfl ?_
      exact ⟨rfl, hq30⟩
    · intro hp31
      have hgd := hp31
      replace hf := hf.setb (d := 18) (b' := false) rfl (decide_eq_false hp31)
      refine Z.qr [(.on .n), (.on (.b 0 2)), (.on .n), (.on (.b 1 2))] [20, 22] [] [(20, .agg #[.int .i64 x.2.2.1.1, .int .i64 x.2.2.1.2]), (22, .agg #[.int .i64 y.2.2.1.1, .int .i64 y.2.2.1.2])] (Z.kb hb25 (Z.kb hb15 Z.k0)) hf ?_; clear hf a; intro a hf
      refine Z.on hf rfl rfl ?_
      refine Z.val hf rfl (eqagg_neq23 (x := x.2.2.1) (y := y.2.2.1) (hf.eval rfl) (hf.eval rfl)) ?_; clear hf a; intro a hf
      refine Z.qr [.n, .n] [25] [] [(25, .bool (decide (x.2.2.1 ≠ y.2.2.1)))] Z.k0 hf ?_; clear hf a; intro a hf
      by_cases hdec : x.2.2.1 ≠ y.2.2.1 <;> revert hdec
      · intro hp32
        have hgd := hp32
        replace hf := hf.setb (d := 25) (b' := true) rfl (decide_eq_true hp32)
        refine Z.qe [.off, .off, .off, .off, .off, .n, .n, .off, .off, .off, .off, .off, .n, .n, .off, .off, .off, .off, .off, .n, .n, .off, .off, .off, .off, .off, .n, .n, .off, .off, .off, .off, .off, .off, .off, .n] [61] [] [(61, .bool true)] Z.k0 hf ?_; clear hf a; intro a hf
        refine hn23 _ _ ?_
        refine Z.condt hf rfl ?_
        refine Z.qseq [.n] [4] [] [(4, .bool false)] Z.k0 hf ?_; clear hf a; intro a hf
        refine Z.ret ?_
        refine he20 _ _ _ (by simp) ?_
        replace hf := hf.setv (d := 4) (y := .bool (decide (x = y))) rfl (congrArg Value.bool (by first | (symm; apply decide_eq_false; intro h; first | (refine hgd ?_; rw [h]; done) | (refine hcond ?_; rw [h]; done) | (simp only [Bool.not_eq_true', decide_eq_false_iff_not] at hgd; refine hgd ?_; rw [h]; done) | (simp only [Bool.not_eq_true', decide_eq_false_iff_not] at hcond; refine hcond ?_; rw [h]; done) | (rw [h, heb] at hea; injection hea with hea; exact hcond hea.symm)) | (exact Codec.msg_iff (Codec.not_ne hp28) (Codec.not_ne hp31) (Codec.not_ne hp32) (Codec.not_ne hNONE) (Codec.not_ne hNONE) (Codec.not_ne hNONE) (Codec.not_ne hNONE) (Codec.take_end hNONE hNONE hNONE) hNONE hNONE)))
        have hq33 : Z.Ch [] w w12 := hc10.then hc16
        refine Z.ret1 hf Try.results9 rfl ?_
        exact ⟨rfl, hq33⟩
      · intro hp34
        have hgd := hp34
        replace hf := hf.setb (d := 25) (b' := false) rfl (decide_eq_false hp34)
        refine Z.qr [(.on .n), (.on (.b 0 4)), (.on .n), (.on (.b 1 4))] [27, 29] [] [(27, .agg #[.int .i64 x.2.2.2.1.1, .int .i64 x.2.2.2.1.2.1, .int .i64 x.2.2.2.1.2.2.1, .int .i64 x.2.2.2.1.2.2.2.1, .int .i64 x.2.2.2.1.2.2.2.2.1, .int .i64 x.2.2.2.1.2.2.2.2.2]), (29, .agg #[.int .i64 y.2.2.2.1.1, .int .i64 y.2.2.2.1.2.1, .int .i64 y.2.2.2.1.2.2.1, .int .i64 y.2.2.2.1.2.2.2.1, .int .i64 y.2.2.2.1.2.2.2.2.1, .int .i64 y.2.2.2.1.2.2.2.2.2])] (Z.kb hb25 (Z.kb hb15 Z.k0)) hf ?_; clear hf a; intro a hf
        refine Z.on hf rfl rfl ?_
        refine Z.val hf rfl (eqagg_neq26 (x := x.2.2.2.1) (y := y.2.2.2.1) (hf.eval rfl) (hf.eval rfl)) ?_; clear hf a; intro a hf
        refine Z.qr [.n, .n] [32] [] [(32, .bool (decide (x.2.2.2.1 ≠ y.2.2.2.1)))] Z.k0 hf ?_; clear hf a; intro a hf
        by_cases hdec : x.2.2.2.1 ≠ y.2.2.2.1 <;> revert hdec
        · intro hp35
          have hgd := hp35
          replace hf := hf.setb (d := 32) (b' := true) rfl (decide_eq_true hp35)
          refine Z.qe [.off, .off, .off, .off, .off, .n, .n, .off, .off, .off, .off, .off, .n, .n, .off, .off, .off, .off, .off, .n, .n, .off, .off, .off, .off, .off, .off, .off, .n] [61] [] [(61, .bool true)] Z.k0 hf ?_; clear hf a; intro a hf
          refine hn23 _ _ ?_
          refine Z.condt hf rfl ?_
          refine Z.qseq [.n] [4] [] [(4, .bool false)] Z.k0 hf ?_; clear hf a; intro a hf
          refine Z.ret ?_
          refine he20 _ _ _ (by simp) ?_
          replace hf := hf.setv (d := 4) (y := .bool (decide (x = y))) rfl (congrArg Value.bool (by first | (symm; apply decide_eq_false; intro h; first | (refine hgd ?_; rw [h]; done) | (refine hcond ?_; rw [h]; done) | (simp only [Bool.not_eq_true', decide_eq_false_iff_not] at hgd; refine hgd ?_; rw [h]; done) | (simp only [Bool.not_eq_true', decide_eq_false_iff_not] at hcond; refine hcond ?_; rw [h]; done) | (rw [h, heb] at hea; injection hea with hea; exact hcond hea.symm)) | (exact Codec.msg_iff (Codec.not_ne hp28) (Codec.not_ne hp31) (Codec.not_ne hp34) (Codec.not_ne hp35) (Codec.not_ne hNONE) (Codec.not_ne hNONE) (Codec.not_ne hNONE) (Codec.take_end hNONE hNONE hNONE) hNONE hNONE)))
          have hq36 : Z.Ch [] w w12 := hc10.then hc16
          refine Z.ret1 hf Try.results9 rfl ?_
          exact ⟨rfl, hq36⟩
        · intro hp37
          have hgd := hp37
          replace hf := hf.setb (d := 32) (b' := false) rfl (decide_eq_false hp37)
          refine Z.qr [(.on .n), (.on (.b 0 15)), (.on .n), (.on (.b 1 15)), (.on .n), .n, .n] [39] [] [(39, .bool (decide (x.2.2.2.2.2.2.2.1 ≠ y.2.2.2.2.2.2.2.1)))] (Z.kb hb25 (Z.kb hb15 Z.k0)) hf ?_; clear hf a; intro a hf
          by_cases hdec : x.2.2.2.2.2.2.2.1 ≠ y.2.2.2.2.2.2.2.1 <;> revert hdec
          · intro hp38
            have hgd := hp38
            replace hf := hf.setb (d := 39) (b' := true) rfl (decide_eq_true hp38)
            refine Z.qe [.off, .off, .off, .off, .off, .n, .n, .off, .off, .off, .off, .off, .n, .n, .off, .off, .off, .off, .off, .off, .off, .n] [61] [] [(61, .bool true)] Z.k0 hf ?_; clear hf a; intro a hf
            refine hn23 _ _ ?_
            refine Z.condt hf rfl ?_
            refine Z.qseq [.n] [4] [] [(4, .bool false)] Z.k0 hf ?_; clear hf a; intro a hf
            refine Z.ret ?_
            refine he20 _ _ _ (by simp) ?_
            replace hf := hf.setv (d := 4) (y := .bool (decide (x = y))) rfl (congrArg Value.bool (by first | (symm; apply decide_eq_false; intro h; first | (refine hgd ?_; rw [h]; done) | (refine hcond ?_; rw [h]; done) | (simp only [Bool.not_eq_true', decide_eq_false_iff_not] at hgd; refine hgd ?_; rw [h]; done) | (simp only [Bool.not_eq_true', decide_eq_false_iff_not] at hcond; refine hcond ?_; rw [h]; done) | (rw [h, heb] at hea; injection hea with hea; exact hcond hea.symm)) | (exact Codec.msg_iff (Codec.not_ne hp28) (Codec.not_ne hp31) (Codec.not_ne hp34) (Codec.not_ne hp37) (Codec.not_ne hp38) (Codec.not_ne hNONE) (Codec.not_ne hNONE) (Codec.take_end hNONE hNONE hNONE) hNONE hNONE)))
            have hq39 : Z.Ch [] w w12 := hc10.then hc16
            refine Z.ret1 hf Try.results9 rfl ?_
            exact ⟨rfl, hq39⟩
          · intro hp40
            have hgd := hp40
            replace hf := hf.setb (d := 39) (b' := false) rfl (decide_eq_false hp40)
            refine Z.qr [(.on .n), (.on (.b 0 17)), (.on .n), (.on (.b 1 17)), (.on .n), .n, .n] [46] [] [(46, .bool (decide (x.2.2.2.2.2.2.2.2.2.1 ≠ y.2.2.2.2.2.2.2.2.2.1)))] (Z.kb hb25 (Z.kb hb15 Z.k0)) hf ?_; clear hf a; intro a hf
            by_cases hdec : x.2.2.2.2.2.2.2.2.2.1 ≠ y.2.2.2.2.2.2.2.2.2.1 <;> revert hdec
            · intro hp41
              have hgd := hp41
              replace hf := hf.setb (d := 46) (b' := true) rfl (decide_eq_true hp41)
              refine Z.qe [.off, .off, .off, .off, .off, .n, .n, .off, .off, .off, .off, .off, .off, .off, .n] [61] [] [(61, .bool true)] Z.k0 hf ?_; clear hf a; intro a hf
              refine hn23 _ _ ?_
              refine Z.condt hf rfl ?_
              refine Z.qseq [.n] [4] [] [(4, .bool false)] Z.k0 hf ?_; clear hf a; intro a hf
              refine Z.ret ?_
              refine he20 _ _ _ (by simp) ?_
              replace hf := hf.setv (d := 4) (y := .bool (decide (x = y))) rfl (congrArg Value.bool (by first | (symm; apply decide_eq_false; intro h; first | (refine hgd ?_; rw [h]; done) | (refine hcond ?_; rw [h]; done) | (simp only [Bool.not_eq_true', decide_eq_false_iff_not] at hgd; refine hgd ?_; rw [h]; done) | (simp only [Bool.not_eq_true', decide_eq_false_iff_not] at hcond; refine hcond ?_; rw [h]; done) | (rw [h, heb] at hea; injection hea with hea; exact hcond hea.symm)) | (exact Codec.msg_iff (Codec.not_ne hp28) (Codec.not_ne hp31) (Codec.not_ne hp34) (Codec.not_ne hp37) (Codec.not_ne hp40) (Codec.not_ne hp41) (Codec.not_ne hNONE) (Codec.take_end hNONE hNONE hNONE) hNONE hNONE)))
              have hq42 : Z.Ch [] w w12 := hc10.then hc16
              refine Z.ret1 hf Try.results9 rfl ?_
              exact ⟨rfl, hq42⟩
            · intro hp43
              have hgd := hp43
              replace hf := hf.setb (d := 46) (b' := false) rfl (decide_eq_false hp43)
              refine Z.qr [(.on .n), (.on (.b 0 18)), (.on .n), (.on (.b 1 18)), (.on .n), .n, .n] [53] [] [(53, .bool (decide (x.2.2.2.2.2.2.2.2.2.2 ≠ y.2.2.2.2.2.2.2.2.2.2)))] (Z.kb hb25 (Z.kb hb15 Z.k0)) hf ?_; clear hf a; intro a hf
              by_cases hdec : x.2.2.2.2.2.2.2.2.2.2 ≠ y.2.2.2.2.2.2.2.2.2.2 <;> revert hdec
              · intro hp44
                have hgd := hp44
                replace hf := hf.setb (d := 53) (b' := true) rfl (decide_eq_true hp44)
                refine Z.qe [.off, .off, .off, .off, .off, .off, .off, .n] [61] [] [(61, .bool true)] Z.k0 hf ?_; clear hf a; intro a hf
                refine hn23 _ _ ?_
                refine Z.condt hf rfl ?_
                refine Z.qseq [.n] [4] [] [(4, .bool false)] Z.k0 hf ?_; clear hf a; intro a hf
                refine Z.ret ?_
                refine he20 _ _ _ (by simp) ?_
                replace hf := hf.setv (d := 4) (y := .bool (decide (x = y))) rfl (congrArg Value.bool (by first | (symm; apply decide_eq_false; intro h; first | (refine hgd ?_; rw [h]; done) | (refine hcond ?_; rw [h]; done) | (simp only [Bool.not_eq_true', decide_eq_false_iff_not] at hgd; refine hgd ?_; rw [h]; done) | (simp only [Bool.not_eq_true', decide_eq_false_iff_not] at hcond; refine hcond ?_; rw [h]; done) | (rw [h, heb] at hea; injection hea with hea; exact hcond hea.symm)) | (exact Codec.msg_iff (Codec.not_ne hp28) (Codec.not_ne hp31) (Codec.not_ne hp34) (Codec.not_ne hp37) (Codec.not_ne hp40) (Codec.not_ne hp43) (Codec.not_ne hp44) (Codec.take_end hNONE hNONE hNONE) hNONE hNONE)))
                have hq45 : Z.Ch [] w w12 := hc10.then hc16
                refine Z.ret1 hf Try.results9 rfl ?_
                exact ⟨rfl, hq45⟩
              · intro hp46
                have hgd := hp46
                replace hf := hf.setb (d := 53) (b' := false) rfl (decide_eq_false hp46)
                refine Z.qe [(.on .n), (.on (.b 0 11)), (.on .n), (.on .n), (.on (.b 1 11)), (.on .n), (.on .n), .n] [61] [] [(61, .bool (decide ((x.2.2.2.2.2.1.length : Int) ≠ (y.2.2.2.2.2.1.length : Int))))] (Z.kb hb25 (Z.kb hb15 Z.k0)) hf ?_; clear hf a; intro a hf
                refine hn23 _ _ ?_
                refine Z.condp hf rfl ?_ ?_
                · intro hp47
                  have hcond := hp47
                  refine Z.qseq [.n] [4] [] [(4, .bool false)] Z.k0 hf ?_; clear hf a; intro a hf
                  refine Z.ret ?_
                  refine he20 _ _ _ (by simp) ?_
                  replace hf := hf.setv (d := 4) (y := .bool (decide (x = y))) rfl (congrArg Value.bool (by first | (symm; apply decide_eq_false; intro h; first | (refine hgd ?_; rw [h]; done) | (refine hcond ?_; rw [h]; done) | (simp only [Bool.not_eq_true', decide_eq_false_iff_not] at hgd; refine hgd ?_; rw [h]; done) | (simp only [Bool.not_eq_true', decide_eq_false_iff_not] at hcond; refine hcond ?_; rw [h]; done) | (rw [h, heb] at hea; injection hea with hea; exact hcond hea.symm)) | (exact Codec.msg_iff (Codec.not_ne hp28) (Codec.not_ne hp31) (Codec.not_ne hp34) (Codec.not_ne hp37) (Codec.not_ne hp40) (Codec.not_ne hp43) (Codec.not_ne hp46) (Codec.take_end hp47 hNONE hNONE) hNONE hNONE)))
                  have hq48 : Z.Ch [] w w12 := hc10.then hc16
                  refine Z.ret1 hf Try.results9 rfl ?_
                  exact ⟨rfl, hq48⟩
                · intro hp49
                  have hcond := hp49
                  refine Z.skip ?_
                  refine hn19 _ _ ?_
                  refine Z.seq' (Z.Pq.body _ _ _) fun Q50 hp51 hn52 he53 => ?_
                  refine Z.qseq [.n] [5] [] [(5, .int .i64 0)] Z.k0 hf ?_; clear hf a; intro a hf
                  refine Z.block' hp51 fun Q54 hp55 hn56 hx57 he58 => ?_
                  refine Z.loop' hp55 (fun m a wl => ∃ (k : Nat), m = x.2.2.2.2.2.1.length - k ∧ Z.Ch [] w12 wl ∧ (k ≤ x.2.2.2.2.2.1.length) ∧ (x.2.2.2.2.2.1.take k = y.2.2.2.2.2.1.take k) ∧ Z.Fr a 99 [] [(2, .pointer (some ⟨g5, 0, none⟩)), (3, .pointer (some ⟨g11, 0, none⟩)), (5, .int .i64 (k : Int))]) (x.2.2.2.2.2.1.length - 0) ?_ ?_
                  · replace hf := hf.setv (d := 5) (y := .int .i64 (0 : Int)) rfl (congrArg (Value.int .i64) (by first | rfl | omega | (simp; done) | (simp; omega)))
                    exact ⟨0, rfl, (Z.Ch.refl w12), (by omega), (by simp), (hf.keep [2, 3, 5])⟩
                  · rintro m69 a w59 ⟨k62, hm61, hc60, hk67, ht68, hf⟩ Q63 hp64 hn65 he66
                    have hzhc60 := hc60.size
                    refine Z.seq' hp64 fun Q70 hp71 hn72 he73 => ?_
                    have hb74 := hb25.ch0 hc60
                    refine Z.qseq [.n, .n, .b 0 11, .n, .n] [66] [] [(66, .bool (decide ((k62 : Int) < (x.2.2.2.2.2.1.length : Int))))] (Z.kb hb74 Z.k0) hf ?_; clear hf a; intro a hf
                    refine Z.condp hf rfl ?_ ?_
                    · intro hp75
                      have hcond := hp75
                      refine Z.skip ?_
                      refine hn72 _ _ ?_
                      refine Z.seq' hp64 fun Q76 hp77 hn78 he79 => ?_
                      refine Z.block' hp77 fun Q80 hp81 hn82 hx83 he84 => ?_
                      refine Z.seq' hp81 fun Q85 hp86 hn87 he88 => ?_
                      refine Z.dr_reg (S := fun w' => Z.Ch [] w59 w') mixed ?_; intro w89 hc90 hz91
                      have hb92 := hb15.ch0 hc60
                      refine Z.dqr [true, true, true, false, false, true, true, true, false, false, false] 5 [(0, .n), (1, .b 0 11), (2, .n), (5, .n), (6, .b 1 11), (7, .n)] [70, 71, 75, 76] [] [(70, .slice pA1 x.2.2.2.2.2.1.length pc1), (71, .int .i64 (k62 : Int)), (75, .slice pA7 y.2.2.2.2.2.1.length pc7), (76, .int .i64 (k62 : Int))] hp86 hc90 (fun w hw => (Z.kb (hb74.ch0 hw) (Z.kb (hb92.ch0 hw) Z.k0))) hf ?_; clear hf a; intro a hf
                      have hq93 : Z.Ch [] w w12 := hc10.then hc16
                      have hq94 : Z.Ch [] w w59 := hq93.then hc60
                      have hr95 := Z.rep_to (F' := (Z.ol [] w.heap.size)) ph1o hq94
                      have hkx98 : k62 < (x.2.2.2.2.2.1).length := (by omega)
                      obtain ⟨ad96, es97, x98, hA99, hF100, hl101, hx102, hc103, hr104⟩ := Z.rep_el hr95 hkx98
                      have hok105 := Z.rep_ok _ hr104
                      obtain ⟨ca106, cb107, he108, hr109, hr110⟩ := hr104
                      obtain ⟨ca111, cb112, he113, hr114, hr115⟩ := hr109
                      have he116 := hr114.1
                      have he117 := hr115.1
                      obtain ⟨ca118, cb119, he120, hr121, hr122⟩ := hr110
                      obtain ⟨ca123, cb124, he125, hr126, hr127⟩ := hr121
                      have he128 := hr126.1
                      obtain ⟨ca129, cb130, he131, hr132, hr133⟩ := hr127
                      have he134 := hr132.1
                      obtain ⟨ca135, cb136, he137, hr138, hr139⟩ := hr133
                      have he140 := hr138.1
                      obtain ⟨ca141, cb142, he143, hr144, hr145⟩ := hr139
                      have he146 := hr144.1
                      obtain ⟨ca147, cb148, he149, hr150, hr151⟩ := hr145
                      have he152 := hr150.1
                      have he153 := hr151.1
                      have he154 := hr122.1
                      have he155 : es97 = [.int .i64 x98.1.1, .int .i64 x98.1.2, .int .i64 x98.2.1.1, .int .i64 x98.2.1.2.1, .int .i64 x98.2.1.2.2.1, .int .i64 x98.2.1.2.2.2.1, .int .i64 x98.2.1.2.2.2.2.1, .int .i64 x98.2.1.2.2.2.2.2, .int .i64 x98.2.2] := by simp only [he108, he113, he116, he117, he120, he125, he128, he131, he134, he137, he140, he143, he146, he149, he152, he153, he154, List.cons_append, List.nil_append]
                      rw [he155] at hc103
                      have hea := hx102
                      refine Z.dr_val 3 hf rfl rfl (by kernel_rfl) (by kernel_rfl) hp86 hc90 Z.wanted_none (fun _ hw => Z.r_indexAddrE Try.underlying28 Try.sizeOf71 (hf.eval rfl) hA99 (hf.eval rfl) (k := k62) (by first | rfl | omega) (by omega)) ?_; clear hf a; intro a hf
                      refine Z.dqr [true, true, true, true, true, true, true, true, false, false, false] 3 [(4, .e 0 0)] [73] [] [(73, .agg #[.int .i64 x98.1.1, .int .i64 x98.1.2, .int .i64 x98.2.1.1, .int .i64 x98.2.1.2.1, .int .i64 x98.2.1.2.2.1, .int .i64 x98.2.1.2.2.2.1, .int .i64 x98.2.1.2.2.2.2.1, .int .i64 x98.2.1.2.2.2.2.2, .int .i64 x98.2.2])] hp86 hc90 (fun w hw => (Z.ke (hc103.ch0 hw) Z.k0)) hf ?_; clear hf a; intro a hf
                      have hq156 : Z.Ch [] w w12 := hc10.then hc16
                      have hq157 : Z.Ch [] w w59 := hq156.then hc60
                      have hr158 := Z.rep_to (F' := (Z.ol [] w.heap.size)) ph7o hq157
                      have hkx161 : k62 < (y.2.2.2.2.2.1).length := (by omega)
                      obtain ⟨ad159, es160, x161, hA162, hF163, hl164, hx165, hc166, hr167⟩ := Z.rep_el hr158 hkx161
                      have hok168 := Z.rep_ok _ hr167
                      obtain ⟨ca169, cb170, he171, hr172, hr173⟩ := hr167
                      obtain ⟨ca174, cb175, he176, hr177, hr178⟩ := hr172
                      have he179 := hr177.1
                      have he180 := hr178.1
                      obtain ⟨ca181, cb182, he183, hr184, hr185⟩ := hr173
                      obtain ⟨ca186, cb187, he188, hr189, hr190⟩ := hr184
                      have he191 := hr189.1
                      obtain ⟨ca192, cb193, he194, hr195, hr196⟩ := hr190
                      have he197 := hr195.1
                      obtain ⟨ca198, cb199, he200, hr201, hr202⟩ := hr196
                      have he203 := hr201.1
                      obtain ⟨ca204, cb205, he206, hr207, hr208⟩ := hr202
                      have he209 := hr207.1
                      obtain ⟨ca210, cb211, he212, hr213, hr214⟩ := hr208
                      have he215 := hr213.1
                      have he216 := hr214.1
                      have he217 := hr185.1
                      have he218 : es160 = [.int .i64 x161.1.1, .int .i64 x161.1.2, .int .i64 x161.2.1.1, .int .i64 x161.2.1.2.1, .int .i64 x161.2.1.2.2.1, .int .i64 x161.2.1.2.2.2.1, .int .i64 x161.2.1.2.2.2.2.1, .int .i64 x161.2.1.2.2.2.2.2, .int .i64 x161.2.2] := by simp only [he171, he176, he179, he180, he183, he188, he191, he194, he197, he200, he203, he206, he209, he212, he215, he216, he217, List.cons_append, List.nil_append]
                      rw [he218] at hc166
                      have heb := hx165
                      refine Z.dr_val 8 hf rfl rfl (by kernel_rfl) (by kernel_rfl) hp86 hc90 Z.wanted_none (fun _ hw => Z.r_indexAddrE Try.underlying28 Try.sizeOf71 (hf.eval rfl) hA162 (hf.eval rfl) (k := k62) (by first | rfl | omega) (by omega)) ?_; clear hf a; intro a hf
                      refine Z.dqr [true, true, true, true, true, true, true, true, true, true, false] 1 [(9, .e 0 0)] [78] [] [(78, .agg #[.int .i64 x161.1.1, .int .i64 x161.1.2, .int .i64 x161.2.1.1, .int .i64 x161.2.1.2.1, .int .i64 x161.2.1.2.2.1, .int .i64 x161.2.1.2.2.2.1, .int .i64 x161.2.1.2.2.2.2.1, .int .i64 x161.2.1.2.2.2.2.2, .int .i64 x161.2.2])] hp86 hc90 (fun w hw => (Z.ke (hc166.ch0 hw) Z.k0)) hf ?_; clear hf a; intro a hf
                      refine Z.dr_val 10 hf rfl rfl (by kernel_rfl) (by kernel_rfl) hp86 hc90 Z.wanted_none (fun _ hw => eqagg_neq71 (x := x98) (y := x161) (hf.eval rfl) (hf.eval rfl)) ?_; clear hf a; intro a hf
                      refine Z.dr_done (by kernel_rfl) ?_
                      refine hn87 _ _ ?_
                      refine Z.condp hf rfl ?_ ?_
                      · intro hp219
                        have hcond := hp219
                        refine Z.qseq [.n] [4] [] [(4, .bool false)] Z.k0 hf ?_; clear hf a; intro a hf
                        refine Z.ret ?_
                        refine he84 _ _ _ (by simp) (by simp) ?_
                        refine he79 _ _ _ (by simp) ?_
                        refine he66 _ _ _ (by simp) ?_
                        refine he58 _ _ _ (by simp) (by simp) ?_
                        refine he53 _ _ _ (by simp) ?_
                        replace hf := hf.setv (d := 4) (y := .bool (decide (x = y))) rfl (congrArg Value.bool (by first | (symm; apply decide_eq_false; intro h; first | (refine hgd ?_; rw [h]; done) | (refine hcond ?_; rw [h]; done) | (simp only [Bool.not_eq_true', decide_eq_false_iff_not] at hgd; refine hgd ?_; rw [h]; done) | (simp only [Bool.not_eq_true', decide_eq_false_iff_not] at hcond; refine hcond ?_; rw [h]; done) | (rw [h, heb] at hea; injection hea with hea; exact hcond hea.symm)) | (exact Codec.msg_iff (Codec.not_ne hp28) (Codec.not_ne hp31) (Codec.not_ne hp34) (Codec.not_ne hp37) (Codec.not_ne hp40) (Codec.not_ne hp43) (Codec.not_ne hp46) (Codec.take_end hp49 ht68 hp75) hp219 hNONE)))
                        have hq220 : Z.Ch [] w w12 := hc10.then hc16
                        have hq221 : Z.Ch [] w w59 := hq220.then hc60
                        have hq222 : Z.Ch [] w w89 := hq221.then hc90
                        refine Z.ret1 hf Try.results9 rfl ?_
                        exact ⟨rfl, hq222⟩
                      · intro hp223
                        have hcond := hp223
                        refine Z.skip ?_
                        refine hn82 _ _ ?_
                        refine hn78 _ _ ?_
                        refine Z.qreg [.n, .n, .n] [5] [Z.R64 ((k62 : Int) + 1)] [(5, .int .i64 ((k62 : Int) + 1))] Z.k0 hf ?_; clear hf a; intro a hf
                        refine hn65 (x.2.2.2.2.2.1.length - (k62 + 1)) _ _ ?_ ?_
                        rotate_left
                        replace hf := hf.setv (d := 5) (y := .int .i64 ((k62 + 1 : Nat) : Int)) rfl (congrArg (Value.int .i64) (by first | rfl | omega | (simp; done) | (simp; omega)))
                        have hq224 : Z.Ch [] w12 w89 := hc60.then hc90
                        exact ⟨k62 + 1, rfl, hq224, (by omega), (by exact Codec.take_step ht68 hea heb hcond), (hf.keep [2, 3, 5])⟩
                        rw [hm61]; omega
                    · intro hp225
                      have hcond := hp225
                      refine Z.exit ?_
                      refine he73 _ _ _ (by simp) ?_
                      refine he66 _ _ _ (by simp) ?_
                      refine hx57 _ _ ?_
                      refine hn52 _ _ ?_
                      refine Z.seq' (Z.Pq.body _ _ _) fun Q226 hp227 hn228 he229 => ?_
                      refine Z.reg ?_
                      have hb230 := hb15.ch0 hc60
                      refine Z.qr [.n, .b 0 10, .n, .b 1 10] [81, 83] [] [(81, .slice pA0 x.2.2.2.2.1.length pc0), (83, .slice pA6 y.2.2.2.2.1.length pc6)] (Z.kb hb74 (Z.kb hb230 Z.k0)) hf ?_; clear hf a; intro a hf
                      have hq231 : Z.Ch [] w w12 := hc10.then hc16
                      have hq232 : Z.Ch [] w w59 := hq231.then hc60
                      have hr233 := Z.rep_to (F' := (Z.nt [])) ph0o hq232
                      have hr234 := Z.rep_to (F' := (Z.nt [])) ph6o hq232
                      refine Z.call1 hf rfl (Z.r_call cf22 hf (xs := [.tmp 81, .tmp 83]) rfl) (sameRecs_spec x.2.2.2.2.1 y.2.2.2.2.1 w59 pA0 pc0 pA6 pc6 hr233 hr234) ?_; clear hf a
                      rintro _ w235 ⟨rfl, hc236⟩
                      have hzhc236 := hc236.size
                      refine ⟨_, rfl, ?_⟩; intro a hf
                      refine Z.qr [.n] [85] [] [(85, .bool (decide (x.2.2.2.2.1 = y.2.2.2.2.1)))] Z.k0 hf ?_; clear hf a; intro a hf
                      by_cases hdec : x.2.2.2.2.1 = y.2.2.2.2.1 <;> revert hdec
                      · intro hp237
                        have hgd := hp237
                        replace hf := hf.setb (d := 85) (b' := true) rfl (decide_eq_true hp237)
                        have hb238 := hb230.ch0 hc236
                        have hb239 := hb74.ch0 hc236
                        refine Z.qr [(.on .n), (.on (.b 0 12)), (.on .n), (.on (.b 1 12))] [87, 89] [] [(87, .agg #[.slice pA2 x.2.2.2.2.2.2.1.1.length pc2, .slice pA3 x.2.2.2.2.2.2.1.2.1.length pc3, .slice pA4 x.2.2.2.2.2.2.1.2.2.length pc4]), (89, .agg #[.slice pA8 y.2.2.2.2.2.2.1.1.length pc8, .slice pA9 y.2.2.2.2.2.2.1.2.1.length pc9, .slice pA10 y.2.2.2.2.2.2.1.2.2.length pc10])] (Z.kb hb239 (Z.kb hb238 Z.k0)) hf ?_; clear hf a; intro a hf
                        refine Z.on hf rfl rfl ?_
                        have hq240 : Z.Ch [] w w235 := hq232.then hc236
                        have hr241 := Z.rep_to (F' := (Z.nt [])) ph2o hq240
                        have hr242 := Z.rep_to (F' := (Z.nt [])) ph3o hq240
                        have hr243 := Z.rep_to (F' := (Z.nt [])) ph4o hq240
                        have hr244 := Z.rep_to (F' := (Z.nt [])) ph8o hq240
                        have hr245 := Z.rep_to (F' := (Z.nt [])) ph9o hq240
                        have hr246 := Z.rep_to (F' := (Z.nt [])) ph10o hq240
                        refine Z.call1 hf rfl (Z.r_call cf23 hf (xs := [.tmp 87, .tmp 89]) rfl) (SameDelta_spec x.2.2.2.2.2.2.1 y.2.2.2.2.2.2.1 w235 pA2 pc2 pA3 pc3 pA4 pc4 pA8 pc8 pA9 pc9 pA10 pc10 hr241 hr242 hr243 pk6.2.2.2.2.2.2.1 hr244 hr245 hr246 pk13.2.2.2.2.2.2.1) ?_; clear hf a
                        rintro _ w247 ⟨rfl, hc248⟩
                        have hzhc248 := hc248.size
                        refine ⟨_, rfl, ?_⟩; intro a hf
                        refine Z.qr [.n, .n] [92] [] [(92, .bool (decide (x.2.2.2.2.2.2.1 = y.2.2.2.2.2.2.1)))] Z.k0 hf ?_; clear hf a; intro a hf
                        by_cases hdec : x.2.2.2.2.2.2.1 = y.2.2.2.2.2.2.1 <;> revert hdec
                        · intro hp249
                          have hgd := hp249
                          replace hf := hf.setb (d := 92) (b' := true) rfl (decide_eq_true hp249)
                          have hb250 := hb238.ch0 hc248
                          have hb251 := hb239.ch0 hc248
                          refine Z.qr [(.on .n), (.on (.b 0 16)), (.on .n), (.on (.b 1 16))] [94, 96] [] [(94, .slice pA5 x.2.2.2.2.2.2.2.2.1.length pc5), (96, .slice pA11 y.2.2.2.2.2.2.2.2.1.length pc11)] (Z.kb hb251 (Z.kb hb250 Z.k0)) hf ?_; clear hf a; intro a hf
                          refine Z.on hf rfl rfl ?_
                          have hq252 : Z.Ch [] w w247 := hq240.then hc248
                          have hr253 := Z.rep_to (F' := (Z.nt [])) ph5o hq252
                          have hr254 := Z.rep_to (F' := (Z.nt [])) ph11o hq252
                          refine Z.call1 hf rfl (Z.r_call cf24 hf (xs := [.tmp 94, .tmp 96]) rfl) (SameEntries_spec x.2.2.2.2.2.2.2.2.1 y.2.2.2.2.2.2.2.2.1 w247 pA5 pc5 pA11 pc11 hr253 hr254) ?_; clear hf a
                          rintro _ w255 ⟨rfl, hc256⟩
                          have hzhc256 := hc256.size
                          refine ⟨_, rfl, ?_⟩; intro a hf
                          refine Z.qe [.n, .n] [4] [] [(4, .bool (decide (x.2.2.2.2.2.2.2.2.1 = y.2.2.2.2.2.2.2.2.1)))] Z.k0 hf ?_; clear hf a; intro a hf
                          refine hn228 _ _ ?_
                          refine Z.ret ?_
                          replace hf := hf.setv (d := 4) (y := .bool (decide (x = y))) rfl (congrArg Value.bool (by first | (symm; apply decide_eq_false; intro h; first | (refine hgd ?_; rw [h]; done) | (refine hcond ?_; rw [h]; done) | (simp only [Bool.not_eq_true', decide_eq_false_iff_not] at hgd; refine hgd ?_; rw [h]; done) | (simp only [Bool.not_eq_true', decide_eq_false_iff_not] at hcond; refine hcond ?_; rw [h]; done) | (rw [h, heb] at hea; injection hea with hea; exact hcond hea.symm)) | (exact Codec.msg_iff (Codec.not_ne hp28) (Codec.not_ne hp31) (Codec.not_ne hp34) (Codec.not_ne hp37) (Codec.not_ne hp40) (Codec.not_ne hp43) (Codec.not_ne hp46) (Codec.take_end hp49 ht68 hp225) hp237 hp249)))
                          have hq257 : Z.Ch [] w w255 := hq252.then hc256
                          refine Z.ret1 hf Try.results9 rfl ?_
                          exact ⟨rfl, hq257⟩
                        · intro hp258
                          have hgd := hp258
                          replace hf := hf.setb (d := 92) (b' := false) rfl (decide_eq_false hp258)
                          refine Z.qe [.off, .off, .off, .off, .off, .n, .n] [4] [] [(4, .bool false)] Z.k0 hf ?_; clear hf a; intro a hf
                          refine hn228 _ _ ?_
                          refine Z.ret ?_
                          replace hf := hf.setv (d := 4) (y := .bool (decide (x = y))) rfl (congrArg Value.bool (by first | (symm; apply decide_eq_false; intro h; first | (refine hgd ?_; rw [h]; done) | (refine hcond ?_; rw [h]; done) | (simp only [Bool.not_eq_true', decide_eq_false_iff_not] at hgd; refine hgd ?_; rw [h]; done) | (simp only [Bool.not_eq_true', decide_eq_false_iff_not] at hcond; refine hcond ?_; rw [h]; done) | (rw [h, heb] at hea; injection hea with hea; exact hcond hea.symm)) | (exact Codec.msg_iff (Codec.not_ne hp28) (Codec.not_ne hp31) (Codec.not_ne hp34) (Codec.not_ne hp37) (Codec.not_ne hp40) (Codec.not_ne hp43) (Codec.not_ne hp46) (Codec.take_end hp49 ht68 hp225) hp237 hp258)))
                          have hq259 : Z.Ch [] w w247 := hq240.then hc248
                          refine Z.ret1 hf Try.results9 rfl ?_
                          exact ⟨rfl, hq259⟩
                      · intro hp260
                        have hgd := hp260
                        replace hf := hf.setb (d := 85) (b' := false) rfl (decide_eq_false hp260)
                        refine Z.qe [.off, .off, .off, .off, .off, .n, .n, .off, .off, .off, .off, .off, .n, .n] [4] [] [(4, .bool false)] Z.k0 hf ?_; clear hf a; intro a hf
                        refine hn228 _ _ ?_
                        refine Z.ret ?_
                        replace hf := hf.setv (d := 4) (y := .bool (decide (x = y))) rfl (congrArg Value.bool (by first | (symm; apply decide_eq_false; intro h; first | (refine hgd ?_; rw [h]; done) | (refine hcond ?_; rw [h]; done) | (simp only [Bool.not_eq_true', decide_eq_false_iff_not] at hgd; refine hgd ?_; rw [h]; done) | (simp only [Bool.not_eq_true', decide_eq_false_iff_not] at hcond; refine hcond ?_; rw [h]; done) | (rw [h, heb] at hea; injection hea with hea; exact hcond hea.symm)) | (exact Codec.msg_iff (Codec.not_ne hp28) (Codec.not_ne hp31) (Codec.not_ne hp34) (Codec.not_ne hp37) (Codec.not_ne hp40) (Codec.not_ne hp43) (Codec.not_ne hp46) (Codec.take_end hp49 ht68 hp225) hp260 hNONE)))
                        have hq261 : Z.Ch [] w w235 := hq232.then hc236
                        refine Z.ret1 hf Try.results9 rfl ?_
                        exact ⟨rfl, hq261⟩

set_option maxHeartbeats 400000 in
set_option maxRecDepth 20000 in
theorem nodes_spec (xs : List D85) (w : World) (pA0 : Option Addr) (pc0 : Nat) (ph0 : (Z.Ty.slice T85).rep w (Z.nt []) [.slice pA0 xs.length pc0] xs)  :
    Calls Try.prog 19 #[.slice pA0 xs.length pc0] w fun e w' => ∃ (r : Bool), e = .returned (.bool r) ∧ Z.Ch [] w w' ∧ (r = true → xs.length ≤ 40 ∧ ∀ a ∈ xs, Codec.sNode a) := by
  refine Z.enter Try.func19 rfl Try.ntmps19 (Nat.le_of_ble_eq_true rfl) fun a hf => ?_
  have hle_pA0 := Z.rep_le ph0
  have ph0o := Z.rep_ol ph0
  refine Z.qseq [.n] [] [] [] Z.k0 hf ?_; clear hf a; intro a hf
  refine Z.qseq [.n] [3] [] [(3, .int .i64 0)] Z.k0 hf ?_; clear hf a; intro a hf
  refine Z.seq' (Z.Pq.body _ _ _) fun Q1 hp2 hn3 he4 => ?_
  refine Z.seq' hp2 fun Q5 hp6 hn7 he8 => ?_
  refine Z.reg ?_
  refine Z.qr [.n, .n, .n, .n] [6, 9] [] [(6, .slice pA0 xs.length pc0), (9, .int .i64 (min (xs.length : Int) 99))] Z.k0 hf ?_; clear hf a; intro a hf
  have hl9 := Z.rep_slice_len ph0o
  have hr10 := Z.rep_cuth ph0o (min xs.length 99) (by omega)
  have hn11 : (xs.take (min xs.length 99)).length = (min xs.length 99) := by first | rfl | omega | (simp only [List.length_take, List.length_drop]; done) | (simp only [List.length_take, List.length_drop]; omega)
  refine Z.val hf rfl (Z.r_slice_h (u := (min xs.length 99)) Try.underlying30 Try.sizeOf86 (hf.eval rfl) (hf.eval rfl) (by omega) (by omega)) ?_; clear hf a; intro a hf
  replace hf := hf.setv (d := 10) (y := .slice pA0 ((xs.take (min xs.length 99)).length) pc0) rfl (Z.slice_n (by first | rfl | omega | (simp only [List.length_take, List.length_drop]; done) | (simp only [List.length_take, List.length_drop]; omega) | (simp; omega)))
  refine Z.qe [.n, .n] [11, 12] [] [(11, .int .i64 ((xs.take (min xs.length 99)).length : Int)), (12, .int .i64 0)] Z.k0 hf ?_; clear hf a; intro a hf
  refine hn7 _ _ ?_
  refine Z.block' hp2 fun Q12 hp13 hn14 hx15 he16 => ?_
  refine Z.loop' hp13 (fun m a wl => ∃ (k : Nat), ∃ (u : Int), m = (xs.take (min xs.length 99)).length - k ∧ Z.Ch [] w wl ∧ (k ≤ (xs.take (min xs.length 99)).length) ∧ (0 ≤ u ∧ u ≤ 1048576) ∧ (Codec.seen (fun n : D85 => n.2.2.1.length) ((xs.take (min xs.length 99)).take k) u) ∧ (Codec.seen (fun n : D85 => n.2.2.2.2.1.size) ((xs.take (min xs.length 99)).take k) u) ∧ (Codec.seen (fun n : D85 => n.2.2.2.1.2.2.size) ((xs.take (min xs.length 99)).take k) u) ∧ Z.Fr a 42 [] [(0, .slice pA0 xs.length pc0), (3, .int .i64 u), (10, .slice pA0 ((xs.take (min xs.length 99)).length) pc0), (11, .int .i64 ((xs.take (min xs.length 99)).length : Int)), (12, .int .i64 (k : Int))]) ((xs.take (min xs.length 99)).length - 0) ?_ ?_
  · replace hf := hf.setv (d := 12) (y := .int .i64 (0 : Int)) rfl (congrArg (Value.int .i64) (by first | rfl | omega | (simp; done) | (simp; omega)))
    exact ⟨0, 0, rfl, (Z.Ch.refl w), (by omega), (by omega), (by exact Codec.seen_nil _ _), (by exact Codec.seen_nil _ _), (by exact Codec.seen_nil _ _), (hf.keep [0, 3, 10, 11, 12])⟩
  · rintro m31 a w17 ⟨k20, u21, hm19, hc18, hk26, hu27, h128, h229, h330, hf⟩ Q22 hp23 hn24 he25
    have hzhc18 := hc18.size
    refine Z.qseq [.n] [13] [] [(13, .bool (decide ((k20 : Int) < ((xs.take (min xs.length 99)).length : Int))))] Z.k0 hf ?_; clear hf a; intro a hf
    refine Z.seq' hp23 fun Q32 hp33 hn34 he35 => ?_
    refine Z.condp hf rfl ?_ ?_
    · intro hp36
      have hcond := hp36
      refine Z.skip ?_
      refine hn34 _ _ ?_
      refine Z.seq' hp23 fun Q37 hp38 hn39 he40 => ?_
      refine Z.block' hp38 fun Q41 hp42 hn43 hx44 he45 => ?_
      refine Z.seq' hp42 fun Q46 hp47 hn48 he49 => ?_
      refine Z.reg ?_
      have hr50 := Z.rep_to (F' := (Z.ol [] w.heap.size)) hr10 hc18
      have hkx53 : k20 < (xs.take (min xs.length 99)).length := (by omega)
      obtain ⟨ad51, es52, x53, hA54, hF55, hl56, hx57, hc58, hr59⟩ := Z.rep_el hr50 hkx53
      have hok60 := Z.rep_ok _ hr59
      obtain ⟨ca61, cb62, he63, hr64, hr65⟩ := hr59
      have he66 := hr64.1
      obtain ⟨ca67, cb68, he69, hr70, hr71⟩ := hr65
      have he72 := hr70.1
      obtain ⟨ca73, cb74, he75, hr76, hr77⟩ := hr71
      obtain ⟨A78, c79, he80, hn81, hn82⟩ := Z.rep_slice hr76
      rw [he80] at hr76
      have hle_A78 := Z.rep_le hr76
      obtain ⟨ca83, cb84, he85, hr86, hr87⟩ := hr77
      obtain ⟨ca88, cb89, he90, hr91, hr92⟩ := hr86
      have he93 := hr91.1
      obtain ⟨ca94, cb95, he96, hr97, hr98⟩ := hr92
      have he99 := hr97.1
      have he100 := hr98.1
      obtain ⟨ca101, cb102, he103, hr104, hr105⟩ := hr87
      have he106 := hr104.1
      obtain ⟨ca107, cb108, he109, hr110, hr111⟩ := hr105
      have he112 := hr110.1
      have he113 := hr111.1
      have he114 : es52 = [.int .i64 x53.1, .int .i64 x53.2.1, .slice A78 x53.2.2.1.length c79, .int .i64 x53.2.2.2.1.1, .int .i64 x53.2.2.2.1.2.1, .string x53.2.2.2.1.2.2, .string x53.2.2.2.2.1, .int .i64 x53.2.2.2.2.2.1, .int .i64 x53.2.2.2.2.2.2] := by simp only [he63, he66, he69, he72, he75, he80, he85, he90, he93, he96, he99, he100, he103, he106, he109, he112, he113, List.cons_append, List.nil_append]
      rw [he114] at hc58
      have hea := hx57
      refine Z.val hf rfl (Z.r_indexAddrE Try.underlying30 Try.sizeOf86 (hf.eval rfl) hA54 (hf.eval rfl) (k := k20) (by first | rfl | omega) (by omega)) ?_; clear hf a; intro a hf
      refine Z.qr [.e 0 0] [15] [] [(15, .agg #[.int .i64 x53.1, .int .i64 x53.2.1, .slice A78 x53.2.2.1.length c79, .int .i64 x53.2.2.2.1.1, .int .i64 x53.2.2.2.1.2.1, .string x53.2.2.2.1.2.2, .string x53.2.2.2.2.1, .int .i64 x53.2.2.2.2.2.1, .int .i64 x53.2.2.2.2.2.2])] (Z.ke hc58 Z.k0) hf ?_; clear hf a; intro a hf
      refine Z.st_alloc hf rfl Try.zeroValue86 rfl ?_; clear hf a; intro g115 w116 a hg117 hz118 hb119 hc120 hf
      refine Z.st_store hf hb119 rfl rfl Try.sizeOf86 rfl rfl rfl (by simp [Value.oneCell']) rfl ?_; clear hf a; intro w121 a hz122 hb123 hc124 hf
      refine Z.done ?_
      refine hn48 _ _ ?_
      refine Z.qreg [.n, .n, .b 0 2, .n, .n, .n, .n, .b 0 6, .n, .n, .n, .n, .n, .b 0 5, .n, .n, .n, .n, .n] [3] [Z.R64 (u21 + min (x53.2.2.1.length : Int) 1048576), Z.R64 (u21 + min (x53.2.2.1.length : Int) 1048576 + min (x53.2.2.2.2.1.size : Int) 1048576), Z.R64 (u21 + min (x53.2.2.1.length : Int) 1048576 + min (x53.2.2.2.2.1.size : Int) 1048576 + min (x53.2.2.2.1.2.2.size : Int) 1048576)] [(3, .int .i64 (min (u21 + min (x53.2.2.1.length : Int) 1048576 + min (x53.2.2.2.2.1.size : Int) 1048576 + min (x53.2.2.2.1.2.2.size : Int) 1048576) 1048576))] (Z.kb hb123 Z.k0) hf ?_; clear hf a; intro a hf
      refine hn43 _ _ ?_
      refine hn39 _ _ ?_
      refine Z.qreg [.n, .n] [12] [Z.R64 ((k20 : Int) + 1)] [(12, .int .i64 ((k20 : Int) + 1))] Z.k0 hf ?_; clear hf a; intro a hf
      refine hn24 ((xs.take (min xs.length 99)).length - (k20 + 1)) _ _ ?_ ?_
      rotate_left
      replace hf := hf.setv (d := 12) (y := .int .i64 ((k20 + 1 : Nat) : Int)) rfl (congrArg (Value.int .i64) (by first | rfl | omega | (simp; done) | (simp; omega)))
      have hq125 : Z.Ch [] w w116 := hc18.then hc120
      have hq126 : Z.Ch [g115] w w121 := hq125.then hc124
      exact ⟨k20 + 1, min (u21 + min (x53.2.2.1.length : Int) 1048576 + min (x53.2.2.2.2.1.size : Int) 1048576 + min (x53.2.2.2.1.2.2.size : Int) 1048576) 1048576, rfl, (hq126.mono (by intro k hk; (try simp only [List.mem_cons, List.mem_append, List.not_mem_nil, or_false, false_or] at hk ⊢) <;> omega)), (by omega), (by omega), (by exact Codec.seen_step h128 hea hu27.1 (by omega)), (by exact Codec.seen_step h229 hea hu27.1 (by omega)), (by exact Codec.seen_step h330 hea hu27.1 (by omega)), (hf.keep [0, 3, 10, 11, 12])⟩
      rw [hm19]; omega
    · intro hp127
      have hcond := hp127
      refine Z.exit ?_
      refine he35 _ _ _ (by simp) ?_
      refine he25 _ _ _ (by simp) ?_
      refine hx15 _ _ ?_
      refine hn3 _ _ ?_
      refine Z.seq' (Z.Pq.body _ _ _) fun Q128 hp129 hn130 he131 => ?_
      refine Z.reg ?_
      refine Z.qr [.n, .n, .n, .n] [38] [] [(38, .bool (decide ((xs.length : Int) ≤ 40)))] Z.k0 hf ?_; clear hf a; intro a hf
      by_cases hdec : (xs.length : Int) ≤ 40 <;> revert hdec
      · intro hp132
        have hgd := hp132
        replace hf := hf.setb (d := 38) (b' := true) rfl (decide_eq_true hp132)
        refine Z.qe [(.on .n), (.on .n), .n, .n] [2] [] [(2, .bool (decide (u21 ≤ 5000)))] Z.k0 hf ?_; clear hf a; intro a hf
        refine hn130 _ _ ?_
        refine Z.ret ?_
        refine Z.ret1 hf Try.results19 rfl ?_
        exact ⟨decide (u21 ≤ 5000), rfl, hc18, (by intro h; first | exact absurd h (by decide) | (have h9 := of_decide_eq_true h; exact ⟨by omega, fun a ha => ⟨Codec.seen_all (n := min xs.length 99) (m := 5000) h128 hp127 (by omega) (by omega) (by omega) a ha, Codec.seen_all (n := min xs.length 99) (m := 5000) h330 hp127 (by omega) (by omega) (by omega) a ha, Codec.seen_all (n := min xs.length 99) (m := 5000) h229 hp127 (by omega) (by omega) (by omega) a ha⟩⟩))⟩
      · intro hp133
        have hgd := hp133
        replace hf := hf.setb (d := 38) (b' := false) rfl (decide_eq_false hp133)
        refine Z.qe [.off, .off, .n, .n] [2] [] [(2, .bool false)] Z.k0 hf ?_; clear hf a; intro a hf
        refine hn130 _ _ ?_
        refine Z.ret ?_
        refine Z.ret1 hf Try.results19 rfl ?_
        exact ⟨false, rfl, hc18, (by intro h; first | exact absurd h (by decide) | (have h9 := of_decide_eq_true h; exact ⟨by omega, fun a ha => ⟨Codec.seen_all (n := min xs.length 99) (m := 5000) h128 hp127 (by omega) (by omega) (by omega) a ha, Codec.seen_all (n := min xs.length 99) (m := 5000) h330 hp127 (by omega) (by omega) (by omega) a ha, Codec.seen_all (n := min xs.length 99) (m := 5000) h229 hp127 (by omega) (by omega) (by omega) a ha⟩⟩))⟩

set_option maxHeartbeats 1000000 in
set_option maxRecDepth 20000 in
theorem small_spec (x : D36) (w : World) (pA0 : Option Addr) (pc0 : Nat) (pA1 : Option Addr) (pc1 : Nat) (pA2 : Option Addr) (pc2 : Nat) (pA3 : Option Addr) (pc3 : Nat) (pA4 : Option Addr) (pc4 : Nat) (pA5 : Option Addr) (pc5 : Nat) (ph0 : (Z.Ty.slice T59).rep w (Z.nt []) [.slice pA0 x.2.2.2.2.1.length pc0] x.2.2.2.2.1) (ph1 : (Z.Ty.slice T70).rep w (Z.nt []) [.slice pA1 x.2.2.2.2.2.1.length pc1] x.2.2.2.2.2.1) (ph2 : (Z.Ty.slice (Z.Ty.int .i64)).rep w (Z.nt []) [.slice pA2 x.2.2.2.2.2.2.1.1.length pc2] x.2.2.2.2.2.2.1.1) (ph3 : (Z.Ty.slice T85).rep w (Z.nt []) [.slice pA3 x.2.2.2.2.2.2.1.2.1.length pc3] x.2.2.2.2.2.2.1.2.1) (ph4 : (Z.Ty.slice T63).rep w (Z.nt []) [.slice pA4 x.2.2.2.2.2.2.1.2.2.length pc4] x.2.2.2.2.2.2.1.2.2) (ph5 : (Z.Ty.slice T57).rep w (Z.nt []) [.slice pA5 x.2.2.2.2.2.2.2.2.1.length pc5] x.2.2.2.2.2.2.2.2.1) (pk6 : Z.Ty.ok T36 x)  :
    Calls Try.prog 7 #[.agg #[.int .i64 x.1, .int .i64 x.2.1, .int .i64 x.2.2.1.1, .int .i64 x.2.2.1.2, .int .i64 x.2.2.2.1.1, .int .i64 x.2.2.2.1.2.1, .int .i64 x.2.2.2.1.2.2.1, .int .i64 x.2.2.2.1.2.2.2.1, .int .i64 x.2.2.2.1.2.2.2.2.1, .int .i64 x.2.2.2.1.2.2.2.2.2, .slice pA0 x.2.2.2.2.1.length pc0, .slice pA1 x.2.2.2.2.2.1.length pc1, .slice pA2 x.2.2.2.2.2.2.1.1.length pc2, .slice pA3 x.2.2.2.2.2.2.1.2.1.length pc3, .slice pA4 x.2.2.2.2.2.2.1.2.2.length pc4, .int .i64 x.2.2.2.2.2.2.2.1, .slice pA5 x.2.2.2.2.2.2.2.2.1.length pc5, .bool x.2.2.2.2.2.2.2.2.2.1, .int .i64 x.2.2.2.2.2.2.2.2.2.2]] w fun e w' => ∃ (r : Bool), e = .returned (.bool r) ∧ Z.Ch [] w w' ∧ (r = true → Codec.sMsg x) := by
  refine Z.enter Try.func7 rfl Try.ntmps7 (Nat.le_of_ble_eq_true rfl) fun a hf => ?_
  have hle_pA0 := Z.rep_le ph0
  have ph0o := Z.rep_ol ph0
  have hle_pA1 := Z.rep_le ph1
  have ph1o := Z.rep_ol ph1
  have hle_pA2 := Z.rep_le ph2
  have ph2o := Z.rep_ol ph2
  have hle_pA3 := Z.rep_le ph3
  have ph3o := Z.rep_ol ph3
  have hle_pA4 := Z.rep_le ph4
  have ph4o := Z.rep_ol ph4
  have hle_pA5 := Z.rep_le ph5
  have ph5o := Z.rep_ol ph5
  refine Z.seq' (Z.Pq.body _ _ _) fun Q1 hp2 hn3 he4 => ?_
  refine Z.reg ?_
  refine Z.st_box hf rfl rfl rfl ?_; clear hf a; intro g5 w6 a hg7 hz8 hb9 hc10 hf
  refine Z.qe [.n] [] [] [] Z.k0 hf ?_; clear hf a; intro a hf
  refine hn3 _ _ ?_
  refine Z.qseq [.n] [3] [] [(3, .int .i64 0)] Z.k0 hf ?_; clear hf a; intro a hf
  refine Z.seq' (Z.Pq.body _ _ _) fun Q11 hp12 hn13 he14 => ?_
  refine Z.seq' hp12 fun Q15 hp16 hn17 he18 => ?_
  refine Z.reg ?_
  refine Z.qr [.n, .b 0 10, .n, .b 0 10, .n, .n] [11, 15] [] [(11, .slice pA0 x.2.2.2.2.1.length pc0), (15, .int .i64 (min (x.2.2.2.2.1.length : Int) 300))] (Z.kb hb9 Z.k0) hf ?_; clear hf a; intro a hf
  have hr19 := Z.rep_to (F' := (Z.ol [] w.heap.size)) ph0o hc10
  have hl20 := Z.rep_slice_len hr19
  have hr21 := Z.rep_cuth hr19 (min x.2.2.2.2.1.length 300) (by omega)
  have hn22 : (x.2.2.2.2.1.take (min x.2.2.2.2.1.length 300)).length = (min x.2.2.2.2.1.length 300) := by first | rfl | omega | (simp only [List.length_take, List.length_drop]; done) | (simp only [List.length_take, List.length_drop]; omega)
  refine Z.val hf rfl (Z.r_slice_h (u := (min x.2.2.2.2.1.length 300)) Try.underlying27 Try.sizeOf60 (hf.eval rfl) (hf.eval rfl) (by omega) (by omega)) ?_; clear hf a; intro a hf
  replace hf := hf.setv (d := 16) (y := .slice pA0 ((x.2.2.2.2.1.take (min x.2.2.2.2.1.length 300)).length) pc0) rfl (Z.slice_n (by first | rfl | omega | (simp only [List.length_take, List.length_drop]; done) | (simp only [List.length_take, List.length_drop]; omega) | (simp; omega)))
  refine Z.qe [.n, .n] [17, 18] [] [(17, .int .i64 ((x.2.2.2.2.1.take (min x.2.2.2.2.1.length 300)).length : Int)), (18, .int .i64 0)] Z.k0 hf ?_; clear hf a; intro a hf
  refine hn17 _ _ ?_
  refine Z.block' hp12 fun Q23 hp24 hn25 hx26 he27 => ?_
  refine Z.loop' hp24 (fun m a wl => ∃ (k : Nat), ∃ (u : Int), m = (x.2.2.2.2.1.take (min x.2.2.2.2.1.length 300)).length - k ∧ Z.Ch [] w6 wl ∧ (k ≤ (x.2.2.2.2.1.take (min x.2.2.2.2.1.length 300)).length) ∧ (0 ≤ u ∧ u ≤ 1048576) ∧ (0 ≤ u) ∧ (Codec.seen (fun n : D59 => n.2.size) ((x.2.2.2.2.1.take (min x.2.2.2.2.1.length 300)).take k) u) ∧ Z.Fr a 113 [] [(1, .pointer (some ⟨g5, 0, none⟩)), (3, .int .i64 u), (16, .slice pA0 ((x.2.2.2.2.1.take (min x.2.2.2.2.1.length 300)).length) pc0), (17, .int .i64 ((x.2.2.2.2.1.take (min x.2.2.2.2.1.length 300)).length : Int)), (18, .int .i64 (k : Int))]) ((x.2.2.2.2.1.take (min x.2.2.2.2.1.length 300)).length - 0) ?_ ?_
  · replace hf := hf.setv (d := 18) (y := .int .i64 (0 : Int)) rfl (congrArg (Value.int .i64) (by first | rfl | omega | (simp; done) | (simp; omega)))
    exact ⟨0, 0, rfl, (Z.Ch.refl w6), (by omega), (by omega), (by omega), (by exact Codec.seen_nil _ _), (hf.keep [1, 3, 16, 17, 18])⟩
  · rintro m41 a w28 ⟨k31, u32, hm30, hc29, hk37, hu38, hm39, hs40, hf⟩ Q33 hp34 hn35 he36
    have hzhc29 := hc29.size
    refine Z.qseq [.n] [19] [] [(19, .bool (decide ((k31 : Int) < ((x.2.2.2.2.1.take (min x.2.2.2.2.1.length 300)).length : Int))))] Z.k0 hf ?_; clear hf a; intro a hf
    refine Z.seq' hp34 fun Q42 hp43 hn44 he45 => ?_
    refine Z.condp hf rfl ?_ ?_
    · intro hp46
      have hcond := hp46
      refine Z.skip ?_
      refine hn44 _ _ ?_
      refine Z.seq' hp34 fun Q47 hp48 hn49 he50 => ?_
      refine Z.block' hp48 fun Q51 hp52 hn53 hx54 he55 => ?_
      refine Z.seq' hp52 fun Q56 hp57 hn58 he59 => ?_
      refine Z.reg ?_
      have hr60 := Z.rep_to (F' := (Z.ol [] w.heap.size)) hr21 hc29
      have hkx63 : k31 < (x.2.2.2.2.1.take (min x.2.2.2.2.1.length 300)).length := (by omega)
      obtain ⟨ad61, es62, x63, hA64, hF65, hl66, hx67, hc68, hr69⟩ := Z.rep_el hr60 hkx63
      have hok70 := Z.rep_ok _ hr69
      obtain ⟨ca71, cb72, he73, hr74, hr75⟩ := hr69
      have he76 := hr74.1
      have he77 := hr75.1
      have he78 : es62 = [.int .i64 x63.1, .string x63.2] := by simp only [he73, he76, he77, List.cons_append, List.nil_append]
      rw [he78] at hc68
      have hea := hx67
      refine Z.val hf rfl (Z.r_indexAddrE Try.underlying27 Try.sizeOf60 (hf.eval rfl) hA64 (hf.eval rfl) (k := k31) (by first | rfl | omega) (by omega)) ?_; clear hf a; intro a hf
      refine Z.qr [.e 0 0] [21] [] [(21, .agg #[.int .i64 x63.1, .string x63.2])] (Z.ke hc68 Z.k0) hf ?_; clear hf a; intro a hf
      refine Z.st_alloc hf rfl Try.zeroValue60 rfl ?_; clear hf a; intro g79 w80 a hg81 hz82 hb83 hc84 hf
      refine Z.st_store hf hb83 rfl rfl Try.sizeOf60 rfl rfl rfl (by simp [Value.oneCell']) rfl ?_; clear hf a; intro w85 a hz86 hb87 hc88 hf
      refine Z.done ?_
      refine hn58 _ _ ?_
      refine Z.qreg [.n, .n, .b 0 1, .n, .n, .n, .n, .n] [3] [Z.R64 (u32 + min (x63.2.size : Int) 1048576)] [(3, .int .i64 (min (u32 + min (x63.2.size : Int) 1048576) 1048576))] (Z.kb hb87 Z.k0) hf ?_; clear hf a; intro a hf
      refine hn53 _ _ ?_
      refine hn49 _ _ ?_
      refine Z.qreg [.n, .n] [18] [Z.R64 ((k31 : Int) + 1)] [(18, .int .i64 ((k31 : Int) + 1))] Z.k0 hf ?_; clear hf a; intro a hf
      refine hn35 ((x.2.2.2.2.1.take (min x.2.2.2.2.1.length 300)).length - (k31 + 1)) _ _ ?_ ?_
      rotate_left
      replace hf := hf.setv (d := 18) (y := .int .i64 ((k31 + 1 : Nat) : Int)) rfl (congrArg (Value.int .i64) (by first | rfl | omega | (simp; done) | (simp; omega)))
      have hq89 : Z.Ch [] w6 w80 := hc29.then hc84
      have hq90 : Z.Ch [g79] w6 w85 := hq89.then hc88
      exact ⟨k31 + 1, min (u32 + min (x63.2.size : Int) 1048576) 1048576, rfl, (hq90.mono (by intro k hk; (try simp only [List.mem_cons, List.mem_append, List.not_mem_nil, or_false, false_or] at hk ⊢) <;> omega)), (by omega), (by omega), (by omega), (by exact Codec.seen_step hs40 hea hu38.1 (by omega)), (hf.keep [1, 3, 16, 17, 18])⟩
      rw [hm30]; omega
    · intro hp91
      have hcond := hp91
      refine Z.exit ?_
      refine he45 _ _ _ (by simp) ?_
      refine he36 _ _ _ (by simp) ?_
      refine hx26 _ _ ?_
      refine hn13 _ _ ?_
      refine Z.seq' (Z.Pq.body _ _ _) fun Q92 hp93 hn94 he95 => ?_
      refine Z.seq' hp93 fun Q96 hp97 hn98 he99 => ?_
      refine Z.reg ?_
      have hb100 := hb9.ch0 hc29
      refine Z.qr [.n, .b 0 16, .n, .b 0 16, .n, .n] [31, 35] [] [(31, .slice pA5 x.2.2.2.2.2.2.2.2.1.length pc5), (35, .int .i64 (min (x.2.2.2.2.2.2.2.2.1.length : Int) 300))] (Z.kb hb100 Z.k0) hf ?_; clear hf a; intro a hf
      have hq101 : Z.Ch [] w w28 := hc10.then hc29
      have hr102 := Z.rep_to (F' := (Z.ol [] w.heap.size)) ph5o hq101
      have hl103 := Z.rep_slice_len hr102
      have hr104 := Z.rep_cuth hr102 (min x.2.2.2.2.2.2.2.2.1.length 300) (by omega)
      have hn105 : (x.2.2.2.2.2.2.2.2.1.take (min x.2.2.2.2.2.2.2.2.1.length 300)).length = (min x.2.2.2.2.2.2.2.2.1.length 300) := by first | rfl | omega | (simp only [List.length_take, List.length_drop]; done) | (simp only [List.length_take, List.length_drop]; omega)
      refine Z.val hf rfl (Z.r_slice_h (u := (min x.2.2.2.2.2.2.2.2.1.length 300)) Try.underlying34 Try.sizeOf58 (hf.eval rfl) (hf.eval rfl) (by omega) (by omega)) ?_; clear hf a; intro a hf
      replace hf := hf.setv (d := 36) (y := .slice pA5 ((x.2.2.2.2.2.2.2.2.1.take (min x.2.2.2.2.2.2.2.2.1.length 300)).length) pc5) rfl (Z.slice_n (by first | rfl | omega | (simp only [List.length_take, List.length_drop]; done) | (simp only [List.length_take, List.length_drop]; omega) | (simp; omega)))
      refine Z.qe [.n, .n] [37, 38] [] [(37, .int .i64 ((x.2.2.2.2.2.2.2.2.1.take (min x.2.2.2.2.2.2.2.2.1.length 300)).length : Int)), (38, .int .i64 0)] Z.k0 hf ?_; clear hf a; intro a hf
      refine hn98 _ _ ?_
      refine Z.block' hp93 fun Q106 hp107 hn108 hx109 he110 => ?_
      refine Z.loop' hp107 (fun m a wl => ∃ (k : Nat), ∃ (u : Int), m = (x.2.2.2.2.2.2.2.2.1.take (min x.2.2.2.2.2.2.2.2.1.length 300)).length - k ∧ Z.Ch [] w28 wl ∧ (k ≤ (x.2.2.2.2.2.2.2.2.1.take (min x.2.2.2.2.2.2.2.2.1.length 300)).length) ∧ (0 ≤ u ∧ u ≤ 1048576) ∧ (u32 ≤ u) ∧ (Codec.seen (fun n : D57 => n.2.2.1.size) ((x.2.2.2.2.2.2.2.2.1.take (min x.2.2.2.2.2.2.2.2.1.length 300)).take k) u) ∧ Z.Fr a 113 [] [(1, .pointer (some ⟨g5, 0, none⟩)), (3, .int .i64 u), (36, .slice pA5 ((x.2.2.2.2.2.2.2.2.1.take (min x.2.2.2.2.2.2.2.2.1.length 300)).length) pc5), (37, .int .i64 ((x.2.2.2.2.2.2.2.2.1.take (min x.2.2.2.2.2.2.2.2.1.length 300)).length : Int)), (38, .int .i64 (k : Int))]) ((x.2.2.2.2.2.2.2.2.1.take (min x.2.2.2.2.2.2.2.2.1.length 300)).length - 0) ?_ ?_
      · replace hf := hf.setv (d := 38) (y := .int .i64 (0 : Int)) rfl (congrArg (Value.int .i64) (by first | rfl | omega | (simp; done) | (simp; omega)))
        exact ⟨0, u32, rfl, (Z.Ch.refl w28), (by omega), (by omega), (by omega), (by exact Codec.seen_nil _ _), (hf.keep [1, 3, 36, 37, 38])⟩
      · rintro m124 a w111 ⟨k114, u115, hm113, hc112, hk120, hu121, hm122, hs123, hf⟩ Q116 hp117 hn118 he119
        have hzhc112 := hc112.size
        refine Z.qseq [.n] [39] [] [(39, .bool (decide ((k114 : Int) < ((x.2.2.2.2.2.2.2.2.1.take (min x.2.2.2.2.2.2.2.2.1.length 300)).length : Int))))] Z.k0 hf ?_; clear hf a; intro a hf
        refine Z.seq' hp117 fun Q125 hp126 hn127 he128 => ?_
        refine Z.condp hf rfl ?_ ?_
        · intro hp129
          have hcond := hp129
          refine Z.skip ?_
          refine hn127 _ _ ?_
          refine Z.seq' hp117 fun Q130 hp131 hn132 he133 => ?_
          refine Z.block' hp131 fun Q134 hp135 hn136 hx137 he138 => ?_
          refine Z.seq' hp135 fun Q139 hp140 hn141 he142 => ?_
          refine Z.reg ?_
          have hr143 := Z.rep_to (F' := (Z.ol [] w.heap.size)) hr104 hc112
          have hkx146 : k114 < (x.2.2.2.2.2.2.2.2.1.take (min x.2.2.2.2.2.2.2.2.1.length 300)).length := (by omega)
          obtain ⟨ad144, es145, x146, hA147, hF148, hl149, hx150, hc151, hr152⟩ := Z.rep_el hr143 hkx146
          have hok153 := Z.rep_ok _ hr152
          obtain ⟨ca154, cb155, he156, hr157, hr158⟩ := hr152
          have he159 := hr157.1
          obtain ⟨ca160, cb161, he162, hr163, hr164⟩ := hr158
          have he165 := hr163.1
          obtain ⟨ca166, cb167, he168, hr169, hr170⟩ := hr164
          have he171 := hr169.1
          have he172 := hr170.1
          have he173 : es145 = [.int .i64 x146.1, .int .i64 x146.2.1, .string x146.2.2.1, .int .i64 x146.2.2.2] := by simp only [he156, he159, he162, he165, he168, he171, he172, List.cons_append, List.nil_append]
          rw [he173] at hc151
          have hea := hx150
          refine Z.val hf rfl (Z.r_indexAddrE Try.underlying34 Try.sizeOf58 (hf.eval rfl) hA147 (hf.eval rfl) (k := k114) (by first | rfl | omega) (by omega)) ?_; clear hf a; intro a hf
          refine Z.qr [.e 0 0] [41] [] [(41, .agg #[.int .i64 x146.1, .int .i64 x146.2.1, .string x146.2.2.1, .int .i64 x146.2.2.2])] (Z.ke hc151 Z.k0) hf ?_; clear hf a; intro a hf
          refine Z.st_alloc hf rfl Try.zeroValue58 rfl ?_; clear hf a; intro g174 w175 a hg176 hz177 hb178 hc179 hf
          refine Z.st_store hf hb178 rfl rfl Try.sizeOf58 rfl rfl rfl (by simp [Value.oneCell']) rfl ?_; clear hf a; intro w180 a hz181 hb182 hc183 hf
          refine Z.done ?_
          refine hn141 _ _ ?_
          refine Z.qreg [.n, .n, .b 0 2, .n, .n, .n, .n, .n] [3] [Z.R64 (u115 + min (x146.2.2.1.size : Int) 1048576)] [(3, .int .i64 (min (u115 + min (x146.2.2.1.size : Int) 1048576) 1048576))] (Z.kb hb182 Z.k0) hf ?_; clear hf a; intro a hf
          refine hn136 _ _ ?_
          refine hn132 _ _ ?_
          refine Z.qreg [.n, .n] [38] [Z.R64 ((k114 : Int) + 1)] [(38, .int .i64 ((k114 : Int) + 1))] Z.k0 hf ?_; clear hf a; intro a hf
          refine hn118 ((x.2.2.2.2.2.2.2.2.1.take (min x.2.2.2.2.2.2.2.2.1.length 300)).length - (k114 + 1)) _ _ ?_ ?_
          rotate_left
          replace hf := hf.setv (d := 38) (y := .int .i64 ((k114 + 1 : Nat) : Int)) rfl (congrArg (Value.int .i64) (by first | rfl | omega | (simp; done) | (simp; omega)))
          have hq184 : Z.Ch [] w28 w175 := hc112.then hc179
          have hq185 : Z.Ch [g174] w28 w180 := hq184.then hc183
          exact ⟨k114 + 1, min (u115 + min (x146.2.2.1.size : Int) 1048576) 1048576, rfl, (hq185.mono (by intro k hk; (try simp only [List.mem_cons, List.mem_append, List.not_mem_nil, or_false, false_or] at hk ⊢) <;> omega)), (by omega), (by omega), (by omega), (by exact Codec.seen_step hs123 hea hu121.1 (by omega)), (hf.keep [1, 3, 36, 37, 38])⟩
          rw [hm113]; omega
        · intro hp186
          have hcond := hp186
          refine Z.exit ?_
          refine he128 _ _ _ (by simp) ?_
          refine he119 _ _ _ (by simp) ?_
          refine hx109 _ _ ?_
          refine hn94 _ _ ?_
          refine Z.seq' (Z.Pq.body _ _ _) fun Q187 hp188 hn189 he190 => ?_
          refine Z.seq' hp188 fun Q191 hp192 hn193 he194 => ?_
          refine Z.reg ?_
          have hb195 := hb100.ch0 hc112
          refine Z.qr [.n, .n, .b 0 14, .n, .n, .b 0 14, .n, .n] [52, 57] [] [(52, .slice pA4 x.2.2.2.2.2.2.1.2.2.length pc4), (57, .int .i64 (min (x.2.2.2.2.2.2.1.2.2.length : Int) 300))] (Z.kb hb195 Z.k0) hf ?_; clear hf a; intro a hf
          have hq196 : Z.Ch [] w w111 := hq101.then hc112
          have hr197 := Z.rep_to (F' := (Z.ol [] w.heap.size)) ph4o hq196
          have hl198 := Z.rep_slice_len hr197
          have hr199 := Z.rep_cuth hr197 (min x.2.2.2.2.2.2.1.2.2.length 300) (by omega)
          have hn200 : (x.2.2.2.2.2.2.1.2.2.take (min x.2.2.2.2.2.2.1.2.2.length 300)).length = (min x.2.2.2.2.2.2.1.2.2.length 300) := by first | rfl | omega | (simp only [List.length_take, List.length_drop]; done) | (simp only [List.length_take, List.length_drop]; omega)
          refine Z.val hf rfl (Z.r_slice_h (u := (min x.2.2.2.2.2.2.1.2.2.length 300)) Try.underlying31 Try.sizeOf64 (hf.eval rfl) (hf.eval rfl) (by omega) (by omega)) ?_; clear hf a; intro a hf
          replace hf := hf.setv (d := 58) (y := .slice pA4 ((x.2.2.2.2.2.2.1.2.2.take (min x.2.2.2.2.2.2.1.2.2.length 300)).length) pc4) rfl (Z.slice_n (by first | rfl | omega | (simp only [List.length_take, List.length_drop]; done) | (simp only [List.length_take, List.length_drop]; omega) | (simp; omega)))
          refine Z.qe [.n, .n] [59, 60] [] [(59, .int .i64 ((x.2.2.2.2.2.2.1.2.2.take (min x.2.2.2.2.2.2.1.2.2.length 300)).length : Int)), (60, .int .i64 0)] Z.k0 hf ?_; clear hf a; intro a hf
          refine hn193 _ _ ?_
          refine Z.block' hp188 fun Q201 hp202 hn203 hx204 he205 => ?_
          refine Z.loop' hp202 (fun m a wl => ∃ (k : Nat), ∃ (u : Int), m = (x.2.2.2.2.2.2.1.2.2.take (min x.2.2.2.2.2.2.1.2.2.length 300)).length - k ∧ Z.Ch [] w111 wl ∧ (k ≤ (x.2.2.2.2.2.2.1.2.2.take (min x.2.2.2.2.2.2.1.2.2.length 300)).length) ∧ (0 ≤ u ∧ u ≤ 1048576) ∧ (u115 ≤ u) ∧ (Codec.seen (fun n : D63 => n.2.2.2.2.2.2.size) ((x.2.2.2.2.2.2.1.2.2.take (min x.2.2.2.2.2.2.1.2.2.length 300)).take k) u) ∧ Z.Fr a 113 [] [(1, .pointer (some ⟨g5, 0, none⟩)), (3, .int .i64 u), (58, .slice pA4 ((x.2.2.2.2.2.2.1.2.2.take (min x.2.2.2.2.2.2.1.2.2.length 300)).length) pc4), (59, .int .i64 ((x.2.2.2.2.2.2.1.2.2.take (min x.2.2.2.2.2.2.1.2.2.length 300)).length : Int)), (60, .int .i64 (k : Int))]) ((x.2.2.2.2.2.2.1.2.2.take (min x.2.2.2.2.2.2.1.2.2.length 300)).length - 0) ?_ ?_
          · replace hf := hf.setv (d := 60) (y := .int .i64 (0 : Int)) rfl (congrArg (Value.int .i64) (by first | rfl | omega | (simp; done) | (simp; omega)))
            exact ⟨0, u115, rfl, (Z.Ch.refl w111), (by omega), (by omega), (by omega), (by exact Codec.seen_nil _ _), (hf.keep [1, 3, 58, 59, 60])⟩
          · rintro m219 a w206 ⟨k209, u210, hm208, hc207, hk215, hu216, hm217, hs218, hf⟩ Q211 hp212 hn213 he214
            have hzhc207 := hc207.size
            refine Z.qseq [.n] [61] [] [(61, .bool (decide ((k209 : Int) < ((x.2.2.2.2.2.2.1.2.2.take (min x.2.2.2.2.2.2.1.2.2.length 300)).length : Int))))] Z.k0 hf ?_; clear hf a; intro a hf
            refine Z.seq' hp212 fun Q220 hp221 hn222 he223 => ?_
            refine Z.condp hf rfl ?_ ?_
            · intro hp224
              have hcond := hp224
              refine Z.skip ?_
              refine hn222 _ _ ?_
              refine Z.seq' hp212 fun Q225 hp226 hn227 he228 => ?_
              refine Z.block' hp226 fun Q229 hp230 hn231 hx232 he233 => ?_
              refine Z.seq' hp230 fun Q234 hp235 hn236 he237 => ?_
              refine Z.reg ?_
              have hr238 := Z.rep_to (F' := (Z.ol [] w.heap.size)) hr199 hc207
              have hkx241 : k209 < (x.2.2.2.2.2.2.1.2.2.take (min x.2.2.2.2.2.2.1.2.2.length 300)).length := (by omega)
              obtain ⟨ad239, es240, x241, hA242, hF243, hl244, hx245, hc246, hr247⟩ := Z.rep_el hr238 hkx241
              have hok248 := Z.rep_ok _ hr247
              obtain ⟨ca249, cb250, he251, hr252, hr253⟩ := hr247
              have he254 := hr252.1
              obtain ⟨ca255, cb256, he257, hr258, hr259⟩ := hr253
              have he260 := hr258.1
              obtain ⟨ca261, cb262, he263, hr264, hr265⟩ := hr259
              have he266 := hr264.1
              obtain ⟨ca267, cb268, he269, hr270, hr271⟩ := hr265
              have he272 := hr270.1
              obtain ⟨ca273, cb274, he275, hr276, hr277⟩ := hr271
              have he278 := hr276.1
              obtain ⟨ca279, cb280, he281, hr282, hr283⟩ := hr277
              have he284 := hr282.1
              have he285 := hr283.1
              have he286 : es240 = [.int .i64 x241.1, .int .i64 x241.2.1, .int .i64 x241.2.2.1, .int .i64 x241.2.2.2.1, .int .i64 x241.2.2.2.2.1, .int .i64 x241.2.2.2.2.2.1, .string x241.2.2.2.2.2.2] := by simp only [he251, he254, he257, he260, he263, he266, he269, he272, he275, he278, he281, he284, he285, List.cons_append, List.nil_append]
              rw [he286] at hc246
              have hea := hx245
              refine Z.val hf rfl (Z.r_indexAddrE Try.underlying31 Try.sizeOf64 (hf.eval rfl) hA242 (hf.eval rfl) (k := k209) (by first | rfl | omega) (by omega)) ?_; clear hf a; intro a hf
              refine Z.qr [.e 0 0] [63] [] [(63, .agg #[.int .i64 x241.1, .int .i64 x241.2.1, .int .i64 x241.2.2.1, .int .i64 x241.2.2.2.1, .int .i64 x241.2.2.2.2.1, .int .i64 x241.2.2.2.2.2.1, .string x241.2.2.2.2.2.2])] (Z.ke hc246 Z.k0) hf ?_; clear hf a; intro a hf
              refine Z.st_alloc hf rfl Try.zeroValue64 rfl ?_; clear hf a; intro g287 w288 a hg289 hz290 hb291 hc292 hf
              refine Z.st_store hf hb291 rfl rfl Try.sizeOf64 rfl rfl rfl (by simp [Value.oneCell']) rfl ?_; clear hf a; intro w293 a hz294 hb295 hc296 hf
              refine Z.done ?_
              refine hn236 _ _ ?_
              refine Z.qreg [.n, .n, .n, .b 0 6, .n, .n, .n, .n, .n] [3] [Z.R64 (u210 + min (x241.2.2.2.2.2.2.size : Int) 1048576)] [(3, .int .i64 (min (u210 + min (x241.2.2.2.2.2.2.size : Int) 1048576) 1048576))] (Z.kb hb295 Z.k0) hf ?_; clear hf a; intro a hf
              refine hn231 _ _ ?_
              refine hn227 _ _ ?_
              refine Z.qreg [.n, .n] [60] [Z.R64 ((k209 : Int) + 1)] [(60, .int .i64 ((k209 : Int) + 1))] Z.k0 hf ?_; clear hf a; intro a hf
              refine hn213 ((x.2.2.2.2.2.2.1.2.2.take (min x.2.2.2.2.2.2.1.2.2.length 300)).length - (k209 + 1)) _ _ ?_ ?_
              rotate_left
              replace hf := hf.setv (d := 60) (y := .int .i64 ((k209 + 1 : Nat) : Int)) rfl (congrArg (Value.int .i64) (by first | rfl | omega | (simp; done) | (simp; omega)))
              have hq297 : Z.Ch [] w111 w288 := hc207.then hc292
              have hq298 : Z.Ch [g287] w111 w293 := hq297.then hc296
              exact ⟨k209 + 1, min (u210 + min (x241.2.2.2.2.2.2.size : Int) 1048576) 1048576, rfl, (hq298.mono (by intro k hk; (try simp only [List.mem_cons, List.mem_append, List.not_mem_nil, or_false, false_or] at hk ⊢) <;> omega)), (by omega), (by omega), (by omega), (by exact Codec.seen_step hs218 hea hu216.1 (by omega)), (hf.keep [1, 3, 58, 59, 60])⟩
              rw [hm208]; omega
            · intro hp299
              have hcond := hp299
              refine Z.exit ?_
              refine he223 _ _ _ (by simp) ?_
              refine he214 _ _ _ (by simp) ?_
              refine hx204 _ _ ?_
              refine hn189 _ _ ?_
              refine Z.seq' (Z.Pq.body _ _ _) fun Q300 hp301 hn302 he303 => ?_
              refine Z.reg ?_
              have hb304 := hb195.ch0 hc207
              refine Z.qr [.n, .b 0 10, .n, .n, .n] [77] [] [(77, .bool (decide ((x.2.2.2.2.1.length : Int) ≤ 200)))] (Z.kb hb304 Z.k0) hf ?_; clear hf a; intro a hf
              by_cases hdec : (x.2.2.2.2.1.length : Int) ≤ 200 <;> revert hdec
              · intro hp305
                have hgd := hp305
                replace hf := hf.setb (d := 77) (b' := true) rfl (decide_eq_true hp305)
                refine Z.qr [(.on .n), (.on (.b 0 11)), (.on .n), (.on .n), .n, .n] [83] [] [(83, .bool (decide ((x.2.2.2.2.2.1.length : Int) ≤ 200)))] (Z.kb hb304 Z.k0) hf ?_; clear hf a; intro a hf
                by_cases hdec : (x.2.2.2.2.2.1.length : Int) ≤ 200 <;> revert hdec
                · intro hp306
                  have hgd := hp306
                  replace hf := hf.setb (d := 83) (b' := true) rfl (decide_eq_true hp306)
                  refine Z.qr [(.on .n), (.on (.b 0 16)), (.on .n), (.on .n), .n, .n] [89] [] [(89, .bool (decide ((x.2.2.2.2.2.2.2.2.1.length : Int) ≤ 200)))] (Z.kb hb304 Z.k0) hf ?_; clear hf a; intro a hf
                  by_cases hdec : (x.2.2.2.2.2.2.2.2.1.length : Int) ≤ 200 <;> revert hdec
                  · intro hp307
                    have hgd := hp307
                    replace hf := hf.setb (d := 89) (b' := true) rfl (decide_eq_true hp307)
                    refine Z.qr [(.on .n), (.on .n), (.on (.b 0 14)), (.on .n), (.on .n), .n, .n] [96] [] [(96, .bool (decide ((x.2.2.2.2.2.2.1.2.2.length : Int) ≤ 200)))] (Z.kb hb304 Z.k0) hf ?_; clear hf a; intro a hf
                    by_cases hdec : (x.2.2.2.2.2.2.1.2.2.length : Int) ≤ 200 <;> revert hdec
                    · intro hp308
                      have hgd := hp308
                      replace hf := hf.setb (d := 96) (b' := true) rfl (decide_eq_true hp308)
                      refine Z.qr [(.on .n), (.on .n), (.on (.b 0 12)), (.on .n), (.on .n), .n, .n] [103] [] [(103, .bool (decide ((x.2.2.2.2.2.2.1.1.length : Int) ≤ 200)))] (Z.kb hb304 Z.k0) hf ?_; clear hf a; intro a hf
                      by_cases hdec : (x.2.2.2.2.2.2.1.1.length : Int) ≤ 200 <;> revert hdec
                      · intro hp309
                        have hgd := hp309
                        replace hf := hf.setb (d := 103) (b' := true) rfl (decide_eq_true hp309)
                        refine Z.qr [(.on .n), (.on .n), .n, .n] [107] [] [(107, .bool (decide (u210 ≤ 9000)))] Z.k0 hf ?_; clear hf a; intro a hf
                        by_cases hdec : u210 ≤ 9000 <;> revert hdec
                        · intro hp310
                          have hgd := hp310
                          replace hf := hf.setb (d := 107) (b' := true) rfl (decide_eq_true hp310)
                          refine Z.qr [(.on .n), (.on .n), (.on (.b 0 13))] [110] [] [(110, .slice pA3 x.2.2.2.2.2.2.1.2.1.length pc3)] (Z.kb hb304 Z.k0) hf ?_; clear hf a; intro a hf
                          refine Z.on hf rfl rfl ?_
                          have hq311 : Z.Ch [] w w206 := hq196.then hc207
                          have hr312 := Z.rep_to (F' := (Z.nt [])) ph3o hq311
                          refine Z.call1 hf rfl (Z.r_call cf19 hf (xs := [.tmp 110]) rfl) (nodes_spec x.2.2.2.2.2.2.1.2.1 w206 pA3 pc3 hr312) ?_; clear hf a
                          rintro _ w313 ⟨r314, rfl, hc315, hr316⟩
                          have hzhc315 := hc315.size
                          refine ⟨_, rfl, ?_⟩; intro a hf
                          have hnr := hr316
                          refine Z.qe [.n, .n] [2] [] [(2, .bool r314)] Z.k0 hf ?_; clear hf a; intro a hf
                          refine hn302 _ _ ?_
                          refine Z.ret ?_
                          have hq317 : Z.Ch [] w w313 := hq311.then hc315
                          refine Z.ret1 hf Try.results7 rfl ?_
                          exact ⟨r314, rfl, hq317, (by intro h; first | exact absurd h (by decide) | (obtain ⟨n1, n2⟩ := hnr h; exact ⟨⟨by omega, fun a ha => Codec.seen_all (n := min x.2.2.2.2.1.length 300) (m := 9000) (Codec.seen_mono hs40 (v := u210) (by have := hm122; have := hm217; omega)) hp91 (by omega) (by omega) (by omega) a ha⟩, by omega, ⟨by omega, fun a ha => Codec.seen_all (n := min x.2.2.2.2.2.2.2.2.1.length 300) (m := 9000) (Codec.seen_mono hs123 (v := u210) (by have := hm122; have := hm217; omega)) hp186 (by omega) (by omega) (by omega) a ha⟩, ⟨by omega, fun a ha => Codec.seen_all (n := min x.2.2.2.2.2.2.1.2.2.length 300) (m := 9000) (Codec.seen_mono hs218 (v := u210) (by have := hm122; have := hm217; omega)) hp299 (by omega) (by omega) (by omega) a ha⟩, by omega, n1, n2⟩))⟩
                        · intro hp318
                          have hgd := hp318
                          replace hf := hf.setb (d := 107) (b' := false) rfl (decide_eq_false hp318)
                          refine Z.qe [.off, .off, .off, .off, .n, .n] [2] [] [(2, .bool false)] Z.k0 hf ?_; clear hf a; intro a hf
                          refine hn302 _ _ ?_
                          refine Z.ret ?_
                          have hq319 : Z.Ch [] w w206 := hq196.then hc207
                          refine Z.ret1 hf Try.results7 rfl ?_
                          exact ⟨false, rfl, hq319, (by intro h; first | exact absurd h (by decide) | (obtain ⟨n1, n2⟩ := hnr h; exact ⟨⟨by omega, fun a ha => Codec.seen_all (n := min x.2.2.2.2.1.length 300) (m := 9000) (Codec.seen_mono hs40 (v := u210) (by have := hm122; have := hm217; omega)) hp91 (by omega) (by omega) (by omega) a ha⟩, by omega, ⟨by omega, fun a ha => Codec.seen_all (n := min x.2.2.2.2.2.2.2.2.1.length 300) (m := 9000) (Codec.seen_mono hs123 (v := u210) (by have := hm122; have := hm217; omega)) hp186 (by omega) (by omega) (by omega) a ha⟩, ⟨by omega, fun a ha => Codec.seen_all (n := min x.2.2.2.2.2.2.1.2.2.length 300) (m := 9000) (Codec.seen_mono hs218 (v := u210) (by have := hm122; have := hm217; omega)) hp299 (by omega) (by omega) (by omega) a ha⟩, by omega, n1, n2⟩))⟩
                      · intro hp320
                        have hgd := hp320
                        replace hf := hf.setb (d := 103) (b' := false) rfl (decide_eq_false hp320)
                        refine Z.qe [.off, .off, .n, .n, .off, .off, .off, .off, .n, .n] [2] [] [(2, .bool false)] Z.k0 hf ?_; clear hf a; intro a hf
                        refine hn302 _ _ ?_
                        refine Z.ret ?_
                        have hq321 : Z.Ch [] w w206 := hq196.then hc207
                        refine Z.ret1 hf Try.results7 rfl ?_
                        exact ⟨false, rfl, hq321, (by intro h; first | exact absurd h (by decide) | (obtain ⟨n1, n2⟩ := hnr h; exact ⟨⟨by omega, fun a ha => Codec.seen_all (n := min x.2.2.2.2.1.length 300) (m := 9000) (Codec.seen_mono hs40 (v := u210) (by have := hm122; have := hm217; omega)) hp91 (by omega) (by omega) (by omega) a ha⟩, by omega, ⟨by omega, fun a ha => Codec.seen_all (n := min x.2.2.2.2.2.2.2.2.1.length 300) (m := 9000) (Codec.seen_mono hs123 (v := u210) (by have := hm122; have := hm217; omega)) hp186 (by omega) (by omega) (by omega) a ha⟩, ⟨by omega, fun a ha => Codec.seen_all (n := min x.2.2.2.2.2.2.1.2.2.length 300) (m := 9000) (Codec.seen_mono hs218 (v := u210) (by have := hm122; have := hm217; omega)) hp299 (by omega) (by omega) (by omega) a ha⟩, by omega, n1, n2⟩))⟩
                    · intro hp322
                      have hgd := hp322
                      replace hf := hf.setb (d := 96) (b' := false) rfl (decide_eq_false hp322)
                      refine Z.qe [.off, .off, .off, .off, .off, .n, .n, .off, .off, .n, .n, .off, .off, .off, .off, .n, .n] [2] [] [(2, .bool false)] Z.k0 hf ?_; clear hf a; intro a hf
                      refine hn302 _ _ ?_
                      refine Z.ret ?_
                      have hq323 : Z.Ch [] w w206 := hq196.then hc207
                      refine Z.ret1 hf Try.results7 rfl ?_
                      exact ⟨false, rfl, hq323, (by intro h; first | exact absurd h (by decide) | (obtain ⟨n1, n2⟩ := hnr h; exact ⟨⟨by omega, fun a ha => Codec.seen_all (n := min x.2.2.2.2.1.length 300) (m := 9000) (Codec.seen_mono hs40 (v := u210) (by have := hm122; have := hm217; omega)) hp91 (by omega) (by omega) (by omega) a ha⟩, by omega, ⟨by omega, fun a ha => Codec.seen_all (n := min x.2.2.2.2.2.2.2.2.1.length 300) (m := 9000) (Codec.seen_mono hs123 (v := u210) (by have := hm122; have := hm217; omega)) hp186 (by omega) (by omega) (by omega) a ha⟩, ⟨by omega, fun a ha => Codec.seen_all (n := min x.2.2.2.2.2.2.1.2.2.length 300) (m := 9000) (Codec.seen_mono hs218 (v := u210) (by have := hm122; have := hm217; omega)) hp299 (by omega) (by omega) (by omega) a ha⟩, by omega, n1, n2⟩))⟩
                  · intro hp324
                    have hgd := hp324
                    replace hf := hf.setb (d := 89) (b' := false) rfl (decide_eq_false hp324)
                    refine Z.qe [.off, .off, .off, .off, .off, .n, .n, .off, .off, .off, .off, .off, .n, .n, .off, .off, .n, .n, .off, .off, .off, .off, .n, .n] [2] [] [(2, .bool false)] Z.k0 hf ?_; clear hf a; intro a hf
                    refine hn302 _ _ ?_
                    refine Z.ret ?_
                    have hq325 : Z.Ch [] w w206 := hq196.then hc207
                    refine Z.ret1 hf Try.results7 rfl ?_
                    exact ⟨false, rfl, hq325, (by intro h; first | exact absurd h (by decide) | (obtain ⟨n1, n2⟩ := hnr h; exact ⟨⟨by omega, fun a ha => Codec.seen_all (n := min x.2.2.2.2.1.length 300) (m := 9000) (Codec.seen_mono hs40 (v := u210) (by have := hm122; have := hm217; omega)) hp91 (by omega) (by omega) (by omega) a ha⟩, by omega, ⟨by omega, fun a ha => Codec.seen_all (n := min x.2.2.2.2.2.2.2.2.1.length 300) (m := 9000) (Codec.seen_mono hs123 (v := u210) (by have := hm122; have := hm217; omega)) hp186 (by omega) (by omega) (by omega) a ha⟩, ⟨by omega, fun a ha => Codec.seen_all (n := min x.2.2.2.2.2.2.1.2.2.length 300) (m := 9000) (Codec.seen_mono hs218 (v := u210) (by have := hm122; have := hm217; omega)) hp299 (by omega) (by omega) (by omega) a ha⟩, by omega, n1, n2⟩))⟩
                · intro hp326
                  have hgd := hp326
                  replace hf := hf.setb (d := 83) (b' := false) rfl (decide_eq_false hp326)
                  refine Z.qe [.off, .off, .off, .off, .n, .n, .off, .off, .off, .off, .off, .n, .n, .off, .off, .off, .off, .off, .n, .n, .off, .off, .n, .n, .off, .off, .off, .off, .n, .n] [2] [] [(2, .bool false)] Z.k0 hf ?_; clear hf a; intro a hf
                  refine hn302 _ _ ?_
                  refine Z.ret ?_
                  have hq327 : Z.Ch [] w w206 := hq196.then hc207
                  refine Z.ret1 hf Try.results7 rfl ?_
                  exact ⟨false, rfl, hq327, (by intro h; first | exact absurd h (by decide) | (obtain ⟨n1, n2⟩ := hnr h; exact ⟨⟨by omega, fun a ha => Codec.seen_all (n := min x.2.2.2.2.1.length 300) (m := 9000) (Codec.seen_mono hs40 (v := u210) (by have := hm122; have := hm217; omega)) hp91 (by omega) (by omega) (by omega) a ha⟩, by omega, ⟨by omega, fun a ha => Codec.seen_all (n := min x.2.2.2.2.2.2.2.2.1.length 300) (m := 9000) (Codec.seen_mono hs123 (v := u210) (by have := hm122; have := hm217; omega)) hp186 (by omega) (by omega) (by omega) a ha⟩, ⟨by omega, fun a ha => Codec.seen_all (n := min x.2.2.2.2.2.2.1.2.2.length 300) (m := 9000) (Codec.seen_mono hs218 (v := u210) (by have := hm122; have := hm217; omega)) hp299 (by omega) (by omega) (by omega) a ha⟩, by omega, n1, n2⟩))⟩
              · intro hp328
                have hgd := hp328
                replace hf := hf.setb (d := 77) (b' := false) rfl (decide_eq_false hp328)
                refine Z.qe [.off, .off, .off, .off, .n, .n, .off, .off, .off, .off, .n, .n, .off, .off, .off, .off, .off, .n, .n, .off, .off, .off, .off, .off, .n, .n, .off, .off, .n, .n, .off, .off, .off, .off, .n, .n] [2] [] [(2, .bool false)] Z.k0 hf ?_; clear hf a; intro a hf
                refine hn302 _ _ ?_
                refine Z.ret ?_
                have hq329 : Z.Ch [] w w206 := hq196.then hc207
                refine Z.ret1 hf Try.results7 rfl ?_
                exact ⟨false, rfl, hq329, (by intro h; first | exact absurd h (by decide) | (obtain ⟨n1, n2⟩ := hnr h; exact ⟨⟨by omega, fun a ha => Codec.seen_all (n := min x.2.2.2.2.1.length 300) (m := 9000) (Codec.seen_mono hs40 (v := u210) (by have := hm122; have := hm217; omega)) hp91 (by omega) (by omega) (by omega) a ha⟩, by omega, ⟨by omega, fun a ha => Codec.seen_all (n := min x.2.2.2.2.2.2.2.2.1.length 300) (m := 9000) (Codec.seen_mono hs123 (v := u210) (by have := hm122; have := hm217; omega)) hp186 (by omega) (by omega) (by omega) a ha⟩, ⟨by omega, fun a ha => Codec.seen_all (n := min x.2.2.2.2.2.2.1.2.2.length 300) (m := 9000) (Codec.seen_mono hs218 (v := u210) (by have := hm122; have := hm217; omega)) hp299 (by omega) (by omega) (by omega) a ha⟩, by omega, n1, n2⟩))⟩

set_option maxHeartbeats 400000 in
set_option maxRecDepth 20000 in
theorem Frame_spec (xs : List UInt8) (w : World) (pA0 : Option Addr) (pc0 : Nat) (ph0 : (Z.Ty.slice Z.Ty.byte).rep w (Z.nt []) [.slice pA0 xs.length pc0] xs)  :
    Calls Try.prog 12 #[.slice pA0 xs.length pc0] w fun e w' => ∃ (rA0 : Option Addr) (rc0 : Nat), e = .returned (.tuple #[.slice rA0 (Codec.frameB xs).length rc0, .int .i64 (Codec.frameE xs)]) ∧ (Z.Ty.slice Z.Ty.byte).rep w' (Z.iv w.heap.size w'.heap.size) [.slice rA0 (Codec.frameB xs).length rc0] (Codec.frameB xs) ∧ Z.Ch [] w w' := by
  refine Z.enter Try.func12 rfl Try.ntmps12 (Nat.le_of_ble_eq_true rfl) fun a hf => ?_
  have hle_pA0 := Z.rep_le ph0
  have ph0o := Z.rep_ol ph0
  have hil := Codec.encInt_length (xs.length : Int)
  refine Z.qseq [.n, .n] [] [] [] Z.k0 hf ?_; clear hf a; intro a hf
  refine Z.seq' (Z.Pq.body _ _ _) fun Q1 hp2 hn3 he4 => ?_
  refine Z.qseq [.n, .n, .n] [6] [] [(6, .bool (decide (65536 < (xs.length : Int))))] Z.k0 hf ?_; clear hf a; intro a hf
  refine Z.condp hf rfl ?_ ?_
  · intro hp5
    refine Z.qseq [.n, .n] [2, 3] [] [(2, .slice none 0 0), (3, .int .i64 3)] Z.k0 hf ?_; clear hf a; intro a hf
    refine Z.ret ?_
    refine he4 _ _ _ (by simp) ?_
    have hr6 : (Z.Ty.slice Z.Ty.byte).rep w (Z.iv w.heap.size w.heap.size) [.slice none 0 0] [] := Z.rep_nil _
    have hxs7 : ([] : List UInt8) = (Codec.frameB xs : List UInt8) := by first | rfl | (unfold Codec.frameB; rw [if_neg (by omega)]; done) | (unfold Codec.frameB; rw [if_pos (by omega)]; simp; done)
    have hr8 := Z.rep_eq hr6 hxs7
    replace hf := hf.setv (d := 2) (y := .slice none ((Codec.frameB xs).length) 0) rfl (by rw [← hxs7] <;> first | done | rfl)
    replace hf := hf.setv (d := 3) (y := .int .i64 (Codec.frameE xs)) rfl (congrArg (Value.int .i64) (by first | rfl | (unfold Codec.frameE; rw [if_neg (by omega)]; done) | (unfold Codec.frameE; rw [if_pos (by omega)]; done)))
    refine Z.ret2 hf Try.results12 rfl rfl ?_
    exact ⟨none, 0, rfl, hr8, (Z.Ch.refl w)⟩
  · intro hp9
    refine Z.skip ?_
    refine hn3 _ _ ?_
    refine Z.seq' (Z.Pq.body _ _ _) fun Q10 hp11 hn12 he13 => ?_
    refine Z.reg ?_
    refine Z.qr [.n, .n] [8] [] [(8, .int .i64 (xs.length : Int))] Z.k0 hf ?_; clear hf a; intro a hf
    refine Z.call1 hf rfl (Z.r_call cf26 hf (xs := [.tmp 8]) rfl) (Int_spec (xs.length : Int) w  (by unfold Codec.okInt; omega)) ?_; clear hf a
    rintro _ w14 ⟨A15, c16, rfl, ho17, hc19⟩
    have hzhc19 := hc19.size
    refine ⟨_, rfl, ?_⟩; intro a hf
    refine Z.qr [.n] [10] [] [(10, .slice pA0 xs.length pc0)] Z.k0 hf ?_; clear hf a; intro a hf
    refine Z.st_bslice hf rfl Try.underlying46 Try.sizeOf40 Try.zeroValue40 (parts := [(0, .tmp 9), (1, .tmp 10)]) (cs := [.slice A15 ((Codec.encInt (xs.length : Int)).length) c16, .slice pA0 xs.length pc0]) rfl rfl rfl (by kernel_rfl) ?_; clear hf a; intro g20 w21 a hg22 hz23 hb24 hc25 hf
    have hr27 := ho17.riv
    have hr28 := Z.rep_to (F' := (Z.nt [])) hr27 hc25
    have hq29 : Z.Ch [] w w21 := hc19.then hc25
    have hr30 := Z.rep_to (F' := (Z.nt [])) ph0o hq29
    have ho26 : Z.Own (Z.Ty.slice Z.Ty.byte) 40 g20 w21 (Z.nt []) (some ⟨g20, 0, none⟩) 2 ([Codec.encInt (xs.length : Int), xs] : List (List UInt8)) := Z.Own.made (t := (Z.Ty.slice Z.Ty.byte)) (xs := ([Codec.encInt (xs.length : Int), xs] : List (List UInt8))) hb24 (Nat.le_refl _) rfl (by simp [maxLen]) (by simp [Value.oneCell']) (fun i x hi => by match i, hi with | 0, hi => (injection hi with hi; subst hi; exact hr28) | 1, hi => (injection hi with hi; subst hi; exact hr30) | (j + 2), hi => simp at hi)
    have hr31 := (ho26.rep' (F' := Z.nt []) (fun _ h => h) (fun _ _ _ => by simp [Z.nt]))
    refine Z.call1 hf rfl (Z.r_call cf25 hf (xs := [.tmp 11]) rfl) (WJoin_spec ([Codec.encInt (xs.length : Int), xs] : List (List UInt8)) w21 (some ⟨g20, 0, none⟩) 2 hr31 (by first | omega | (simp only [List.length_append, List.flatMap_cons, List.flatMap_nil, List.flatten_cons, List.flatten_nil, List.length_nil, List.append_nil]; omega))) ?_; clear hf a
    rintro _ w32 ⟨A33, c34, rfl, hr35, hc36⟩
    have hzhc36 := hc36.size
    refine ⟨_, rfl, ?_⟩; intro a hf
    refine Z.qe [.n, .n] [2, 3] [] [(2, .slice A33 ((([Codec.encInt (xs.length : Int), xs] : List (List UInt8)).flatten).length) c34), (3, .int .i64 0)] Z.k0 hf ?_; clear hf a; intro a hf
    refine hn12 _ _ ?_
    refine Z.ret ?_
    have hr37 : (Z.Ty.slice Z.Ty.byte).rep w32 (Z.iv w.heap.size w32.heap.size) [.slice A33 ((([Codec.encInt (xs.length : Int), xs] : List (List UInt8)).flatten).length) c34] (([Codec.encInt (xs.length : Int), xs] : List (List UInt8)).flatten) := Z.rep_as hr35 (by intro b h1 h2; (try simp only [Z.nt, Z.iv, Z.no, Z.ol] at h1); (try simp only [Z.iv]); omega)
    have hxs38 : ([Codec.encInt (xs.length : Int), xs] : List (List UInt8)).flatten = (Codec.frameB xs : List UInt8) := by first | rfl | (unfold Codec.frameB; rw [if_neg (by omega)]; done) | (unfold Codec.frameB; rw [if_pos (by omega)]; simp; done)
    have hr39 := Z.rep_eq hr37 hxs38
    replace hf := hf.setv (d := 2) (y := .slice A33 ((Codec.frameB xs).length) c34) rfl (by rw [← hxs38] <;> first | done | rfl)
    replace hf := hf.setv (d := 3) (y := .int .i64 (Codec.frameE xs)) rfl (congrArg (Value.int .i64) (by first | rfl | (unfold Codec.frameE; rw [if_neg (by omega)]; done) | (unfold Codec.frameE; rw [if_pos (by omega)]; done)))
    have hq40 : Z.Ch [] w w32 := hq29.then hc36
    refine Z.ret2 hf Try.results12 rfl rfl ?_
    exact ⟨A33, c34, rfl, hr39, hq40⟩

set_option maxHeartbeats 400000 in
set_option maxRecDepth 20000 in
theorem begun_spec  (w : World)    :
    Calls Try.prog 6 #[] w fun e w' => e = .returned (.bool true) ∧ Z.Ch [] w w' := by
  refine Z.enter Try.func6 rfl Try.ntmps6 (Nat.le_of_ble_eq_true rfl) fun a hf => ?_
  refine Z.qseq [.n] [] [] [] Z.k0 hf ?_; clear hf a; intro a hf
  refine Z.seq' (Z.Pq.body _ _ _) fun Q1 hp2 hn3 he4 => ?_
  refine Z.reg ?_
  refine Z.qr [.n] [6] [] [(6, .agg #[.int .i64 3, .int .i64 (-1), .string (ByteArray.mk #[97]), .int .i64 7])] Z.k0 hf ?_; clear hf a; intro a hf
  refine Z.st_bslice hf rfl Try.underlying34 Try.sizeOf58 Try.zeroValue58 (parts := [(0, .tmp 6)]) (cs := [.int .i64 3, .int .i64 (-1), .string (ByteArray.mk #[97]), .int .i64 7]) rfl rfl rfl (by kernel_rfl) ?_; clear hf a; intro g5 w6 a hg7 hz8 hb9 hc10 hf
  have ho11 : Z.Own T57 58 g5 w6 Z.no (some ⟨g5, 0, none⟩) 1 ([(3, -1, ByteArray.mk #[97], 7)] : List D57) := Z.Own.made (t := T57) (xs := ([(3, -1, ByteArray.mk #[97], 7)] : List D57)) hb9 (Nat.le_refl _) rfl (by simp [maxLen]) (by simp [Value.oneCell']) (fun i x hi => by match i, hi with | 0, hi => (injection hi with hi; subst hi; exact (Z.rep_pair_mk (show (Z.Ty.int .i64).rep w6 (Z.nt []) [.int .i64 3] 3 from ⟨rfl, (Z.i64_has (by omega))⟩) (Z.rep_pair_mk (show (Z.Ty.int .i64).rep w6 (Z.nt []) [.int .i64 (-1)] (-1) from ⟨rfl, (Z.i64_has (by omega))⟩) (Z.rep_pair_mk (show Z.Ty.str.rep w6 (Z.nt []) [.string (ByteArray.mk #[97])] (ByteArray.mk #[97]) from ⟨rfl, (by first | (simp [maxLen]; done) | exact Nat.le_of_ble_eq_true rfl)⟩) (show (Z.Ty.int .i64).rep w6 (Z.nt []) [.int .i64 7] 7 from ⟨rfl, (Z.i64_has (by omega))⟩))))) | (j + 1), hi => simp at hi)
  have hr12 := ho11.riv
  have hr13 := Z.rep_to (F' := (Z.nt [])) hr12 (Z.Ch.refl w6)
  refine Z.call1 hf rfl (Z.r_call cf18 hf (xs := [.tmp 7]) rfl) (Entries_spec ([(3, -1, ByteArray.mk #[97], 7)] : List D57) w6 (some ⟨g5, 0, none⟩) 1 hr13 (by decide) (by decide) (by intro a ha; simp at ha; subst ha; show _ ≤ _; decide)) ?_; clear hf a
  rintro _ w14 ⟨A15, c16, rfl, hr17, hc18⟩
  have hzhc18 := hc18.size
  refine ⟨_, rfl, ?_⟩; intro a hf
  refine Z.qe [.n, .n, .n, .n, .n] [1, 2] [] [(1, .slice A15 ((Codec.encList Codec.encEntry ([(3, -1, ByteArray.mk #[97], 7)] : List D57)).length) c16), (2, .int .i64 0)] Z.k0 hf ?_; clear hf a; intro a hf
  refine hn3 _ _ ?_
  refine Z.seq' (Z.Pq.body _ _ _) fun Q19 hp20 hn21 he22 => ?_
  refine Z.reg ?_
  refine Z.st_bslice hf rfl Try.underlying40 Try.sizeOf5 Try.zeroValue5 (parts := [(0, .const (.int .u8 5)), (1, .const (.int .u8 6))]) (cs := [.int .u8 5, .int .u8 6]) rfl rfl rfl (by kernel_rfl) ?_; clear hf a; intro g23 w24 a hg25 hz26 hb27 hc28 hf
  have ho29 : Z.Own Z.Ty.byte 5 g23 w24 Z.no (some ⟨g23, 0, none⟩) 2 ([UInt8.ofNat 5, UInt8.ofNat 6] : List UInt8) := Z.Own.made (t := Z.Ty.byte) (xs := ([UInt8.ofNat 5, UInt8.ofNat 6] : List UInt8)) hb27 (Nat.le_refl _) rfl (by simp [maxLen]) (by simp [Value.oneCell']) (fun i x hi => by match i, hi with | 0, hi => (injection hi with hi; subst hi; exact (show _ = _ from congrArg (fun z => [Value.int .u8 z]) (by decide))) | 1, hi => (injection hi with hi; subst hi; exact (show _ = _ from congrArg (fun z => [Value.int .u8 z]) (by decide))) | (j + 2), hi => simp at hi)
  have hr30 := ho29.riv
  have hr31 := Z.rep_to (F' := (Z.nt [])) hr30 (Z.Ch.refl w24)
  refine Z.call1 hf rfl (Z.r_call cf12 hf (xs := [.tmp 12]) rfl) (Frame_spec ([UInt8.ofNat 5, UInt8.ofNat 6] : List UInt8) w24 (some ⟨g23, 0, none⟩) 2 hr31) ?_; clear hf a
  rintro _ w32 ⟨A33, c34, rfl, hr35, hc36⟩
  have hzhc36 := hc36.size
  refine ⟨_, rfl, ?_⟩; intro a hf
  refine Z.qe [.n, .n, .n, .n, .n] [3, 4] [] [(3, .slice A33 ((Codec.frameB ([UInt8.ofNat 5, UInt8.ofNat 6] : List UInt8)).length) c34), (4, .int .i64 (Codec.frameE ([UInt8.ofNat 5, UInt8.ofNat 6] : List UInt8)))] Z.k0 hf ?_; clear hf a; intro a hf
  refine hn21 _ _ ?_
  refine Z.seq' (Z.Pq.body _ _ _) fun Q37 hp38 hn39 he40 => ?_
  refine Z.reg ?_
  refine Z.qr [.n, .n, .n, (.on .n)] [18, 19] [] [(18, .bool true), (19, .slice A15 ((Codec.encList Codec.encEntry ([(3, -1, ByteArray.mk #[97], 7)] : List D57)).length) c16)] Z.k0 hf ?_; clear hf a; intro a hf
  refine Z.on hf rfl rfl ?_
  refine Z.st_bslice hf rfl Try.underlying40 Try.sizeOf5 Try.zeroValue5 (parts := [(0, .const (.int .u8 101)), (1, .const (.int .u8 103)), (2, .const (.int .u8 49)), (3, .const (.int .u8 101)), (4, .const (.int .u8 97)), (5, .const (.int .u8 107))]) (cs := [.int .u8 101, .int .u8 103, .int .u8 49, .int .u8 101, .int .u8 97, .int .u8 107]) rfl rfl rfl (by kernel_rfl) ?_; clear hf a; intro g41 w42 a hg43 hz44 hb45 hc46 hf
  have ho47 : Z.Own Z.Ty.byte 5 g41 w42 Z.no (some ⟨g41, 0, none⟩) 6 ([UInt8.ofNat 101, UInt8.ofNat 103, UInt8.ofNat 49, UInt8.ofNat 101, UInt8.ofNat 97, UInt8.ofNat 107] : List UInt8) := Z.Own.made (t := Z.Ty.byte) (xs := ([UInt8.ofNat 101, UInt8.ofNat 103, UInt8.ofNat 49, UInt8.ofNat 101, UInt8.ofNat 97, UInt8.ofNat 107] : List UInt8)) hb45 (Nat.le_refl _) rfl (by simp [maxLen]) (by simp [Value.oneCell']) (fun i x hi => by match i, hi with | 0, hi => (injection hi with hi; subst hi; exact (show _ = _ from congrArg (fun z => [Value.int .u8 z]) (by decide))) | 1, hi => (injection hi with hi; subst hi; exact (show _ = _ from congrArg (fun z => [Value.int .u8 z]) (by decide))) | 2, hi => (injection hi with hi; subst hi; exact (show _ = _ from congrArg (fun z => [Value.int .u8 z]) (by decide))) | 3, hi => (injection hi with hi; subst hi; exact (show _ = _ from congrArg (fun z => [Value.int .u8 z]) (by decide))) | 4, hi => (injection hi with hi; subst hi; exact (show _ = _ from congrArg (fun z => [Value.int .u8 z]) (by decide))) | 5, hi => (injection hi with hi; subst hi; exact (show _ = _ from congrArg (fun z => [Value.int .u8 z]) (by decide))) | (j + 6), hi => simp at hi)
  refine Z.on hf rfl rfl ?_
  have hq48 : Z.Ch [] w14 w32 := hc28.then hc36
  have hq49 : Z.Ch [] w14 w42 := hq48.then hc46
  have hr50 := Z.rep_to (F' := (Z.nt [])) hr17 hq49
  have hr51 := ho47.riv
  have hr52 := Z.rep_to (F' := (Z.nt [])) hr51 (Z.Ch.refl w42)
  refine Z.call1 hf rfl (Z.r_call cf10 hf (xs := [.tmp 19, .tmp 20]) rfl) (Equal_spec (Codec.encList Codec.encEntry ([(3, -1, ByteArray.mk #[97], 7)] : List D57)) ([UInt8.ofNat 101, UInt8.ofNat 103, UInt8.ofNat 49, UInt8.ofNat 101, UInt8.ofNat 97, UInt8.ofNat 107] : List UInt8) w42 A15 c16 (some ⟨g41, 0, none⟩) 6 hr50 hr52) ?_; clear hf a
  rintro _ w53 ⟨rfl, hc54⟩
  have hzhc54 := hc54.size
  refine ⟨_, rfl, ?_⟩; intro a hf
  refine Z.qr [.n, .n] [23] [] [(23, .bool (decide ((Codec.encList Codec.encEntry ([(3, -1, ByteArray.mk #[97], 7)] : List D57)) = ([UInt8.ofNat 101, UInt8.ofNat 103, UInt8.ofNat 49, UInt8.ofNat 101, UInt8.ofNat 97, UInt8.ofNat 107] : List UInt8))))] Z.k0 hf ?_; clear hf a; intro a hf
  by_cases hdec : (Codec.encList Codec.encEntry ([(3, -1, ByteArray.mk #[97], 7)] : List D57)) = ([UInt8.ofNat 101, UInt8.ofNat 103, UInt8.ofNat 49, UInt8.ofNat 101, UInt8.ofNat 97, UInt8.ofNat 107] : List UInt8) <;> revert hdec
  · intro hp55
    have hgd := hp55
    replace hf := hf.setb (d := 23) (b' := true) rfl (decide_eq_true hp55)
    refine Z.qr [(.on .n), (.on .n), .n, .n] [27] [] [(27, .bool (decide (Codec.frameE ([UInt8.ofNat 5, UInt8.ofNat 6] : List UInt8) = 0)))] Z.k0 hf ?_; clear hf a; intro a hf
    by_cases hdec : Codec.frameE ([UInt8.ofNat 5, UInt8.ofNat 6] : List UInt8) = 0 <;> revert hdec
    · intro hp56
      have hgd := hp56
      replace hf := hf.setb (d := 27) (b' := true) rfl (decide_eq_true hp56)
      refine Z.qr [(.on .n)] [28] [] [(28, .slice A33 ((Codec.frameB ([UInt8.ofNat 5, UInt8.ofNat 6] : List UInt8)).length) c34)] Z.k0 hf ?_; clear hf a; intro a hf
      refine Z.on hf rfl rfl ?_
      refine Z.st_bslice hf rfl Try.underlying40 Try.sizeOf5 Try.zeroValue5 (parts := [(0, .const (.int .u8 102)), (1, .const (.int .u8 5)), (2, .const (.int .u8 6))]) (cs := [.int .u8 102, .int .u8 5, .int .u8 6]) rfl rfl rfl (by kernel_rfl) ?_; clear hf a; intro g57 w58 a hg59 hz60 hb61 hc62 hf
      have ho63 : Z.Own Z.Ty.byte 5 g57 w58 Z.no (some ⟨g57, 0, none⟩) 3 ([UInt8.ofNat 102, UInt8.ofNat 5, UInt8.ofNat 6] : List UInt8) := Z.Own.made (t := Z.Ty.byte) (xs := ([UInt8.ofNat 102, UInt8.ofNat 5, UInt8.ofNat 6] : List UInt8)) hb61 (Nat.le_refl _) rfl (by simp [maxLen]) (by simp [Value.oneCell']) (fun i x hi => by match i, hi with | 0, hi => (injection hi with hi; subst hi; exact (show _ = _ from congrArg (fun z => [Value.int .u8 z]) (by decide))) | 1, hi => (injection hi with hi; subst hi; exact (show _ = _ from congrArg (fun z => [Value.int .u8 z]) (by decide))) | 2, hi => (injection hi with hi; subst hi; exact (show _ = _ from congrArg (fun z => [Value.int .u8 z]) (by decide))) | (j + 3), hi => simp at hi)
      refine Z.on hf rfl rfl ?_
      have hq64 : Z.Ch [] w32 w53 := hc46.then hc54
      have hq65 : Z.Ch [] w32 w58 := hq64.then hc62
      have hr66 := Z.rep_to (F' := (Z.nt [])) hr35 hq65
      have hr67 := ho63.riv
      have hr68 := Z.rep_to (F' := (Z.nt [])) hr67 (Z.Ch.refl w58)
      refine Z.call1 hf rfl (Z.r_call cf10 hf (xs := [.tmp 28, .tmp 29]) rfl) (Equal_spec (Codec.frameB ([UInt8.ofNat 5, UInt8.ofNat 6] : List UInt8)) ([UInt8.ofNat 102, UInt8.ofNat 5, UInt8.ofNat 6] : List UInt8) w58 A33 c34 (some ⟨g57, 0, none⟩) 3 hr66 hr68) ?_; clear hf a
      rintro _ w69 ⟨rfl, hc70⟩
      have hzhc70 := hc70.size
      refine ⟨_, rfl, ?_⟩; intro a hf
      refine Z.qe [.n, .n] [0] [] [(0, .bool (decide ((Codec.frameB ([UInt8.ofNat 5, UInt8.ofNat 6] : List UInt8)) = ([UInt8.ofNat 102, UInt8.ofNat 5, UInt8.ofNat 6] : List UInt8))))] Z.k0 hf ?_; clear hf a; intro a hf
      refine hn39 _ _ ?_
      refine Z.ret ?_
      replace hf := hf.setv (d := 0) (y := .bool true) rfl (congrArg Value.bool (by first | rfl | exact decide_eq_true (by decide)))
      have hq71 : Z.Ch [] w w14 := hc10.then hc18
      have hq72 : Z.Ch [] w w24 := hq71.then hc28
      have hq73 : Z.Ch [] w w32 := hq72.then hc36
      have hq74 : Z.Ch [] w w42 := hq73.then hc46
      have hq75 : Z.Ch [] w w53 := hq74.then hc54
      have hq76 : Z.Ch [] w w58 := hq75.then hc62
      have hq77 : Z.Ch [] w w69 := hq76.then hc70
      refine Z.ret1 hf Try.results6 rfl ?_
      exact ⟨rfl, hq77⟩
    · intro hp78
      have hgd := hp78
      exfalso; exact hgd (by decide)
  · intro hp79
    have hgd := hp79
    exfalso; exact hgd (by decide)

set_option maxHeartbeats 1000000 in
set_option maxRecDepth 20000 in
theorem CodecApart_spec (x : D36) (y : D36) (w : World) (pA0 : Option Addr) (pc0 : Nat) (pA1 : Option Addr) (pc1 : Nat) (pA2 : Option Addr) (pc2 : Nat) (pA3 : Option Addr) (pc3 : Nat) (pA4 : Option Addr) (pc4 : Nat) (pA5 : Option Addr) (pc5 : Nat) (pA6 : Option Addr) (pc6 : Nat) (pA7 : Option Addr) (pc7 : Nat) (pA8 : Option Addr) (pc8 : Nat) (pA9 : Option Addr) (pc9 : Nat) (pA10 : Option Addr) (pc10 : Nat) (pA11 : Option Addr) (pc11 : Nat) (ph0 : (Z.Ty.slice T59).rep w (Z.nt []) [.slice pA0 x.2.2.2.2.1.length pc0] x.2.2.2.2.1) (ph1 : (Z.Ty.slice T70).rep w (Z.nt []) [.slice pA1 x.2.2.2.2.2.1.length pc1] x.2.2.2.2.2.1) (ph2 : (Z.Ty.slice (Z.Ty.int .i64)).rep w (Z.nt []) [.slice pA2 x.2.2.2.2.2.2.1.1.length pc2] x.2.2.2.2.2.2.1.1) (ph3 : (Z.Ty.slice T85).rep w (Z.nt []) [.slice pA3 x.2.2.2.2.2.2.1.2.1.length pc3] x.2.2.2.2.2.2.1.2.1) (ph4 : (Z.Ty.slice T63).rep w (Z.nt []) [.slice pA4 x.2.2.2.2.2.2.1.2.2.length pc4] x.2.2.2.2.2.2.1.2.2) (ph5 : (Z.Ty.slice T57).rep w (Z.nt []) [.slice pA5 x.2.2.2.2.2.2.2.2.1.length pc5] x.2.2.2.2.2.2.2.2.1) (pk6 : Z.Ty.ok T36 x) (ph6 : (Z.Ty.slice T59).rep w (Z.nt []) [.slice pA6 y.2.2.2.2.1.length pc6] y.2.2.2.2.1) (ph7 : (Z.Ty.slice T70).rep w (Z.nt []) [.slice pA7 y.2.2.2.2.2.1.length pc7] y.2.2.2.2.2.1) (ph8 : (Z.Ty.slice (Z.Ty.int .i64)).rep w (Z.nt []) [.slice pA8 y.2.2.2.2.2.2.1.1.length pc8] y.2.2.2.2.2.2.1.1) (ph9 : (Z.Ty.slice T85).rep w (Z.nt []) [.slice pA9 y.2.2.2.2.2.2.1.2.1.length pc9] y.2.2.2.2.2.2.1.2.1) (ph10 : (Z.Ty.slice T63).rep w (Z.nt []) [.slice pA10 y.2.2.2.2.2.2.1.2.2.length pc10] y.2.2.2.2.2.2.1.2.2) (ph11 : (Z.Ty.slice T57).rep w (Z.nt []) [.slice pA11 y.2.2.2.2.2.2.2.2.1.length pc11] y.2.2.2.2.2.2.2.2.1) (pk13 : Z.Ty.ok T36 y)  :
    Calls Try.prog 3 #[.agg #[.int .i64 x.1, .int .i64 x.2.1, .int .i64 x.2.2.1.1, .int .i64 x.2.2.1.2, .int .i64 x.2.2.2.1.1, .int .i64 x.2.2.2.1.2.1, .int .i64 x.2.2.2.1.2.2.1, .int .i64 x.2.2.2.1.2.2.2.1, .int .i64 x.2.2.2.1.2.2.2.2.1, .int .i64 x.2.2.2.1.2.2.2.2.2, .slice pA0 x.2.2.2.2.1.length pc0, .slice pA1 x.2.2.2.2.2.1.length pc1, .slice pA2 x.2.2.2.2.2.2.1.1.length pc2, .slice pA3 x.2.2.2.2.2.2.1.2.1.length pc3, .slice pA4 x.2.2.2.2.2.2.1.2.2.length pc4, .int .i64 x.2.2.2.2.2.2.2.1, .slice pA5 x.2.2.2.2.2.2.2.2.1.length pc5, .bool x.2.2.2.2.2.2.2.2.2.1, .int .i64 x.2.2.2.2.2.2.2.2.2.2], .agg #[.int .i64 y.1, .int .i64 y.2.1, .int .i64 y.2.2.1.1, .int .i64 y.2.2.1.2, .int .i64 y.2.2.2.1.1, .int .i64 y.2.2.2.1.2.1, .int .i64 y.2.2.2.1.2.2.1, .int .i64 y.2.2.2.1.2.2.2.1, .int .i64 y.2.2.2.1.2.2.2.2.1, .int .i64 y.2.2.2.1.2.2.2.2.2, .slice pA6 y.2.2.2.2.1.length pc6, .slice pA7 y.2.2.2.2.2.1.length pc7, .slice pA8 y.2.2.2.2.2.2.1.1.length pc8, .slice pA9 y.2.2.2.2.2.2.1.2.1.length pc9, .slice pA10 y.2.2.2.2.2.2.1.2.2.length pc10, .int .i64 y.2.2.2.2.2.2.2.1, .slice pA11 y.2.2.2.2.2.2.2.2.1.length pc11, .bool y.2.2.2.2.2.2.2.2.2.1, .int .i64 y.2.2.2.2.2.2.2.2.2.2]] w fun e w' => e = .returned (.bool true) ∧ Z.Ch [] w w' := by
  refine Z.enter Try.func3 rfl Try.ntmps3 (Nat.le_of_ble_eq_true rfl) fun a hf => ?_
  have hle_pA0 := Z.rep_le ph0
  have ph0o := Z.rep_ol ph0
  have hle_pA1 := Z.rep_le ph1
  have ph1o := Z.rep_ol ph1
  have hle_pA2 := Z.rep_le ph2
  have ph2o := Z.rep_ol ph2
  have hle_pA3 := Z.rep_le ph3
  have ph3o := Z.rep_ol ph3
  have hle_pA4 := Z.rep_le ph4
  have ph4o := Z.rep_ol ph4
  have hle_pA5 := Z.rep_le ph5
  have ph5o := Z.rep_ol ph5
  have hle_pA6 := Z.rep_le ph6
  have ph6o := Z.rep_ol ph6
  have hle_pA7 := Z.rep_le ph7
  have ph7o := Z.rep_ol ph7
  have hle_pA8 := Z.rep_le ph8
  have ph8o := Z.rep_ol ph8
  have hle_pA9 := Z.rep_le ph9
  have ph9o := Z.rep_ol ph9
  have hle_pA10 := Z.rep_le ph10
  have ph10o := Z.rep_ol ph10
  have hle_pA11 := Z.rep_le ph11
  have ph11o := Z.rep_ol ph11
  have okx := Z.ok_msg (m := x) pk6
  have oky := Z.ok_msg (m := y) pk13
  refine Z.seq' (Z.Pq.body _ _ _) fun Q1 hp2 hn3 he4 => ?_
  refine Z.reg ?_
  refine Z.st_box hf rfl rfl rfl ?_; clear hf a; intro g5 w6 a hg7 hz8 hb9 hc10 hf
  refine Z.st_box hf rfl rfl rfl ?_; clear hf a; intro g11 w12 a hg13 hz14 hb15 hc16 hf
  refine Z.qe [.n] [] [] [] Z.k0 hf ?_; clear hf a; intro a hf
  refine hn3 _ _ ?_
  refine Z.seq' (Z.Pq.body _ _ _) fun Q17 hp18 hn19 he20 => ?_
  refine Z.seq' hp18 fun Q21 hp22 hn23 he24 => ?_
  refine Z.reg ?_
  refine Z.call1 hf rfl (Z.r_call cf6 hf (xs := []) rfl) (begun_spec  w12  ) ?_; clear hf a
  rintro _ w25 ⟨rfl, hc26⟩
  have hzhc26 := hc26.size
  refine ⟨_, rfl, ?_⟩; intro a hf
  have hq27 : Z.Ch [] w6 w25 := hc16.then hc26
  have hb28 := hb9.ch0 hq27
  refine Z.qr [.n, .n, (.on (.b 0 0))] [11, 12] [] [(11, .bool false), (12, .agg #[.int .i64 x.1, .int .i64 x.2.1, .int .i64 x.2.2.1.1, .int .i64 x.2.2.1.2, .int .i64 x.2.2.2.1.1, .int .i64 x.2.2.2.1.2.1, .int .i64 x.2.2.2.1.2.2.1, .int .i64 x.2.2.2.1.2.2.2.1, .int .i64 x.2.2.2.1.2.2.2.2.1, .int .i64 x.2.2.2.1.2.2.2.2.2, .slice pA0 x.2.2.2.2.1.length pc0, .slice pA1 x.2.2.2.2.2.1.length pc1, .slice pA2 x.2.2.2.2.2.2.1.1.length pc2, .slice pA3 x.2.2.2.2.2.2.1.2.1.length pc3, .slice pA4 x.2.2.2.2.2.2.1.2.2.length pc4, .int .i64 x.2.2.2.2.2.2.2.1, .slice pA5 x.2.2.2.2.2.2.2.2.1.length pc5, .bool x.2.2.2.2.2.2.2.2.2.1, .int .i64 x.2.2.2.2.2.2.2.2.2.2])] (Z.kb hb28 Z.k0) hf ?_; clear hf a; intro a hf
  refine Z.on hf rfl rfl ?_
  have hq29 : Z.Ch [] w w12 := hc10.then hc16
  have hq30 : Z.Ch [] w w25 := hq29.then hc26
  have hr31 := Z.rep_to (F' := (Z.nt [])) ph0o hq30
  have hr32 := Z.rep_to (F' := (Z.nt [])) ph1o hq30
  have hr33 := Z.rep_to (F' := (Z.nt [])) ph2o hq30
  have hr34 := Z.rep_to (F' := (Z.nt [])) ph3o hq30
  have hr35 := Z.rep_to (F' := (Z.nt [])) ph4o hq30
  have hr36 := Z.rep_to (F' := (Z.nt [])) ph5o hq30
  refine Z.call1 hf rfl (Z.r_call cf7 hf (xs := [.tmp 12]) rfl) (small_spec x w25 pA0 pc0 pA1 pc1 pA2 pc2 pA3 pc3 pA4 pc4 pA5 pc5 hr31 hr32 hr33 hr34 hr35 hr36 pk6) ?_; clear hf a
  rintro _ w37 ⟨r38, rfl, hc39, hr40⟩
  have hzhc39 := hc39.size
  refine ⟨_, rfl, ?_⟩; intro a hf
  have hsmx := hr40
  refine Z.qr [(.on .n), .n, .n] [16] [] [(16, .bool (!r38))] Z.k0 hf ?_; clear hf a; intro a hf
  cases hdec : (!r38) <;> revert hdec
  · intro hp41
    have hgd := hp41
    replace hf := hf.setb (d := 16) (b' := false) rfl hp41
    have hq42 : Z.Ch [] w12 w37 := hc26.then hc39
    have hb43 := hb15.ch0 hq42
    refine Z.qr [(.on (.b 0 0))] [17] [] [(17, .agg #[.int .i64 y.1, .int .i64 y.2.1, .int .i64 y.2.2.1.1, .int .i64 y.2.2.1.2, .int .i64 y.2.2.2.1.1, .int .i64 y.2.2.2.1.2.1, .int .i64 y.2.2.2.1.2.2.1, .int .i64 y.2.2.2.1.2.2.2.1, .int .i64 y.2.2.2.1.2.2.2.2.1, .int .i64 y.2.2.2.1.2.2.2.2.2, .slice pA6 y.2.2.2.2.1.length pc6, .slice pA7 y.2.2.2.2.2.1.length pc7, .slice pA8 y.2.2.2.2.2.2.1.1.length pc8, .slice pA9 y.2.2.2.2.2.2.1.2.1.length pc9, .slice pA10 y.2.2.2.2.2.2.1.2.2.length pc10, .int .i64 y.2.2.2.2.2.2.2.1, .slice pA11 y.2.2.2.2.2.2.2.2.1.length pc11, .bool y.2.2.2.2.2.2.2.2.2.1, .int .i64 y.2.2.2.2.2.2.2.2.2.2])] (Z.kb hb43 Z.k0) hf ?_; clear hf a; intro a hf
    refine Z.on hf rfl rfl ?_
    have hq44 : Z.Ch [] w w37 := hq30.then hc39
    have hr45 := Z.rep_to (F' := (Z.nt [])) ph6o hq44
    have hr46 := Z.rep_to (F' := (Z.nt [])) ph7o hq44
    have hr47 := Z.rep_to (F' := (Z.nt [])) ph8o hq44
    have hr48 := Z.rep_to (F' := (Z.nt [])) ph9o hq44
    have hr49 := Z.rep_to (F' := (Z.nt [])) ph10o hq44
    have hr50 := Z.rep_to (F' := (Z.nt [])) ph11o hq44
    refine Z.call1 hf rfl (Z.r_call cf7 hf (xs := [.tmp 17]) rfl) (small_spec y w37 pA6 pc6 pA7 pc7 pA8 pc8 pA9 pc9 pA10 pc10 pA11 pc11 hr45 hr46 hr47 hr48 hr49 hr50 pk13) ?_; clear hf a
    rintro _ w51 ⟨r52, rfl, hc53, hr54⟩
    have hzhc53 := hc53.size
    refine ⟨_, rfl, ?_⟩; intro a hf
    have hsmy := hr54
    refine Z.qe [(.on .n), .n] [20] [] [(20, .bool (!r52))] Z.k0 hf ?_; clear hf a; intro a hf
    refine hn23 _ _ ?_
    refine Z.cond hf rfl ?_ ?_
    · intro hp55
      have hcond := hp55
      refine Z.seq' hp18 fun Q56 hp57 hn58 he59 => ?_
      refine Z.reg ?_
      refine Z.call1 hf rfl (Z.r_call cf6 hf (xs := []) rfl) (begun_spec  w51  ) ?_; clear hf a
      rintro _ w60 ⟨rfl, hc61⟩
      have hzhc61 := hc61.size
      refine ⟨_, rfl, ?_⟩; intro a hf
      refine Z.qe [.n] [4] [] [(4, .bool true)] Z.k0 hf ?_; clear hf a; intro a hf
      refine hn58 _ _ ?_
      refine Z.ret ?_
      refine he20 _ _ _ (by simp) ?_
      have hq62 : Z.Ch [] w w51 := hq44.then hc53
      have hq63 : Z.Ch [] w w60 := hq62.then hc61
      refine Z.ret1 hf Try.results3 rfl ?_
      exact ⟨rfl, hq63⟩
    · intro hp64
      have hcond := hp64
      refine Z.skip ?_
      refine hn19 _ _ ?_
      refine Z.seq' (Z.Pq.body _ _ _) fun Q65 hp66 hn67 he68 => ?_
      refine Z.reg ?_
      have hq69 : Z.Ch [] w25 w51 := hc39.then hc53
      have hb70 := hb28.ch0 hq69
      refine Z.qr [.b 0 0] [23] [] [(23, .agg #[.int .i64 x.1, .int .i64 x.2.1, .int .i64 x.2.2.1.1, .int .i64 x.2.2.1.2, .int .i64 x.2.2.2.1.1, .int .i64 x.2.2.2.1.2.1, .int .i64 x.2.2.2.1.2.2.1, .int .i64 x.2.2.2.1.2.2.2.1, .int .i64 x.2.2.2.1.2.2.2.2.1, .int .i64 x.2.2.2.1.2.2.2.2.2, .slice pA0 x.2.2.2.2.1.length pc0, .slice pA1 x.2.2.2.2.2.1.length pc1, .slice pA2 x.2.2.2.2.2.2.1.1.length pc2, .slice pA3 x.2.2.2.2.2.2.1.2.1.length pc3, .slice pA4 x.2.2.2.2.2.2.1.2.2.length pc4, .int .i64 x.2.2.2.2.2.2.2.1, .slice pA5 x.2.2.2.2.2.2.2.2.1.length pc5, .bool x.2.2.2.2.2.2.2.2.2.1, .int .i64 x.2.2.2.2.2.2.2.2.2.2])] (Z.kb hb70 Z.k0) hf ?_; clear hf a; intro a hf
      have hq71 : Z.Ch [] w w51 := hq44.then hc53
      have hr72 := Z.rep_to (F' := (Z.nt [])) ph0o hq71
      have hr73 := Z.rep_to (F' := (Z.nt [])) ph1o hq71
      have hr74 := Z.rep_to (F' := (Z.nt [])) ph2o hq71
      have hr75 := Z.rep_to (F' := (Z.nt [])) ph3o hq71
      have hr76 := Z.rep_to (F' := (Z.nt [])) ph4o hq71
      have hr77 := Z.rep_to (F' := (Z.nt [])) ph5o hq71
      refine Z.call1 hf rfl (Z.r_call cf8 hf (xs := [.tmp 23]) rfl) (Msg_spec x w51 pA0 pc0 pA1 pc1 pA2 pc2 pA3 pc3 pA4 pc4 pA5 pc5 hr72 hr73 hr74 hr75 hr76 hr77 pk6 (by first | (exact (Codec.sMsg_g (hsmx (by simpa using hp41))).2) | (exact (Codec.sMsg_g (hsmy (by simpa using hp64))).2)) (by first | (exact (Codec.sMsg_g (hsmx (by simpa using hp41))).1) | (exact (Codec.sMsg_g (hsmy (by simpa using hp64))).1))) ?_; clear hf a
      rintro _ w78 ⟨A79, c80, rfl, hr81, hc82⟩
      have hzhc82 := hc82.size
      refine ⟨_, rfl, ?_⟩; intro a hf
      refine Z.qe [.n, .n, .n, .n, .n] [5, 6] [] [(5, .slice A79 ((Codec.encMsg x).length) c80), (6, .int .i64 0)] Z.k0 hf ?_; clear hf a; intro a hf
      refine hn67 _ _ ?_
      refine Z.seq' (Z.Pq.body _ _ _) fun Q83 hp84 hn85 he86 => ?_
      refine Z.reg ?_
      have hq87 : Z.Ch [] w37 w78 := hc53.then hc82
      have hb88 := hb43.ch0 hq87
      refine Z.qr [.b 0 0] [28] [] [(28, .agg #[.int .i64 y.1, .int .i64 y.2.1, .int .i64 y.2.2.1.1, .int .i64 y.2.2.1.2, .int .i64 y.2.2.2.1.1, .int .i64 y.2.2.2.1.2.1, .int .i64 y.2.2.2.1.2.2.1, .int .i64 y.2.2.2.1.2.2.2.1, .int .i64 y.2.2.2.1.2.2.2.2.1, .int .i64 y.2.2.2.1.2.2.2.2.2, .slice pA6 y.2.2.2.2.1.length pc6, .slice pA7 y.2.2.2.2.2.1.length pc7, .slice pA8 y.2.2.2.2.2.2.1.1.length pc8, .slice pA9 y.2.2.2.2.2.2.1.2.1.length pc9, .slice pA10 y.2.2.2.2.2.2.1.2.2.length pc10, .int .i64 y.2.2.2.2.2.2.2.1, .slice pA11 y.2.2.2.2.2.2.2.2.1.length pc11, .bool y.2.2.2.2.2.2.2.2.2.1, .int .i64 y.2.2.2.2.2.2.2.2.2.2])] (Z.kb hb88 Z.k0) hf ?_; clear hf a; intro a hf
      have hq89 : Z.Ch [] w w78 := hq71.then hc82
      have hr90 := Z.rep_to (F' := (Z.nt [])) ph6o hq89
      have hr91 := Z.rep_to (F' := (Z.nt [])) ph7o hq89
      have hr92 := Z.rep_to (F' := (Z.nt [])) ph8o hq89
      have hr93 := Z.rep_to (F' := (Z.nt [])) ph9o hq89
      have hr94 := Z.rep_to (F' := (Z.nt [])) ph10o hq89
      have hr95 := Z.rep_to (F' := (Z.nt [])) ph11o hq89
      refine Z.call1 hf rfl (Z.r_call cf8 hf (xs := [.tmp 28]) rfl) (Msg_spec y w78 pA6 pc6 pA7 pc7 pA8 pc8 pA9 pc9 pA10 pc10 pA11 pc11 hr90 hr91 hr92 hr93 hr94 hr95 pk13 (by first | (exact (Codec.sMsg_g (hsmx (by simpa using hp41))).2) | (exact (Codec.sMsg_g (hsmy (by simpa using hp64))).2)) (by first | (exact (Codec.sMsg_g (hsmx (by simpa using hp41))).1) | (exact (Codec.sMsg_g (hsmy (by simpa using hp64))).1))) ?_; clear hf a
      rintro _ w96 ⟨A97, c98, rfl, hr99, hc100⟩
      have hzhc100 := hc100.size
      refine ⟨_, rfl, ?_⟩; intro a hf
      refine Z.qe [.n, .n, .n, .n, .n] [7, 8] [] [(7, .slice A97 ((Codec.encMsg y).length) c98), (8, .int .i64 0)] Z.k0 hf ?_; clear hf a; intro a hf
      refine hn85 _ _ ?_
      refine Z.seq' (Z.Pq.body _ _ _) fun Q101 hp102 hn103 he104 => ?_
      refine Z.reg ?_
      have hb105 := hb88.ch0 hc100
      have hq106 : Z.Ch [] w51 w96 := hc82.then hc100
      have hb107 := hb70.ch0 hq106
      refine Z.qr [.n, .n, .n, (.on .n), (.on .n), .n, .n, (.on (.b 0 0)), (.on (.b 1 0))] [38, 39, 40] [] [(38, .bool true), (39, .agg #[.int .i64 x.1, .int .i64 x.2.1, .int .i64 x.2.2.1.1, .int .i64 x.2.2.1.2, .int .i64 x.2.2.2.1.1, .int .i64 x.2.2.2.1.2.1, .int .i64 x.2.2.2.1.2.2.1, .int .i64 x.2.2.2.1.2.2.2.1, .int .i64 x.2.2.2.1.2.2.2.2.1, .int .i64 x.2.2.2.1.2.2.2.2.2, .slice pA0 x.2.2.2.2.1.length pc0, .slice pA1 x.2.2.2.2.2.1.length pc1, .slice pA2 x.2.2.2.2.2.2.1.1.length pc2, .slice pA3 x.2.2.2.2.2.2.1.2.1.length pc3, .slice pA4 x.2.2.2.2.2.2.1.2.2.length pc4, .int .i64 x.2.2.2.2.2.2.2.1, .slice pA5 x.2.2.2.2.2.2.2.2.1.length pc5, .bool x.2.2.2.2.2.2.2.2.2.1, .int .i64 x.2.2.2.2.2.2.2.2.2.2]), (40, .agg #[.int .i64 y.1, .int .i64 y.2.1, .int .i64 y.2.2.1.1, .int .i64 y.2.2.1.2, .int .i64 y.2.2.2.1.1, .int .i64 y.2.2.2.1.2.1, .int .i64 y.2.2.2.1.2.2.1, .int .i64 y.2.2.2.1.2.2.2.1, .int .i64 y.2.2.2.1.2.2.2.2.1, .int .i64 y.2.2.2.1.2.2.2.2.2, .slice pA6 y.2.2.2.2.1.length pc6, .slice pA7 y.2.2.2.2.2.1.length pc7, .slice pA8 y.2.2.2.2.2.2.1.1.length pc8, .slice pA9 y.2.2.2.2.2.2.1.2.1.length pc9, .slice pA10 y.2.2.2.2.2.2.1.2.2.length pc10, .int .i64 y.2.2.2.2.2.2.2.1, .slice pA11 y.2.2.2.2.2.2.2.2.1.length pc11, .bool y.2.2.2.2.2.2.2.2.2.1, .int .i64 y.2.2.2.2.2.2.2.2.2.2])] (Z.kb hb107 (Z.kb hb105 Z.k0)) hf ?_; clear hf a; intro a hf
      refine Z.on hf rfl rfl ?_
      have hq108 : Z.Ch [] w w96 := hq89.then hc100
      have hr109 := Z.rep_to (F' := (Z.nt [])) ph0o hq108
      have hr110 := Z.rep_to (F' := (Z.nt [])) ph1o hq108
      have hr111 := Z.rep_to (F' := (Z.nt [])) ph2o hq108
      have hr112 := Z.rep_to (F' := (Z.nt [])) ph3o hq108
      have hr113 := Z.rep_to (F' := (Z.nt [])) ph4o hq108
      have hr114 := Z.rep_to (F' := (Z.nt [])) ph5o hq108
      have hr115 := Z.rep_to (F' := (Z.nt [])) ph6o hq108
      have hr116 := Z.rep_to (F' := (Z.nt [])) ph7o hq108
      have hr117 := Z.rep_to (F' := (Z.nt [])) ph8o hq108
      have hr118 := Z.rep_to (F' := (Z.nt [])) ph9o hq108
      have hr119 := Z.rep_to (F' := (Z.nt [])) ph10o hq108
      have hr120 := Z.rep_to (F' := (Z.nt [])) ph11o hq108
      refine Z.call1 hf rfl (Z.r_call cf9 hf (xs := [.tmp 39, .tmp 40]) rfl) (SameMsg_spec x y w96 pA0 pc0 pA1 pc1 pA2 pc2 pA3 pc3 pA4 pc4 pA5 pc5 pA6 pc6 pA7 pc7 pA8 pc8 pA9 pc9 pA10 pc10 pA11 pc11 hr109 hr110 hr111 hr112 hr113 hr114 pk6 hr115 hr116 hr117 hr118 hr119 hr120 pk13) ?_; clear hf a
      rintro _ w121 ⟨rfl, hc122⟩
      have hzhc122 := hc122.size
      refine ⟨_, rfl, ?_⟩; intro a hf
      refine Z.qr [(.on .n), (.on .n)] [42, 43] [] [(42, .slice A79 ((Codec.encMsg x).length) c80), (43, .slice A97 ((Codec.encMsg y).length) c98)] Z.k0 hf ?_; clear hf a; intro a hf
      refine Z.on hf rfl rfl ?_
      have hq123 : Z.Ch [] w78 w121 := hc100.then hc122
      have hr124 := Z.rep_to (F' := (Z.nt [])) hr81 hq123
      have hr125 := Z.rep_to (F' := (Z.nt [])) hr99 hc122
      refine Z.call1 hf rfl (Z.r_call cf10 hf (xs := [.tmp 42, .tmp 43]) rfl) (Equal_spec (Codec.encMsg x) (Codec.encMsg y) w121 A79 c80 A97 c98 hr124 hr125) ?_; clear hf a
      rintro _ w126 ⟨rfl, hc127⟩
      have hzhc127 := hc127.size
      refine ⟨_, rfl, ?_⟩; intro a hf
      refine Z.qr [(.on .n), .n, .n] [47] [] [(47, .bool ((decide (x = y)) == (decide ((Codec.encMsg x) = (Codec.encMsg y)))))] Z.k0 hf ?_; clear hf a; intro a hf
      cases hdec : ((decide (x = y)) == (decide ((Codec.encMsg x) = (Codec.encMsg y)))) <;> revert hdec
      · intro hp128
        have hgd := hp128
        exfalso; rw [Codec.apart_dec okx oky] at hgd; cases hgd
      · intro hp129
        have hgd := hp129
        replace hf := hf.setb (d := 47) (b' := true) rfl hp129
        refine Z.qr [(.on .n), (.on .n)] [48, 49] [] [(48, .slice A79 ((Codec.encMsg x).length) c80), (49, .slice A97 ((Codec.encMsg y).length) c98)] Z.k0 hf ?_; clear hf a; intro a hf
        refine Z.on hf rfl rfl ?_
        have hq130 : Z.Ch [] w78 w126 := hq123.then hc127
        have hr131 := Z.rep_to (F' := (Z.nt [])) hr81 hq130
        have hq132 : Z.Ch [] w96 w126 := hc122.then hc127
        have hr133 := Z.rep_to (F' := (Z.nt [])) hr99 hq132
        refine Z.call1 hf rfl (Z.r_call cf10 hf (xs := [.tmp 48, .tmp 49]) rfl) (Equal_spec (Codec.encMsg x) (Codec.encMsg y) w126 A79 c80 A97 c98 hr131 hr133) ?_; clear hf a
        rintro _ w134 ⟨rfl, hc135⟩
        have hzhc135 := hc135.size
        refine ⟨_, rfl, ?_⟩; intro a hf
        refine Z.qr [(.on .n)] [51] [] [(51, .bool (decide ((Codec.encMsg x) = (Codec.encMsg y))))] Z.k0 hf ?_; clear hf a; intro a hf
        by_cases hdec : (Codec.encMsg x) = (Codec.encMsg y) <;> revert hdec
        · intro hp136
          have hgd := hp136
          replace hf := hf.setb (d := 51) (b' := true) rfl (decide_eq_true hp136)
          refine Z.qe [.off, .off, .off, .off, .off, .off, .off, .off, .off, .off, (.on .n), .n, .n] [4] [] [(4, .bool true)] Z.k0 hf ?_; clear hf a; intro a hf
          refine hn103 _ _ ?_
          refine Z.ret ?_
          have hq137 : Z.Ch [] w w121 := hq108.then hc122
          have hq138 : Z.Ch [] w w126 := hq137.then hc127
          have hq139 : Z.Ch [] w w134 := hq138.then hc135
          refine Z.ret1 hf Try.results3 rfl ?_
          exact ⟨rfl, hq139⟩
        · intro hp140
          have hgd := hp140
          replace hf := hf.setb (d := 51) (b' := false) rfl (decide_eq_false hp140)
          refine Z.qr [(.on .n), (.on .n)] [52, 53] [] [(52, .slice A79 ((Codec.encMsg x).length) c80), (53, .slice A97 ((Codec.encMsg y).length) c98)] Z.k0 hf ?_; clear hf a; intro a hf
          refine Z.on hf rfl rfl ?_
          have hq141 : Z.Ch [] w78 w134 := hq130.then hc135
          have hr142 := Z.rep_to (F' := (Z.nt [])) hr81 hq141
          have hq143 : Z.Ch [] w96 w134 := hq132.then hc135
          have hr144 := Z.rep_to (F' := (Z.nt [])) hr99 hq143
          refine Z.call1 hf rfl (Z.r_call cf11 hf (xs := [.tmp 52, .tmp 53]) rfl) (HasPrefix_spec (Codec.encMsg x) (Codec.encMsg y) w134 A79 c80 A97 c98 hr142 hr144) ?_; clear hf a
          rintro _ w145 ⟨rfl, hc146⟩
          have hzhc146 := hc146.size
          refine ⟨_, rfl, ?_⟩; intro a hf
          refine Z.qr [(.on .n), (.on .n)] [56] [] [(56, .bool (!(decide ((Codec.encMsg y) <+: (Codec.encMsg x)))))] Z.k0 hf ?_; clear hf a; intro a hf
          cases hdec : (!(decide ((Codec.encMsg y) <+: (Codec.encMsg x)))) <;> revert hdec
          · intro hp147
            have hgd := hp147
            exfalso; simp only [Bool.not_eq_false', decide_eq_true_eq] at hgd; first | exact hp140 (Codec.apart_pre okx oky hgd) | exact hp140 (Codec.apart_pre oky okx hgd).symm
          · intro hp148
            have hgd := hp148
            replace hf := hf.setb (d := 56) (b' := true) rfl hp148
            refine Z.qr [(.on .n), (.on .n)] [57, 58] [] [(57, .slice A97 ((Codec.encMsg y).length) c98), (58, .slice A79 ((Codec.encMsg x).length) c80)] Z.k0 hf ?_; clear hf a; intro a hf
            refine Z.on hf rfl rfl ?_
            have hq149 : Z.Ch [] w96 w145 := hq143.then hc146
            have hr150 := Z.rep_to (F' := (Z.nt [])) hr99 hq149
            have hq151 : Z.Ch [] w78 w145 := hq141.then hc146
            have hr152 := Z.rep_to (F' := (Z.nt [])) hr81 hq151
            refine Z.call1 hf rfl (Z.r_call cf11 hf (xs := [.tmp 57, .tmp 58]) rfl) (HasPrefix_spec (Codec.encMsg y) (Codec.encMsg x) w145 A97 c98 A79 c80 hr150 hr152) ?_; clear hf a
            rintro _ w153 ⟨rfl, hc154⟩
            have hzhc154 := hc154.size
            refine ⟨_, rfl, ?_⟩; intro a hf
            refine Z.qe [(.on .n), (.on .n), (.on .n), .n, .n] [4] [] [(4, .bool (!(decide ((Codec.encMsg x) <+: (Codec.encMsg y)))))] Z.k0 hf ?_; clear hf a; intro a hf
            refine hn103 _ _ ?_
            refine Z.ret ?_
            replace hf := hf.setv (d := 4) (y := .bool true) rfl (congrArg Value.bool (by first | rfl | (symm; simp only [Bool.not_eq_true', decide_eq_false_iff_not]; intro h; exact hp140 (Codec.apart_pre oky okx h).symm) | (simp only [Bool.not_eq_eq_eq_not, Bool.not_true, decide_eq_false_iff_not]; intro h; exact hp140 (Codec.apart_pre oky okx h).symm)))
            have hq155 : Z.Ch [] w w121 := hq108.then hc122
            have hq156 : Z.Ch [] w w126 := hq155.then hc127
            have hq157 : Z.Ch [] w w134 := hq156.then hc135
            have hq158 : Z.Ch [] w w145 := hq157.then hc146
            have hq159 : Z.Ch [] w w153 := hq158.then hc154
            refine Z.ret1 hf Try.results3 rfl ?_
            exact ⟨rfl, hq159⟩
  · intro hp160
    have hgd := hp160
    replace hf := hf.setb (d := 16) (b' := true) rfl hp160
    refine Z.qe [.off, .off, .off, .n] [20] [] [(20, .bool true)] Z.k0 hf ?_; clear hf a; intro a hf
    refine hn23 _ _ ?_
    refine Z.condt hf rfl ?_
    refine Z.seq' hp18 fun Q161 hp162 hn163 he164 => ?_
    refine Z.reg ?_
    refine Z.call1 hf rfl (Z.r_call cf6 hf (xs := []) rfl) (begun_spec  w37  ) ?_; clear hf a
    rintro _ w165 ⟨rfl, hc166⟩
    have hzhc166 := hc166.size
    refine ⟨_, rfl, ?_⟩; intro a hf
    refine Z.qe [.n] [4] [] [(4, .bool true)] Z.k0 hf ?_; clear hf a; intro a hf
    refine hn163 _ _ ?_
    refine Z.ret ?_
    refine he20 _ _ _ (by simp) ?_
    have hq167 : Z.Ch [] w w37 := hq30.then hc39
    have hq168 : Z.Ch [] w w165 := hq167.then hc166
    refine Z.ret1 hf Try.results3 rfl ?_
    exact ⟨rfl, hq168⟩

end Go.Proofs.Ytlhpkogdcgebeaa
