/- Walks: the law's own functions on messages. -/
import Derived.Test.YtlhpkogdcgebeaaW3
import Derived.Test.YtlhpkogdcgebeaaEq
import Derived.Test.YtlhpkogdcgebeaaEr
set_option linter.unusedVariables false
set_option linter.unusedSimpArgs false
set_option synthInstance.maxSize 4000
set_option synthInstance.maxHeartbeats 400000
namespace Go.Proofs.Ytlhpkogdcgebeaa
open Go.RowKit
set_option maxHeartbeats 400000 in
set_option maxRecDepth 20000 in
theorem sameRecs_spec (xs : List (Int × ByteArray)) (ys : List (Int × ByteArray)) (w : World) (pA0 : Option Addr) (pc0 : Nat) (pA1 : Option Addr) (pc1 : Nat) (ph0 : (Z.Ty.slice (Z.Ty.pair (Z.Ty.int .i64) Z.Ty.str)).rep w (Z.nt []) [.slice pA0 xs.length pc0] xs) (ph1 : (Z.Ty.slice (Z.Ty.pair (Z.Ty.int .i64) Z.Ty.str)).rep w (Z.nt []) [.slice pA1 ys.length pc1] ys)  :
    Calls Try.prog 22 #[.slice pA0 xs.length pc0, .slice pA1 ys.length pc1] w fun e w' => e = .returned (.bool (decide (xs = ys))) ∧ Z.Ch [] w w' := by
  refine Z.enter Try.func22 rfl Try.ntmps22 (Nat.le_of_ble_eq_true rfl) fun a hf => ?_
  replace hf : Z.Fr a 26 [] [(0, .slice pA0 xs.length pc0), (1, .slice pA1 ys.length pc1)] := hf
  have hle_pA0 := Z.rep_le ph0
  have ph0o := Z.rep_ol ph0
  have hle_pA1 := Z.rep_le ph1
  have ph1o := Z.rep_ol ph1
  refine Z.seq' (Z.Pq.body _ _ _) fun Q1 hp2 hn3 he4 => ?_
  refine Z.reg ?_
  refine Z.val hf rfl (Z.r_assign (hf.eval rfl)) ?_; clear hf a; intro a hf
  refine Z.done ?_
  refine hn3 _ _ ?_
  replace hf : Z.Fr a 26 [] [(0, .slice pA0 xs.length pc0), (1, .slice pA1 ys.length pc1)] := hf.keep [0, 1]
  refine Z.seq' (Z.Pq.body _ _ _) fun Q5 hp6 hn7 he8 => ?_
  refine Z.seq' hp6 fun Q9 hp10 hn11 he12 => ?_
  refine Z.reg ?_
  refine Z.val hf rfl (Z.r_move (hf.eval rfl)) ?_; clear hf a; intro a hf
  refine Z.val hf rfl (Z.r_len Try.underlying27 (hf.eval rfl)) ?_; clear hf a; intro a hf
  refine Z.val hf rfl (Z.r_move (hf.eval rfl)) ?_; clear hf a; intro a hf
  refine Z.val hf rfl (Z.r_len Try.underlying27 (hf.eval rfl)) ?_; clear hf a; intro a hf
  refine Z.val hf rfl (Z.r_neq (hf.eval rfl) (hf.eval rfl)) ?_; clear hf a; intro a hf
  refine Z.done ?_
  refine hn11 _ _ ?_
  replace hf : Z.Fr a 26 [] [(0, .slice pA0 xs.length pc0), (1, .slice pA1 ys.length pc1), (10, .bool (decide ((xs.length : Int) ≠ (ys.length : Int))))] := hf.keep [0, 1, 10]
  refine Z.condp hf rfl ?_ ?_
  · intro hp13
    have hcond := hp13
    refine Z.seq' hp6 fun Q14 hp15 hn16 he17 => ?_
    refine Z.reg ?_
    refine Z.val hf rfl (Z.r_assign (hf.eval rfl)) ?_; clear hf a; intro a hf
    refine Z.done ?_
    refine hn16 _ _ ?_
    replace hf : Z.Fr a 26 [] [(4, .bool false)] := hf.keep [4]
    refine wp_ret ?_
    refine he8 _ _ _ (by simp) ?_
    replace hf := hf.setv (d := 4) (y := .bool (decide (xs = ys))) rfl (congrArg Value.bool (by first | (symm; apply decide_eq_false; intro h; first | (refine hgd ?_; rw [h]; done) | (refine hcond ?_; rw [h]; done) | (simp only [Bool.not_eq_true', decide_eq_false_iff_not] at hgd; refine hgd ?_; rw [h]; done) | (simp only [Bool.not_eq_true', decide_eq_false_iff_not] at hcond; refine hcond ?_; rw [h]; done) | (rw [h, heb] at hea; injection hea with hea; exact hcond hea.symm)) | (exact Codec.same_true (Codec.take_end (by first | assumption | omega) ht (by first | assumption | omega)))))
    refine Z.ret1 hf Try.results22 rfl ?_
    exact ⟨rfl, (Z.Ch.refl w)⟩
  · intro hp18
    have hcond := hp18
    refine wp_skip ?_
    refine hn7 _ _ ?_
    replace hf : Z.Fr a 26 [] [(0, .slice pA0 xs.length pc0), (1, .slice pA1 ys.length pc1)] := hf.keep [0, 1]
    refine Z.seq' (Z.Pq.body _ _ _) fun Q19 hp20 hn21 he22 => ?_
    refine Z.seq' hp20 fun Q23 hp24 hn25 he26 => ?_
    refine Z.reg ?_
    refine Z.val hf rfl (Z.r_assign (hf.eval rfl)) ?_; clear hf a; intro a hf
    refine Z.done ?_
    refine hn25 _ _ ?_
    replace hf : Z.Fr a 26 [] [(0, .slice pA0 xs.length pc0), (1, .slice pA1 ys.length pc1), (5, .int .i64 0)] := hf.keep [0, 1, 5]
    refine Z.block' hp20 fun Q27 hp28 hn29 hx30 he31 => ?_
    refine Z.loop' hp28 (fun m a wl => ∃ (k : Nat), m = xs.length - k ∧ Z.Ch [] w wl ∧ (k ≤ xs.length) ∧ (xs.take k = ys.take k) ∧ Z.Fr a 26 [] [(0, .slice pA0 xs.length pc0), (1, .slice pA1 ys.length pc1), (5, .int .i64 (k : Int))]) (xs.length - 0) ?_ ?_
    · replace hf := hf.setv (d := 5) (y := .int .i64 (0 : Int)) rfl (congrArg (Value.int .i64) (by first | rfl | omega | (simp; done) | (simp; omega)))
      replace hf : Z.Fr a 26 [] [(0, .slice pA0 xs.length pc0), (1, .slice pA1 ys.length pc1), (5, .int .i64 (0 : Int))] := hf.keep [0, 1, 5]
      exact ⟨0, rfl, (Z.Ch.refl w), (by omega), (by simp), hf⟩
    · rintro m42 a w32 ⟨k35, hm34, hc33, hk40, ht41, hf⟩ Q36 hp37 hn38 he39
      have hzhc33 := hc33.size
      refine Z.seq' hp37 fun Q43 hp44 hn45 he46 => ?_
      refine Z.seq' hp44 fun Q47 hp48 hn49 he50 => ?_
      refine Z.reg ?_
      refine Z.val hf rfl (Z.r_move (hf.eval rfl)) ?_; clear hf a; intro a hf
      refine Z.val hf rfl (Z.r_move (hf.eval rfl)) ?_; clear hf a; intro a hf
      refine Z.val hf rfl (Z.r_len Try.underlying27 (hf.eval rfl)) ?_; clear hf a; intro a hf
      refine Z.val hf rfl (Z.r_lss (hf.eval rfl) (hf.eval rfl)) ?_; clear hf a; intro a hf
      refine Z.done ?_
      refine hn49 _ _ ?_
      replace hf : Z.Fr a 26 [] [(0, .slice pA0 xs.length pc0), (1, .slice pA1 ys.length pc1), (5, .int .i64 (k35 : Int)), (14, .bool (decide ((k35 : Int) < (xs.length : Int))))] := hf.keep [0, 1, 5, 14]
      refine Z.condp hf rfl ?_ ?_
      · intro hp51
        have hcond := hp51
        refine wp_skip ?_
        refine hn45 _ _ ?_
        replace hf : Z.Fr a 26 [] [(0, .slice pA0 xs.length pc0), (1, .slice pA1 ys.length pc1), (5, .int .i64 (k35 : Int))] := hf.keep [0, 1, 5]
        refine Z.seq' hp37 fun Q52 hp53 hn54 he55 => ?_
        refine Z.block' hp53 fun Q56 hp57 hn58 hx59 he60 => ?_
        refine Z.seq' hp57 fun Q61 hp62 hn63 he64 => ?_
        refine Z.dr_reg (S := fun w' => Z.Ch [] w32 w') mixed ?_; intro w65 hc66 hz67
        refine Z.dr_val 0 hf rfl rfl (by kernel_rfl) (by kernel_rfl) (by kernel_rfl) (fun _ _ _ h => hp62 _ _ _ _ _ h) hc66 Z.wanted_none (fun _ hw => Z.r_move (hf.eval rfl)) ?_; clear hf a; intro a hf
        refine Z.dr_val 1 hf rfl rfl (by kernel_rfl) (by kernel_rfl) (by kernel_rfl) (fun _ _ _ h => hp62 _ _ _ _ _ h) hc66 Z.wanted_none (fun _ hw => Z.r_move (hf.eval rfl)) ?_; clear hf a; intro a hf
        have hr68 : (Z.Ty.slice (Z.Ty.pair (Z.Ty.int .i64) Z.Ty.str)).rep w32 (Z.ol [] w.heap.size) [.slice pA0 xs.length pc0] xs := Z.rep_to ph0o hc33 (by intro b h1 h2; (try simp only [Z.nt, Z.iv, Z.no, Z.ol, List.mem_cons, List.not_mem_nil, or_false, not_or, not_false_eq_true] at h1); (try simp only [Z.nt, Z.iv, Z.no, Z.ol, List.mem_cons, List.mem_append, List.not_mem_nil, or_false, not_or, not_false_eq_true, true_and, and_true]) <;> omega)
        have hkx71 : k35 < (xs).length := (by omega)
        obtain ⟨ad69, es70, x71, hA72, hF73, hl74, hx75, hc76, hr77⟩ := Z.rep_el hr68 hkx71
        have hok78 := Z.rep_ok _ hr77
        obtain ⟨ca79, cb80, he81, hr82, hr83⟩ := hr77
        have he84 := hr82.1
        have he85 := hr83.1
        have he86 : es70 = [.int .i64 x71.1, .string x71.2] := by simp only [he81, he84, he85, List.cons_append, List.nil_append]
        rw [he86] at hc76
        have hea := hx75
        refine Z.dr_val 2 hf rfl rfl (by kernel_rfl) (by kernel_rfl) (by kernel_rfl) (fun _ _ _ h => hp62 _ _ _ _ _ h) hc66 Z.wanted_none (fun _ hw => Z.r_indexAddrE Try.underlying27 Try.sizeOf60 (hf.eval rfl) hA72 (hf.eval rfl) (k := k35) (by first | rfl | omega) (by omega)) ?_; clear hf a; intro a hf
        refine Z.dr_val 3 hf rfl rfl (by kernel_rfl) (by kernel_rfl) (by kernel_rfl) (fun _ _ _ h => hp62 _ _ _ _ _ h) hc66 Z.wanted_none (fun _ hw => Z.r_loadEN Try.isAgg60 Try.sizeOf60 (hf.eval rfl) (hc76.ch0 hw) rfl rfl) ?_; clear hf a; intro a hf
        refine Z.dr_val 4 hf rfl rfl (by kernel_rfl) (by kernel_rfl) (by kernel_rfl) (fun _ _ _ h => hp62 _ _ _ _ _ h) hc66 Z.wanted_none (fun _ hw => Z.r_move (hf.eval rfl)) ?_; clear hf a; intro a hf
        refine Z.dr_val 5 hf rfl rfl (by kernel_rfl) (by kernel_rfl) (by kernel_rfl) (fun _ _ _ h => hp62 _ _ _ _ _ h) hc66 Z.wanted_none (fun _ hw => Z.r_move (hf.eval rfl)) ?_; clear hf a; intro a hf
        have hr87 : (Z.Ty.slice (Z.Ty.pair (Z.Ty.int .i64) Z.Ty.str)).rep w32 (Z.ol [] w.heap.size) [.slice pA1 ys.length pc1] ys := Z.rep_to ph1o hc33 (by intro b h1 h2; (try simp only [Z.nt, Z.iv, Z.no, Z.ol, List.mem_cons, List.not_mem_nil, or_false, not_or, not_false_eq_true] at h1); (try simp only [Z.nt, Z.iv, Z.no, Z.ol, List.mem_cons, List.mem_append, List.not_mem_nil, or_false, not_or, not_false_eq_true, true_and, and_true]) <;> omega)
        have hkx90 : k35 < (ys).length := (by omega)
        obtain ⟨ad88, es89, x90, hA91, hF92, hl93, hx94, hc95, hr96⟩ := Z.rep_el hr87 hkx90
        have hok97 := Z.rep_ok _ hr96
        obtain ⟨ca98, cb99, he100, hr101, hr102⟩ := hr96
        have he103 := hr101.1
        have he104 := hr102.1
        have he105 : es89 = [.int .i64 x90.1, .string x90.2] := by simp only [he100, he103, he104, List.cons_append, List.nil_append]
        rw [he105] at hc95
        have heb := hx94
        refine Z.dr_val 6 hf rfl rfl (by kernel_rfl) (by kernel_rfl) (by kernel_rfl) (fun _ _ _ h => hp62 _ _ _ _ _ h) hc66 Z.wanted_none (fun _ hw => Z.r_indexAddrE Try.underlying27 Try.sizeOf60 (hf.eval rfl) hA91 (hf.eval rfl) (k := k35) (by first | rfl | omega) (by omega)) ?_; clear hf a; intro a hf
        refine Z.dr_val 7 hf rfl rfl (by kernel_rfl) (by kernel_rfl) (by kernel_rfl) (fun _ _ _ h => hp62 _ _ _ _ _ h) hc66 Z.wanted_none (fun _ hw => Z.r_loadEN Try.isAgg60 Try.sizeOf60 (hf.eval rfl) (hc95.ch0 hw) rfl rfl) ?_; clear hf a; intro a hf
        refine Z.dr_val 8 hf rfl rfl (by kernel_rfl) (by kernel_rfl) (by kernel_rfl) (fun _ _ _ h => hp62 _ _ _ _ _ h) hc66 Z.wanted_none (fun _ hw => eqagg_neq60 (x := x71) (y := x90) (hf.eval rfl) (hf.eval rfl)) ?_; clear hf a; intro a hf
        refine Z.dr_done (by kernel_rfl) ?_
        refine hn63 _ _ ?_
        replace hf : Z.Fr a 26 [] [(0, .slice pA0 xs.length pc0), (1, .slice pA1 ys.length pc1), (5, .int .i64 (k35 : Int)), (25, .bool (decide (x71 ≠ x90)))] := hf.keep [0, 1, 5, 25]
        refine Z.condp hf rfl ?_ ?_
        · intro hp106
          have hcond := hp106
          refine Z.seq' hp57 fun Q107 hp108 hn109 he110 => ?_
          refine Z.reg ?_
          refine Z.val hf rfl (Z.r_assign (hf.eval rfl)) ?_; clear hf a; intro a hf
          refine Z.done ?_
          refine hn109 _ _ ?_
          replace hf : Z.Fr a 26 [] [(4, .bool false)] := hf.keep [4]
          refine wp_ret ?_
          refine he60 _ _ _ (by simp) (by simp) ?_
          refine he55 _ _ _ (by simp) ?_
          refine he39 _ _ _ (by simp) ?_
          refine he31 _ _ _ (by simp) (by simp) ?_
          refine he22 _ _ _ (by simp) ?_
          replace hf := hf.setv (d := 4) (y := .bool (decide (xs = ys))) rfl (congrArg Value.bool (by first | (symm; apply decide_eq_false; intro h; first | (refine hgd ?_; rw [h]; done) | (refine hcond ?_; rw [h]; done) | (simp only [Bool.not_eq_true', decide_eq_false_iff_not] at hgd; refine hgd ?_; rw [h]; done) | (simp only [Bool.not_eq_true', decide_eq_false_iff_not] at hcond; refine hcond ?_; rw [h]; done) | (rw [h, heb] at hea; injection hea with hea; exact hcond hea.symm)) | (exact Codec.same_true (Codec.take_end (by first | assumption | omega) ht41 (by first | assumption | omega)))))
          have hq111 : Z.Ch [] w w65 := hc33.then hc66 (by simp) (by simp)
          refine Z.ret1 hf Try.results22 rfl ?_
          exact ⟨rfl, hq111⟩
        · intro hp112
          have hcond := hp112
          refine wp_skip ?_
          refine hn58 _ _ ?_
          refine hn54 _ _ ?_
          replace hf : Z.Fr a 26 [] [(0, .slice pA0 xs.length pc0), (1, .slice pA1 ys.length pc1), (5, .int .i64 (k35 : Int))] := hf.keep [0, 1, 5]
          refine Z.reg ?_
          refine Z.val hf rfl (Z.r_move (hf.eval rfl)) ?_; clear hf a; intro a hf
          refine Z.val hf rfl (Z.r_add64 (hf.eval rfl) (hf.eval rfl) (by omega)) ?_; clear hf a; intro a hf
          refine Z.val hf rfl (Z.r_assign (hf.eval rfl)) ?_; clear hf a; intro a hf
          refine Z.done ?_
          refine hn38 (xs.length - (k35 + 1)) _ _ ?_ ?_
          rotate_left
          replace hf := hf.setv (d := 5) (y := .int .i64 ((k35 + 1 : Nat) : Int)) rfl (congrArg (Value.int .i64) (by first | rfl | omega | (simp; done) | (simp; omega)))
          have hq113 : Z.Ch [] w w65 := hc33.then hc66 (by simp) (by simp)
          replace hf : Z.Fr a 26 [] [(0, .slice pA0 xs.length pc0), (1, .slice pA1 ys.length pc1), (5, .int .i64 ((k35 + 1 : Nat) : Int))] := hf.keep [0, 1, 5]
          exact ⟨k35 + 1, rfl, hq113, (by omega), (by exact Codec.take_step ht41 hea heb hcond), hf⟩
          rw [hm34]; omega
      · intro hp114
        have hcond := hp114
        refine wp_exit ?_
        refine he46 _ _ _ (by simp) ?_
        refine he39 _ _ _ (by simp) ?_
        refine hx30 _ _ ?_
        refine hn21 _ _ ?_
        replace hf : Z.Fr a 26 [] [] := hf.keep []
        refine Z.seq' (Z.Pq.body _ _ _) fun Q115 hp116 hn117 he118 => ?_
        refine Z.reg ?_
        refine Z.val hf rfl (Z.r_assign (hf.eval rfl)) ?_; clear hf a; intro a hf
        refine Z.done ?_
        refine hn117 _ _ ?_
        replace hf : Z.Fr a 26 [] [(4, .bool true)] := hf.keep [4]
        refine wp_ret ?_
        replace hf := hf.setv (d := 4) (y := .bool (decide (xs = ys))) rfl (congrArg Value.bool (by first | (symm; apply decide_eq_false; intro h; first | (refine hgd ?_; rw [h]; done) | (refine hcond ?_; rw [h]; done) | (simp only [Bool.not_eq_true', decide_eq_false_iff_not] at hgd; refine hgd ?_; rw [h]; done) | (simp only [Bool.not_eq_true', decide_eq_false_iff_not] at hcond; refine hcond ?_; rw [h]; done) | (rw [h, heb] at hea; injection hea with hea; exact hcond hea.symm)) | (exact Codec.same_true (Codec.take_end (by first | assumption | omega) ht41 (by first | assumption | omega)))))
        refine Z.ret1 hf Try.results22 rfl ?_
        exact ⟨rfl, hc33⟩

set_option maxHeartbeats 400000 in
set_option maxRecDepth 20000 in
theorem SameMoves_spec (xs : List (Int × Int × Int × Int × (Int × Int × ByteArray))) (ys : List (Int × Int × Int × Int × (Int × Int × ByteArray))) (w : World) (pA0 : Option Addr) (pc0 : Nat) (pA1 : Option Addr) (pc1 : Nat) (ph0 : (Z.Ty.slice (Z.Ty.pair (Z.Ty.int .i64) (Z.Ty.pair (Z.Ty.int .i64) (Z.Ty.pair (Z.Ty.int .i64) (Z.Ty.pair (Z.Ty.int .i64) (Z.Ty.pair (Z.Ty.int .i64) (Z.Ty.pair (Z.Ty.int .i64) Z.Ty.str))))))).rep w (Z.nt []) [.slice pA0 xs.length pc0] xs) (ph1 : (Z.Ty.slice (Z.Ty.pair (Z.Ty.int .i64) (Z.Ty.pair (Z.Ty.int .i64) (Z.Ty.pair (Z.Ty.int .i64) (Z.Ty.pair (Z.Ty.int .i64) (Z.Ty.pair (Z.Ty.int .i64) (Z.Ty.pair (Z.Ty.int .i64) Z.Ty.str))))))).rep w (Z.nt []) [.slice pA1 ys.length pc1] ys)  :
    Calls Try.prog 46 #[.slice pA0 xs.length pc0, .slice pA1 ys.length pc1] w fun e w' => e = .returned (.bool (decide (xs = ys))) ∧ Z.Ch [] w w' := by
  refine Z.enter Try.func46 rfl Try.ntmps46 (Nat.le_of_ble_eq_true rfl) fun a hf => ?_
  replace hf : Z.Fr a 26 [] [(0, .slice pA0 xs.length pc0), (1, .slice pA1 ys.length pc1)] := hf
  have hle_pA0 := Z.rep_le ph0
  have ph0o := Z.rep_ol ph0
  have hle_pA1 := Z.rep_le ph1
  have ph1o := Z.rep_ol ph1
  refine Z.seq' (Z.Pq.body _ _ _) fun Q1 hp2 hn3 he4 => ?_
  refine Z.reg ?_
  refine Z.val hf rfl (Z.r_assign (hf.eval rfl)) ?_; clear hf a; intro a hf
  refine Z.done ?_
  refine hn3 _ _ ?_
  replace hf : Z.Fr a 26 [] [(0, .slice pA0 xs.length pc0), (1, .slice pA1 ys.length pc1)] := hf.keep [0, 1]
  refine Z.seq' (Z.Pq.body _ _ _) fun Q5 hp6 hn7 he8 => ?_
  refine Z.seq' hp6 fun Q9 hp10 hn11 he12 => ?_
  refine Z.reg ?_
  refine Z.val hf rfl (Z.r_move (hf.eval rfl)) ?_; clear hf a; intro a hf
  refine Z.val hf rfl (Z.r_len Try.underlying31 (hf.eval rfl)) ?_; clear hf a; intro a hf
  refine Z.val hf rfl (Z.r_move (hf.eval rfl)) ?_; clear hf a; intro a hf
  refine Z.val hf rfl (Z.r_len Try.underlying31 (hf.eval rfl)) ?_; clear hf a; intro a hf
  refine Z.val hf rfl (Z.r_neq (hf.eval rfl) (hf.eval rfl)) ?_; clear hf a; intro a hf
  refine Z.done ?_
  refine hn11 _ _ ?_
  replace hf : Z.Fr a 26 [] [(0, .slice pA0 xs.length pc0), (1, .slice pA1 ys.length pc1), (10, .bool (decide ((xs.length : Int) ≠ (ys.length : Int))))] := hf.keep [0, 1, 10]
  refine Z.condp hf rfl ?_ ?_
  · intro hp13
    have hcond := hp13
    refine Z.seq' hp6 fun Q14 hp15 hn16 he17 => ?_
    refine Z.reg ?_
    refine Z.val hf rfl (Z.r_assign (hf.eval rfl)) ?_; clear hf a; intro a hf
    refine Z.done ?_
    refine hn16 _ _ ?_
    replace hf : Z.Fr a 26 [] [(4, .bool false)] := hf.keep [4]
    refine wp_ret ?_
    refine he8 _ _ _ (by simp) ?_
    replace hf := hf.setv (d := 4) (y := .bool (decide (xs = ys))) rfl (congrArg Value.bool (by first | (symm; apply decide_eq_false; intro h; first | (refine hgd ?_; rw [h]; done) | (refine hcond ?_; rw [h]; done) | (simp only [Bool.not_eq_true', decide_eq_false_iff_not] at hgd; refine hgd ?_; rw [h]; done) | (simp only [Bool.not_eq_true', decide_eq_false_iff_not] at hcond; refine hcond ?_; rw [h]; done) | (rw [h, heb] at hea; injection hea with hea; exact hcond hea.symm)) | (exact Codec.same_true (Codec.take_end (by first | assumption | omega) ht (by first | assumption | omega)))))
    refine Z.ret1 hf Try.results46 rfl ?_
    exact ⟨rfl, (Z.Ch.refl w)⟩
  · intro hp18
    have hcond := hp18
    refine wp_skip ?_
    refine hn7 _ _ ?_
    replace hf : Z.Fr a 26 [] [(0, .slice pA0 xs.length pc0), (1, .slice pA1 ys.length pc1)] := hf.keep [0, 1]
    refine Z.seq' (Z.Pq.body _ _ _) fun Q19 hp20 hn21 he22 => ?_
    refine Z.seq' hp20 fun Q23 hp24 hn25 he26 => ?_
    refine Z.reg ?_
    refine Z.val hf rfl (Z.r_assign (hf.eval rfl)) ?_; clear hf a; intro a hf
    refine Z.done ?_
    refine hn25 _ _ ?_
    replace hf : Z.Fr a 26 [] [(0, .slice pA0 xs.length pc0), (1, .slice pA1 ys.length pc1), (5, .int .i64 0)] := hf.keep [0, 1, 5]
    refine Z.block' hp20 fun Q27 hp28 hn29 hx30 he31 => ?_
    refine Z.loop' hp28 (fun m a wl => ∃ (k : Nat), m = xs.length - k ∧ Z.Ch [] w wl ∧ (k ≤ xs.length) ∧ (xs.take k = ys.take k) ∧ Z.Fr a 26 [] [(0, .slice pA0 xs.length pc0), (1, .slice pA1 ys.length pc1), (5, .int .i64 (k : Int))]) (xs.length - 0) ?_ ?_
    · replace hf := hf.setv (d := 5) (y := .int .i64 (0 : Int)) rfl (congrArg (Value.int .i64) (by first | rfl | omega | (simp; done) | (simp; omega)))
      replace hf : Z.Fr a 26 [] [(0, .slice pA0 xs.length pc0), (1, .slice pA1 ys.length pc1), (5, .int .i64 (0 : Int))] := hf.keep [0, 1, 5]
      exact ⟨0, rfl, (Z.Ch.refl w), (by omega), (by simp), hf⟩
    · rintro m42 a w32 ⟨k35, hm34, hc33, hk40, ht41, hf⟩ Q36 hp37 hn38 he39
      have hzhc33 := hc33.size
      refine Z.seq' hp37 fun Q43 hp44 hn45 he46 => ?_
      refine Z.seq' hp44 fun Q47 hp48 hn49 he50 => ?_
      refine Z.reg ?_
      refine Z.val hf rfl (Z.r_move (hf.eval rfl)) ?_; clear hf a; intro a hf
      refine Z.val hf rfl (Z.r_move (hf.eval rfl)) ?_; clear hf a; intro a hf
      refine Z.val hf rfl (Z.r_len Try.underlying31 (hf.eval rfl)) ?_; clear hf a; intro a hf
      refine Z.val hf rfl (Z.r_lss (hf.eval rfl) (hf.eval rfl)) ?_; clear hf a; intro a hf
      refine Z.done ?_
      refine hn49 _ _ ?_
      replace hf : Z.Fr a 26 [] [(0, .slice pA0 xs.length pc0), (1, .slice pA1 ys.length pc1), (5, .int .i64 (k35 : Int)), (14, .bool (decide ((k35 : Int) < (xs.length : Int))))] := hf.keep [0, 1, 5, 14]
      refine Z.condp hf rfl ?_ ?_
      · intro hp51
        have hcond := hp51
        refine wp_skip ?_
        refine hn45 _ _ ?_
        replace hf : Z.Fr a 26 [] [(0, .slice pA0 xs.length pc0), (1, .slice pA1 ys.length pc1), (5, .int .i64 (k35 : Int))] := hf.keep [0, 1, 5]
        refine Z.seq' hp37 fun Q52 hp53 hn54 he55 => ?_
        refine Z.block' hp53 fun Q56 hp57 hn58 hx59 he60 => ?_
        refine Z.seq' hp57 fun Q61 hp62 hn63 he64 => ?_
        refine Z.dr_reg (S := fun w' => Z.Ch [] w32 w') mixed ?_; intro w65 hc66 hz67
        refine Z.dr_val 0 hf rfl rfl (by kernel_rfl) (by kernel_rfl) (by kernel_rfl) (fun _ _ _ h => hp62 _ _ _ _ _ h) hc66 Z.wanted_none (fun _ hw => Z.r_move (hf.eval rfl)) ?_; clear hf a; intro a hf
        refine Z.dr_val 1 hf rfl rfl (by kernel_rfl) (by kernel_rfl) (by kernel_rfl) (fun _ _ _ h => hp62 _ _ _ _ _ h) hc66 Z.wanted_none (fun _ hw => Z.r_move (hf.eval rfl)) ?_; clear hf a; intro a hf
        have hr68 : (Z.Ty.slice (Z.Ty.pair (Z.Ty.int .i64) (Z.Ty.pair (Z.Ty.int .i64) (Z.Ty.pair (Z.Ty.int .i64) (Z.Ty.pair (Z.Ty.int .i64) (Z.Ty.pair (Z.Ty.int .i64) (Z.Ty.pair (Z.Ty.int .i64) Z.Ty.str))))))).rep w32 (Z.ol [] w.heap.size) [.slice pA0 xs.length pc0] xs := Z.rep_to ph0o hc33 (by intro b h1 h2; (try simp only [Z.nt, Z.iv, Z.no, Z.ol, List.mem_cons, List.not_mem_nil, or_false, not_or, not_false_eq_true] at h1); (try simp only [Z.nt, Z.iv, Z.no, Z.ol, List.mem_cons, List.mem_append, List.not_mem_nil, or_false, not_or, not_false_eq_true, true_and, and_true]) <;> omega)
        have hkx71 : k35 < (xs).length := (by omega)
        obtain ⟨ad69, es70, x71, hA72, hF73, hl74, hx75, hc76, hr77⟩ := Z.rep_el hr68 hkx71
        have hok78 := Z.rep_ok _ hr77
        obtain ⟨ca79, cb80, he81, hr82, hr83⟩ := hr77
        have he84 := hr82.1
        obtain ⟨ca85, cb86, he87, hr88, hr89⟩ := hr83
        have he90 := hr88.1
        obtain ⟨ca91, cb92, he93, hr94, hr95⟩ := hr89
        have he96 := hr94.1
        obtain ⟨ca97, cb98, he99, hr100, hr101⟩ := hr95
        have he102 := hr100.1
        obtain ⟨ca103, cb104, he105, hr106, hr107⟩ := hr101
        have he108 := hr106.1
        obtain ⟨ca109, cb110, he111, hr112, hr113⟩ := hr107
        have he114 := hr112.1
        have he115 := hr113.1
        have he116 : es70 = [.int .i64 x71.1, .int .i64 x71.2.1, .int .i64 x71.2.2.1, .int .i64 x71.2.2.2.1, .int .i64 x71.2.2.2.2.1, .int .i64 x71.2.2.2.2.2.1, .string x71.2.2.2.2.2.2] := by simp only [he81, he84, he87, he90, he93, he96, he99, he102, he105, he108, he111, he114, he115, List.cons_append, List.nil_append]
        rw [he116] at hc76
        have hea := hx75
        refine Z.dr_val 2 hf rfl rfl (by kernel_rfl) (by kernel_rfl) (by kernel_rfl) (fun _ _ _ h => hp62 _ _ _ _ _ h) hc66 Z.wanted_none (fun _ hw => Z.r_indexAddrE Try.underlying31 Try.sizeOf64 (hf.eval rfl) hA72 (hf.eval rfl) (k := k35) (by first | rfl | omega) (by omega)) ?_; clear hf a; intro a hf
        refine Z.dr_val 3 hf rfl rfl (by kernel_rfl) (by kernel_rfl) (by kernel_rfl) (fun _ _ _ h => hp62 _ _ _ _ _ h) hc66 Z.wanted_none (fun _ hw => Z.r_loadEN Try.isAgg64 Try.sizeOf64 (hf.eval rfl) (hc76.ch0 hw) rfl rfl) ?_; clear hf a; intro a hf
        refine Z.dr_val 4 hf rfl rfl (by kernel_rfl) (by kernel_rfl) (by kernel_rfl) (fun _ _ _ h => hp62 _ _ _ _ _ h) hc66 Z.wanted_none (fun _ hw => Z.r_move (hf.eval rfl)) ?_; clear hf a; intro a hf
        refine Z.dr_val 5 hf rfl rfl (by kernel_rfl) (by kernel_rfl) (by kernel_rfl) (fun _ _ _ h => hp62 _ _ _ _ _ h) hc66 Z.wanted_none (fun _ hw => Z.r_move (hf.eval rfl)) ?_; clear hf a; intro a hf
        have hr117 : (Z.Ty.slice (Z.Ty.pair (Z.Ty.int .i64) (Z.Ty.pair (Z.Ty.int .i64) (Z.Ty.pair (Z.Ty.int .i64) (Z.Ty.pair (Z.Ty.int .i64) (Z.Ty.pair (Z.Ty.int .i64) (Z.Ty.pair (Z.Ty.int .i64) Z.Ty.str))))))).rep w32 (Z.ol [] w.heap.size) [.slice pA1 ys.length pc1] ys := Z.rep_to ph1o hc33 (by intro b h1 h2; (try simp only [Z.nt, Z.iv, Z.no, Z.ol, List.mem_cons, List.not_mem_nil, or_false, not_or, not_false_eq_true] at h1); (try simp only [Z.nt, Z.iv, Z.no, Z.ol, List.mem_cons, List.mem_append, List.not_mem_nil, or_false, not_or, not_false_eq_true, true_and, and_true]) <;> omega)
        have hkx120 : k35 < (ys).length := (by omega)
        obtain ⟨ad118, es119, x120, hA121, hF122, hl123, hx124, hc125, hr126⟩ := Z.rep_el hr117 hkx120
        have hok127 := Z.rep_ok _ hr126
        obtain ⟨ca128, cb129, he130, hr131, hr132⟩ := hr126
        have he133 := hr131.1
        obtain ⟨ca134, cb135, he136, hr137, hr138⟩ := hr132
        have he139 := hr137.1
        obtain ⟨ca140, cb141, he142, hr143, hr144⟩ := hr138
        have he145 := hr143.1
        obtain ⟨ca146, cb147, he148, hr149, hr150⟩ := hr144
        have he151 := hr149.1
        obtain ⟨ca152, cb153, he154, hr155, hr156⟩ := hr150
        have he157 := hr155.1
        obtain ⟨ca158, cb159, he160, hr161, hr162⟩ := hr156
        have he163 := hr161.1
        have he164 := hr162.1
        have he165 : es119 = [.int .i64 x120.1, .int .i64 x120.2.1, .int .i64 x120.2.2.1, .int .i64 x120.2.2.2.1, .int .i64 x120.2.2.2.2.1, .int .i64 x120.2.2.2.2.2.1, .string x120.2.2.2.2.2.2] := by simp only [he130, he133, he136, he139, he142, he145, he148, he151, he154, he157, he160, he163, he164, List.cons_append, List.nil_append]
        rw [he165] at hc125
        have heb := hx124
        refine Z.dr_val 6 hf rfl rfl (by kernel_rfl) (by kernel_rfl) (by kernel_rfl) (fun _ _ _ h => hp62 _ _ _ _ _ h) hc66 Z.wanted_none (fun _ hw => Z.r_indexAddrE Try.underlying31 Try.sizeOf64 (hf.eval rfl) hA121 (hf.eval rfl) (k := k35) (by first | rfl | omega) (by omega)) ?_; clear hf a; intro a hf
        refine Z.dr_val 7 hf rfl rfl (by kernel_rfl) (by kernel_rfl) (by kernel_rfl) (fun _ _ _ h => hp62 _ _ _ _ _ h) hc66 Z.wanted_none (fun _ hw => Z.r_loadEN Try.isAgg64 Try.sizeOf64 (hf.eval rfl) (hc125.ch0 hw) rfl rfl) ?_; clear hf a; intro a hf
        refine Z.dr_val 8 hf rfl rfl (by kernel_rfl) (by kernel_rfl) (by kernel_rfl) (fun _ _ _ h => hp62 _ _ _ _ _ h) hc66 Z.wanted_none (fun _ hw => eqagg_neq64 (x := x71) (y := x120) (hf.eval rfl) (hf.eval rfl)) ?_; clear hf a; intro a hf
        refine Z.dr_done (by kernel_rfl) ?_
        refine hn63 _ _ ?_
        replace hf : Z.Fr a 26 [] [(0, .slice pA0 xs.length pc0), (1, .slice pA1 ys.length pc1), (5, .int .i64 (k35 : Int)), (25, .bool (decide (x71 ≠ x120)))] := hf.keep [0, 1, 5, 25]
        refine Z.condp hf rfl ?_ ?_
        · intro hp166
          have hcond := hp166
          refine Z.seq' hp57 fun Q167 hp168 hn169 he170 => ?_
          refine Z.reg ?_
          refine Z.val hf rfl (Z.r_assign (hf.eval rfl)) ?_; clear hf a; intro a hf
          refine Z.done ?_
          refine hn169 _ _ ?_
          replace hf : Z.Fr a 26 [] [(4, .bool false)] := hf.keep [4]
          refine wp_ret ?_
          refine he60 _ _ _ (by simp) (by simp) ?_
          refine he55 _ _ _ (by simp) ?_
          refine he39 _ _ _ (by simp) ?_
          refine he31 _ _ _ (by simp) (by simp) ?_
          refine he22 _ _ _ (by simp) ?_
          replace hf := hf.setv (d := 4) (y := .bool (decide (xs = ys))) rfl (congrArg Value.bool (by first | (symm; apply decide_eq_false; intro h; first | (refine hgd ?_; rw [h]; done) | (refine hcond ?_; rw [h]; done) | (simp only [Bool.not_eq_true', decide_eq_false_iff_not] at hgd; refine hgd ?_; rw [h]; done) | (simp only [Bool.not_eq_true', decide_eq_false_iff_not] at hcond; refine hcond ?_; rw [h]; done) | (rw [h, heb] at hea; injection hea with hea; exact hcond hea.symm)) | (exact Codec.same_true (Codec.take_end (by first | assumption | omega) ht41 (by first | assumption | omega)))))
          have hq171 : Z.Ch [] w w65 := hc33.then hc66 (by simp) (by simp)
          refine Z.ret1 hf Try.results46 rfl ?_
          exact ⟨rfl, hq171⟩
        · intro hp172
          have hcond := hp172
          refine wp_skip ?_
          refine hn58 _ _ ?_
          refine hn54 _ _ ?_
          replace hf : Z.Fr a 26 [] [(0, .slice pA0 xs.length pc0), (1, .slice pA1 ys.length pc1), (5, .int .i64 (k35 : Int))] := hf.keep [0, 1, 5]
          refine Z.reg ?_
          refine Z.val hf rfl (Z.r_move (hf.eval rfl)) ?_; clear hf a; intro a hf
          refine Z.val hf rfl (Z.r_add64 (hf.eval rfl) (hf.eval rfl) (by omega)) ?_; clear hf a; intro a hf
          refine Z.val hf rfl (Z.r_assign (hf.eval rfl)) ?_; clear hf a; intro a hf
          refine Z.done ?_
          refine hn38 (xs.length - (k35 + 1)) _ _ ?_ ?_
          rotate_left
          replace hf := hf.setv (d := 5) (y := .int .i64 ((k35 + 1 : Nat) : Int)) rfl (congrArg (Value.int .i64) (by first | rfl | omega | (simp; done) | (simp; omega)))
          have hq173 : Z.Ch [] w w65 := hc33.then hc66 (by simp) (by simp)
          replace hf : Z.Fr a 26 [] [(0, .slice pA0 xs.length pc0), (1, .slice pA1 ys.length pc1), (5, .int .i64 ((k35 + 1 : Nat) : Int))] := hf.keep [0, 1, 5]
          exact ⟨k35 + 1, rfl, hq173, (by omega), (by exact Codec.take_step ht41 hea heb hcond), hf⟩
          rw [hm34]; omega
      · intro hp174
        have hcond := hp174
        refine wp_exit ?_
        refine he46 _ _ _ (by simp) ?_
        refine he39 _ _ _ (by simp) ?_
        refine hx30 _ _ ?_
        refine hn21 _ _ ?_
        replace hf : Z.Fr a 26 [] [] := hf.keep []
        refine Z.seq' (Z.Pq.body _ _ _) fun Q175 hp176 hn177 he178 => ?_
        refine Z.reg ?_
        refine Z.val hf rfl (Z.r_assign (hf.eval rfl)) ?_; clear hf a; intro a hf
        refine Z.done ?_
        refine hn177 _ _ ?_
        replace hf : Z.Fr a 26 [] [(4, .bool true)] := hf.keep [4]
        refine wp_ret ?_
        replace hf := hf.setv (d := 4) (y := .bool (decide (xs = ys))) rfl (congrArg Value.bool (by first | (symm; apply decide_eq_false; intro h; first | (refine hgd ?_; rw [h]; done) | (refine hcond ?_; rw [h]; done) | (simp only [Bool.not_eq_true', decide_eq_false_iff_not] at hgd; refine hgd ?_; rw [h]; done) | (simp only [Bool.not_eq_true', decide_eq_false_iff_not] at hcond; refine hcond ?_; rw [h]; done) | (rw [h, heb] at hea; injection hea with hea; exact hcond hea.symm)) | (exact Codec.same_true (Codec.take_end (by first | assumption | omega) ht41 (by first | assumption | omega)))))
        refine Z.ret1 hf Try.results46 rfl ?_
        exact ⟨rfl, hc33⟩

set_option maxHeartbeats 400000 in
set_option maxRecDepth 20000 in
theorem SameEntries_spec (xs : List (Int × Int × ByteArray × Int)) (ys : List (Int × Int × ByteArray × Int)) (w : World) (pA0 : Option Addr) (pc0 : Nat) (pA1 : Option Addr) (pc1 : Nat) (ph0 : (Z.Ty.slice (Z.Ty.pair (Z.Ty.int .i64) (Z.Ty.pair (Z.Ty.int .i64) (Z.Ty.pair Z.Ty.str (Z.Ty.int .i64))))).rep w (Z.nt []) [.slice pA0 xs.length pc0] xs) (ph1 : (Z.Ty.slice (Z.Ty.pair (Z.Ty.int .i64) (Z.Ty.pair (Z.Ty.int .i64) (Z.Ty.pair Z.Ty.str (Z.Ty.int .i64))))).rep w (Z.nt []) [.slice pA1 ys.length pc1] ys)  :
    Calls Try.prog 24 #[.slice pA0 xs.length pc0, .slice pA1 ys.length pc1] w fun e w' => e = .returned (.bool (decide (xs = ys))) ∧ Z.Ch [] w w' := by
  refine Z.enter Try.func24 rfl Try.ntmps24 (Nat.le_of_ble_eq_true rfl) fun a hf => ?_
  replace hf : Z.Fr a 26 [] [(0, .slice pA0 xs.length pc0), (1, .slice pA1 ys.length pc1)] := hf
  have hle_pA0 := Z.rep_le ph0
  have ph0o := Z.rep_ol ph0
  have hle_pA1 := Z.rep_le ph1
  have ph1o := Z.rep_ol ph1
  refine Z.seq' (Z.Pq.body _ _ _) fun Q1 hp2 hn3 he4 => ?_
  refine Z.reg ?_
  refine Z.val hf rfl (Z.r_assign (hf.eval rfl)) ?_; clear hf a; intro a hf
  refine Z.done ?_
  refine hn3 _ _ ?_
  replace hf : Z.Fr a 26 [] [(0, .slice pA0 xs.length pc0), (1, .slice pA1 ys.length pc1)] := hf.keep [0, 1]
  refine Z.seq' (Z.Pq.body _ _ _) fun Q5 hp6 hn7 he8 => ?_
  refine Z.seq' hp6 fun Q9 hp10 hn11 he12 => ?_
  refine Z.reg ?_
  refine Z.val hf rfl (Z.r_move (hf.eval rfl)) ?_; clear hf a; intro a hf
  refine Z.val hf rfl (Z.r_len Try.underlying34 (hf.eval rfl)) ?_; clear hf a; intro a hf
  refine Z.val hf rfl (Z.r_move (hf.eval rfl)) ?_; clear hf a; intro a hf
  refine Z.val hf rfl (Z.r_len Try.underlying34 (hf.eval rfl)) ?_; clear hf a; intro a hf
  refine Z.val hf rfl (Z.r_neq (hf.eval rfl) (hf.eval rfl)) ?_; clear hf a; intro a hf
  refine Z.done ?_
  refine hn11 _ _ ?_
  replace hf : Z.Fr a 26 [] [(0, .slice pA0 xs.length pc0), (1, .slice pA1 ys.length pc1), (10, .bool (decide ((xs.length : Int) ≠ (ys.length : Int))))] := hf.keep [0, 1, 10]
  refine Z.condp hf rfl ?_ ?_
  · intro hp13
    have hcond := hp13
    refine Z.seq' hp6 fun Q14 hp15 hn16 he17 => ?_
    refine Z.reg ?_
    refine Z.val hf rfl (Z.r_assign (hf.eval rfl)) ?_; clear hf a; intro a hf
    refine Z.done ?_
    refine hn16 _ _ ?_
    replace hf : Z.Fr a 26 [] [(4, .bool false)] := hf.keep [4]
    refine wp_ret ?_
    refine he8 _ _ _ (by simp) ?_
    replace hf := hf.setv (d := 4) (y := .bool (decide (xs = ys))) rfl (congrArg Value.bool (by first | (symm; apply decide_eq_false; intro h; first | (refine hgd ?_; rw [h]; done) | (refine hcond ?_; rw [h]; done) | (simp only [Bool.not_eq_true', decide_eq_false_iff_not] at hgd; refine hgd ?_; rw [h]; done) | (simp only [Bool.not_eq_true', decide_eq_false_iff_not] at hcond; refine hcond ?_; rw [h]; done) | (rw [h, heb] at hea; injection hea with hea; exact hcond hea.symm)) | (exact Codec.same_true (Codec.take_end (by first | assumption | omega) ht (by first | assumption | omega)))))
    refine Z.ret1 hf Try.results24 rfl ?_
    exact ⟨rfl, (Z.Ch.refl w)⟩
  · intro hp18
    have hcond := hp18
    refine wp_skip ?_
    refine hn7 _ _ ?_
    replace hf : Z.Fr a 26 [] [(0, .slice pA0 xs.length pc0), (1, .slice pA1 ys.length pc1)] := hf.keep [0, 1]
    refine Z.seq' (Z.Pq.body _ _ _) fun Q19 hp20 hn21 he22 => ?_
    refine Z.seq' hp20 fun Q23 hp24 hn25 he26 => ?_
    refine Z.reg ?_
    refine Z.val hf rfl (Z.r_assign (hf.eval rfl)) ?_; clear hf a; intro a hf
    refine Z.done ?_
    refine hn25 _ _ ?_
    replace hf : Z.Fr a 26 [] [(0, .slice pA0 xs.length pc0), (1, .slice pA1 ys.length pc1), (5, .int .i64 0)] := hf.keep [0, 1, 5]
    refine Z.block' hp20 fun Q27 hp28 hn29 hx30 he31 => ?_
    refine Z.loop' hp28 (fun m a wl => ∃ (k : Nat), m = xs.length - k ∧ Z.Ch [] w wl ∧ (k ≤ xs.length) ∧ (xs.take k = ys.take k) ∧ Z.Fr a 26 [] [(0, .slice pA0 xs.length pc0), (1, .slice pA1 ys.length pc1), (5, .int .i64 (k : Int))]) (xs.length - 0) ?_ ?_
    · replace hf := hf.setv (d := 5) (y := .int .i64 (0 : Int)) rfl (congrArg (Value.int .i64) (by first | rfl | omega | (simp; done) | (simp; omega)))
      replace hf : Z.Fr a 26 [] [(0, .slice pA0 xs.length pc0), (1, .slice pA1 ys.length pc1), (5, .int .i64 (0 : Int))] := hf.keep [0, 1, 5]
      exact ⟨0, rfl, (Z.Ch.refl w), (by omega), (by simp), hf⟩
    · rintro m42 a w32 ⟨k35, hm34, hc33, hk40, ht41, hf⟩ Q36 hp37 hn38 he39
      have hzhc33 := hc33.size
      refine Z.seq' hp37 fun Q43 hp44 hn45 he46 => ?_
      refine Z.seq' hp44 fun Q47 hp48 hn49 he50 => ?_
      refine Z.reg ?_
      refine Z.val hf rfl (Z.r_move (hf.eval rfl)) ?_; clear hf a; intro a hf
      refine Z.val hf rfl (Z.r_move (hf.eval rfl)) ?_; clear hf a; intro a hf
      refine Z.val hf rfl (Z.r_len Try.underlying34 (hf.eval rfl)) ?_; clear hf a; intro a hf
      refine Z.val hf rfl (Z.r_lss (hf.eval rfl) (hf.eval rfl)) ?_; clear hf a; intro a hf
      refine Z.done ?_
      refine hn49 _ _ ?_
      replace hf : Z.Fr a 26 [] [(0, .slice pA0 xs.length pc0), (1, .slice pA1 ys.length pc1), (5, .int .i64 (k35 : Int)), (14, .bool (decide ((k35 : Int) < (xs.length : Int))))] := hf.keep [0, 1, 5, 14]
      refine Z.condp hf rfl ?_ ?_
      · intro hp51
        have hcond := hp51
        refine wp_skip ?_
        refine hn45 _ _ ?_
        replace hf : Z.Fr a 26 [] [(0, .slice pA0 xs.length pc0), (1, .slice pA1 ys.length pc1), (5, .int .i64 (k35 : Int))] := hf.keep [0, 1, 5]
        refine Z.seq' hp37 fun Q52 hp53 hn54 he55 => ?_
        refine Z.block' hp53 fun Q56 hp57 hn58 hx59 he60 => ?_
        refine Z.seq' hp57 fun Q61 hp62 hn63 he64 => ?_
        refine Z.dr_reg (S := fun w' => Z.Ch [] w32 w') mixed ?_; intro w65 hc66 hz67
        refine Z.dr_val 0 hf rfl rfl (by kernel_rfl) (by kernel_rfl) (by kernel_rfl) (fun _ _ _ h => hp62 _ _ _ _ _ h) hc66 Z.wanted_none (fun _ hw => Z.r_move (hf.eval rfl)) ?_; clear hf a; intro a hf
        refine Z.dr_val 1 hf rfl rfl (by kernel_rfl) (by kernel_rfl) (by kernel_rfl) (fun _ _ _ h => hp62 _ _ _ _ _ h) hc66 Z.wanted_none (fun _ hw => Z.r_move (hf.eval rfl)) ?_; clear hf a; intro a hf
        have hr68 : (Z.Ty.slice (Z.Ty.pair (Z.Ty.int .i64) (Z.Ty.pair (Z.Ty.int .i64) (Z.Ty.pair Z.Ty.str (Z.Ty.int .i64))))).rep w32 (Z.ol [] w.heap.size) [.slice pA0 xs.length pc0] xs := Z.rep_to ph0o hc33 (by intro b h1 h2; (try simp only [Z.nt, Z.iv, Z.no, Z.ol, List.mem_cons, List.not_mem_nil, or_false, not_or, not_false_eq_true] at h1); (try simp only [Z.nt, Z.iv, Z.no, Z.ol, List.mem_cons, List.mem_append, List.not_mem_nil, or_false, not_or, not_false_eq_true, true_and, and_true]) <;> omega)
        have hkx71 : k35 < (xs).length := (by omega)
        obtain ⟨ad69, es70, x71, hA72, hF73, hl74, hx75, hc76, hr77⟩ := Z.rep_el hr68 hkx71
        have hok78 := Z.rep_ok _ hr77
        obtain ⟨ca79, cb80, he81, hr82, hr83⟩ := hr77
        have he84 := hr82.1
        obtain ⟨ca85, cb86, he87, hr88, hr89⟩ := hr83
        have he90 := hr88.1
        obtain ⟨ca91, cb92, he93, hr94, hr95⟩ := hr89
        have he96 := hr94.1
        have he97 := hr95.1
        have he98 : es70 = [.int .i64 x71.1, .int .i64 x71.2.1, .string x71.2.2.1, .int .i64 x71.2.2.2] := by simp only [he81, he84, he87, he90, he93, he96, he97, List.cons_append, List.nil_append]
        rw [he98] at hc76
        have hea := hx75
        refine Z.dr_val 2 hf rfl rfl (by kernel_rfl) (by kernel_rfl) (by kernel_rfl) (fun _ _ _ h => hp62 _ _ _ _ _ h) hc66 Z.wanted_none (fun _ hw => Z.r_indexAddrE Try.underlying34 Try.sizeOf58 (hf.eval rfl) hA72 (hf.eval rfl) (k := k35) (by first | rfl | omega) (by omega)) ?_; clear hf a; intro a hf
        refine Z.dr_val 3 hf rfl rfl (by kernel_rfl) (by kernel_rfl) (by kernel_rfl) (fun _ _ _ h => hp62 _ _ _ _ _ h) hc66 Z.wanted_none (fun _ hw => Z.r_loadEN Try.isAgg58 Try.sizeOf58 (hf.eval rfl) (hc76.ch0 hw) rfl rfl) ?_; clear hf a; intro a hf
        refine Z.dr_val 4 hf rfl rfl (by kernel_rfl) (by kernel_rfl) (by kernel_rfl) (fun _ _ _ h => hp62 _ _ _ _ _ h) hc66 Z.wanted_none (fun _ hw => Z.r_move (hf.eval rfl)) ?_; clear hf a; intro a hf
        refine Z.dr_val 5 hf rfl rfl (by kernel_rfl) (by kernel_rfl) (by kernel_rfl) (fun _ _ _ h => hp62 _ _ _ _ _ h) hc66 Z.wanted_none (fun _ hw => Z.r_move (hf.eval rfl)) ?_; clear hf a; intro a hf
        have hr99 : (Z.Ty.slice (Z.Ty.pair (Z.Ty.int .i64) (Z.Ty.pair (Z.Ty.int .i64) (Z.Ty.pair Z.Ty.str (Z.Ty.int .i64))))).rep w32 (Z.ol [] w.heap.size) [.slice pA1 ys.length pc1] ys := Z.rep_to ph1o hc33 (by intro b h1 h2; (try simp only [Z.nt, Z.iv, Z.no, Z.ol, List.mem_cons, List.not_mem_nil, or_false, not_or, not_false_eq_true] at h1); (try simp only [Z.nt, Z.iv, Z.no, Z.ol, List.mem_cons, List.mem_append, List.not_mem_nil, or_false, not_or, not_false_eq_true, true_and, and_true]) <;> omega)
        have hkx102 : k35 < (ys).length := (by omega)
        obtain ⟨ad100, es101, x102, hA103, hF104, hl105, hx106, hc107, hr108⟩ := Z.rep_el hr99 hkx102
        have hok109 := Z.rep_ok _ hr108
        obtain ⟨ca110, cb111, he112, hr113, hr114⟩ := hr108
        have he115 := hr113.1
        obtain ⟨ca116, cb117, he118, hr119, hr120⟩ := hr114
        have he121 := hr119.1
        obtain ⟨ca122, cb123, he124, hr125, hr126⟩ := hr120
        have he127 := hr125.1
        have he128 := hr126.1
        have he129 : es101 = [.int .i64 x102.1, .int .i64 x102.2.1, .string x102.2.2.1, .int .i64 x102.2.2.2] := by simp only [he112, he115, he118, he121, he124, he127, he128, List.cons_append, List.nil_append]
        rw [he129] at hc107
        have heb := hx106
        refine Z.dr_val 6 hf rfl rfl (by kernel_rfl) (by kernel_rfl) (by kernel_rfl) (fun _ _ _ h => hp62 _ _ _ _ _ h) hc66 Z.wanted_none (fun _ hw => Z.r_indexAddrE Try.underlying34 Try.sizeOf58 (hf.eval rfl) hA103 (hf.eval rfl) (k := k35) (by first | rfl | omega) (by omega)) ?_; clear hf a; intro a hf
        refine Z.dr_val 7 hf rfl rfl (by kernel_rfl) (by kernel_rfl) (by kernel_rfl) (fun _ _ _ h => hp62 _ _ _ _ _ h) hc66 Z.wanted_none (fun _ hw => Z.r_loadEN Try.isAgg58 Try.sizeOf58 (hf.eval rfl) (hc107.ch0 hw) rfl rfl) ?_; clear hf a; intro a hf
        refine Z.dr_val 8 hf rfl rfl (by kernel_rfl) (by kernel_rfl) (by kernel_rfl) (fun _ _ _ h => hp62 _ _ _ _ _ h) hc66 Z.wanted_none (fun _ hw => eqagg_neq58 (x := x71) (y := x102) (hf.eval rfl) (hf.eval rfl)) ?_; clear hf a; intro a hf
        refine Z.dr_done (by kernel_rfl) ?_
        refine hn63 _ _ ?_
        replace hf : Z.Fr a 26 [] [(0, .slice pA0 xs.length pc0), (1, .slice pA1 ys.length pc1), (5, .int .i64 (k35 : Int)), (25, .bool (decide (x71 ≠ x102)))] := hf.keep [0, 1, 5, 25]
        refine Z.condp hf rfl ?_ ?_
        · intro hp130
          have hcond := hp130
          refine Z.seq' hp57 fun Q131 hp132 hn133 he134 => ?_
          refine Z.reg ?_
          refine Z.val hf rfl (Z.r_assign (hf.eval rfl)) ?_; clear hf a; intro a hf
          refine Z.done ?_
          refine hn133 _ _ ?_
          replace hf : Z.Fr a 26 [] [(4, .bool false)] := hf.keep [4]
          refine wp_ret ?_
          refine he60 _ _ _ (by simp) (by simp) ?_
          refine he55 _ _ _ (by simp) ?_
          refine he39 _ _ _ (by simp) ?_
          refine he31 _ _ _ (by simp) (by simp) ?_
          refine he22 _ _ _ (by simp) ?_
          replace hf := hf.setv (d := 4) (y := .bool (decide (xs = ys))) rfl (congrArg Value.bool (by first | (symm; apply decide_eq_false; intro h; first | (refine hgd ?_; rw [h]; done) | (refine hcond ?_; rw [h]; done) | (simp only [Bool.not_eq_true', decide_eq_false_iff_not] at hgd; refine hgd ?_; rw [h]; done) | (simp only [Bool.not_eq_true', decide_eq_false_iff_not] at hcond; refine hcond ?_; rw [h]; done) | (rw [h, heb] at hea; injection hea with hea; exact hcond hea.symm)) | (exact Codec.same_true (Codec.take_end (by first | assumption | omega) ht41 (by first | assumption | omega)))))
          have hq135 : Z.Ch [] w w65 := hc33.then hc66 (by simp) (by simp)
          refine Z.ret1 hf Try.results24 rfl ?_
          exact ⟨rfl, hq135⟩
        · intro hp136
          have hcond := hp136
          refine wp_skip ?_
          refine hn58 _ _ ?_
          refine hn54 _ _ ?_
          replace hf : Z.Fr a 26 [] [(0, .slice pA0 xs.length pc0), (1, .slice pA1 ys.length pc1), (5, .int .i64 (k35 : Int))] := hf.keep [0, 1, 5]
          refine Z.reg ?_
          refine Z.val hf rfl (Z.r_move (hf.eval rfl)) ?_; clear hf a; intro a hf
          refine Z.val hf rfl (Z.r_add64 (hf.eval rfl) (hf.eval rfl) (by omega)) ?_; clear hf a; intro a hf
          refine Z.val hf rfl (Z.r_assign (hf.eval rfl)) ?_; clear hf a; intro a hf
          refine Z.done ?_
          refine hn38 (xs.length - (k35 + 1)) _ _ ?_ ?_
          rotate_left
          replace hf := hf.setv (d := 5) (y := .int .i64 ((k35 + 1 : Nat) : Int)) rfl (congrArg (Value.int .i64) (by first | rfl | omega | (simp; done) | (simp; omega)))
          have hq137 : Z.Ch [] w w65 := hc33.then hc66 (by simp) (by simp)
          replace hf : Z.Fr a 26 [] [(0, .slice pA0 xs.length pc0), (1, .slice pA1 ys.length pc1), (5, .int .i64 ((k35 + 1 : Nat) : Int))] := hf.keep [0, 1, 5]
          exact ⟨k35 + 1, rfl, hq137, (by omega), (by exact Codec.take_step ht41 hea heb hcond), hf⟩
          rw [hm34]; omega
      · intro hp138
        have hcond := hp138
        refine wp_exit ?_
        refine he46 _ _ _ (by simp) ?_
        refine he39 _ _ _ (by simp) ?_
        refine hx30 _ _ ?_
        refine hn21 _ _ ?_
        replace hf : Z.Fr a 26 [] [] := hf.keep []
        refine Z.seq' (Z.Pq.body _ _ _) fun Q139 hp140 hn141 he142 => ?_
        refine Z.reg ?_
        refine Z.val hf rfl (Z.r_assign (hf.eval rfl)) ?_; clear hf a; intro a hf
        refine Z.done ?_
        refine hn141 _ _ ?_
        replace hf : Z.Fr a 26 [] [(4, .bool true)] := hf.keep [4]
        refine wp_ret ?_
        replace hf := hf.setv (d := 4) (y := .bool (decide (xs = ys))) rfl (congrArg Value.bool (by first | (symm; apply decide_eq_false; intro h; first | (refine hgd ?_; rw [h]; done) | (refine hcond ?_; rw [h]; done) | (simp only [Bool.not_eq_true', decide_eq_false_iff_not] at hgd; refine hgd ?_; rw [h]; done) | (simp only [Bool.not_eq_true', decide_eq_false_iff_not] at hcond; refine hcond ?_; rw [h]; done) | (rw [h, heb] at hea; injection hea with hea; exact hcond hea.symm)) | (exact Codec.same_true (Codec.take_end (by first | assumption | omega) ht41 (by first | assumption | omega)))))
        refine Z.ret1 hf Try.results24 rfl ?_
        exact ⟨rfl, hc33⟩

set_option maxHeartbeats 1000000 in
set_option maxRecDepth 20000 in
theorem Same_spec (x : (List (Int × Int × (List Int) × (Int × Int × ByteArray) × ByteArray × Int × Int))) (y : (List (Int × Int × (List Int) × (Int × Int × ByteArray) × ByteArray × Int × Int))) (w : World) (pA0 : Option Addr) (pc0 : Nat) (pA1 : Option Addr) (pc1 : Nat) (ph0 : (Z.Ty.slice (Z.Ty.pair (Z.Ty.int .i64) (Z.Ty.pair (Z.Ty.int .i64) (Z.Ty.pair (Z.Ty.slice (Z.Ty.int .i64)) (Z.Ty.pair (Z.Ty.pair (Z.Ty.int .i64) (Z.Ty.pair (Z.Ty.int .i64) Z.Ty.str)) (Z.Ty.pair Z.Ty.str (Z.Ty.pair (Z.Ty.int .i64) (Z.Ty.int .i64)))))))).rep w (Z.nt []) [.slice pA0 x.length pc0] x) (pk1 : Z.Ty.ok (Z.Ty.slice (Z.Ty.pair (Z.Ty.int .i64) (Z.Ty.pair (Z.Ty.int .i64) (Z.Ty.pair (Z.Ty.slice (Z.Ty.int .i64)) (Z.Ty.pair (Z.Ty.pair (Z.Ty.int .i64) (Z.Ty.pair (Z.Ty.int .i64) Z.Ty.str)) (Z.Ty.pair Z.Ty.str (Z.Ty.pair (Z.Ty.int .i64) (Z.Ty.int .i64)))))))) x) (ph1 : (Z.Ty.slice (Z.Ty.pair (Z.Ty.int .i64) (Z.Ty.pair (Z.Ty.int .i64) (Z.Ty.pair (Z.Ty.slice (Z.Ty.int .i64)) (Z.Ty.pair (Z.Ty.pair (Z.Ty.int .i64) (Z.Ty.pair (Z.Ty.int .i64) Z.Ty.str)) (Z.Ty.pair Z.Ty.str (Z.Ty.pair (Z.Ty.int .i64) (Z.Ty.int .i64)))))))).rep w (Z.nt []) [.slice pA1 y.length pc1] y) (pk3 : Z.Ty.ok (Z.Ty.slice (Z.Ty.pair (Z.Ty.int .i64) (Z.Ty.pair (Z.Ty.int .i64) (Z.Ty.pair (Z.Ty.slice (Z.Ty.int .i64)) (Z.Ty.pair (Z.Ty.pair (Z.Ty.int .i64) (Z.Ty.pair (Z.Ty.int .i64) Z.Ty.str)) (Z.Ty.pair Z.Ty.str (Z.Ty.pair (Z.Ty.int .i64) (Z.Ty.int .i64)))))))) y)  :
    Calls Try.prog 45 #[.agg #[.slice pA0 x.length pc0], .agg #[.slice pA1 y.length pc1]] w fun e w' => e = .returned (.bool (decide (x = y))) ∧ Z.Ch [] w w' := by
  refine Z.enter Try.func45 rfl Try.ntmps45 (Nat.le_of_ble_eq_true rfl) fun a hf => ?_
  replace hf : Z.Fr a 100 [] [(0, .agg #[.slice pA0 x.length pc0]), (1, .agg #[.slice pA1 y.length pc1])] := hf
  have hle_pA0 := Z.rep_le ph0
  have ph0o := Z.rep_ol ph0
  have hle_pA1 := Z.rep_le ph1
  have ph1o := Z.rep_ol ph1
  refine Z.seq' (Z.Pq.body _ _ _) fun Q1 hp2 hn3 he4 => ?_
  refine Z.reg ?_
  refine Z.st_box hf rfl rfl rfl ?_; clear hf a; intro g5 w6 a hg7 hz8 hb9 hc10 hf
  refine Z.st_box hf rfl rfl rfl ?_; clear hf a; intro g11 w12 a hg13 hz14 hb15 hc16 hf
  refine Z.val hf rfl (Z.r_assign (hf.eval rfl)) ?_; clear hf a; intro a hf
  refine Z.done ?_
  refine hn3 _ _ ?_
  replace hf : Z.Fr a 100 [] [(2, .pointer (some ⟨g5, 0, none⟩)), (3, .pointer (some ⟨g11, 0, none⟩))] := hf.keep [2, 3]
  refine Z.seq' (Z.Pq.body _ _ _) fun Q17 hp18 hn19 he20 => ?_
  refine Z.seq' hp18 fun Q21 hp22 hn23 he24 => ?_
  refine Z.reg ?_
  refine Z.val hf rfl (Z.r_fieldAddrB Try.underlying101 rfl Try.sizeOf30 (hf.eval rfl) rfl) ?_; clear hf a; intro a hf
  have hb25 := hb9.ch0 hc16
  refine Z.val hf rfl (Z.r_loadB Try.isAgg30 (hf.eval rfl) hb25 rfl) ?_; clear hf a; intro a hf
  refine Z.val hf rfl (Z.r_len Try.underlying30 (hf.eval rfl)) ?_; clear hf a; intro a hf
  refine Z.val hf rfl (Z.r_fieldAddrB Try.underlying101 rfl Try.sizeOf30 (hf.eval rfl) rfl) ?_; clear hf a; intro a hf
  refine Z.val hf rfl (Z.r_loadB Try.isAgg30 (hf.eval rfl) hb15 rfl) ?_; clear hf a; intro a hf
  refine Z.val hf rfl (Z.r_len Try.underlying30 (hf.eval rfl)) ?_; clear hf a; intro a hf
  refine Z.val hf rfl (Z.r_neq (hf.eval rfl) (hf.eval rfl)) ?_; clear hf a; intro a hf
  refine Z.done ?_
  refine hn23 _ _ ?_
  replace hf : Z.Fr a 100 [] [(2, .pointer (some ⟨g5, 0, none⟩)), (3, .pointer (some ⟨g11, 0, none⟩)), (15, .bool (decide ((x.length : Int) ≠ (y.length : Int))))] := hf.keep [2, 3, 15]
  refine Z.condp hf rfl ?_ ?_
  · intro hp26
    have hcond := hp26
    refine Z.seq' hp18 fun Q27 hp28 hn29 he30 => ?_
    refine Z.reg ?_
    refine Z.val hf rfl (Z.r_assign (hf.eval rfl)) ?_; clear hf a; intro a hf
    refine Z.done ?_
    refine hn29 _ _ ?_
    replace hf : Z.Fr a 100 [] [(4, .bool false)] := hf.keep [4]
    refine wp_ret ?_
    refine he20 _ _ _ (by simp) ?_
    replace hf := hf.setv (d := 4) (y := .bool (decide (x = y))) rfl (congrArg Value.bool (by first | (symm; apply decide_eq_false; intro h; first | (rw [h, heb] at hea; injection hea with hea; first | (refine hgd ?_; rw [hea]; done) | (refine hcond ?_; rw [hea]; done) | (rw [hea, hia] at hib; injection hib with hib; exact hcond hib)) | (refine hcond ?_; rw [h]; done)) | (exact Codec.same_true (Codec.take_end hp26 hNONE hp26))))
    have hq31 : Z.Ch [] w w12 := hc10.then hc16 (by simp) (by simp)
    refine Z.ret1 hf Try.results45 rfl ?_
    exact ⟨rfl, hq31⟩
  · intro hp32
    have hcond := hp32
    refine wp_skip ?_
    refine hn19 _ _ ?_
    replace hf : Z.Fr a 100 [] [(2, .pointer (some ⟨g5, 0, none⟩)), (3, .pointer (some ⟨g11, 0, none⟩))] := hf.keep [2, 3]
    refine Z.seq' (Z.Pq.body _ _ _) fun Q33 hp34 hn35 he36 => ?_
    refine Z.seq' hp34 fun Q37 hp38 hn39 he40 => ?_
    refine Z.reg ?_
    refine Z.val hf rfl (Z.r_assign (hf.eval rfl)) ?_; clear hf a; intro a hf
    refine Z.done ?_
    refine hn39 _ _ ?_
    replace hf : Z.Fr a 100 [] [(2, .pointer (some ⟨g5, 0, none⟩)), (3, .pointer (some ⟨g11, 0, none⟩)), (5, .int .i64 0)] := hf.keep [2, 3, 5]
    refine Z.block' hp34 fun Q41 hp42 hn43 hx44 he45 => ?_
    refine Z.loop' hp42 (fun m a wl => ∃ (k : Nat), m = x.length - k ∧ Z.Ch [] w12 wl ∧ (k ≤ x.length) ∧ (x.take k = y.take k) ∧ Z.Fr a 100 [] [(2, .pointer (some ⟨g5, 0, none⟩)), (3, .pointer (some ⟨g11, 0, none⟩)), (5, .int .i64 (k : Int))]) (x.length - 0) ?_ ?_
    · replace hf := hf.setv (d := 5) (y := .int .i64 (0 : Int)) rfl (congrArg (Value.int .i64) (by first | rfl | omega | (simp; done) | (simp; omega)))
      replace hf : Z.Fr a 100 [] [(2, .pointer (some ⟨g5, 0, none⟩)), (3, .pointer (some ⟨g11, 0, none⟩)), (5, .int .i64 (0 : Int))] := hf.keep [2, 3, 5]
      exact ⟨0, rfl, (Z.Ch.refl w12), (by omega), (by simp), hf⟩
    · rintro m56 a w46 ⟨k49, hm48, hc47, hk54, ht55, hf⟩ Q50 hp51 hn52 he53
      have hzhc47 := hc47.size
      refine Z.seq' hp51 fun Q57 hp58 hn59 he60 => ?_
      refine Z.seq' hp58 fun Q61 hp62 hn63 he64 => ?_
      refine Z.reg ?_
      refine Z.val hf rfl (Z.r_move (hf.eval rfl)) ?_; clear hf a; intro a hf
      refine Z.val hf rfl (Z.r_fieldAddrB Try.underlying101 rfl Try.sizeOf30 (hf.eval rfl) rfl) ?_; clear hf a; intro a hf
      have hb65 := hb25.ch0 hc47
      refine Z.val hf rfl (Z.r_loadB Try.isAgg30 (hf.eval rfl) hb65 rfl) ?_; clear hf a; intro a hf
      refine Z.val hf rfl (Z.r_len Try.underlying30 (hf.eval rfl)) ?_; clear hf a; intro a hf
      refine Z.val hf rfl (Z.r_lss (hf.eval rfl) (hf.eval rfl)) ?_; clear hf a; intro a hf
      refine Z.done ?_
      refine hn63 _ _ ?_
      replace hf : Z.Fr a 100 [] [(2, .pointer (some ⟨g5, 0, none⟩)), (3, .pointer (some ⟨g11, 0, none⟩)), (5, .int .i64 (k49 : Int)), (20, .bool (decide ((k49 : Int) < (x.length : Int))))] := hf.keep [2, 3, 5, 20]
      refine Z.condp hf rfl ?_ ?_
      · intro hp66
        have hcond := hp66
        refine wp_skip ?_
        refine hn59 _ _ ?_
        replace hf : Z.Fr a 100 [] [(2, .pointer (some ⟨g5, 0, none⟩)), (3, .pointer (some ⟨g11, 0, none⟩)), (5, .int .i64 (k49 : Int))] := hf.keep [2, 3, 5]
        refine Z.seq' hp51 fun Q67 hp68 hn69 he70 => ?_
        refine Z.block' hp68 fun Q71 hp72 hn73 hx74 he75 => ?_
        refine Z.seq' hp72 fun Q76 hp77 hn78 he79 => ?_
        refine Z.dr_reg (S := fun w' => Z.Ch [] w46 w') mixed ?_; intro w80 hc81 hz82
        refine Z.dr_val 0 hf rfl rfl (by kernel_rfl) (by kernel_rfl) (by kernel_rfl) (fun _ _ _ h => hp77 _ _ _ _ _ h) hc81 Z.wanted_none (fun _ hw => Z.r_fieldAddrB Try.underlying101 rfl Try.sizeOf30 (hf.eval rfl) rfl) ?_; clear hf a; intro a hf
        refine Z.dr_val 1 hf rfl rfl (by kernel_rfl) (by kernel_rfl) (by kernel_rfl) (fun _ _ _ h => hp77 _ _ _ _ _ h) hc81 Z.wanted_none (fun _ hw => Z.r_loadB Try.isAgg30 (hf.eval rfl) (hb65.ch0 hw) rfl) ?_; clear hf a; intro a hf
        refine Z.dr_val 2 hf rfl rfl (by kernel_rfl) (by kernel_rfl) (by kernel_rfl) (fun _ _ _ h => hp77 _ _ _ _ _ h) hc81 Z.wanted_none (fun _ hw => Z.r_move (hf.eval rfl)) ?_; clear hf a; intro a hf
        have hq83 : Z.Ch [] w w12 := hc10.then hc16 (by simp) (by simp)
        have hq84 : Z.Ch [] w w46 := hq83.then hc47 (by simp) (by simp)
        have hr85 : (Z.Ty.slice (Z.Ty.pair (Z.Ty.int .i64) (Z.Ty.pair (Z.Ty.int .i64) (Z.Ty.pair (Z.Ty.slice (Z.Ty.int .i64)) (Z.Ty.pair (Z.Ty.pair (Z.Ty.int .i64) (Z.Ty.pair (Z.Ty.int .i64) Z.Ty.str)) (Z.Ty.pair Z.Ty.str (Z.Ty.pair (Z.Ty.int .i64) (Z.Ty.int .i64)))))))).rep w46 (Z.ol [] w.heap.size) [.slice pA0 x.length pc0] x := Z.rep_to ph0o hq84 (by intro b h1 h2; (try simp only [Z.nt, Z.iv, Z.no, Z.ol, List.mem_cons, List.not_mem_nil, or_false, not_or, not_false_eq_true] at h1); (try simp only [Z.nt, Z.iv, Z.no, Z.ol, List.mem_cons, List.mem_append, List.not_mem_nil, or_false, not_or, not_false_eq_true, true_and, and_true]) <;> omega)
        have hkx88 : k49 < (x).length := (by omega)
        obtain ⟨ad86, es87, x88, hA89, hF90, hl91, hx92, hc93, hr94⟩ := Z.rep_el hr85 hkx88
        have hok95 := Z.rep_ok _ hr94
        obtain ⟨ca96, cb97, he98, hr99, hr100⟩ := hr94
        have he101 := hr99.1
        obtain ⟨ca102, cb103, he104, hr105, hr106⟩ := hr100
        have he107 := hr105.1
        obtain ⟨ca108, cb109, he110, hr111, hr112⟩ := hr106
        obtain ⟨A113, c114, he115, hn116, hn117⟩ := Z.rep_slice hr111
        rw [he115] at hr111
        have hle_A113 := Z.rep_le hr111
        obtain ⟨ca118, cb119, he120, hr121, hr122⟩ := hr112
        obtain ⟨ca123, cb124, he125, hr126, hr127⟩ := hr121
        have he128 := hr126.1
        obtain ⟨ca129, cb130, he131, hr132, hr133⟩ := hr127
        have he134 := hr132.1
        have he135 := hr133.1
        obtain ⟨ca136, cb137, he138, hr139, hr140⟩ := hr122
        have he141 := hr139.1
        obtain ⟨ca142, cb143, he144, hr145, hr146⟩ := hr140
        have he147 := hr145.1
        have he148 := hr146.1
        have he149 : es87 = [.int .i64 x88.1, .int .i64 x88.2.1, .slice A113 x88.2.2.1.length c114, .int .i64 x88.2.2.2.1.1, .int .i64 x88.2.2.2.1.2.1, .string x88.2.2.2.1.2.2, .string x88.2.2.2.2.1, .int .i64 x88.2.2.2.2.2.1, .int .i64 x88.2.2.2.2.2.2] := by simp only [he98, he101, he104, he107, he110, he115, he120, he125, he128, he131, he134, he135, he138, he141, he144, he147, he148, List.cons_append, List.nil_append]
        rw [he149] at hc93
        have hea := hx92
        refine Z.dr_val 3 hf rfl rfl (by kernel_rfl) (by kernel_rfl) (by kernel_rfl) (fun _ _ _ h => hp77 _ _ _ _ _ h) hc81 Z.wanted_none (fun _ hw => Z.r_indexAddrE Try.underlying30 Try.sizeOf86 (hf.eval rfl) hA89 (hf.eval rfl) (k := k49) (by first | rfl | omega) (by omega)) ?_; clear hf a; intro a hf
        refine Z.dr_val 4 hf rfl rfl (by kernel_rfl) (by kernel_rfl) (by kernel_rfl) (fun _ _ _ h => hp77 _ _ _ _ _ h) hc81 Z.wanted_none (fun _ hw => Z.r_loadEN Try.isAgg86 Try.sizeOf86 (hf.eval rfl) (hc93.ch0 hw) rfl rfl) ?_; clear hf a; intro a hf
        refine Z.dr_val 5 hf rfl rfl (by kernel_rfl) (by kernel_rfl) (by kernel_rfl) (fun _ _ _ h => hp77 _ _ _ _ _ h) hc81 Z.wanted_none (fun _ hw => Z.r_fieldAddrB Try.underlying101 rfl Try.sizeOf30 (hf.eval rfl) rfl) ?_; clear hf a; intro a hf
        have hb150 := hb15.ch0 hc47
        refine Z.dr_val 6 hf rfl rfl (by kernel_rfl) (by kernel_rfl) (by kernel_rfl) (fun _ _ _ h => hp77 _ _ _ _ _ h) hc81 Z.wanted_none (fun _ hw => Z.r_loadB Try.isAgg30 (hf.eval rfl) (hb150.ch0 hw) rfl) ?_; clear hf a; intro a hf
        refine Z.dr_val 7 hf rfl rfl (by kernel_rfl) (by kernel_rfl) (by kernel_rfl) (fun _ _ _ h => hp77 _ _ _ _ _ h) hc81 Z.wanted_none (fun _ hw => Z.r_move (hf.eval rfl)) ?_; clear hf a; intro a hf
        have hq151 : Z.Ch [] w w12 := hc10.then hc16 (by simp) (by simp)
        have hq152 : Z.Ch [] w w46 := hq151.then hc47 (by simp) (by simp)
        have hr153 : (Z.Ty.slice (Z.Ty.pair (Z.Ty.int .i64) (Z.Ty.pair (Z.Ty.int .i64) (Z.Ty.pair (Z.Ty.slice (Z.Ty.int .i64)) (Z.Ty.pair (Z.Ty.pair (Z.Ty.int .i64) (Z.Ty.pair (Z.Ty.int .i64) Z.Ty.str)) (Z.Ty.pair Z.Ty.str (Z.Ty.pair (Z.Ty.int .i64) (Z.Ty.int .i64)))))))).rep w46 (Z.ol [] w.heap.size) [.slice pA1 y.length pc1] y := Z.rep_to ph1o hq152 (by intro b h1 h2; (try simp only [Z.nt, Z.iv, Z.no, Z.ol, List.mem_cons, List.not_mem_nil, or_false, not_or, not_false_eq_true] at h1); (try simp only [Z.nt, Z.iv, Z.no, Z.ol, List.mem_cons, List.mem_append, List.not_mem_nil, or_false, not_or, not_false_eq_true, true_and, and_true]) <;> omega)
        have hkx156 : k49 < (y).length := (by omega)
        obtain ⟨ad154, es155, x156, hA157, hF158, hl159, hx160, hc161, hr162⟩ := Z.rep_el hr153 hkx156
        have hok163 := Z.rep_ok _ hr162
        obtain ⟨ca164, cb165, he166, hr167, hr168⟩ := hr162
        have he169 := hr167.1
        obtain ⟨ca170, cb171, he172, hr173, hr174⟩ := hr168
        have he175 := hr173.1
        obtain ⟨ca176, cb177, he178, hr179, hr180⟩ := hr174
        obtain ⟨A181, c182, he183, hn184, hn185⟩ := Z.rep_slice hr179
        rw [he183] at hr179
        have hle_A181 := Z.rep_le hr179
        obtain ⟨ca186, cb187, he188, hr189, hr190⟩ := hr180
        obtain ⟨ca191, cb192, he193, hr194, hr195⟩ := hr189
        have he196 := hr194.1
        obtain ⟨ca197, cb198, he199, hr200, hr201⟩ := hr195
        have he202 := hr200.1
        have he203 := hr201.1
        obtain ⟨ca204, cb205, he206, hr207, hr208⟩ := hr190
        have he209 := hr207.1
        obtain ⟨ca210, cb211, he212, hr213, hr214⟩ := hr208
        have he215 := hr213.1
        have he216 := hr214.1
        have he217 : es155 = [.int .i64 x156.1, .int .i64 x156.2.1, .slice A181 x156.2.2.1.length c182, .int .i64 x156.2.2.2.1.1, .int .i64 x156.2.2.2.1.2.1, .string x156.2.2.2.1.2.2, .string x156.2.2.2.2.1, .int .i64 x156.2.2.2.2.2.1, .int .i64 x156.2.2.2.2.2.2] := by simp only [he166, he169, he172, he175, he178, he183, he188, he193, he196, he199, he202, he203, he206, he209, he212, he215, he216, List.cons_append, List.nil_append]
        rw [he217] at hc161
        have heb := hx160
        refine Z.dr_val 8 hf rfl rfl (by kernel_rfl) (by kernel_rfl) (by kernel_rfl) (fun _ _ _ h => hp77 _ _ _ _ _ h) hc81 Z.wanted_none (fun _ hw => Z.r_indexAddrE Try.underlying30 Try.sizeOf86 (hf.eval rfl) hA157 (hf.eval rfl) (k := k49) (by first | rfl | omega) (by omega)) ?_; clear hf a; intro a hf
        refine Z.dr_val 9 hf rfl rfl (by kernel_rfl) (by kernel_rfl) (by kernel_rfl) (fun _ _ _ h => hp77 _ _ _ _ _ h) hc81 Z.wanted_none (fun _ hw => Z.r_loadEN Try.isAgg86 Try.sizeOf86 (hf.eval rfl) (hc161.ch0 hw) rfl rfl) ?_; clear hf a; intro a hf
        refine Z.dr_two 10 11 rfl rfl (by kernel_rfl) ?_ ?_
        · refine Z.st_alloc hf rfl Try.zeroValue86 rfl ?_; clear hf a; intro g218 w219 a hg220 hz221 hb222 hc223 hf
          refine Z.done ?_
          have hq224 : Z.Ch [] w46 w219 := hc81.then hc223 (by simp) (by simp)
          refine And.intro hq224 ?_
          refine Z.dr_one 11 rfl (by kernel_rfl) ?_
          refine Z.st_alloc hf rfl Try.zeroValue86 rfl ?_; clear hf a; intro g225 w226 a hg227 hz228 hb229 hc230 hf
          refine Z.done ?_
          have hq231 : Z.Ch [] w46 w226 := hq224.then hc230 (by simp) (by simp)
          refine And.intro hq231 ?_
          refine Z.dr_one 12 rfl (by kernel_rfl) ?_
          have hb232 := hb222.ch0 hc230
          refine Z.st_store hf hb232 rfl rfl Try.sizeOf86 rfl rfl rfl (by simp [Value.oneCell']) rfl ?_; clear hf a; intro w233 a hz234 hb235 hc236 hf
          refine Z.done ?_
          have hq237 : Z.Ch [g218] w46 w233 := hq231.then hc236 (by simp) (by simp)
          refine And.intro (hq237.mono (by intro k hk; (try simp only [List.mem_cons, List.mem_append, List.not_mem_nil, or_false, false_or] at hk ⊢) <;> omega)) ?_
          refine Z.dr_one 13 rfl (by kernel_rfl) ?_
          have hb238 := hb229.ch hc236 (by simp only [List.mem_cons, List.mem_append, List.not_mem_nil, or_false, not_or, not_false_eq_true, and_true] <;> omega)
          refine Z.st_store hf hb238 rfl rfl Try.sizeOf86 rfl rfl rfl (by simp [Value.oneCell']) rfl ?_; clear hf a; intro w239 a hz240 hb241 hc242 hf
          refine Z.done ?_
          have hq243 : Z.Ch [g218, g225] w46 w239 := hq237.then hc242 (by simp) (by simp)
          refine And.intro (hq243.mono (by intro k hk; (try simp only [List.mem_cons, List.mem_append, List.not_mem_nil, or_false, false_or] at hk ⊢) <;> omega)) ?_
          refine Z.dr_done (by kernel_rfl) ?_
          refine hn78 _ _ ?_
          replace hf : Z.Fr a 100 [] [(2, .pointer (some ⟨g5, 0, none⟩)), (3, .pointer (some ⟨g11, 0, none⟩)), (5, .int .i64 (k49 : Int)), (6, .pointer (some ⟨g218, 0, none⟩)), (7, .pointer (some ⟨g225, 0, none⟩))] := hf.keep [2, 3, 5, 6, 7]
          refine Z.seq' hp72 fun Q244 hp245 hn246 he247 => ?_
          refine Z.seq' hp245 fun Q248 hp249 hn250 he251 => ?_
          refine Z.reg ?_
          refine Z.val hf rfl (Z.r_fieldAddrB Try.underlying86 rfl Try.sizeOf3 (hf.eval rfl) rfl) ?_; clear hf a; intro a hf
          have hb252 := hb235.ch hc242 (by simp only [List.mem_cons, List.mem_append, List.not_mem_nil, or_false, not_or, not_false_eq_true, and_true] <;> omega)
          refine Z.val hf rfl (Z.r_loadB Try.isAgg3 (hf.eval rfl) hb252 rfl) ?_; clear hf a; intro a hf
          refine Z.val hf rfl (Z.r_fieldAddrB Try.underlying86 rfl Try.sizeOf3 (hf.eval rfl) rfl) ?_; clear hf a; intro a hf
          refine Z.val hf rfl (Z.r_loadB Try.isAgg3 (hf.eval rfl) hb241 rfl) ?_; clear hf a; intro a hf
          refine Z.val hf rfl (Z.r_neq (hf.eval rfl) (hf.eval rfl)) ?_; clear hf a; intro a hf
          refine Z.val hf rfl (Z.r_move (hf.eval rfl)) ?_; clear hf a; intro a hf
          by_cases hdec : x88.1 ≠ x156.1 <;> revert hdec
          · intro hp253
            have hgd := hp253
            replace hf := hf.setb (d := 38) (b' := true) rfl (decide_eq_true hp253)
            refine Z.off hf rfl rfl rfl (by simp) ?_; clear hf a; intro a hf
            refine Z.off hf rfl rfl rfl (by simp) ?_; clear hf a; intro a hf
            refine Z.off hf rfl rfl rfl (by simp) ?_; clear hf a; intro a hf
            refine Z.off hf rfl rfl rfl (by simp) ?_; clear hf a; intro a hf
            refine Z.off hf rfl rfl rfl (by simp) ?_; clear hf a; intro a hf
            refine Z.val hf rfl (Z.r_pick_t (hf.eval rfl) (hf.eval rfl)) ?_; clear hf a; intro a hf
            refine Z.val hf rfl (Z.r_move (hf.eval rfl)) ?_; clear hf a; intro a hf
            refine Z.off hf rfl rfl rfl (by simp) ?_; clear hf a; intro a hf
            refine Z.off hf rfl rfl rfl (by simp) ?_; clear hf a; intro a hf
            refine Z.off hf rfl rfl rfl (by simp) ?_; clear hf a; intro a hf
            refine Z.off hf rfl rfl rfl (by simp) ?_; clear hf a; intro a hf
            refine Z.off hf rfl rfl rfl (by simp) ?_; clear hf a; intro a hf
            refine Z.val hf rfl (Z.r_pick_t (hf.eval rfl) (hf.eval rfl)) ?_; clear hf a; intro a hf
            refine Z.val hf rfl (Z.r_move (hf.eval rfl)) ?_; clear hf a; intro a hf
            refine Z.off hf rfl rfl rfl (by simp) ?_; clear hf a; intro a hf
            refine Z.off hf rfl rfl rfl (by simp) ?_; clear hf a; intro a hf
            refine Z.off hf rfl rfl rfl (by simp) ?_; clear hf a; intro a hf
            refine Z.off hf rfl rfl rfl (by simp) ?_; clear hf a; intro a hf
            refine Z.off hf rfl rfl rfl (by simp) ?_; clear hf a; intro a hf
            refine Z.val hf rfl (Z.r_pick_t (hf.eval rfl) (hf.eval rfl)) ?_; clear hf a; intro a hf
            refine Z.val hf rfl (Z.r_move (hf.eval rfl)) ?_; clear hf a; intro a hf
            refine Z.off hf rfl rfl rfl (by simp) ?_; clear hf a; intro a hf
            refine Z.off hf rfl rfl rfl (by simp) ?_; clear hf a; intro a hf
            refine Z.off hf rfl rfl rfl (by simp) ?_; clear hf a; intro a hf
            refine Z.off hf rfl rfl rfl (by simp) ?_; clear hf a; intro a hf
            refine Z.off hf rfl rfl rfl (by simp) ?_; clear hf a; intro a hf
            refine Z.val hf rfl (Z.r_pick_t (hf.eval rfl) (hf.eval rfl)) ?_; clear hf a; intro a hf
            refine Z.val hf rfl (Z.r_move (hf.eval rfl)) ?_; clear hf a; intro a hf
            refine Z.off hf rfl rfl rfl (by simp) ?_; clear hf a; intro a hf
            refine Z.off hf rfl rfl rfl (by simp) ?_; clear hf a; intro a hf
            refine Z.off hf rfl rfl rfl (by simp) ?_; clear hf a; intro a hf
            refine Z.off hf rfl rfl rfl (by simp) ?_; clear hf a; intro a hf
            refine Z.off hf rfl rfl rfl (by simp) ?_; clear hf a; intro a hf
            refine Z.val hf rfl (Z.r_pick_t (hf.eval rfl) (hf.eval rfl)) ?_; clear hf a; intro a hf
            refine Z.val hf rfl (Z.r_move (hf.eval rfl)) ?_; clear hf a; intro a hf
            refine Z.off hf rfl rfl rfl (by simp) ?_; clear hf a; intro a hf
            refine Z.off hf rfl rfl rfl (by simp) ?_; clear hf a; intro a hf
            refine Z.off hf rfl rfl rfl (by simp) ?_; clear hf a; intro a hf
            refine Z.off hf rfl rfl rfl (by simp) ?_; clear hf a; intro a hf
            refine Z.off hf rfl rfl rfl (by simp) ?_; clear hf a; intro a hf
            refine Z.off hf rfl rfl rfl (by simp) ?_; clear hf a; intro a hf
            refine Z.off hf rfl rfl rfl (by simp) ?_; clear hf a; intro a hf
            refine Z.val hf rfl (Z.r_pick_t (hf.eval rfl) (hf.eval rfl)) ?_; clear hf a; intro a hf
            refine Z.done ?_
            refine hn250 _ _ ?_
            replace hf : Z.Fr a 100 [] [(2, .pointer (some ⟨g5, 0, none⟩)), (3, .pointer (some ⟨g11, 0, none⟩)), (5, .int .i64 (k49 : Int)), (6, .pointer (some ⟨g218, 0, none⟩)), (7, .pointer (some ⟨g225, 0, none⟩)), (81, .bool true)] := hf.keep [2, 3, 5, 6, 7, 81]
            refine Z.condt hf rfl ?_
            refine Z.seq' hp245 fun Q254 hp255 hn256 he257 => ?_
            refine Z.reg ?_
            refine Z.val hf rfl (Z.r_assign (hf.eval rfl)) ?_; clear hf a; intro a hf
            refine Z.done ?_
            refine hn256 _ _ ?_
            replace hf : Z.Fr a 100 [] [(4, .bool false)] := hf.keep [4]
            refine wp_ret ?_
            refine he247 _ _ _ (by simp) ?_
            refine he75 _ _ _ (by simp) (by simp) ?_
            refine he70 _ _ _ (by simp) ?_
            refine he53 _ _ _ (by simp) ?_
            refine he45 _ _ _ (by simp) (by simp) ?_
            refine he36 _ _ _ (by simp) ?_
            replace hf := hf.setv (d := 4) (y := .bool (decide (x = y))) rfl (congrArg Value.bool (by first | (symm; apply decide_eq_false; intro h; first | (rw [h, heb] at hea; injection hea with hea; first | (refine hgd ?_; rw [hea]; done) | (refine hcond ?_; rw [hea]; done) | (rw [hea, hia] at hib; injection hib with hib; exact hcond hib)) | (refine hcond ?_; rw [h]; done)) | (exact Codec.same_true (Codec.take_end hp32 ht55 hp253))))
            have hq258 : Z.Ch [] w w12 := hc10.then hc16 (by simp) (by simp)
            have hq259 : Z.Ch [] w w46 := hq258.then hc47 (by simp) (by simp)
            have hq260 : Z.Ch [] w w80 := hq259.then hc81 (by simp) (by simp)
            have hq261 : Z.Ch [] w w219 := hq260.then hc223 (by simp) (by simp)
            have hq262 : Z.Ch [] w w226 := hq261.then hc230 (by simp) (by simp)
            have hq263 : Z.Ch [g218] w w233 := hq262.then hc236 (by simp) (by simp)
            have hq264 : Z.Ch [g218, g225] w w239 := hq263.then hc242 (by simp) (by simp)
            refine Z.ret1 hf Try.results45 rfl ?_
            exact ⟨rfl, (Z.Ch.mono hq264 (by intro k hk; (try simp only [List.mem_cons, List.mem_append, List.not_mem_nil, or_false, false_or] at hk ⊢) <;> omega))⟩
          · intro hp265
            have hgd := hp265
            replace hf := hf.setb (d := 38) (b' := false) rfl (decide_eq_false hp265)
            refine Z.on hf rfl rfl ?_
            refine Z.val hf rfl (Z.r_fieldAddrB Try.underlying86 rfl Try.sizeOf3 (hf.eval rfl) rfl) ?_; clear hf a; intro a hf
            refine Z.on hf rfl rfl ?_
            refine Z.val hf rfl (Z.r_loadB Try.isAgg3 (hf.eval rfl) hb252 rfl) ?_; clear hf a; intro a hf
            refine Z.on hf rfl rfl ?_
            refine Z.val hf rfl (Z.r_fieldAddrB Try.underlying86 rfl Try.sizeOf3 (hf.eval rfl) rfl) ?_; clear hf a; intro a hf
            refine Z.on hf rfl rfl ?_
            refine Z.val hf rfl (Z.r_loadB Try.isAgg3 (hf.eval rfl) hb241 rfl) ?_; clear hf a; intro a hf
            refine Z.on hf rfl rfl ?_
            refine Z.val hf rfl (Z.r_neq (hf.eval rfl) (hf.eval rfl)) ?_; clear hf a; intro a hf
            refine Z.val hf rfl (Z.r_pick_f (hf.eval rfl) (hf.eval rfl)) ?_; clear hf a; intro a hf
            refine Z.val hf rfl (Z.r_move (hf.eval rfl)) ?_; clear hf a; intro a hf
            by_cases hdec : x88.2.1 ≠ x156.2.1 <;> revert hdec
            · intro hp266
              have hgd := hp266
              replace hf := hf.setb (d := 45) (b' := true) rfl (decide_eq_true hp266)
              refine Z.off hf rfl rfl rfl (by simp) ?_; clear hf a; intro a hf
              refine Z.off hf rfl rfl rfl (by simp) ?_; clear hf a; intro a hf
              refine Z.off hf rfl rfl rfl (by simp) ?_; clear hf a; intro a hf
              refine Z.off hf rfl rfl rfl (by simp) ?_; clear hf a; intro a hf
              refine Z.off hf rfl rfl rfl (by simp) ?_; clear hf a; intro a hf
              refine Z.val hf rfl (Z.r_pick_t (hf.eval rfl) (hf.eval rfl)) ?_; clear hf a; intro a hf
              refine Z.val hf rfl (Z.r_move (hf.eval rfl)) ?_; clear hf a; intro a hf
              refine Z.off hf rfl rfl rfl (by simp) ?_; clear hf a; intro a hf
              refine Z.off hf rfl rfl rfl (by simp) ?_; clear hf a; intro a hf
              refine Z.off hf rfl rfl rfl (by simp) ?_; clear hf a; intro a hf
              refine Z.off hf rfl rfl rfl (by simp) ?_; clear hf a; intro a hf
              refine Z.off hf rfl rfl rfl (by simp) ?_; clear hf a; intro a hf
              refine Z.val hf rfl (Z.r_pick_t (hf.eval rfl) (hf.eval rfl)) ?_; clear hf a; intro a hf
              refine Z.val hf rfl (Z.r_move (hf.eval rfl)) ?_; clear hf a; intro a hf
              refine Z.off hf rfl rfl rfl (by simp) ?_; clear hf a; intro a hf
              refine Z.off hf rfl rfl rfl (by simp) ?_; clear hf a; intro a hf
              refine Z.off hf rfl rfl rfl (by simp) ?_; clear hf a; intro a hf
              refine Z.off hf rfl rfl rfl (by simp) ?_; clear hf a; intro a hf
              refine Z.off hf rfl rfl rfl (by simp) ?_; clear hf a; intro a hf
              refine Z.val hf rfl (Z.r_pick_t (hf.eval rfl) (hf.eval rfl)) ?_; clear hf a; intro a hf
              refine Z.val hf rfl (Z.r_move (hf.eval rfl)) ?_; clear hf a; intro a hf
              refine Z.off hf rfl rfl rfl (by simp) ?_; clear hf a; intro a hf
              refine Z.off hf rfl rfl rfl (by simp) ?_; clear hf a; intro a hf
              refine Z.off hf rfl rfl rfl (by simp) ?_; clear hf a; intro a hf
              refine Z.off hf rfl rfl rfl (by simp) ?_; clear hf a; intro a hf
              refine Z.off hf rfl rfl rfl (by simp) ?_; clear hf a; intro a hf
              refine Z.val hf rfl (Z.r_pick_t (hf.eval rfl) (hf.eval rfl)) ?_; clear hf a; intro a hf
              refine Z.val hf rfl (Z.r_move (hf.eval rfl)) ?_; clear hf a; intro a hf
              refine Z.off hf rfl rfl rfl (by simp) ?_; clear hf a; intro a hf
              refine Z.off hf rfl rfl rfl (by simp) ?_; clear hf a; intro a hf
              refine Z.off hf rfl rfl rfl (by simp) ?_; clear hf a; intro a hf
              refine Z.off hf rfl rfl rfl (by simp) ?_; clear hf a; intro a hf
              refine Z.off hf rfl rfl rfl (by simp) ?_; clear hf a; intro a hf
              refine Z.off hf rfl rfl rfl (by simp) ?_; clear hf a; intro a hf
              refine Z.off hf rfl rfl rfl (by simp) ?_; clear hf a; intro a hf
              refine Z.val hf rfl (Z.r_pick_t (hf.eval rfl) (hf.eval rfl)) ?_; clear hf a; intro a hf
              refine Z.done ?_
              refine hn250 _ _ ?_
              replace hf : Z.Fr a 100 [] [(2, .pointer (some ⟨g5, 0, none⟩)), (3, .pointer (some ⟨g11, 0, none⟩)), (5, .int .i64 (k49 : Int)), (6, .pointer (some ⟨g218, 0, none⟩)), (7, .pointer (some ⟨g225, 0, none⟩)), (81, .bool true)] := hf.keep [2, 3, 5, 6, 7, 81]
              refine Z.condt hf rfl ?_
              refine Z.seq' hp245 fun Q267 hp268 hn269 he270 => ?_
              refine Z.reg ?_
              refine Z.val hf rfl (Z.r_assign (hf.eval rfl)) ?_; clear hf a; intro a hf
              refine Z.done ?_
              refine hn269 _ _ ?_
              replace hf : Z.Fr a 100 [] [(4, .bool false)] := hf.keep [4]
              refine wp_ret ?_
              refine he247 _ _ _ (by simp) ?_
              refine he75 _ _ _ (by simp) (by simp) ?_
              refine he70 _ _ _ (by simp) ?_
              refine he53 _ _ _ (by simp) ?_
              refine he45 _ _ _ (by simp) (by simp) ?_
              refine he36 _ _ _ (by simp) ?_
              replace hf := hf.setv (d := 4) (y := .bool (decide (x = y))) rfl (congrArg Value.bool (by first | (symm; apply decide_eq_false; intro h; first | (rw [h, heb] at hea; injection hea with hea; first | (refine hgd ?_; rw [hea]; done) | (refine hcond ?_; rw [hea]; done) | (rw [hea, hia] at hib; injection hib with hib; exact hcond hib)) | (refine hcond ?_; rw [h]; done)) | (exact Codec.same_true (Codec.take_end hp32 ht55 hp266))))
              have hq271 : Z.Ch [] w w12 := hc10.then hc16 (by simp) (by simp)
              have hq272 : Z.Ch [] w w46 := hq271.then hc47 (by simp) (by simp)
              have hq273 : Z.Ch [] w w80 := hq272.then hc81 (by simp) (by simp)
              have hq274 : Z.Ch [] w w219 := hq273.then hc223 (by simp) (by simp)
              have hq275 : Z.Ch [] w w226 := hq274.then hc230 (by simp) (by simp)
              have hq276 : Z.Ch [g218] w w233 := hq275.then hc236 (by simp) (by simp)
              have hq277 : Z.Ch [g218, g225] w w239 := hq276.then hc242 (by simp) (by simp)
              refine Z.ret1 hf Try.results45 rfl ?_
              exact ⟨rfl, (Z.Ch.mono hq277 (by intro k hk; (try simp only [List.mem_cons, List.mem_append, List.not_mem_nil, or_false, false_or] at hk ⊢) <;> omega))⟩
            · intro hp278
              have hgd := hp278
              replace hf := hf.setb (d := 45) (b' := false) rfl (decide_eq_false hp278)
              refine Z.on hf rfl rfl ?_
              refine Z.val hf rfl (Z.r_fieldAddrB Try.underlying86 rfl Try.sizeOf62 (hf.eval rfl) rfl) ?_; clear hf a; intro a hf
              refine Z.on hf rfl rfl ?_
              refine Z.val hf rfl (Z.r_loadBN Try.isAgg62 Try.sizeOf62 (hf.eval rfl) hb252 rfl rfl) ?_; clear hf a; intro a hf
              refine Z.on hf rfl rfl ?_
              refine Z.val hf rfl (Z.r_fieldAddrB Try.underlying86 rfl Try.sizeOf62 (hf.eval rfl) rfl) ?_; clear hf a; intro a hf
              refine Z.on hf rfl rfl ?_
              refine Z.val hf rfl (Z.r_loadBN Try.isAgg62 Try.sizeOf62 (hf.eval rfl) hb241 rfl rfl) ?_; clear hf a; intro a hf
              refine Z.on hf rfl rfl ?_
              refine Z.val hf rfl (eqagg_neq62 (x := x88.2.2.2.1) (y := x156.2.2.2.1) (hf.eval rfl) (hf.eval rfl)) ?_; clear hf a; intro a hf
              refine Z.val hf rfl (Z.r_pick_f (hf.eval rfl) (hf.eval rfl)) ?_; clear hf a; intro a hf
              refine Z.val hf rfl (Z.r_move (hf.eval rfl)) ?_; clear hf a; intro a hf
              by_cases hdec : x88.2.2.2.1 ≠ x156.2.2.2.1 <;> revert hdec
              · intro hp279
                have hgd := hp279
                replace hf := hf.setb (d := 52) (b' := true) rfl (decide_eq_true hp279)
                refine Z.off hf rfl rfl rfl (by simp) ?_; clear hf a; intro a hf
                refine Z.off hf rfl rfl rfl (by simp) ?_; clear hf a; intro a hf
                refine Z.off hf rfl rfl rfl (by simp) ?_; clear hf a; intro a hf
                refine Z.off hf rfl rfl rfl (by simp) ?_; clear hf a; intro a hf
                refine Z.off hf rfl rfl rfl (by simp) ?_; clear hf a; intro a hf
                refine Z.val hf rfl (Z.r_pick_t (hf.eval rfl) (hf.eval rfl)) ?_; clear hf a; intro a hf
                refine Z.val hf rfl (Z.r_move (hf.eval rfl)) ?_; clear hf a; intro a hf
                refine Z.off hf rfl rfl rfl (by simp) ?_; clear hf a; intro a hf
                refine Z.off hf rfl rfl rfl (by simp) ?_; clear hf a; intro a hf
                refine Z.off hf rfl rfl rfl (by simp) ?_; clear hf a; intro a hf
                refine Z.off hf rfl rfl rfl (by simp) ?_; clear hf a; intro a hf
                refine Z.off hf rfl rfl rfl (by simp) ?_; clear hf a; intro a hf
                refine Z.val hf rfl (Z.r_pick_t (hf.eval rfl) (hf.eval rfl)) ?_; clear hf a; intro a hf
                refine Z.val hf rfl (Z.r_move (hf.eval rfl)) ?_; clear hf a; intro a hf
                refine Z.off hf rfl rfl rfl (by simp) ?_; clear hf a; intro a hf
                refine Z.off hf rfl rfl rfl (by simp) ?_; clear hf a; intro a hf
                refine Z.off hf rfl rfl rfl (by simp) ?_; clear hf a; intro a hf
                refine Z.off hf rfl rfl rfl (by simp) ?_; clear hf a; intro a hf
                refine Z.off hf rfl rfl rfl (by simp) ?_; clear hf a; intro a hf
                refine Z.val hf rfl (Z.r_pick_t (hf.eval rfl) (hf.eval rfl)) ?_; clear hf a; intro a hf
                refine Z.val hf rfl (Z.r_move (hf.eval rfl)) ?_; clear hf a; intro a hf
                refine Z.off hf rfl rfl rfl (by simp) ?_; clear hf a; intro a hf
                refine Z.off hf rfl rfl rfl (by simp) ?_; clear hf a; intro a hf
                refine Z.off hf rfl rfl rfl (by simp) ?_; clear hf a; intro a hf
                refine Z.off hf rfl rfl rfl (by simp) ?_; clear hf a; intro a hf
                refine Z.off hf rfl rfl rfl (by simp) ?_; clear hf a; intro a hf
                refine Z.off hf rfl rfl rfl (by simp) ?_; clear hf a; intro a hf
                refine Z.off hf rfl rfl rfl (by simp) ?_; clear hf a; intro a hf
                refine Z.val hf rfl (Z.r_pick_t (hf.eval rfl) (hf.eval rfl)) ?_; clear hf a; intro a hf
                refine Z.done ?_
                refine hn250 _ _ ?_
                replace hf : Z.Fr a 100 [] [(2, .pointer (some ⟨g5, 0, none⟩)), (3, .pointer (some ⟨g11, 0, none⟩)), (5, .int .i64 (k49 : Int)), (6, .pointer (some ⟨g218, 0, none⟩)), (7, .pointer (some ⟨g225, 0, none⟩)), (81, .bool true)] := hf.keep [2, 3, 5, 6, 7, 81]
                refine Z.condt hf rfl ?_
                refine Z.seq' hp245 fun Q280 hp281 hn282 he283 => ?_
                refine Z.reg ?_
                refine Z.val hf rfl (Z.r_assign (hf.eval rfl)) ?_; clear hf a; intro a hf
                refine Z.done ?_
                refine hn282 _ _ ?_
                replace hf : Z.Fr a 100 [] [(4, .bool false)] := hf.keep [4]
                refine wp_ret ?_
                refine he247 _ _ _ (by simp) ?_
                refine he75 _ _ _ (by simp) (by simp) ?_
                refine he70 _ _ _ (by simp) ?_
                refine he53 _ _ _ (by simp) ?_
                refine he45 _ _ _ (by simp) (by simp) ?_
                refine he36 _ _ _ (by simp) ?_
                replace hf := hf.setv (d := 4) (y := .bool (decide (x = y))) rfl (congrArg Value.bool (by first | (symm; apply decide_eq_false; intro h; first | (rw [h, heb] at hea; injection hea with hea; first | (refine hgd ?_; rw [hea]; done) | (refine hcond ?_; rw [hea]; done) | (rw [hea, hia] at hib; injection hib with hib; exact hcond hib)) | (refine hcond ?_; rw [h]; done)) | (exact Codec.same_true (Codec.take_end hp32 ht55 hp279))))
                have hq284 : Z.Ch [] w w12 := hc10.then hc16 (by simp) (by simp)
                have hq285 : Z.Ch [] w w46 := hq284.then hc47 (by simp) (by simp)
                have hq286 : Z.Ch [] w w80 := hq285.then hc81 (by simp) (by simp)
                have hq287 : Z.Ch [] w w219 := hq286.then hc223 (by simp) (by simp)
                have hq288 : Z.Ch [] w w226 := hq287.then hc230 (by simp) (by simp)
                have hq289 : Z.Ch [g218] w w233 := hq288.then hc236 (by simp) (by simp)
                have hq290 : Z.Ch [g218, g225] w w239 := hq289.then hc242 (by simp) (by simp)
                refine Z.ret1 hf Try.results45 rfl ?_
                exact ⟨rfl, (Z.Ch.mono hq290 (by intro k hk; (try simp only [List.mem_cons, List.mem_append, List.not_mem_nil, or_false, false_or] at hk ⊢) <;> omega))⟩
              · intro hp291
                have hgd := hp291
                replace hf := hf.setb (d := 52) (b' := false) rfl (decide_eq_false hp291)
                refine Z.on hf rfl rfl ?_
                refine Z.val hf rfl (Z.r_fieldAddrB Try.underlying86 rfl Try.sizeOf9 (hf.eval rfl) rfl) ?_; clear hf a; intro a hf
                refine Z.on hf rfl rfl ?_
                refine Z.val hf rfl (Z.r_loadB Try.isAgg9 (hf.eval rfl) hb252 rfl) ?_; clear hf a; intro a hf
                refine Z.on hf rfl rfl ?_
                refine Z.val hf rfl (Z.r_fieldAddrB Try.underlying86 rfl Try.sizeOf9 (hf.eval rfl) rfl) ?_; clear hf a; intro a hf
                refine Z.on hf rfl rfl ?_
                refine Z.val hf rfl (Z.r_loadB Try.isAgg9 (hf.eval rfl) hb241 rfl) ?_; clear hf a; intro a hf
                refine Z.on hf rfl rfl ?_
                refine Z.val hf rfl (Z.r_nes' (hf.eval rfl) (hf.eval rfl)) ?_; clear hf a; intro a hf
                refine Z.val hf rfl (Z.r_pick_f (hf.eval rfl) (hf.eval rfl)) ?_; clear hf a; intro a hf
                refine Z.val hf rfl (Z.r_move (hf.eval rfl)) ?_; clear hf a; intro a hf
                by_cases hdec : x88.2.2.2.2.1 ≠ x156.2.2.2.2.1 <;> revert hdec
                · intro hp292
                  have hgd := hp292
                  replace hf := hf.setb (d := 59) (b' := true) rfl (decide_eq_true hp292)
                  refine Z.off hf rfl rfl rfl (by simp) ?_; clear hf a; intro a hf
                  refine Z.off hf rfl rfl rfl (by simp) ?_; clear hf a; intro a hf
                  refine Z.off hf rfl rfl rfl (by simp) ?_; clear hf a; intro a hf
                  refine Z.off hf rfl rfl rfl (by simp) ?_; clear hf a; intro a hf
                  refine Z.off hf rfl rfl rfl (by simp) ?_; clear hf a; intro a hf
                  refine Z.val hf rfl (Z.r_pick_t (hf.eval rfl) (hf.eval rfl)) ?_; clear hf a; intro a hf
                  refine Z.val hf rfl (Z.r_move (hf.eval rfl)) ?_; clear hf a; intro a hf
                  refine Z.off hf rfl rfl rfl (by simp) ?_; clear hf a; intro a hf
                  refine Z.off hf rfl rfl rfl (by simp) ?_; clear hf a; intro a hf
                  refine Z.off hf rfl rfl rfl (by simp) ?_; clear hf a; intro a hf
                  refine Z.off hf rfl rfl rfl (by simp) ?_; clear hf a; intro a hf
                  refine Z.off hf rfl rfl rfl (by simp) ?_; clear hf a; intro a hf
                  refine Z.val hf rfl (Z.r_pick_t (hf.eval rfl) (hf.eval rfl)) ?_; clear hf a; intro a hf
                  refine Z.val hf rfl (Z.r_move (hf.eval rfl)) ?_; clear hf a; intro a hf
                  refine Z.off hf rfl rfl rfl (by simp) ?_; clear hf a; intro a hf
                  refine Z.off hf rfl rfl rfl (by simp) ?_; clear hf a; intro a hf
                  refine Z.off hf rfl rfl rfl (by simp) ?_; clear hf a; intro a hf
                  refine Z.off hf rfl rfl rfl (by simp) ?_; clear hf a; intro a hf
                  refine Z.off hf rfl rfl rfl (by simp) ?_; clear hf a; intro a hf
                  refine Z.off hf rfl rfl rfl (by simp) ?_; clear hf a; intro a hf
                  refine Z.off hf rfl rfl rfl (by simp) ?_; clear hf a; intro a hf
                  refine Z.val hf rfl (Z.r_pick_t (hf.eval rfl) (hf.eval rfl)) ?_; clear hf a; intro a hf
                  refine Z.done ?_
                  refine hn250 _ _ ?_
                  replace hf : Z.Fr a 100 [] [(2, .pointer (some ⟨g5, 0, none⟩)), (3, .pointer (some ⟨g11, 0, none⟩)), (5, .int .i64 (k49 : Int)), (6, .pointer (some ⟨g218, 0, none⟩)), (7, .pointer (some ⟨g225, 0, none⟩)), (81, .bool true)] := hf.keep [2, 3, 5, 6, 7, 81]
                  refine Z.condt hf rfl ?_
                  refine Z.seq' hp245 fun Q293 hp294 hn295 he296 => ?_
                  refine Z.reg ?_
                  refine Z.val hf rfl (Z.r_assign (hf.eval rfl)) ?_; clear hf a; intro a hf
                  refine Z.done ?_
                  refine hn295 _ _ ?_
                  replace hf : Z.Fr a 100 [] [(4, .bool false)] := hf.keep [4]
                  refine wp_ret ?_
                  refine he247 _ _ _ (by simp) ?_
                  refine he75 _ _ _ (by simp) (by simp) ?_
                  refine he70 _ _ _ (by simp) ?_
                  refine he53 _ _ _ (by simp) ?_
                  refine he45 _ _ _ (by simp) (by simp) ?_
                  refine he36 _ _ _ (by simp) ?_
                  replace hf := hf.setv (d := 4) (y := .bool (decide (x = y))) rfl (congrArg Value.bool (by first | (symm; apply decide_eq_false; intro h; first | (rw [h, heb] at hea; injection hea with hea; first | (refine hgd ?_; rw [hea]; done) | (refine hcond ?_; rw [hea]; done) | (rw [hea, hia] at hib; injection hib with hib; exact hcond hib)) | (refine hcond ?_; rw [h]; done)) | (exact Codec.same_true (Codec.take_end hp32 ht55 hp292))))
                  have hq297 : Z.Ch [] w w12 := hc10.then hc16 (by simp) (by simp)
                  have hq298 : Z.Ch [] w w46 := hq297.then hc47 (by simp) (by simp)
                  have hq299 : Z.Ch [] w w80 := hq298.then hc81 (by simp) (by simp)
                  have hq300 : Z.Ch [] w w219 := hq299.then hc223 (by simp) (by simp)
                  have hq301 : Z.Ch [] w w226 := hq300.then hc230 (by simp) (by simp)
                  have hq302 : Z.Ch [g218] w w233 := hq301.then hc236 (by simp) (by simp)
                  have hq303 : Z.Ch [g218, g225] w w239 := hq302.then hc242 (by simp) (by simp)
                  refine Z.ret1 hf Try.results45 rfl ?_
                  exact ⟨rfl, (Z.Ch.mono hq303 (by intro k hk; (try simp only [List.mem_cons, List.mem_append, List.not_mem_nil, or_false, false_or] at hk ⊢) <;> omega))⟩
                · intro hp304
                  have hgd := hp304
                  replace hf := hf.setb (d := 59) (b' := false) rfl (decide_eq_false hp304)
                  refine Z.on hf rfl rfl ?_
                  refine Z.val hf rfl (Z.r_fieldAddrB Try.underlying86 rfl Try.sizeOf2 (hf.eval rfl) rfl) ?_; clear hf a; intro a hf
                  refine Z.on hf rfl rfl ?_
                  refine Z.val hf rfl (Z.r_loadB Try.isAgg2 (hf.eval rfl) hb252 rfl) ?_; clear hf a; intro a hf
                  refine Z.on hf rfl rfl ?_
                  refine Z.val hf rfl (Z.r_fieldAddrB Try.underlying86 rfl Try.sizeOf2 (hf.eval rfl) rfl) ?_; clear hf a; intro a hf
                  refine Z.on hf rfl rfl ?_
                  refine Z.val hf rfl (Z.r_loadB Try.isAgg2 (hf.eval rfl) hb241 rfl) ?_; clear hf a; intro a hf
                  refine Z.on hf rfl rfl ?_
                  refine Z.val hf rfl (Z.r_neq (hf.eval rfl) (hf.eval rfl)) ?_; clear hf a; intro a hf
                  refine Z.val hf rfl (Z.r_pick_f (hf.eval rfl) (hf.eval rfl)) ?_; clear hf a; intro a hf
                  refine Z.val hf rfl (Z.r_move (hf.eval rfl)) ?_; clear hf a; intro a hf
                  by_cases hdec : x88.2.2.2.2.2.1 ≠ x156.2.2.2.2.2.1 <;> revert hdec
                  · intro hp305
                    have hgd := hp305
                    replace hf := hf.setb (d := 66) (b' := true) rfl (decide_eq_true hp305)
                    refine Z.off hf rfl rfl rfl (by simp) ?_; clear hf a; intro a hf
                    refine Z.off hf rfl rfl rfl (by simp) ?_; clear hf a; intro a hf
                    refine Z.off hf rfl rfl rfl (by simp) ?_; clear hf a; intro a hf
                    refine Z.off hf rfl rfl rfl (by simp) ?_; clear hf a; intro a hf
                    refine Z.off hf rfl rfl rfl (by simp) ?_; clear hf a; intro a hf
                    refine Z.val hf rfl (Z.r_pick_t (hf.eval rfl) (hf.eval rfl)) ?_; clear hf a; intro a hf
                    refine Z.val hf rfl (Z.r_move (hf.eval rfl)) ?_; clear hf a; intro a hf
                    refine Z.off hf rfl rfl rfl (by simp) ?_; clear hf a; intro a hf
                    refine Z.off hf rfl rfl rfl (by simp) ?_; clear hf a; intro a hf
                    refine Z.off hf rfl rfl rfl (by simp) ?_; clear hf a; intro a hf
                    refine Z.off hf rfl rfl rfl (by simp) ?_; clear hf a; intro a hf
                    refine Z.off hf rfl rfl rfl (by simp) ?_; clear hf a; intro a hf
                    refine Z.off hf rfl rfl rfl (by simp) ?_; clear hf a; intro a hf
                    refine Z.off hf rfl rfl rfl (by simp) ?_; clear hf a; intro a hf
                    refine Z.val hf rfl (Z.r_pick_t (hf.eval rfl) (hf.eval rfl)) ?_; clear hf a; intro a hf
                    refine Z.done ?_
                    refine hn250 _ _ ?_
                    replace hf : Z.Fr a 100 [] [(2, .pointer (some ⟨g5, 0, none⟩)), (3, .pointer (some ⟨g11, 0, none⟩)), (5, .int .i64 (k49 : Int)), (6, .pointer (some ⟨g218, 0, none⟩)), (7, .pointer (some ⟨g225, 0, none⟩)), (81, .bool true)] := hf.keep [2, 3, 5, 6, 7, 81]
                    refine Z.condt hf rfl ?_
                    refine Z.seq' hp245 fun Q306 hp307 hn308 he309 => ?_
                    refine Z.reg ?_
                    refine Z.val hf rfl (Z.r_assign (hf.eval rfl)) ?_; clear hf a; intro a hf
                    refine Z.done ?_
                    refine hn308 _ _ ?_
                    replace hf : Z.Fr a 100 [] [(4, .bool false)] := hf.keep [4]
                    refine wp_ret ?_
                    refine he247 _ _ _ (by simp) ?_
                    refine he75 _ _ _ (by simp) (by simp) ?_
                    refine he70 _ _ _ (by simp) ?_
                    refine he53 _ _ _ (by simp) ?_
                    refine he45 _ _ _ (by simp) (by simp) ?_
                    refine he36 _ _ _ (by simp) ?_
                    replace hf := hf.setv (d := 4) (y := .bool (decide (x = y))) rfl (congrArg Value.bool (by first | (symm; apply decide_eq_false; intro h; first | (rw [h, heb] at hea; injection hea with hea; first | (refine hgd ?_; rw [hea]; done) | (refine hcond ?_; rw [hea]; done) | (rw [hea, hia] at hib; injection hib with hib; exact hcond hib)) | (refine hcond ?_; rw [h]; done)) | (exact Codec.same_true (Codec.take_end hp32 ht55 hp305))))
                    have hq310 : Z.Ch [] w w12 := hc10.then hc16 (by simp) (by simp)
                    have hq311 : Z.Ch [] w w46 := hq310.then hc47 (by simp) (by simp)
                    have hq312 : Z.Ch [] w w80 := hq311.then hc81 (by simp) (by simp)
                    have hq313 : Z.Ch [] w w219 := hq312.then hc223 (by simp) (by simp)
                    have hq314 : Z.Ch [] w w226 := hq313.then hc230 (by simp) (by simp)
                    have hq315 : Z.Ch [g218] w w233 := hq314.then hc236 (by simp) (by simp)
                    have hq316 : Z.Ch [g218, g225] w w239 := hq315.then hc242 (by simp) (by simp)
                    refine Z.ret1 hf Try.results45 rfl ?_
                    exact ⟨rfl, (Z.Ch.mono hq316 (by intro k hk; (try simp only [List.mem_cons, List.mem_append, List.not_mem_nil, or_false, false_or] at hk ⊢) <;> omega))⟩
                  · intro hp317
                    have hgd := hp317
                    replace hf := hf.setb (d := 66) (b' := false) rfl (decide_eq_false hp317)
                    refine Z.on hf rfl rfl ?_
                    refine Z.val hf rfl (Z.r_fieldAddrB Try.underlying86 rfl Try.sizeOf3 (hf.eval rfl) rfl) ?_; clear hf a; intro a hf
                    refine Z.on hf rfl rfl ?_
                    refine Z.val hf rfl (Z.r_loadB Try.isAgg3 (hf.eval rfl) hb252 rfl) ?_; clear hf a; intro a hf
                    refine Z.on hf rfl rfl ?_
                    refine Z.val hf rfl (Z.r_fieldAddrB Try.underlying86 rfl Try.sizeOf3 (hf.eval rfl) rfl) ?_; clear hf a; intro a hf
                    refine Z.on hf rfl rfl ?_
                    refine Z.val hf rfl (Z.r_loadB Try.isAgg3 (hf.eval rfl) hb241 rfl) ?_; clear hf a; intro a hf
                    refine Z.on hf rfl rfl ?_
                    refine Z.val hf rfl (Z.r_neq (hf.eval rfl) (hf.eval rfl)) ?_; clear hf a; intro a hf
                    refine Z.val hf rfl (Z.r_pick_f (hf.eval rfl) (hf.eval rfl)) ?_; clear hf a; intro a hf
                    refine Z.val hf rfl (Z.r_move (hf.eval rfl)) ?_; clear hf a; intro a hf
                    by_cases hdec : x88.2.2.2.2.2.2 ≠ x156.2.2.2.2.2.2 <;> revert hdec
                    · intro hp318
                      have hgd := hp318
                      replace hf := hf.setb (d := 73) (b' := true) rfl (decide_eq_true hp318)
                      refine Z.off hf rfl rfl rfl (by simp) ?_; clear hf a; intro a hf
                      refine Z.off hf rfl rfl rfl (by simp) ?_; clear hf a; intro a hf
                      refine Z.off hf rfl rfl rfl (by simp) ?_; clear hf a; intro a hf
                      refine Z.off hf rfl rfl rfl (by simp) ?_; clear hf a; intro a hf
                      refine Z.off hf rfl rfl rfl (by simp) ?_; clear hf a; intro a hf
                      refine Z.off hf rfl rfl rfl (by simp) ?_; clear hf a; intro a hf
                      refine Z.off hf rfl rfl rfl (by simp) ?_; clear hf a; intro a hf
                      refine Z.val hf rfl (Z.r_pick_t (hf.eval rfl) (hf.eval rfl)) ?_; clear hf a; intro a hf
                      refine Z.done ?_
                      refine hn250 _ _ ?_
                      replace hf : Z.Fr a 100 [] [(2, .pointer (some ⟨g5, 0, none⟩)), (3, .pointer (some ⟨g11, 0, none⟩)), (5, .int .i64 (k49 : Int)), (6, .pointer (some ⟨g218, 0, none⟩)), (7, .pointer (some ⟨g225, 0, none⟩)), (81, .bool true)] := hf.keep [2, 3, 5, 6, 7, 81]
                      refine Z.condt hf rfl ?_
                      refine Z.seq' hp245 fun Q319 hp320 hn321 he322 => ?_
                      refine Z.reg ?_
                      refine Z.val hf rfl (Z.r_assign (hf.eval rfl)) ?_; clear hf a; intro a hf
                      refine Z.done ?_
                      refine hn321 _ _ ?_
                      replace hf : Z.Fr a 100 [] [(4, .bool false)] := hf.keep [4]
                      refine wp_ret ?_
                      refine he247 _ _ _ (by simp) ?_
                      refine he75 _ _ _ (by simp) (by simp) ?_
                      refine he70 _ _ _ (by simp) ?_
                      refine he53 _ _ _ (by simp) ?_
                      refine he45 _ _ _ (by simp) (by simp) ?_
                      refine he36 _ _ _ (by simp) ?_
                      replace hf := hf.setv (d := 4) (y := .bool (decide (x = y))) rfl (congrArg Value.bool (by first | (symm; apply decide_eq_false; intro h; first | (rw [h, heb] at hea; injection hea with hea; first | (refine hgd ?_; rw [hea]; done) | (refine hcond ?_; rw [hea]; done) | (rw [hea, hia] at hib; injection hib with hib; exact hcond hib)) | (refine hcond ?_; rw [h]; done)) | (exact Codec.same_true (Codec.take_end hp32 ht55 hp318))))
                      have hq323 : Z.Ch [] w w12 := hc10.then hc16 (by simp) (by simp)
                      have hq324 : Z.Ch [] w w46 := hq323.then hc47 (by simp) (by simp)
                      have hq325 : Z.Ch [] w w80 := hq324.then hc81 (by simp) (by simp)
                      have hq326 : Z.Ch [] w w219 := hq325.then hc223 (by simp) (by simp)
                      have hq327 : Z.Ch [] w w226 := hq326.then hc230 (by simp) (by simp)
                      have hq328 : Z.Ch [g218] w w233 := hq327.then hc236 (by simp) (by simp)
                      have hq329 : Z.Ch [g218, g225] w w239 := hq328.then hc242 (by simp) (by simp)
                      refine Z.ret1 hf Try.results45 rfl ?_
                      exact ⟨rfl, (Z.Ch.mono hq329 (by intro k hk; (try simp only [List.mem_cons, List.mem_append, List.not_mem_nil, or_false, false_or] at hk ⊢) <;> omega))⟩
                    · intro hp330
                      have hgd := hp330
                      replace hf := hf.setb (d := 73) (b' := false) rfl (decide_eq_false hp330)
                      refine Z.on hf rfl rfl ?_
                      refine Z.val hf rfl (Z.r_fieldAddrB Try.underlying86 rfl Try.sizeOf29 (hf.eval rfl) rfl) ?_; clear hf a; intro a hf
                      refine Z.on hf rfl rfl ?_
                      refine Z.val hf rfl (Z.r_loadB Try.isAgg29 (hf.eval rfl) hb252 rfl) ?_; clear hf a; intro a hf
                      refine Z.on hf rfl rfl ?_
                      refine Z.val hf rfl (Z.r_len Try.underlying29 (hf.eval rfl)) ?_; clear hf a; intro a hf
                      refine Z.on hf rfl rfl ?_
                      refine Z.val hf rfl (Z.r_fieldAddrB Try.underlying86 rfl Try.sizeOf29 (hf.eval rfl) rfl) ?_; clear hf a; intro a hf
                      refine Z.on hf rfl rfl ?_
                      refine Z.val hf rfl (Z.r_loadB Try.isAgg29 (hf.eval rfl) hb241 rfl) ?_; clear hf a; intro a hf
                      refine Z.on hf rfl rfl ?_
                      refine Z.val hf rfl (Z.r_len Try.underlying29 (hf.eval rfl)) ?_; clear hf a; intro a hf
                      refine Z.on hf rfl rfl ?_
                      refine Z.val hf rfl (Z.r_neq (hf.eval rfl) (hf.eval rfl)) ?_; clear hf a; intro a hf
                      refine Z.val hf rfl (Z.r_pick_f (hf.eval rfl) (hf.eval rfl)) ?_; clear hf a; intro a hf
                      refine Z.done ?_
                      refine hn250 _ _ ?_
                      replace hf : Z.Fr a 100 [] [(2, .pointer (some ⟨g5, 0, none⟩)), (3, .pointer (some ⟨g11, 0, none⟩)), (5, .int .i64 (k49 : Int)), (6, .pointer (some ⟨g218, 0, none⟩)), (7, .pointer (some ⟨g225, 0, none⟩)), (81, .bool (decide ((x88.2.2.1.length : Int) ≠ (x156.2.2.1.length : Int))))] := hf.keep [2, 3, 5, 6, 7, 81]
                      refine Z.condp hf rfl ?_ ?_
                      · intro hp331
                        have hcond := hp331
                        refine Z.seq' hp245 fun Q332 hp333 hn334 he335 => ?_
                        refine Z.reg ?_
                        refine Z.val hf rfl (Z.r_assign (hf.eval rfl)) ?_; clear hf a; intro a hf
                        refine Z.done ?_
                        refine hn334 _ _ ?_
                        replace hf : Z.Fr a 100 [] [(4, .bool false)] := hf.keep [4]
                        refine wp_ret ?_
                        refine he247 _ _ _ (by simp) ?_
                        refine he75 _ _ _ (by simp) (by simp) ?_
                        refine he70 _ _ _ (by simp) ?_
                        refine he53 _ _ _ (by simp) ?_
                        refine he45 _ _ _ (by simp) (by simp) ?_
                        refine he36 _ _ _ (by simp) ?_
                        replace hf := hf.setv (d := 4) (y := .bool (decide (x = y))) rfl (congrArg Value.bool (by first | (symm; apply decide_eq_false; intro h; first | (rw [h, heb] at hea; injection hea with hea; first | (refine hgd ?_; rw [hea]; done) | (refine hcond ?_; rw [hea]; done) | (rw [hea, hia] at hib; injection hib with hib; exact hcond hib)) | (refine hcond ?_; rw [h]; done)) | (exact Codec.same_true (Codec.take_end hp32 ht55 hp331))))
                        have hq336 : Z.Ch [] w w12 := hc10.then hc16 (by simp) (by simp)
                        have hq337 : Z.Ch [] w w46 := hq336.then hc47 (by simp) (by simp)
                        have hq338 : Z.Ch [] w w80 := hq337.then hc81 (by simp) (by simp)
                        have hq339 : Z.Ch [] w w219 := hq338.then hc223 (by simp) (by simp)
                        have hq340 : Z.Ch [] w w226 := hq339.then hc230 (by simp) (by simp)
                        have hq341 : Z.Ch [g218] w w233 := hq340.then hc236 (by simp) (by simp)
                        have hq342 : Z.Ch [g218, g225] w w239 := hq341.then hc242 (by simp) (by simp)
                        refine Z.ret1 hf Try.results45 rfl ?_
                        exact ⟨rfl, (Z.Ch.mono hq342 (by intro k hk; (try simp only [List.mem_cons, List.mem_append, List.not_mem_nil, or_false, false_or] at hk ⊢) <;> omega))⟩
                      · intro hp343
                        have hcond := hp343
                        refine wp_skip ?_
                        refine hn246 _ _ ?_
                        replace hf : Z.Fr a 100 [] [(2, .pointer (some ⟨g5, 0, none⟩)), (3, .pointer (some ⟨g11, 0, none⟩)), (5, .int .i64 (k49 : Int)), (6, .pointer (some ⟨g218, 0, none⟩)), (7, .pointer (some ⟨g225, 0, none⟩))] := hf.keep [2, 3, 5, 6, 7]
                        refine Z.seq' hp72 fun Q344 hp345 hn346 he347 => ?_
                        refine Z.reg ?_
                        refine Z.val hf rfl (Z.r_assign (hf.eval rfl)) ?_; clear hf a; intro a hf
                        refine Z.done ?_
                        refine hn346 _ _ ?_
                        replace hf : Z.Fr a 100 [] [(2, .pointer (some ⟨g5, 0, none⟩)), (3, .pointer (some ⟨g11, 0, none⟩)), (5, .int .i64 (k49 : Int)), (6, .pointer (some ⟨g218, 0, none⟩)), (7, .pointer (some ⟨g225, 0, none⟩)), (8, .int .i64 0)] := hf.keep [2, 3, 5, 6, 7, 8]
                        refine Z.block' hp72 fun Q348 hp349 hn350 hx351 he352 => ?_
                        refine Z.loop' hp349 (fun m a wl => ∃ (j : Nat), m = x88.2.2.1.length - j ∧ Z.Ch [] w239 wl ∧ (j ≤ x88.2.2.1.length) ∧ (x88.2.2.1.take j = x156.2.2.1.take j) ∧ Z.Fr a 100 [] [(2, .pointer (some ⟨g5, 0, none⟩)), (3, .pointer (some ⟨g11, 0, none⟩)), (5, .int .i64 (k49 : Int)), (6, .pointer (some ⟨g218, 0, none⟩)), (7, .pointer (some ⟨g225, 0, none⟩)), (8, .int .i64 (j : Int))]) (x88.2.2.1.length - 0) ?_ ?_
                        · replace hf := hf.setv (d := 8) (y := .int .i64 (0 : Int)) rfl (congrArg (Value.int .i64) (by first | rfl | omega | (simp; done) | (simp; omega)))
                          replace hf : Z.Fr a 100 [] [(2, .pointer (some ⟨g5, 0, none⟩)), (3, .pointer (some ⟨g11, 0, none⟩)), (5, .int .i64 (k49 : Int)), (6, .pointer (some ⟨g218, 0, none⟩)), (7, .pointer (some ⟨g225, 0, none⟩)), (8, .int .i64 (0 : Int))] := hf.keep [2, 3, 5, 6, 7, 8]
                          exact ⟨0, rfl, (Z.Ch.refl w239), (by omega), (by simp), hf⟩
                        · rintro m363 a w353 ⟨j356, hm355, hc354, hj361, hu362, hf⟩ Q357 hp358 hn359 he360
                          have hzhc354 := hc354.size
                          refine Z.seq' hp358 fun Q364 hp365 hn366 he367 => ?_
                          refine Z.seq' hp365 fun Q368 hp369 hn370 he371 => ?_
                          refine Z.reg ?_
                          refine Z.val hf rfl (Z.r_move (hf.eval rfl)) ?_; clear hf a; intro a hf
                          refine Z.val hf rfl (Z.r_fieldAddrB Try.underlying86 rfl Try.sizeOf29 (hf.eval rfl) rfl) ?_; clear hf a; intro a hf
                          have hb372 := hb252.ch0 hc354
                          refine Z.val hf rfl (Z.r_loadB Try.isAgg29 (hf.eval rfl) hb372 rfl) ?_; clear hf a; intro a hf
                          refine Z.val hf rfl (Z.r_len Try.underlying29 (hf.eval rfl)) ?_; clear hf a; intro a hf
                          refine Z.val hf rfl (Z.r_lss (hf.eval rfl) (hf.eval rfl)) ?_; clear hf a; intro a hf
                          refine Z.done ?_
                          refine hn370 _ _ ?_
                          replace hf : Z.Fr a 100 [] [(2, .pointer (some ⟨g5, 0, none⟩)), (3, .pointer (some ⟨g11, 0, none⟩)), (5, .int .i64 (k49 : Int)), (6, .pointer (some ⟨g218, 0, none⟩)), (7, .pointer (some ⟨g225, 0, none⟩)), (8, .int .i64 (j356 : Int)), (86, .bool (decide ((j356 : Int) < (x88.2.2.1.length : Int))))] := hf.keep [2, 3, 5, 6, 7, 8, 86]
                          refine Z.condp hf rfl ?_ ?_
                          · intro hp373
                            have hcond := hp373
                            refine wp_skip ?_
                            refine hn366 _ _ ?_
                            replace hf : Z.Fr a 100 [] [(2, .pointer (some ⟨g5, 0, none⟩)), (3, .pointer (some ⟨g11, 0, none⟩)), (5, .int .i64 (k49 : Int)), (6, .pointer (some ⟨g218, 0, none⟩)), (7, .pointer (some ⟨g225, 0, none⟩)), (8, .int .i64 (j356 : Int))] := hf.keep [2, 3, 5, 6, 7, 8]
                            refine Z.seq' hp358 fun Q374 hp375 hn376 he377 => ?_
                            refine Z.block' hp375 fun Q378 hp379 hn380 hx381 he382 => ?_
                            refine Z.seq' hp379 fun Q383 hp384 hn385 he386 => ?_
                            refine Z.dr_reg (S := fun w' => Z.Ch [] w353 w') mixed ?_; intro w387 hc388 hz389
                            refine Z.dr_val 0 hf rfl rfl (by kernel_rfl) (by kernel_rfl) (by kernel_rfl) (fun _ _ _ h => hp384 _ _ _ _ _ h) hc388 Z.wanted_none (fun _ hw => Z.r_fieldAddrB Try.underlying86 rfl Try.sizeOf29 (hf.eval rfl) rfl) ?_; clear hf a; intro a hf
                            refine Z.dr_val 1 hf rfl rfl (by kernel_rfl) (by kernel_rfl) (by kernel_rfl) (fun _ _ _ h => hp384 _ _ _ _ _ h) hc388 Z.wanted_none (fun _ hw => Z.r_loadB Try.isAgg29 (hf.eval rfl) (hb372.ch0 hw) rfl) ?_; clear hf a; intro a hf
                            refine Z.dr_val 2 hf rfl rfl (by kernel_rfl) (by kernel_rfl) (by kernel_rfl) (fun _ _ _ h => hp384 _ _ _ _ _ h) hc388 Z.wanted_none (fun _ hw => Z.r_move (hf.eval rfl)) ?_; clear hf a; intro a hf
                            have hq390 : Z.Ch [g218, g225] w46 w353 := hq243.then hc354 (by simp) (by simp)
                            have hr391 : (Z.Ty.slice (Z.Ty.int .i64)).rep w353 (Z.ol [] w.heap.size) [.slice A113 x88.2.2.1.length c114] x88.2.2.1 := Z.rep_to hr111 hq390 (by intro b h1 h2; (try simp only [Z.nt, Z.iv, Z.no, Z.ol, List.mem_cons, List.not_mem_nil, or_false, not_or, not_false_eq_true] at h1); (try simp only [Z.nt, Z.iv, Z.no, Z.ol, List.mem_cons, List.mem_append, List.not_mem_nil, or_false, not_or, not_false_eq_true, true_and, and_true]) <;> omega)
                            have hkx394 : j356 < (x88.2.2.1).length := (by omega)
                            obtain ⟨ad392, es393, x394, hA395, hF396, hl397, hx398, hc399, hr400⟩ := Z.rep_el hr391 hkx394
                            have hok401 := Z.rep_ok _ hr400
                            have he402 := hr400.1
                            have he403 : es393 = [.int .i64 x394] := by simp only [he402, List.cons_append, List.nil_append]
                            rw [he403] at hc399
                            have hia := hx398
                            refine Z.dr_val 3 hf rfl rfl (by kernel_rfl) (by kernel_rfl) (by kernel_rfl) (fun _ _ _ h => hp384 _ _ _ _ _ h) hc388 Z.wanted_none (fun _ hw => Z.r_indexAddrE Try.underlying29 Try.sizeOf3 (hf.eval rfl) hA395 (hf.eval rfl) (k := j356) (by first | rfl | omega) (by omega)) ?_; clear hf a; intro a hf
                            refine Z.dr_val 4 hf rfl rfl (by kernel_rfl) (by kernel_rfl) (by kernel_rfl) (fun _ _ _ h => hp384 _ _ _ _ _ h) hc388 Z.wanted_none (fun _ hw => Z.r_loadE1 Try.isAgg3 (hf.eval rfl) (hc399.ch0 hw) rfl) ?_; clear hf a; intro a hf
                            refine Z.dr_val 5 hf rfl rfl (by kernel_rfl) (by kernel_rfl) (by kernel_rfl) (fun _ _ _ h => hp384 _ _ _ _ _ h) hc388 Z.wanted_none (fun _ hw => Z.r_fieldAddrB Try.underlying86 rfl Try.sizeOf29 (hf.eval rfl) rfl) ?_; clear hf a; intro a hf
                            have hb404 := hb241.ch0 hc354
                            refine Z.dr_val 6 hf rfl rfl (by kernel_rfl) (by kernel_rfl) (by kernel_rfl) (fun _ _ _ h => hp384 _ _ _ _ _ h) hc388 Z.wanted_none (fun _ hw => Z.r_loadB Try.isAgg29 (hf.eval rfl) (hb404.ch0 hw) rfl) ?_; clear hf a; intro a hf
                            refine Z.dr_val 7 hf rfl rfl (by kernel_rfl) (by kernel_rfl) (by kernel_rfl) (fun _ _ _ h => hp384 _ _ _ _ _ h) hc388 Z.wanted_none (fun _ hw => Z.r_move (hf.eval rfl)) ?_; clear hf a; intro a hf
                            have hq405 : Z.Ch [g218, g225] w46 w353 := hq243.then hc354 (by simp) (by simp)
                            have hr406 : (Z.Ty.slice (Z.Ty.int .i64)).rep w353 (Z.ol [] w.heap.size) [.slice A181 x156.2.2.1.length c182] x156.2.2.1 := Z.rep_to hr179 hq405 (by intro b h1 h2; (try simp only [Z.nt, Z.iv, Z.no, Z.ol, List.mem_cons, List.not_mem_nil, or_false, not_or, not_false_eq_true] at h1); (try simp only [Z.nt, Z.iv, Z.no, Z.ol, List.mem_cons, List.mem_append, List.not_mem_nil, or_false, not_or, not_false_eq_true, true_and, and_true]) <;> omega)
                            have hkx409 : j356 < (x156.2.2.1).length := (by omega)
                            obtain ⟨ad407, es408, x409, hA410, hF411, hl412, hx413, hc414, hr415⟩ := Z.rep_el hr406 hkx409
                            have hok416 := Z.rep_ok _ hr415
                            have he417 := hr415.1
                            have he418 : es408 = [.int .i64 x409] := by simp only [he417, List.cons_append, List.nil_append]
                            rw [he418] at hc414
                            have hib := hx413
                            refine Z.dr_val 8 hf rfl rfl (by kernel_rfl) (by kernel_rfl) (by kernel_rfl) (fun _ _ _ h => hp384 _ _ _ _ _ h) hc388 Z.wanted_none (fun _ hw => Z.r_indexAddrE Try.underlying29 Try.sizeOf3 (hf.eval rfl) hA410 (hf.eval rfl) (k := j356) (by first | rfl | omega) (by omega)) ?_; clear hf a; intro a hf
                            refine Z.dr_val 9 hf rfl rfl (by kernel_rfl) (by kernel_rfl) (by kernel_rfl) (fun _ _ _ h => hp384 _ _ _ _ _ h) hc388 Z.wanted_none (fun _ hw => Z.r_loadE1 Try.isAgg3 (hf.eval rfl) (hc414.ch0 hw) rfl) ?_; clear hf a; intro a hf
                            refine Z.dr_val 10 hf rfl rfl (by kernel_rfl) (by kernel_rfl) (by kernel_rfl) (fun _ _ _ h => hp384 _ _ _ _ _ h) hc388 Z.wanted_none (fun _ hw => Z.r_neq (hf.eval rfl) (hf.eval rfl)) ?_; clear hf a; intro a hf
                            refine Z.dr_done (by kernel_rfl) ?_
                            refine hn385 _ _ ?_
                            replace hf : Z.Fr a 100 [] [(2, .pointer (some ⟨g5, 0, none⟩)), (3, .pointer (some ⟨g11, 0, none⟩)), (5, .int .i64 (k49 : Int)), (6, .pointer (some ⟨g218, 0, none⟩)), (7, .pointer (some ⟨g225, 0, none⟩)), (8, .int .i64 (j356 : Int)), (99, .bool (decide (x394 ≠ x409)))] := hf.keep [2, 3, 5, 6, 7, 8, 99]
                            refine Z.condp hf rfl ?_ ?_
                            · intro hp419
                              have hcond := hp419
                              refine Z.seq' hp379 fun Q420 hp421 hn422 he423 => ?_
                              refine Z.reg ?_
                              refine Z.val hf rfl (Z.r_assign (hf.eval rfl)) ?_; clear hf a; intro a hf
                              refine Z.done ?_
                              refine hn422 _ _ ?_
                              replace hf : Z.Fr a 100 [] [(4, .bool false)] := hf.keep [4]
                              refine wp_ret ?_
                              refine he382 _ _ _ (by simp) (by simp) ?_
                              refine he377 _ _ _ (by simp) ?_
                              refine he360 _ _ _ (by simp) ?_
                              refine he352 _ _ _ (by simp) (by simp) ?_
                              refine he75 _ _ _ (by simp) (by simp) ?_
                              refine he70 _ _ _ (by simp) ?_
                              refine he53 _ _ _ (by simp) ?_
                              refine he45 _ _ _ (by simp) (by simp) ?_
                              refine he36 _ _ _ (by simp) ?_
                              replace hf := hf.setv (d := 4) (y := .bool (decide (x = y))) rfl (congrArg Value.bool (by first | (symm; apply decide_eq_false; intro h; first | (rw [h, heb] at hea; injection hea with hea; first | (refine hgd ?_; rw [hea]; done) | (refine hcond ?_; rw [hea]; done) | (rw [hea, hia] at hib; injection hib with hib; exact hcond hib)) | (refine hcond ?_; rw [h]; done)) | (exact Codec.same_true (Codec.take_end hp32 ht55 hp419))))
                              have hq424 : Z.Ch [] w w12 := hc10.then hc16 (by simp) (by simp)
                              have hq425 : Z.Ch [] w w46 := hq424.then hc47 (by simp) (by simp)
                              have hq426 : Z.Ch [] w w80 := hq425.then hc81 (by simp) (by simp)
                              have hq427 : Z.Ch [] w w219 := hq426.then hc223 (by simp) (by simp)
                              have hq428 : Z.Ch [] w w226 := hq427.then hc230 (by simp) (by simp)
                              have hq429 : Z.Ch [g218] w w233 := hq428.then hc236 (by simp) (by simp)
                              have hq430 : Z.Ch [g218, g225] w w239 := hq429.then hc242 (by simp) (by simp)
                              have hq431 : Z.Ch [g218, g225] w w353 := hq430.then hc354 (by simp) (by simp)
                              have hq432 : Z.Ch [g218, g225] w w387 := hq431.then hc388 (by simp) (by simp)
                              refine Z.ret1 hf Try.results45 rfl ?_
                              exact ⟨rfl, (Z.Ch.mono hq432 (by intro k hk; (try simp only [List.mem_cons, List.mem_append, List.not_mem_nil, or_false, false_or] at hk ⊢) <;> omega))⟩
                            · intro hp433
                              have hcond := hp433
                              refine wp_skip ?_
                              refine hn380 _ _ ?_
                              refine hn376 _ _ ?_
                              replace hf : Z.Fr a 100 [] [(2, .pointer (some ⟨g5, 0, none⟩)), (3, .pointer (some ⟨g11, 0, none⟩)), (5, .int .i64 (k49 : Int)), (6, .pointer (some ⟨g218, 0, none⟩)), (7, .pointer (some ⟨g225, 0, none⟩)), (8, .int .i64 (j356 : Int))] := hf.keep [2, 3, 5, 6, 7, 8]
                              refine Z.reg ?_
                              refine Z.val hf rfl (Z.r_move (hf.eval rfl)) ?_; clear hf a; intro a hf
                              refine Z.val hf rfl (Z.r_add64 (hf.eval rfl) (hf.eval rfl) (by omega)) ?_; clear hf a; intro a hf
                              refine Z.val hf rfl (Z.r_assign (hf.eval rfl)) ?_; clear hf a; intro a hf
                              refine Z.done ?_
                              refine hn359 (x88.2.2.1.length - (j356 + 1)) _ _ ?_ ?_
                              rotate_left
                              replace hf := hf.setv (d := 8) (y := .int .i64 ((j356 + 1 : Nat) : Int)) rfl (congrArg (Value.int .i64) (by first | rfl | omega | (simp; done) | (simp; omega)))
                              have hq434 : Z.Ch [] w239 w387 := hc354.then hc388 (by simp) (by simp)
                              replace hf : Z.Fr a 100 [] [(2, .pointer (some ⟨g5, 0, none⟩)), (3, .pointer (some ⟨g11, 0, none⟩)), (5, .int .i64 (k49 : Int)), (6, .pointer (some ⟨g218, 0, none⟩)), (7, .pointer (some ⟨g225, 0, none⟩)), (8, .int .i64 ((j356 + 1 : Nat) : Int))] := hf.keep [2, 3, 5, 6, 7, 8]
                              exact ⟨j356 + 1, rfl, hq434, (by omega), (by exact Codec.take_step hu362 hia hib hcond), hf⟩
                              rw [hm355]; omega
                          · intro hp435
                            have hcond := hp435
                            refine wp_exit ?_
                            refine he367 _ _ _ (by simp) ?_
                            refine he360 _ _ _ (by simp) ?_
                            refine hx351 _ _ ?_
                            refine hn73 _ _ ?_
                            refine hn69 _ _ ?_
                            replace hf : Z.Fr a 100 [] [(2, .pointer (some ⟨g5, 0, none⟩)), (3, .pointer (some ⟨g11, 0, none⟩)), (5, .int .i64 (k49 : Int))] := hf.keep [2, 3, 5]
                            refine Z.reg ?_
                            refine Z.val hf rfl (Z.r_move (hf.eval rfl)) ?_; clear hf a; intro a hf
                            refine Z.val hf rfl (Z.r_add64 (hf.eval rfl) (hf.eval rfl) (by omega)) ?_; clear hf a; intro a hf
                            refine Z.val hf rfl (Z.r_assign (hf.eval rfl)) ?_; clear hf a; intro a hf
                            refine Z.done ?_
                            refine hn52 (x.length - (k49 + 1)) _ _ ?_ ?_
                            rotate_left
                            replace hf := hf.setv (d := 5) (y := .int .i64 ((k49 + 1 : Nat) : Int)) rfl (congrArg (Value.int .i64) (by first | rfl | omega | (simp; done) | (simp; omega)))
                            have hq436 : Z.Ch [] w12 w80 := hc47.then hc81 (by simp) (by simp)
                            have hq437 : Z.Ch [] w12 w219 := hq436.then hc223 (by simp) (by simp)
                            have hq438 : Z.Ch [] w12 w226 := hq437.then hc230 (by simp) (by simp)
                            have hq439 : Z.Ch [g218] w12 w233 := hq438.then hc236 (by simp) (by simp)
                            have hq440 : Z.Ch [g218, g225] w12 w239 := hq439.then hc242 (by simp) (by simp)
                            have hq441 : Z.Ch [g218, g225] w12 w353 := hq440.then hc354 (by simp) (by simp)
                            replace hf : Z.Fr a 100 [] [(2, .pointer (some ⟨g5, 0, none⟩)), (3, .pointer (some ⟨g11, 0, none⟩)), (5, .int .i64 ((k49 + 1 : Nat) : Int))] := hf.keep [2, 3, 5]
                            exact ⟨k49 + 1, rfl, (hq441.mono (by intro k hk; (try simp only [List.mem_cons, List.mem_append, List.not_mem_nil, or_false, false_or] at hk ⊢) <;> omega)), (by omega), (by exact Codec.take_step ht55 hea heb (fun hne => hne (Codec.node_ext (Codec.not_ne hp265) (Codec.not_ne hp278) (Codec.not_ne hp291) (Codec.not_ne hp304) (Codec.not_ne hp317) (Codec.not_ne hp330) (Codec.take_end hp343 hu362 hp435)))), hf⟩
                            rw [hm48]; omega
        · refine Z.st_alloc hf rfl Try.zeroValue86 rfl ?_; clear hf a; intro g442 w443 a hg444 hz445 hb446 hc447 hf
          refine Z.done ?_
          have hq448 : Z.Ch [] w46 w443 := hc81.then hc447 (by simp) (by simp)
          refine And.intro hq448 ?_
          refine Z.dr_one 10 rfl (by kernel_rfl) ?_
          refine Z.st_alloc hf rfl Try.zeroValue86 rfl ?_; clear hf a; intro g449 w450 a hg451 hz452 hb453 hc454 hf
          refine Z.done ?_
          have hq455 : Z.Ch [] w46 w450 := hq448.then hc454 (by simp) (by simp)
          refine And.intro hq455 ?_
          refine Z.dr_one 12 rfl (by kernel_rfl) ?_
          refine Z.st_store hf hb453 rfl rfl Try.sizeOf86 rfl rfl rfl (by simp [Value.oneCell']) rfl ?_; clear hf a; intro w456 a hz457 hb458 hc459 hf
          refine Z.done ?_
          have hq460 : Z.Ch [g449] w46 w456 := hq455.then hc459 (by simp) (by simp)
          refine And.intro (hq460.mono (by intro k hk; (try simp only [List.mem_cons, List.mem_append, List.not_mem_nil, or_false, false_or] at hk ⊢) <;> omega)) ?_
          refine Z.dr_one 13 rfl (by kernel_rfl) ?_
          have hq461 : Z.Ch [g449] w443 w456 := hc454.then hc459 (by simp) (by simp)
          have hb462 := hb446.ch hq461 (by simp only [List.mem_cons, List.mem_append, List.not_mem_nil, or_false, not_or, not_false_eq_true, and_true] <;> omega)
          refine Z.st_store hf hb462 rfl rfl Try.sizeOf86 rfl rfl rfl (by simp [Value.oneCell']) rfl ?_; clear hf a; intro w463 a hz464 hb465 hc466 hf
          refine Z.done ?_
          have hq467 : Z.Ch [g449, g442] w46 w463 := hq460.then hc466 (by simp) (by simp)
          refine And.intro (hq467.mono (by intro k hk; (try simp only [List.mem_cons, List.mem_append, List.not_mem_nil, or_false, false_or] at hk ⊢) <;> omega)) ?_
          refine Z.dr_done (by kernel_rfl) ?_
          refine hn78 _ _ ?_
          replace hf : Z.Fr a 100 [] [(2, .pointer (some ⟨g5, 0, none⟩)), (3, .pointer (some ⟨g11, 0, none⟩)), (5, .int .i64 (k49 : Int)), (6, .pointer (some ⟨g449, 0, none⟩)), (7, .pointer (some ⟨g442, 0, none⟩))] := hf.keep [2, 3, 5, 6, 7]
          refine Z.seq' hp72 fun Q468 hp469 hn470 he471 => ?_
          refine Z.seq' hp469 fun Q472 hp473 hn474 he475 => ?_
          refine Z.reg ?_
          refine Z.val hf rfl (Z.r_fieldAddrB Try.underlying86 rfl Try.sizeOf3 (hf.eval rfl) rfl) ?_; clear hf a; intro a hf
          have hb476 := hb458.ch hc466 (by simp only [List.mem_cons, List.mem_append, List.not_mem_nil, or_false, not_or, not_false_eq_true, and_true] <;> omega)
          refine Z.val hf rfl (Z.r_loadB Try.isAgg3 (hf.eval rfl) hb476 rfl) ?_; clear hf a; intro a hf
          refine Z.val hf rfl (Z.r_fieldAddrB Try.underlying86 rfl Try.sizeOf3 (hf.eval rfl) rfl) ?_; clear hf a; intro a hf
          refine Z.val hf rfl (Z.r_loadB Try.isAgg3 (hf.eval rfl) hb465 rfl) ?_; clear hf a; intro a hf
          refine Z.val hf rfl (Z.r_neq (hf.eval rfl) (hf.eval rfl)) ?_; clear hf a; intro a hf
          refine Z.val hf rfl (Z.r_move (hf.eval rfl)) ?_; clear hf a; intro a hf
          by_cases hdec : x88.1 ≠ x156.1 <;> revert hdec
          · intro hp477
            have hgd := hp477
            replace hf := hf.setb (d := 38) (b' := true) rfl (decide_eq_true hp477)
            refine Z.off hf rfl rfl rfl (by simp) ?_; clear hf a; intro a hf
            refine Z.off hf rfl rfl rfl (by simp) ?_; clear hf a; intro a hf
            refine Z.off hf rfl rfl rfl (by simp) ?_; clear hf a; intro a hf
            refine Z.off hf rfl rfl rfl (by simp) ?_; clear hf a; intro a hf
            refine Z.off hf rfl rfl rfl (by simp) ?_; clear hf a; intro a hf
            refine Z.val hf rfl (Z.r_pick_t (hf.eval rfl) (hf.eval rfl)) ?_; clear hf a; intro a hf
            refine Z.val hf rfl (Z.r_move (hf.eval rfl)) ?_; clear hf a; intro a hf
            refine Z.off hf rfl rfl rfl (by simp) ?_; clear hf a; intro a hf
            refine Z.off hf rfl rfl rfl (by simp) ?_; clear hf a; intro a hf
            refine Z.off hf rfl rfl rfl (by simp) ?_; clear hf a; intro a hf
            refine Z.off hf rfl rfl rfl (by simp) ?_; clear hf a; intro a hf
            refine Z.off hf rfl rfl rfl (by simp) ?_; clear hf a; intro a hf
            refine Z.val hf rfl (Z.r_pick_t (hf.eval rfl) (hf.eval rfl)) ?_; clear hf a; intro a hf
            refine Z.val hf rfl (Z.r_move (hf.eval rfl)) ?_; clear hf a; intro a hf
            refine Z.off hf rfl rfl rfl (by simp) ?_; clear hf a; intro a hf
            refine Z.off hf rfl rfl rfl (by simp) ?_; clear hf a; intro a hf
            refine Z.off hf rfl rfl rfl (by simp) ?_; clear hf a; intro a hf
            refine Z.off hf rfl rfl rfl (by simp) ?_; clear hf a; intro a hf
            refine Z.off hf rfl rfl rfl (by simp) ?_; clear hf a; intro a hf
            refine Z.val hf rfl (Z.r_pick_t (hf.eval rfl) (hf.eval rfl)) ?_; clear hf a; intro a hf
            refine Z.val hf rfl (Z.r_move (hf.eval rfl)) ?_; clear hf a; intro a hf
            refine Z.off hf rfl rfl rfl (by simp) ?_; clear hf a; intro a hf
            refine Z.off hf rfl rfl rfl (by simp) ?_; clear hf a; intro a hf
            refine Z.off hf rfl rfl rfl (by simp) ?_; clear hf a; intro a hf
            refine Z.off hf rfl rfl rfl (by simp) ?_; clear hf a; intro a hf
            refine Z.off hf rfl rfl rfl (by simp) ?_; clear hf a; intro a hf
            refine Z.val hf rfl (Z.r_pick_t (hf.eval rfl) (hf.eval rfl)) ?_; clear hf a; intro a hf
            refine Z.val hf rfl (Z.r_move (hf.eval rfl)) ?_; clear hf a; intro a hf
            refine Z.off hf rfl rfl rfl (by simp) ?_; clear hf a; intro a hf
            refine Z.off hf rfl rfl rfl (by simp) ?_; clear hf a; intro a hf
            refine Z.off hf rfl rfl rfl (by simp) ?_; clear hf a; intro a hf
            refine Z.off hf rfl rfl rfl (by simp) ?_; clear hf a; intro a hf
            refine Z.off hf rfl rfl rfl (by simp) ?_; clear hf a; intro a hf
            refine Z.val hf rfl (Z.r_pick_t (hf.eval rfl) (hf.eval rfl)) ?_; clear hf a; intro a hf
            refine Z.val hf rfl (Z.r_move (hf.eval rfl)) ?_; clear hf a; intro a hf
            refine Z.off hf rfl rfl rfl (by simp) ?_; clear hf a; intro a hf
            refine Z.off hf rfl rfl rfl (by simp) ?_; clear hf a; intro a hf
            refine Z.off hf rfl rfl rfl (by simp) ?_; clear hf a; intro a hf
            refine Z.off hf rfl rfl rfl (by simp) ?_; clear hf a; intro a hf
            refine Z.off hf rfl rfl rfl (by simp) ?_; clear hf a; intro a hf
            refine Z.off hf rfl rfl rfl (by simp) ?_; clear hf a; intro a hf
            refine Z.off hf rfl rfl rfl (by simp) ?_; clear hf a; intro a hf
            refine Z.val hf rfl (Z.r_pick_t (hf.eval rfl) (hf.eval rfl)) ?_; clear hf a; intro a hf
            refine Z.done ?_
            refine hn474 _ _ ?_
            replace hf : Z.Fr a 100 [] [(2, .pointer (some ⟨g5, 0, none⟩)), (3, .pointer (some ⟨g11, 0, none⟩)), (5, .int .i64 (k49 : Int)), (6, .pointer (some ⟨g449, 0, none⟩)), (7, .pointer (some ⟨g442, 0, none⟩)), (81, .bool true)] := hf.keep [2, 3, 5, 6, 7, 81]
            refine Z.condt hf rfl ?_
            refine Z.seq' hp469 fun Q478 hp479 hn480 he481 => ?_
            refine Z.reg ?_
            refine Z.val hf rfl (Z.r_assign (hf.eval rfl)) ?_; clear hf a; intro a hf
            refine Z.done ?_
            refine hn480 _ _ ?_
            replace hf : Z.Fr a 100 [] [(4, .bool false)] := hf.keep [4]
            refine wp_ret ?_
            refine he471 _ _ _ (by simp) ?_
            refine he75 _ _ _ (by simp) (by simp) ?_
            refine he70 _ _ _ (by simp) ?_
            refine he53 _ _ _ (by simp) ?_
            refine he45 _ _ _ (by simp) (by simp) ?_
            refine he36 _ _ _ (by simp) ?_
            replace hf := hf.setv (d := 4) (y := .bool (decide (x = y))) rfl (congrArg Value.bool (by first | (symm; apply decide_eq_false; intro h; first | (rw [h, heb] at hea; injection hea with hea; first | (refine hgd ?_; rw [hea]; done) | (refine hcond ?_; rw [hea]; done) | (rw [hea, hia] at hib; injection hib with hib; exact hcond hib)) | (refine hcond ?_; rw [h]; done)) | (exact Codec.same_true (Codec.take_end hp32 ht55 hp477))))
            have hq482 : Z.Ch [] w w12 := hc10.then hc16 (by simp) (by simp)
            have hq483 : Z.Ch [] w w46 := hq482.then hc47 (by simp) (by simp)
            have hq484 : Z.Ch [] w w80 := hq483.then hc81 (by simp) (by simp)
            have hq485 : Z.Ch [] w w443 := hq484.then hc447 (by simp) (by simp)
            have hq486 : Z.Ch [] w w450 := hq485.then hc454 (by simp) (by simp)
            have hq487 : Z.Ch [g449] w w456 := hq486.then hc459 (by simp) (by simp)
            have hq488 : Z.Ch [g449, g442] w w463 := hq487.then hc466 (by simp) (by simp)
            refine Z.ret1 hf Try.results45 rfl ?_
            exact ⟨rfl, (Z.Ch.mono hq488 (by intro k hk; (try simp only [List.mem_cons, List.mem_append, List.not_mem_nil, or_false, false_or] at hk ⊢) <;> omega))⟩
          · intro hp489
            have hgd := hp489
            replace hf := hf.setb (d := 38) (b' := false) rfl (decide_eq_false hp489)
            refine Z.on hf rfl rfl ?_
            refine Z.val hf rfl (Z.r_fieldAddrB Try.underlying86 rfl Try.sizeOf3 (hf.eval rfl) rfl) ?_; clear hf a; intro a hf
            refine Z.on hf rfl rfl ?_
            refine Z.val hf rfl (Z.r_loadB Try.isAgg3 (hf.eval rfl) hb476 rfl) ?_; clear hf a; intro a hf
            refine Z.on hf rfl rfl ?_
            refine Z.val hf rfl (Z.r_fieldAddrB Try.underlying86 rfl Try.sizeOf3 (hf.eval rfl) rfl) ?_; clear hf a; intro a hf
            refine Z.on hf rfl rfl ?_
            refine Z.val hf rfl (Z.r_loadB Try.isAgg3 (hf.eval rfl) hb465 rfl) ?_; clear hf a; intro a hf
            refine Z.on hf rfl rfl ?_
            refine Z.val hf rfl (Z.r_neq (hf.eval rfl) (hf.eval rfl)) ?_; clear hf a; intro a hf
            refine Z.val hf rfl (Z.r_pick_f (hf.eval rfl) (hf.eval rfl)) ?_; clear hf a; intro a hf
            refine Z.val hf rfl (Z.r_move (hf.eval rfl)) ?_; clear hf a; intro a hf
            by_cases hdec : x88.2.1 ≠ x156.2.1 <;> revert hdec
            · intro hp490
              have hgd := hp490
              replace hf := hf.setb (d := 45) (b' := true) rfl (decide_eq_true hp490)
              refine Z.off hf rfl rfl rfl (by simp) ?_; clear hf a; intro a hf
              refine Z.off hf rfl rfl rfl (by simp) ?_; clear hf a; intro a hf
              refine Z.off hf rfl rfl rfl (by simp) ?_; clear hf a; intro a hf
              refine Z.off hf rfl rfl rfl (by simp) ?_; clear hf a; intro a hf
              refine Z.off hf rfl rfl rfl (by simp) ?_; clear hf a; intro a hf
              refine Z.val hf rfl (Z.r_pick_t (hf.eval rfl) (hf.eval rfl)) ?_; clear hf a; intro a hf
              refine Z.val hf rfl (Z.r_move (hf.eval rfl)) ?_; clear hf a; intro a hf
              refine Z.off hf rfl rfl rfl (by simp) ?_; clear hf a; intro a hf
              refine Z.off hf rfl rfl rfl (by simp) ?_; clear hf a; intro a hf
              refine Z.off hf rfl rfl rfl (by simp) ?_; clear hf a; intro a hf
              refine Z.off hf rfl rfl rfl (by simp) ?_; clear hf a; intro a hf
              refine Z.off hf rfl rfl rfl (by simp) ?_; clear hf a; intro a hf
              refine Z.val hf rfl (Z.r_pick_t (hf.eval rfl) (hf.eval rfl)) ?_; clear hf a; intro a hf
              refine Z.val hf rfl (Z.r_move (hf.eval rfl)) ?_; clear hf a; intro a hf
              refine Z.off hf rfl rfl rfl (by simp) ?_; clear hf a; intro a hf
              refine Z.off hf rfl rfl rfl (by simp) ?_; clear hf a; intro a hf
              refine Z.off hf rfl rfl rfl (by simp) ?_; clear hf a; intro a hf
              refine Z.off hf rfl rfl rfl (by simp) ?_; clear hf a; intro a hf
              refine Z.off hf rfl rfl rfl (by simp) ?_; clear hf a; intro a hf
              refine Z.val hf rfl (Z.r_pick_t (hf.eval rfl) (hf.eval rfl)) ?_; clear hf a; intro a hf
              refine Z.val hf rfl (Z.r_move (hf.eval rfl)) ?_; clear hf a; intro a hf
              refine Z.off hf rfl rfl rfl (by simp) ?_; clear hf a; intro a hf
              refine Z.off hf rfl rfl rfl (by simp) ?_; clear hf a; intro a hf
              refine Z.off hf rfl rfl rfl (by simp) ?_; clear hf a; intro a hf
              refine Z.off hf rfl rfl rfl (by simp) ?_; clear hf a; intro a hf
              refine Z.off hf rfl rfl rfl (by simp) ?_; clear hf a; intro a hf
              refine Z.val hf rfl (Z.r_pick_t (hf.eval rfl) (hf.eval rfl)) ?_; clear hf a; intro a hf
              refine Z.val hf rfl (Z.r_move (hf.eval rfl)) ?_; clear hf a; intro a hf
              refine Z.off hf rfl rfl rfl (by simp) ?_; clear hf a; intro a hf
              refine Z.off hf rfl rfl rfl (by simp) ?_; clear hf a; intro a hf
              refine Z.off hf rfl rfl rfl (by simp) ?_; clear hf a; intro a hf
              refine Z.off hf rfl rfl rfl (by simp) ?_; clear hf a; intro a hf
              refine Z.off hf rfl rfl rfl (by simp) ?_; clear hf a; intro a hf
              refine Z.off hf rfl rfl rfl (by simp) ?_; clear hf a; intro a hf
              refine Z.off hf rfl rfl rfl (by simp) ?_; clear hf a; intro a hf
              refine Z.val hf rfl (Z.r_pick_t (hf.eval rfl) (hf.eval rfl)) ?_; clear hf a; intro a hf
              refine Z.done ?_
              refine hn474 _ _ ?_
              replace hf : Z.Fr a 100 [] [(2, .pointer (some ⟨g5, 0, none⟩)), (3, .pointer (some ⟨g11, 0, none⟩)), (5, .int .i64 (k49 : Int)), (6, .pointer (some ⟨g449, 0, none⟩)), (7, .pointer (some ⟨g442, 0, none⟩)), (81, .bool true)] := hf.keep [2, 3, 5, 6, 7, 81]
              refine Z.condt hf rfl ?_
              refine Z.seq' hp469 fun Q491 hp492 hn493 he494 => ?_
              refine Z.reg ?_
              refine Z.val hf rfl (Z.r_assign (hf.eval rfl)) ?_; clear hf a; intro a hf
              refine Z.done ?_
              refine hn493 _ _ ?_
              replace hf : Z.Fr a 100 [] [(4, .bool false)] := hf.keep [4]
              refine wp_ret ?_
              refine he471 _ _ _ (by simp) ?_
              refine he75 _ _ _ (by simp) (by simp) ?_
              refine he70 _ _ _ (by simp) ?_
              refine he53 _ _ _ (by simp) ?_
              refine he45 _ _ _ (by simp) (by simp) ?_
              refine he36 _ _ _ (by simp) ?_
              replace hf := hf.setv (d := 4) (y := .bool (decide (x = y))) rfl (congrArg Value.bool (by first | (symm; apply decide_eq_false; intro h; first | (rw [h, heb] at hea; injection hea with hea; first | (refine hgd ?_; rw [hea]; done) | (refine hcond ?_; rw [hea]; done) | (rw [hea, hia] at hib; injection hib with hib; exact hcond hib)) | (refine hcond ?_; rw [h]; done)) | (exact Codec.same_true (Codec.take_end hp32 ht55 hp490))))
              have hq495 : Z.Ch [] w w12 := hc10.then hc16 (by simp) (by simp)
              have hq496 : Z.Ch [] w w46 := hq495.then hc47 (by simp) (by simp)
              have hq497 : Z.Ch [] w w80 := hq496.then hc81 (by simp) (by simp)
              have hq498 : Z.Ch [] w w443 := hq497.then hc447 (by simp) (by simp)
              have hq499 : Z.Ch [] w w450 := hq498.then hc454 (by simp) (by simp)
              have hq500 : Z.Ch [g449] w w456 := hq499.then hc459 (by simp) (by simp)
              have hq501 : Z.Ch [g449, g442] w w463 := hq500.then hc466 (by simp) (by simp)
              refine Z.ret1 hf Try.results45 rfl ?_
              exact ⟨rfl, (Z.Ch.mono hq501 (by intro k hk; (try simp only [List.mem_cons, List.mem_append, List.not_mem_nil, or_false, false_or] at hk ⊢) <;> omega))⟩
            · intro hp502
              have hgd := hp502
              replace hf := hf.setb (d := 45) (b' := false) rfl (decide_eq_false hp502)
              refine Z.on hf rfl rfl ?_
              refine Z.val hf rfl (Z.r_fieldAddrB Try.underlying86 rfl Try.sizeOf62 (hf.eval rfl) rfl) ?_; clear hf a; intro a hf
              refine Z.on hf rfl rfl ?_
              refine Z.val hf rfl (Z.r_loadBN Try.isAgg62 Try.sizeOf62 (hf.eval rfl) hb476 rfl rfl) ?_; clear hf a; intro a hf
              refine Z.on hf rfl rfl ?_
              refine Z.val hf rfl (Z.r_fieldAddrB Try.underlying86 rfl Try.sizeOf62 (hf.eval rfl) rfl) ?_; clear hf a; intro a hf
              refine Z.on hf rfl rfl ?_
              refine Z.val hf rfl (Z.r_loadBN Try.isAgg62 Try.sizeOf62 (hf.eval rfl) hb465 rfl rfl) ?_; clear hf a; intro a hf
              refine Z.on hf rfl rfl ?_
              refine Z.val hf rfl (eqagg_neq62 (x := x88.2.2.2.1) (y := x156.2.2.2.1) (hf.eval rfl) (hf.eval rfl)) ?_; clear hf a; intro a hf
              refine Z.val hf rfl (Z.r_pick_f (hf.eval rfl) (hf.eval rfl)) ?_; clear hf a; intro a hf
              refine Z.val hf rfl (Z.r_move (hf.eval rfl)) ?_; clear hf a; intro a hf
              by_cases hdec : x88.2.2.2.1 ≠ x156.2.2.2.1 <;> revert hdec
              · intro hp503
                have hgd := hp503
                replace hf := hf.setb (d := 52) (b' := true) rfl (decide_eq_true hp503)
                refine Z.off hf rfl rfl rfl (by simp) ?_; clear hf a; intro a hf
                refine Z.off hf rfl rfl rfl (by simp) ?_; clear hf a; intro a hf
                refine Z.off hf rfl rfl rfl (by simp) ?_; clear hf a; intro a hf
                refine Z.off hf rfl rfl rfl (by simp) ?_; clear hf a; intro a hf
                refine Z.off hf rfl rfl rfl (by simp) ?_; clear hf a; intro a hf
                refine Z.val hf rfl (Z.r_pick_t (hf.eval rfl) (hf.eval rfl)) ?_; clear hf a; intro a hf
                refine Z.val hf rfl (Z.r_move (hf.eval rfl)) ?_; clear hf a; intro a hf
                refine Z.off hf rfl rfl rfl (by simp) ?_; clear hf a; intro a hf
                refine Z.off hf rfl rfl rfl (by simp) ?_; clear hf a; intro a hf
                refine Z.off hf rfl rfl rfl (by simp) ?_; clear hf a; intro a hf
                refine Z.off hf rfl rfl rfl (by simp) ?_; clear hf a; intro a hf
                refine Z.off hf rfl rfl rfl (by simp) ?_; clear hf a; intro a hf
                refine Z.val hf rfl (Z.r_pick_t (hf.eval rfl) (hf.eval rfl)) ?_; clear hf a; intro a hf
                refine Z.val hf rfl (Z.r_move (hf.eval rfl)) ?_; clear hf a; intro a hf
                refine Z.off hf rfl rfl rfl (by simp) ?_; clear hf a; intro a hf
                refine Z.off hf rfl rfl rfl (by simp) ?_; clear hf a; intro a hf
                refine Z.off hf rfl rfl rfl (by simp) ?_; clear hf a; intro a hf
                refine Z.off hf rfl rfl rfl (by simp) ?_; clear hf a; intro a hf
                refine Z.off hf rfl rfl rfl (by simp) ?_; clear hf a; intro a hf
                refine Z.val hf rfl (Z.r_pick_t (hf.eval rfl) (hf.eval rfl)) ?_; clear hf a; intro a hf
                refine Z.val hf rfl (Z.r_move (hf.eval rfl)) ?_; clear hf a; intro a hf
                refine Z.off hf rfl rfl rfl (by simp) ?_; clear hf a; intro a hf
                refine Z.off hf rfl rfl rfl (by simp) ?_; clear hf a; intro a hf
                refine Z.off hf rfl rfl rfl (by simp) ?_; clear hf a; intro a hf
                refine Z.off hf rfl rfl rfl (by simp) ?_; clear hf a; intro a hf
                refine Z.off hf rfl rfl rfl (by simp) ?_; clear hf a; intro a hf
                refine Z.off hf rfl rfl rfl (by simp) ?_; clear hf a; intro a hf
                refine Z.off hf rfl rfl rfl (by simp) ?_; clear hf a; intro a hf
                refine Z.val hf rfl (Z.r_pick_t (hf.eval rfl) (hf.eval rfl)) ?_; clear hf a; intro a hf
                refine Z.done ?_
                refine hn474 _ _ ?_
                replace hf : Z.Fr a 100 [] [(2, .pointer (some ⟨g5, 0, none⟩)), (3, .pointer (some ⟨g11, 0, none⟩)), (5, .int .i64 (k49 : Int)), (6, .pointer (some ⟨g449, 0, none⟩)), (7, .pointer (some ⟨g442, 0, none⟩)), (81, .bool true)] := hf.keep [2, 3, 5, 6, 7, 81]
                refine Z.condt hf rfl ?_
                refine Z.seq' hp469 fun Q504 hp505 hn506 he507 => ?_
                refine Z.reg ?_
                refine Z.val hf rfl (Z.r_assign (hf.eval rfl)) ?_; clear hf a; intro a hf
                refine Z.done ?_
                refine hn506 _ _ ?_
                replace hf : Z.Fr a 100 [] [(4, .bool false)] := hf.keep [4]
                refine wp_ret ?_
                refine he471 _ _ _ (by simp) ?_
                refine he75 _ _ _ (by simp) (by simp) ?_
                refine he70 _ _ _ (by simp) ?_
                refine he53 _ _ _ (by simp) ?_
                refine he45 _ _ _ (by simp) (by simp) ?_
                refine he36 _ _ _ (by simp) ?_
                replace hf := hf.setv (d := 4) (y := .bool (decide (x = y))) rfl (congrArg Value.bool (by first | (symm; apply decide_eq_false; intro h; first | (rw [h, heb] at hea; injection hea with hea; first | (refine hgd ?_; rw [hea]; done) | (refine hcond ?_; rw [hea]; done) | (rw [hea, hia] at hib; injection hib with hib; exact hcond hib)) | (refine hcond ?_; rw [h]; done)) | (exact Codec.same_true (Codec.take_end hp32 ht55 hp503))))
                have hq508 : Z.Ch [] w w12 := hc10.then hc16 (by simp) (by simp)
                have hq509 : Z.Ch [] w w46 := hq508.then hc47 (by simp) (by simp)
                have hq510 : Z.Ch [] w w80 := hq509.then hc81 (by simp) (by simp)
                have hq511 : Z.Ch [] w w443 := hq510.then hc447 (by simp) (by simp)
                have hq512 : Z.Ch [] w w450 := hq511.then hc454 (by simp) (by simp)
                have hq513 : Z.Ch [g449] w w456 := hq512.then hc459 (by simp) (by simp)
                have hq514 : Z.Ch [g449, g442] w w463 := hq513.then hc466 (by simp) (by simp)
                refine Z.ret1 hf Try.results45 rfl ?_
                exact ⟨rfl, (Z.Ch.mono hq514 (by intro k hk; (try simp only [List.mem_cons, List.mem_append, List.not_mem_nil, or_false, false_or] at hk ⊢) <;> omega))⟩
              · intro hp515
                have hgd := hp515
                replace hf := hf.setb (d := 52) (b' := false) rfl (decide_eq_false hp515)
                refine Z.on hf rfl rfl ?_
                refine Z.val hf rfl (Z.r_fieldAddrB Try.underlying86 rfl Try.sizeOf9 (hf.eval rfl) rfl) ?_; clear hf a; intro a hf
                refine Z.on hf rfl rfl ?_
                refine Z.val hf rfl (Z.r_loadB Try.isAgg9 (hf.eval rfl) hb476 rfl) ?_; clear hf a; intro a hf
                refine Z.on hf rfl rfl ?_
                refine Z.val hf rfl (Z.r_fieldAddrB Try.underlying86 rfl Try.sizeOf9 (hf.eval rfl) rfl) ?_; clear hf a; intro a hf
                refine Z.on hf rfl rfl ?_
                refine Z.val hf rfl (Z.r_loadB Try.isAgg9 (hf.eval rfl) hb465 rfl) ?_; clear hf a; intro a hf
                refine Z.on hf rfl rfl ?_
                refine Z.val hf rfl (Z.r_nes' (hf.eval rfl) (hf.eval rfl)) ?_; clear hf a; intro a hf
                refine Z.val hf rfl (Z.r_pick_f (hf.eval rfl) (hf.eval rfl)) ?_; clear hf a; intro a hf
                refine Z.val hf rfl (Z.r_move (hf.eval rfl)) ?_; clear hf a; intro a hf
                by_cases hdec : x88.2.2.2.2.1 ≠ x156.2.2.2.2.1 <;> revert hdec
                · intro hp516
                  have hgd := hp516
                  replace hf := hf.setb (d := 59) (b' := true) rfl (decide_eq_true hp516)
                  refine Z.off hf rfl rfl rfl (by simp) ?_; clear hf a; intro a hf
                  refine Z.off hf rfl rfl rfl (by simp) ?_; clear hf a; intro a hf
                  refine Z.off hf rfl rfl rfl (by simp) ?_; clear hf a; intro a hf
                  refine Z.off hf rfl rfl rfl (by simp) ?_; clear hf a; intro a hf
                  refine Z.off hf rfl rfl rfl (by simp) ?_; clear hf a; intro a hf
                  refine Z.val hf rfl (Z.r_pick_t (hf.eval rfl) (hf.eval rfl)) ?_; clear hf a; intro a hf
                  refine Z.val hf rfl (Z.r_move (hf.eval rfl)) ?_; clear hf a; intro a hf
                  refine Z.off hf rfl rfl rfl (by simp) ?_; clear hf a; intro a hf
                  refine Z.off hf rfl rfl rfl (by simp) ?_; clear hf a; intro a hf
                  refine Z.off hf rfl rfl rfl (by simp) ?_; clear hf a; intro a hf
                  refine Z.off hf rfl rfl rfl (by simp) ?_; clear hf a; intro a hf
                  refine Z.off hf rfl rfl rfl (by simp) ?_; clear hf a; intro a hf
                  refine Z.val hf rfl (Z.r_pick_t (hf.eval rfl) (hf.eval rfl)) ?_; clear hf a; intro a hf
                  refine Z.val hf rfl (Z.r_move (hf.eval rfl)) ?_; clear hf a; intro a hf
                  refine Z.off hf rfl rfl rfl (by simp) ?_; clear hf a; intro a hf
                  refine Z.off hf rfl rfl rfl (by simp) ?_; clear hf a; intro a hf
                  refine Z.off hf rfl rfl rfl (by simp) ?_; clear hf a; intro a hf
                  refine Z.off hf rfl rfl rfl (by simp) ?_; clear hf a; intro a hf
                  refine Z.off hf rfl rfl rfl (by simp) ?_; clear hf a; intro a hf
                  refine Z.off hf rfl rfl rfl (by simp) ?_; clear hf a; intro a hf
                  refine Z.off hf rfl rfl rfl (by simp) ?_; clear hf a; intro a hf
                  refine Z.val hf rfl (Z.r_pick_t (hf.eval rfl) (hf.eval rfl)) ?_; clear hf a; intro a hf
                  refine Z.done ?_
                  refine hn474 _ _ ?_
                  replace hf : Z.Fr a 100 [] [(2, .pointer (some ⟨g5, 0, none⟩)), (3, .pointer (some ⟨g11, 0, none⟩)), (5, .int .i64 (k49 : Int)), (6, .pointer (some ⟨g449, 0, none⟩)), (7, .pointer (some ⟨g442, 0, none⟩)), (81, .bool true)] := hf.keep [2, 3, 5, 6, 7, 81]
                  refine Z.condt hf rfl ?_
                  refine Z.seq' hp469 fun Q517 hp518 hn519 he520 => ?_
                  refine Z.reg ?_
                  refine Z.val hf rfl (Z.r_assign (hf.eval rfl)) ?_; clear hf a; intro a hf
                  refine Z.done ?_
                  refine hn519 _ _ ?_
                  replace hf : Z.Fr a 100 [] [(4, .bool false)] := hf.keep [4]
                  refine wp_ret ?_
                  refine he471 _ _ _ (by simp) ?_
                  refine he75 _ _ _ (by simp) (by simp) ?_
                  refine he70 _ _ _ (by simp) ?_
                  refine he53 _ _ _ (by simp) ?_
                  refine he45 _ _ _ (by simp) (by simp) ?_
                  refine he36 _ _ _ (by simp) ?_
                  replace hf := hf.setv (d := 4) (y := .bool (decide (x = y))) rfl (congrArg Value.bool (by first | (symm; apply decide_eq_false; intro h; first | (rw [h, heb] at hea; injection hea with hea; first | (refine hgd ?_; rw [hea]; done) | (refine hcond ?_; rw [hea]; done) | (rw [hea, hia] at hib; injection hib with hib; exact hcond hib)) | (refine hcond ?_; rw [h]; done)) | (exact Codec.same_true (Codec.take_end hp32 ht55 hp516))))
                  have hq521 : Z.Ch [] w w12 := hc10.then hc16 (by simp) (by simp)
                  have hq522 : Z.Ch [] w w46 := hq521.then hc47 (by simp) (by simp)
                  have hq523 : Z.Ch [] w w80 := hq522.then hc81 (by simp) (by simp)
                  have hq524 : Z.Ch [] w w443 := hq523.then hc447 (by simp) (by simp)
                  have hq525 : Z.Ch [] w w450 := hq524.then hc454 (by simp) (by simp)
                  have hq526 : Z.Ch [g449] w w456 := hq525.then hc459 (by simp) (by simp)
                  have hq527 : Z.Ch [g449, g442] w w463 := hq526.then hc466 (by simp) (by simp)
                  refine Z.ret1 hf Try.results45 rfl ?_
                  exact ⟨rfl, (Z.Ch.mono hq527 (by intro k hk; (try simp only [List.mem_cons, List.mem_append, List.not_mem_nil, or_false, false_or] at hk ⊢) <;> omega))⟩
                · intro hp528
                  have hgd := hp528
                  replace hf := hf.setb (d := 59) (b' := false) rfl (decide_eq_false hp528)
                  refine Z.on hf rfl rfl ?_
                  refine Z.val hf rfl (Z.r_fieldAddrB Try.underlying86 rfl Try.sizeOf2 (hf.eval rfl) rfl) ?_; clear hf a; intro a hf
                  refine Z.on hf rfl rfl ?_
                  refine Z.val hf rfl (Z.r_loadB Try.isAgg2 (hf.eval rfl) hb476 rfl) ?_; clear hf a; intro a hf
                  refine Z.on hf rfl rfl ?_
                  refine Z.val hf rfl (Z.r_fieldAddrB Try.underlying86 rfl Try.sizeOf2 (hf.eval rfl) rfl) ?_; clear hf a; intro a hf
                  refine Z.on hf rfl rfl ?_
                  refine Z.val hf rfl (Z.r_loadB Try.isAgg2 (hf.eval rfl) hb465 rfl) ?_; clear hf a; intro a hf
                  refine Z.on hf rfl rfl ?_
                  refine Z.val hf rfl (Z.r_neq (hf.eval rfl) (hf.eval rfl)) ?_; clear hf a; intro a hf
                  refine Z.val hf rfl (Z.r_pick_f (hf.eval rfl) (hf.eval rfl)) ?_; clear hf a; intro a hf
                  refine Z.val hf rfl (Z.r_move (hf.eval rfl)) ?_; clear hf a; intro a hf
                  by_cases hdec : x88.2.2.2.2.2.1 ≠ x156.2.2.2.2.2.1 <;> revert hdec
                  · intro hp529
                    have hgd := hp529
                    replace hf := hf.setb (d := 66) (b' := true) rfl (decide_eq_true hp529)
                    refine Z.off hf rfl rfl rfl (by simp) ?_; clear hf a; intro a hf
                    refine Z.off hf rfl rfl rfl (by simp) ?_; clear hf a; intro a hf
                    refine Z.off hf rfl rfl rfl (by simp) ?_; clear hf a; intro a hf
                    refine Z.off hf rfl rfl rfl (by simp) ?_; clear hf a; intro a hf
                    refine Z.off hf rfl rfl rfl (by simp) ?_; clear hf a; intro a hf
                    refine Z.val hf rfl (Z.r_pick_t (hf.eval rfl) (hf.eval rfl)) ?_; clear hf a; intro a hf
                    refine Z.val hf rfl (Z.r_move (hf.eval rfl)) ?_; clear hf a; intro a hf
                    refine Z.off hf rfl rfl rfl (by simp) ?_; clear hf a; intro a hf
                    refine Z.off hf rfl rfl rfl (by simp) ?_; clear hf a; intro a hf
                    refine Z.off hf rfl rfl rfl (by simp) ?_; clear hf a; intro a hf
                    refine Z.off hf rfl rfl rfl (by simp) ?_; clear hf a; intro a hf
                    refine Z.off hf rfl rfl rfl (by simp) ?_; clear hf a; intro a hf
                    refine Z.off hf rfl rfl rfl (by simp) ?_; clear hf a; intro a hf
                    refine Z.off hf rfl rfl rfl (by simp) ?_; clear hf a; intro a hf
                    refine Z.val hf rfl (Z.r_pick_t (hf.eval rfl) (hf.eval rfl)) ?_; clear hf a; intro a hf
                    refine Z.done ?_
                    refine hn474 _ _ ?_
                    replace hf : Z.Fr a 100 [] [(2, .pointer (some ⟨g5, 0, none⟩)), (3, .pointer (some ⟨g11, 0, none⟩)), (5, .int .i64 (k49 : Int)), (6, .pointer (some ⟨g449, 0, none⟩)), (7, .pointer (some ⟨g442, 0, none⟩)), (81, .bool true)] := hf.keep [2, 3, 5, 6, 7, 81]
                    refine Z.condt hf rfl ?_
                    refine Z.seq' hp469 fun Q530 hp531 hn532 he533 => ?_
                    refine Z.reg ?_
                    refine Z.val hf rfl (Z.r_assign (hf.eval rfl)) ?_; clear hf a; intro a hf
                    refine Z.done ?_
                    refine hn532 _ _ ?_
                    replace hf : Z.Fr a 100 [] [(4, .bool false)] := hf.keep [4]
                    refine wp_ret ?_
                    refine he471 _ _ _ (by simp) ?_
                    refine he75 _ _ _ (by simp) (by simp) ?_
                    refine he70 _ _ _ (by simp) ?_
                    refine he53 _ _ _ (by simp) ?_
                    refine he45 _ _ _ (by simp) (by simp) ?_
                    refine he36 _ _ _ (by simp) ?_
                    replace hf := hf.setv (d := 4) (y := .bool (decide (x = y))) rfl (congrArg Value.bool (by first | (symm; apply decide_eq_false; intro h; first | (rw [h, heb] at hea; injection hea with hea; first | (refine hgd ?_; rw [hea]; done) | (refine hcond ?_; rw [hea]; done) | (rw [hea, hia] at hib; injection hib with hib; exact hcond hib)) | (refine hcond ?_; rw [h]; done)) | (exact Codec.same_true (Codec.take_end hp32 ht55 hp529))))
                    have hq534 : Z.Ch [] w w12 := hc10.then hc16 (by simp) (by simp)
                    have hq535 : Z.Ch [] w w46 := hq534.then hc47 (by simp) (by simp)
                    have hq536 : Z.Ch [] w w80 := hq535.then hc81 (by simp) (by simp)
                    have hq537 : Z.Ch [] w w443 := hq536.then hc447 (by simp) (by simp)
                    have hq538 : Z.Ch [] w w450 := hq537.then hc454 (by simp) (by simp)
                    have hq539 : Z.Ch [g449] w w456 := hq538.then hc459 (by simp) (by simp)
                    have hq540 : Z.Ch [g449, g442] w w463 := hq539.then hc466 (by simp) (by simp)
                    refine Z.ret1 hf Try.results45 rfl ?_
                    exact ⟨rfl, (Z.Ch.mono hq540 (by intro k hk; (try simp only [List.mem_cons, List.mem_append, List.not_mem_nil, or_false, false_or] at hk ⊢) <;> omega))⟩
                  · intro hp541
                    have hgd := hp541
                    replace hf := hf.setb (d := 66) (b' := false) rfl (decide_eq_false hp541)
                    refine Z.on hf rfl rfl ?_
                    refine Z.val hf rfl (Z.r_fieldAddrB Try.underlying86 rfl Try.sizeOf3 (hf.eval rfl) rfl) ?_; clear hf a; intro a hf
                    refine Z.on hf rfl rfl ?_
                    refine Z.val hf rfl (Z.r_loadB Try.isAgg3 (hf.eval rfl) hb476 rfl) ?_; clear hf a; intro a hf
                    refine Z.on hf rfl rfl ?_
                    refine Z.val hf rfl (Z.r_fieldAddrB Try.underlying86 rfl Try.sizeOf3 (hf.eval rfl) rfl) ?_; clear hf a; intro a hf
                    refine Z.on hf rfl rfl ?_
                    refine Z.val hf rfl (Z.r_loadB Try.isAgg3 (hf.eval rfl) hb465 rfl) ?_; clear hf a; intro a hf
                    refine Z.on hf rfl rfl ?_
                    refine Z.val hf rfl (Z.r_neq (hf.eval rfl) (hf.eval rfl)) ?_; clear hf a; intro a hf
                    refine Z.val hf rfl (Z.r_pick_f (hf.eval rfl) (hf.eval rfl)) ?_; clear hf a; intro a hf
                    refine Z.val hf rfl (Z.r_move (hf.eval rfl)) ?_; clear hf a; intro a hf
                    by_cases hdec : x88.2.2.2.2.2.2 ≠ x156.2.2.2.2.2.2 <;> revert hdec
                    · intro hp542
                      have hgd := hp542
                      replace hf := hf.setb (d := 73) (b' := true) rfl (decide_eq_true hp542)
                      refine Z.off hf rfl rfl rfl (by simp) ?_; clear hf a; intro a hf
                      refine Z.off hf rfl rfl rfl (by simp) ?_; clear hf a; intro a hf
                      refine Z.off hf rfl rfl rfl (by simp) ?_; clear hf a; intro a hf
                      refine Z.off hf rfl rfl rfl (by simp) ?_; clear hf a; intro a hf
                      refine Z.off hf rfl rfl rfl (by simp) ?_; clear hf a; intro a hf
                      refine Z.off hf rfl rfl rfl (by simp) ?_; clear hf a; intro a hf
                      refine Z.off hf rfl rfl rfl (by simp) ?_; clear hf a; intro a hf
                      refine Z.val hf rfl (Z.r_pick_t (hf.eval rfl) (hf.eval rfl)) ?_; clear hf a; intro a hf
                      refine Z.done ?_
                      refine hn474 _ _ ?_
                      replace hf : Z.Fr a 100 [] [(2, .pointer (some ⟨g5, 0, none⟩)), (3, .pointer (some ⟨g11, 0, none⟩)), (5, .int .i64 (k49 : Int)), (6, .pointer (some ⟨g449, 0, none⟩)), (7, .pointer (some ⟨g442, 0, none⟩)), (81, .bool true)] := hf.keep [2, 3, 5, 6, 7, 81]
                      refine Z.condt hf rfl ?_
                      refine Z.seq' hp469 fun Q543 hp544 hn545 he546 => ?_
                      refine Z.reg ?_
                      refine Z.val hf rfl (Z.r_assign (hf.eval rfl)) ?_; clear hf a; intro a hf
                      refine Z.done ?_
                      refine hn545 _ _ ?_
                      replace hf : Z.Fr a 100 [] [(4, .bool false)] := hf.keep [4]
                      refine wp_ret ?_
                      refine he471 _ _ _ (by simp) ?_
                      refine he75 _ _ _ (by simp) (by simp) ?_
                      refine he70 _ _ _ (by simp) ?_
                      refine he53 _ _ _ (by simp) ?_
                      refine he45 _ _ _ (by simp) (by simp) ?_
                      refine he36 _ _ _ (by simp) ?_
                      replace hf := hf.setv (d := 4) (y := .bool (decide (x = y))) rfl (congrArg Value.bool (by first | (symm; apply decide_eq_false; intro h; first | (rw [h, heb] at hea; injection hea with hea; first | (refine hgd ?_; rw [hea]; done) | (refine hcond ?_; rw [hea]; done) | (rw [hea, hia] at hib; injection hib with hib; exact hcond hib)) | (refine hcond ?_; rw [h]; done)) | (exact Codec.same_true (Codec.take_end hp32 ht55 hp542))))
                      have hq547 : Z.Ch [] w w12 := hc10.then hc16 (by simp) (by simp)
                      have hq548 : Z.Ch [] w w46 := hq547.then hc47 (by simp) (by simp)
                      have hq549 : Z.Ch [] w w80 := hq548.then hc81 (by simp) (by simp)
                      have hq550 : Z.Ch [] w w443 := hq549.then hc447 (by simp) (by simp)
                      have hq551 : Z.Ch [] w w450 := hq550.then hc454 (by simp) (by simp)
                      have hq552 : Z.Ch [g449] w w456 := hq551.then hc459 (by simp) (by simp)
                      have hq553 : Z.Ch [g449, g442] w w463 := hq552.then hc466 (by simp) (by simp)
                      refine Z.ret1 hf Try.results45 rfl ?_
                      exact ⟨rfl, (Z.Ch.mono hq553 (by intro k hk; (try simp only [List.mem_cons, List.mem_append, List.not_mem_nil, or_false, false_or] at hk ⊢) <;> omega))⟩
                    · intro hp554
                      have hgd := hp554
                      replace hf := hf.setb (d := 73) (b' := false) rfl (decide_eq_false hp554)
                      refine Z.on hf rfl rfl ?_
                      refine Z.val hf rfl (Z.r_fieldAddrB Try.underlying86 rfl Try.sizeOf29 (hf.eval rfl) rfl) ?_; clear hf a; intro a hf
                      refine Z.on hf rfl rfl ?_
                      refine Z.val hf rfl (Z.r_loadB Try.isAgg29 (hf.eval rfl) hb476 rfl) ?_; clear hf a; intro a hf
                      refine Z.on hf rfl rfl ?_
                      refine Z.val hf rfl (Z.r_len Try.underlying29 (hf.eval rfl)) ?_; clear hf a; intro a hf
                      refine Z.on hf rfl rfl ?_
                      refine Z.val hf rfl (Z.r_fieldAddrB Try.underlying86 rfl Try.sizeOf29 (hf.eval rfl) rfl) ?_; clear hf a; intro a hf
                      refine Z.on hf rfl rfl ?_
                      refine Z.val hf rfl (Z.r_loadB Try.isAgg29 (hf.eval rfl) hb465 rfl) ?_; clear hf a; intro a hf
                      refine Z.on hf rfl rfl ?_
                      refine Z.val hf rfl (Z.r_len Try.underlying29 (hf.eval rfl)) ?_; clear hf a; intro a hf
                      refine Z.on hf rfl rfl ?_
                      refine Z.val hf rfl (Z.r_neq (hf.eval rfl) (hf.eval rfl)) ?_; clear hf a; intro a hf
                      refine Z.val hf rfl (Z.r_pick_f (hf.eval rfl) (hf.eval rfl)) ?_; clear hf a; intro a hf
                      refine Z.done ?_
                      refine hn474 _ _ ?_
                      replace hf : Z.Fr a 100 [] [(2, .pointer (some ⟨g5, 0, none⟩)), (3, .pointer (some ⟨g11, 0, none⟩)), (5, .int .i64 (k49 : Int)), (6, .pointer (some ⟨g449, 0, none⟩)), (7, .pointer (some ⟨g442, 0, none⟩)), (81, .bool (decide ((x88.2.2.1.length : Int) ≠ (x156.2.2.1.length : Int))))] := hf.keep [2, 3, 5, 6, 7, 81]
                      refine Z.condp hf rfl ?_ ?_
                      · intro hp555
                        have hcond := hp555
                        refine Z.seq' hp469 fun Q556 hp557 hn558 he559 => ?_
                        refine Z.reg ?_
                        refine Z.val hf rfl (Z.r_assign (hf.eval rfl)) ?_; clear hf a; intro a hf
                        refine Z.done ?_
                        refine hn558 _ _ ?_
                        replace hf : Z.Fr a 100 [] [(4, .bool false)] := hf.keep [4]
                        refine wp_ret ?_
                        refine he471 _ _ _ (by simp) ?_
                        refine he75 _ _ _ (by simp) (by simp) ?_
                        refine he70 _ _ _ (by simp) ?_
                        refine he53 _ _ _ (by simp) ?_
                        refine he45 _ _ _ (by simp) (by simp) ?_
                        refine he36 _ _ _ (by simp) ?_
                        replace hf := hf.setv (d := 4) (y := .bool (decide (x = y))) rfl (congrArg Value.bool (by first | (symm; apply decide_eq_false; intro h; first | (rw [h, heb] at hea; injection hea with hea; first | (refine hgd ?_; rw [hea]; done) | (refine hcond ?_; rw [hea]; done) | (rw [hea, hia] at hib; injection hib with hib; exact hcond hib)) | (refine hcond ?_; rw [h]; done)) | (exact Codec.same_true (Codec.take_end hp32 ht55 hp555))))
                        have hq560 : Z.Ch [] w w12 := hc10.then hc16 (by simp) (by simp)
                        have hq561 : Z.Ch [] w w46 := hq560.then hc47 (by simp) (by simp)
                        have hq562 : Z.Ch [] w w80 := hq561.then hc81 (by simp) (by simp)
                        have hq563 : Z.Ch [] w w443 := hq562.then hc447 (by simp) (by simp)
                        have hq564 : Z.Ch [] w w450 := hq563.then hc454 (by simp) (by simp)
                        have hq565 : Z.Ch [g449] w w456 := hq564.then hc459 (by simp) (by simp)
                        have hq566 : Z.Ch [g449, g442] w w463 := hq565.then hc466 (by simp) (by simp)
                        refine Z.ret1 hf Try.results45 rfl ?_
                        exact ⟨rfl, (Z.Ch.mono hq566 (by intro k hk; (try simp only [List.mem_cons, List.mem_append, List.not_mem_nil, or_false, false_or] at hk ⊢) <;> omega))⟩
                      · intro hp567
                        have hcond := hp567
                        refine wp_skip ?_
                        refine hn470 _ _ ?_
                        replace hf : Z.Fr a 100 [] [(2, .pointer (some ⟨g5, 0, none⟩)), (3, .pointer (some ⟨g11, 0, none⟩)), (5, .int .i64 (k49 : Int)), (6, .pointer (some ⟨g449, 0, none⟩)), (7, .pointer (some ⟨g442, 0, none⟩))] := hf.keep [2, 3, 5, 6, 7]
                        refine Z.seq' hp72 fun Q568 hp569 hn570 he571 => ?_
                        refine Z.reg ?_
                        refine Z.val hf rfl (Z.r_assign (hf.eval rfl)) ?_; clear hf a; intro a hf
                        refine Z.done ?_
                        refine hn570 _ _ ?_
                        replace hf : Z.Fr a 100 [] [(2, .pointer (some ⟨g5, 0, none⟩)), (3, .pointer (some ⟨g11, 0, none⟩)), (5, .int .i64 (k49 : Int)), (6, .pointer (some ⟨g449, 0, none⟩)), (7, .pointer (some ⟨g442, 0, none⟩)), (8, .int .i64 0)] := hf.keep [2, 3, 5, 6, 7, 8]
                        refine Z.block' hp72 fun Q572 hp573 hn574 hx575 he576 => ?_
                        refine Z.loop' hp573 (fun m a wl => ∃ (j : Nat), m = x88.2.2.1.length - j ∧ Z.Ch [] w463 wl ∧ (j ≤ x88.2.2.1.length) ∧ (x88.2.2.1.take j = x156.2.2.1.take j) ∧ Z.Fr a 100 [] [(2, .pointer (some ⟨g5, 0, none⟩)), (3, .pointer (some ⟨g11, 0, none⟩)), (5, .int .i64 (k49 : Int)), (6, .pointer (some ⟨g449, 0, none⟩)), (7, .pointer (some ⟨g442, 0, none⟩)), (8, .int .i64 (j : Int))]) (x88.2.2.1.length - 0) ?_ ?_
                        · replace hf := hf.setv (d := 8) (y := .int .i64 (0 : Int)) rfl (congrArg (Value.int .i64) (by first | rfl | omega | (simp; done) | (simp; omega)))
                          replace hf : Z.Fr a 100 [] [(2, .pointer (some ⟨g5, 0, none⟩)), (3, .pointer (some ⟨g11, 0, none⟩)), (5, .int .i64 (k49 : Int)), (6, .pointer (some ⟨g449, 0, none⟩)), (7, .pointer (some ⟨g442, 0, none⟩)), (8, .int .i64 (0 : Int))] := hf.keep [2, 3, 5, 6, 7, 8]
                          exact ⟨0, rfl, (Z.Ch.refl w463), (by omega), (by simp), hf⟩
                        · rintro m587 a w577 ⟨j580, hm579, hc578, hj585, hu586, hf⟩ Q581 hp582 hn583 he584
                          have hzhc578 := hc578.size
                          refine Z.seq' hp582 fun Q588 hp589 hn590 he591 => ?_
                          refine Z.seq' hp589 fun Q592 hp593 hn594 he595 => ?_
                          refine Z.reg ?_
                          refine Z.val hf rfl (Z.r_move (hf.eval rfl)) ?_; clear hf a; intro a hf
                          refine Z.val hf rfl (Z.r_fieldAddrB Try.underlying86 rfl Try.sizeOf29 (hf.eval rfl) rfl) ?_; clear hf a; intro a hf
                          have hb596 := hb476.ch0 hc578
                          refine Z.val hf rfl (Z.r_loadB Try.isAgg29 (hf.eval rfl) hb596 rfl) ?_; clear hf a; intro a hf
                          refine Z.val hf rfl (Z.r_len Try.underlying29 (hf.eval rfl)) ?_; clear hf a; intro a hf
                          refine Z.val hf rfl (Z.r_lss (hf.eval rfl) (hf.eval rfl)) ?_; clear hf a; intro a hf
                          refine Z.done ?_
                          refine hn594 _ _ ?_
                          replace hf : Z.Fr a 100 [] [(2, .pointer (some ⟨g5, 0, none⟩)), (3, .pointer (some ⟨g11, 0, none⟩)), (5, .int .i64 (k49 : Int)), (6, .pointer (some ⟨g449, 0, none⟩)), (7, .pointer (some ⟨g442, 0, none⟩)), (8, .int .i64 (j580 : Int)), (86, .bool (decide ((j580 : Int) < (x88.2.2.1.length : Int))))] := hf.keep [2, 3, 5, 6, 7, 8, 86]
                          refine Z.condp hf rfl ?_ ?_
                          · intro hp597
                            have hcond := hp597
                            refine wp_skip ?_
                            refine hn590 _ _ ?_
                            replace hf : Z.Fr a 100 [] [(2, .pointer (some ⟨g5, 0, none⟩)), (3, .pointer (some ⟨g11, 0, none⟩)), (5, .int .i64 (k49 : Int)), (6, .pointer (some ⟨g449, 0, none⟩)), (7, .pointer (some ⟨g442, 0, none⟩)), (8, .int .i64 (j580 : Int))] := hf.keep [2, 3, 5, 6, 7, 8]
                            refine Z.seq' hp582 fun Q598 hp599 hn600 he601 => ?_
                            refine Z.block' hp599 fun Q602 hp603 hn604 hx605 he606 => ?_
                            refine Z.seq' hp603 fun Q607 hp608 hn609 he610 => ?_
                            refine Z.dr_reg (S := fun w' => Z.Ch [] w577 w') mixed ?_; intro w611 hc612 hz613
                            refine Z.dr_val 0 hf rfl rfl (by kernel_rfl) (by kernel_rfl) (by kernel_rfl) (fun _ _ _ h => hp608 _ _ _ _ _ h) hc612 Z.wanted_none (fun _ hw => Z.r_fieldAddrB Try.underlying86 rfl Try.sizeOf29 (hf.eval rfl) rfl) ?_; clear hf a; intro a hf
                            refine Z.dr_val 1 hf rfl rfl (by kernel_rfl) (by kernel_rfl) (by kernel_rfl) (fun _ _ _ h => hp608 _ _ _ _ _ h) hc612 Z.wanted_none (fun _ hw => Z.r_loadB Try.isAgg29 (hf.eval rfl) (hb596.ch0 hw) rfl) ?_; clear hf a; intro a hf
                            refine Z.dr_val 2 hf rfl rfl (by kernel_rfl) (by kernel_rfl) (by kernel_rfl) (fun _ _ _ h => hp608 _ _ _ _ _ h) hc612 Z.wanted_none (fun _ hw => Z.r_move (hf.eval rfl)) ?_; clear hf a; intro a hf
                            have hq614 : Z.Ch [g449, g442] w46 w577 := hq467.then hc578 (by simp) (by simp)
                            have hr615 : (Z.Ty.slice (Z.Ty.int .i64)).rep w577 (Z.ol [] w.heap.size) [.slice A113 x88.2.2.1.length c114] x88.2.2.1 := Z.rep_to hr111 hq614 (by intro b h1 h2; (try simp only [Z.nt, Z.iv, Z.no, Z.ol, List.mem_cons, List.not_mem_nil, or_false, not_or, not_false_eq_true] at h1); (try simp only [Z.nt, Z.iv, Z.no, Z.ol, List.mem_cons, List.mem_append, List.not_mem_nil, or_false, not_or, not_false_eq_true, true_and, and_true]) <;> omega)
                            have hkx618 : j580 < (x88.2.2.1).length := (by omega)
                            obtain ⟨ad616, es617, x618, hA619, hF620, hl621, hx622, hc623, hr624⟩ := Z.rep_el hr615 hkx618
                            have hok625 := Z.rep_ok _ hr624
                            have he626 := hr624.1
                            have he627 : es617 = [.int .i64 x618] := by simp only [he626, List.cons_append, List.nil_append]
                            rw [he627] at hc623
                            have hia := hx622
                            refine Z.dr_val 3 hf rfl rfl (by kernel_rfl) (by kernel_rfl) (by kernel_rfl) (fun _ _ _ h => hp608 _ _ _ _ _ h) hc612 Z.wanted_none (fun _ hw => Z.r_indexAddrE Try.underlying29 Try.sizeOf3 (hf.eval rfl) hA619 (hf.eval rfl) (k := j580) (by first | rfl | omega) (by omega)) ?_; clear hf a; intro a hf
                            refine Z.dr_val 4 hf rfl rfl (by kernel_rfl) (by kernel_rfl) (by kernel_rfl) (fun _ _ _ h => hp608 _ _ _ _ _ h) hc612 Z.wanted_none (fun _ hw => Z.r_loadE1 Try.isAgg3 (hf.eval rfl) (hc623.ch0 hw) rfl) ?_; clear hf a; intro a hf
                            refine Z.dr_val 5 hf rfl rfl (by kernel_rfl) (by kernel_rfl) (by kernel_rfl) (fun _ _ _ h => hp608 _ _ _ _ _ h) hc612 Z.wanted_none (fun _ hw => Z.r_fieldAddrB Try.underlying86 rfl Try.sizeOf29 (hf.eval rfl) rfl) ?_; clear hf a; intro a hf
                            have hb628 := hb465.ch0 hc578
                            refine Z.dr_val 6 hf rfl rfl (by kernel_rfl) (by kernel_rfl) (by kernel_rfl) (fun _ _ _ h => hp608 _ _ _ _ _ h) hc612 Z.wanted_none (fun _ hw => Z.r_loadB Try.isAgg29 (hf.eval rfl) (hb628.ch0 hw) rfl) ?_; clear hf a; intro a hf
                            refine Z.dr_val 7 hf rfl rfl (by kernel_rfl) (by kernel_rfl) (by kernel_rfl) (fun _ _ _ h => hp608 _ _ _ _ _ h) hc612 Z.wanted_none (fun _ hw => Z.r_move (hf.eval rfl)) ?_; clear hf a; intro a hf
                            have hq629 : Z.Ch [g449, g442] w46 w577 := hq467.then hc578 (by simp) (by simp)
                            have hr630 : (Z.Ty.slice (Z.Ty.int .i64)).rep w577 (Z.ol [] w.heap.size) [.slice A181 x156.2.2.1.length c182] x156.2.2.1 := Z.rep_to hr179 hq629 (by intro b h1 h2; (try simp only [Z.nt, Z.iv, Z.no, Z.ol, List.mem_cons, List.not_mem_nil, or_false, not_or, not_false_eq_true] at h1); (try simp only [Z.nt, Z.iv, Z.no, Z.ol, List.mem_cons, List.mem_append, List.not_mem_nil, or_false, not_or, not_false_eq_true, true_and, and_true]) <;> omega)
                            have hkx633 : j580 < (x156.2.2.1).length := (by omega)
                            obtain ⟨ad631, es632, x633, hA634, hF635, hl636, hx637, hc638, hr639⟩ := Z.rep_el hr630 hkx633
                            have hok640 := Z.rep_ok _ hr639
                            have he641 := hr639.1
                            have he642 : es632 = [.int .i64 x633] := by simp only [he641, List.cons_append, List.nil_append]
                            rw [he642] at hc638
                            have hib := hx637
                            refine Z.dr_val 8 hf rfl rfl (by kernel_rfl) (by kernel_rfl) (by kernel_rfl) (fun _ _ _ h => hp608 _ _ _ _ _ h) hc612 Z.wanted_none (fun _ hw => Z.r_indexAddrE Try.underlying29 Try.sizeOf3 (hf.eval rfl) hA634 (hf.eval rfl) (k := j580) (by first | rfl | omega) (by omega)) ?_; clear hf a; intro a hf
                            refine Z.dr_val 9 hf rfl rfl (by kernel_rfl) (by kernel_rfl) (by kernel_rfl) (fun _ _ _ h => hp608 _ _ _ _ _ h) hc612 Z.wanted_none (fun _ hw => Z.r_loadE1 Try.isAgg3 (hf.eval rfl) (hc638.ch0 hw) rfl) ?_; clear hf a; intro a hf
                            refine Z.dr_val 10 hf rfl rfl (by kernel_rfl) (by kernel_rfl) (by kernel_rfl) (fun _ _ _ h => hp608 _ _ _ _ _ h) hc612 Z.wanted_none (fun _ hw => Z.r_neq (hf.eval rfl) (hf.eval rfl)) ?_; clear hf a; intro a hf
                            refine Z.dr_done (by kernel_rfl) ?_
                            refine hn609 _ _ ?_
                            replace hf : Z.Fr a 100 [] [(2, .pointer (some ⟨g5, 0, none⟩)), (3, .pointer (some ⟨g11, 0, none⟩)), (5, .int .i64 (k49 : Int)), (6, .pointer (some ⟨g449, 0, none⟩)), (7, .pointer (some ⟨g442, 0, none⟩)), (8, .int .i64 (j580 : Int)), (99, .bool (decide (x618 ≠ x633)))] := hf.keep [2, 3, 5, 6, 7, 8, 99]
                            refine Z.condp hf rfl ?_ ?_
                            · intro hp643
                              have hcond := hp643
                              refine Z.seq' hp603 fun Q644 hp645 hn646 he647 => ?_
                              refine Z.reg ?_
                              refine Z.val hf rfl (Z.r_assign (hf.eval rfl)) ?_; clear hf a; intro a hf
                              refine Z.done ?_
                              refine hn646 _ _ ?_
                              replace hf : Z.Fr a 100 [] [(4, .bool false)] := hf.keep [4]
                              refine wp_ret ?_
                              refine he606 _ _ _ (by simp) (by simp) ?_
                              refine he601 _ _ _ (by simp) ?_
                              refine he584 _ _ _ (by simp) ?_
                              refine he576 _ _ _ (by simp) (by simp) ?_
                              refine he75 _ _ _ (by simp) (by simp) ?_
                              refine he70 _ _ _ (by simp) ?_
                              refine he53 _ _ _ (by simp) ?_
                              refine he45 _ _ _ (by simp) (by simp) ?_
                              refine he36 _ _ _ (by simp) ?_
                              replace hf := hf.setv (d := 4) (y := .bool (decide (x = y))) rfl (congrArg Value.bool (by first | (symm; apply decide_eq_false; intro h; first | (rw [h, heb] at hea; injection hea with hea; first | (refine hgd ?_; rw [hea]; done) | (refine hcond ?_; rw [hea]; done) | (rw [hea, hia] at hib; injection hib with hib; exact hcond hib)) | (refine hcond ?_; rw [h]; done)) | (exact Codec.same_true (Codec.take_end hp32 ht55 hp643))))
                              have hq648 : Z.Ch [] w w12 := hc10.then hc16 (by simp) (by simp)
                              have hq649 : Z.Ch [] w w46 := hq648.then hc47 (by simp) (by simp)
                              have hq650 : Z.Ch [] w w80 := hq649.then hc81 (by simp) (by simp)
                              have hq651 : Z.Ch [] w w443 := hq650.then hc447 (by simp) (by simp)
                              have hq652 : Z.Ch [] w w450 := hq651.then hc454 (by simp) (by simp)
                              have hq653 : Z.Ch [g449] w w456 := hq652.then hc459 (by simp) (by simp)
                              have hq654 : Z.Ch [g449, g442] w w463 := hq653.then hc466 (by simp) (by simp)
                              have hq655 : Z.Ch [g449, g442] w w577 := hq654.then hc578 (by simp) (by simp)
                              have hq656 : Z.Ch [g449, g442] w w611 := hq655.then hc612 (by simp) (by simp)
                              refine Z.ret1 hf Try.results45 rfl ?_
                              exact ⟨rfl, (Z.Ch.mono hq656 (by intro k hk; (try simp only [List.mem_cons, List.mem_append, List.not_mem_nil, or_false, false_or] at hk ⊢) <;> omega))⟩
                            · intro hp657
                              have hcond := hp657
                              refine wp_skip ?_
                              refine hn604 _ _ ?_
                              refine hn600 _ _ ?_
                              replace hf : Z.Fr a 100 [] [(2, .pointer (some ⟨g5, 0, none⟩)), (3, .pointer (some ⟨g11, 0, none⟩)), (5, .int .i64 (k49 : Int)), (6, .pointer (some ⟨g449, 0, none⟩)), (7, .pointer (some ⟨g442, 0, none⟩)), (8, .int .i64 (j580 : Int))] := hf.keep [2, 3, 5, 6, 7, 8]
                              refine Z.reg ?_
                              refine Z.val hf rfl (Z.r_move (hf.eval rfl)) ?_; clear hf a; intro a hf
                              refine Z.val hf rfl (Z.r_add64 (hf.eval rfl) (hf.eval rfl) (by omega)) ?_; clear hf a; intro a hf
                              refine Z.val hf rfl (Z.r_assign (hf.eval rfl)) ?_; clear hf a; intro a hf
                              refine Z.done ?_
                              refine hn583 (x88.2.2.1.length - (j580 + 1)) _ _ ?_ ?_
                              rotate_left
                              replace hf := hf.setv (d := 8) (y := .int .i64 ((j580 + 1 : Nat) : Int)) rfl (congrArg (Value.int .i64) (by first | rfl | omega | (simp; done) | (simp; omega)))
                              have hq658 : Z.Ch [] w463 w611 := hc578.then hc612 (by simp) (by simp)
                              replace hf : Z.Fr a 100 [] [(2, .pointer (some ⟨g5, 0, none⟩)), (3, .pointer (some ⟨g11, 0, none⟩)), (5, .int .i64 (k49 : Int)), (6, .pointer (some ⟨g449, 0, none⟩)), (7, .pointer (some ⟨g442, 0, none⟩)), (8, .int .i64 ((j580 + 1 : Nat) : Int))] := hf.keep [2, 3, 5, 6, 7, 8]
                              exact ⟨j580 + 1, rfl, hq658, (by omega), (by exact Codec.take_step hu586 hia hib hcond), hf⟩
                              rw [hm579]; omega
                          · intro hp659
                            have hcond := hp659
                            refine wp_exit ?_
                            refine he591 _ _ _ (by simp) ?_
                            refine he584 _ _ _ (by simp) ?_
                            refine hx575 _ _ ?_
                            refine hn73 _ _ ?_
                            refine hn69 _ _ ?_
                            replace hf : Z.Fr a 100 [] [(2, .pointer (some ⟨g5, 0, none⟩)), (3, .pointer (some ⟨g11, 0, none⟩)), (5, .int .i64 (k49 : Int))] := hf.keep [2, 3, 5]
                            refine Z.reg ?_
                            refine Z.val hf rfl (Z.r_move (hf.eval rfl)) ?_; clear hf a; intro a hf
                            refine Z.val hf rfl (Z.r_add64 (hf.eval rfl) (hf.eval rfl) (by omega)) ?_; clear hf a; intro a hf
                            refine Z.val hf rfl (Z.r_assign (hf.eval rfl)) ?_; clear hf a; intro a hf
                            refine Z.done ?_
                            refine hn52 (x.length - (k49 + 1)) _ _ ?_ ?_
                            rotate_left
                            replace hf := hf.setv (d := 5) (y := .int .i64 ((k49 + 1 : Nat) : Int)) rfl (congrArg (Value.int .i64) (by first | rfl | omega | (simp; done) | (simp; omega)))
                            have hq660 : Z.Ch [] w12 w80 := hc47.then hc81 (by simp) (by simp)
                            have hq661 : Z.Ch [] w12 w443 := hq660.then hc447 (by simp) (by simp)
                            have hq662 : Z.Ch [] w12 w450 := hq661.then hc454 (by simp) (by simp)
                            have hq663 : Z.Ch [g449] w12 w456 := hq662.then hc459 (by simp) (by simp)
                            have hq664 : Z.Ch [g449, g442] w12 w463 := hq663.then hc466 (by simp) (by simp)
                            have hq665 : Z.Ch [g449, g442] w12 w577 := hq664.then hc578 (by simp) (by simp)
                            replace hf : Z.Fr a 100 [] [(2, .pointer (some ⟨g5, 0, none⟩)), (3, .pointer (some ⟨g11, 0, none⟩)), (5, .int .i64 ((k49 + 1 : Nat) : Int))] := hf.keep [2, 3, 5]
                            exact ⟨k49 + 1, rfl, (hq665.mono (by intro k hk; (try simp only [List.mem_cons, List.mem_append, List.not_mem_nil, or_false, false_or] at hk ⊢) <;> omega)), (by omega), (by exact Codec.take_step ht55 hea heb (fun hne => hne (Codec.node_ext (Codec.not_ne hp489) (Codec.not_ne hp502) (Codec.not_ne hp515) (Codec.not_ne hp528) (Codec.not_ne hp541) (Codec.not_ne hp554) (Codec.take_end hp567 hu586 hp659)))), hf⟩
                            rw [hm48]; omega
      · intro hp666
        have hcond := hp666
        refine wp_exit ?_
        refine he60 _ _ _ (by simp) ?_
        refine he53 _ _ _ (by simp) ?_
        refine hx44 _ _ ?_
        refine hn35 _ _ ?_
        replace hf : Z.Fr a 100 [] [] := hf.keep []
        refine Z.seq' (Z.Pq.body _ _ _) fun Q667 hp668 hn669 he670 => ?_
        refine Z.reg ?_
        refine Z.val hf rfl (Z.r_assign (hf.eval rfl)) ?_; clear hf a; intro a hf
        refine Z.done ?_
        refine hn669 _ _ ?_
        replace hf : Z.Fr a 100 [] [(4, .bool true)] := hf.keep [4]
        refine wp_ret ?_
        replace hf := hf.setv (d := 4) (y := .bool (decide (x = y))) rfl (congrArg Value.bool (by first | (symm; apply decide_eq_false; intro h; first | (rw [h, heb] at hea; injection hea with hea; first | (refine hgd ?_; rw [hea]; done) | (refine hcond ?_; rw [hea]; done) | (rw [hea, hia] at hib; injection hib with hib; exact hcond hib)) | (refine hcond ?_; rw [h]; done)) | (exact Codec.same_true (Codec.take_end hp32 ht55 hp666))))
        have hq671 : Z.Ch [] w w12 := hc10.then hc16 (by simp) (by simp)
        have hq672 : Z.Ch [] w w46 := hq671.then hc47 (by simp) (by simp)
        refine Z.ret1 hf Try.results45 rfl ?_
        exact ⟨rfl, hq672⟩

set_option maxHeartbeats 400000 in
set_option maxRecDepth 20000 in
theorem SameDelta_spec (x : ((List Int) × (List (Int × Int × (List Int) × (Int × Int × ByteArray) × ByteArray × Int × Int)) × (List (Int × Int × Int × Int × (Int × Int × ByteArray))))) (y : ((List Int) × (List (Int × Int × (List Int) × (Int × Int × ByteArray) × ByteArray × Int × Int)) × (List (Int × Int × Int × Int × (Int × Int × ByteArray))))) (w : World) (pA0 : Option Addr) (pc0 : Nat) (pA1 : Option Addr) (pc1 : Nat) (pA2 : Option Addr) (pc2 : Nat) (pA3 : Option Addr) (pc3 : Nat) (pA4 : Option Addr) (pc4 : Nat) (pA5 : Option Addr) (pc5 : Nat) (ph0 : (Z.Ty.slice (Z.Ty.int .i64)).rep w (Z.nt []) [.slice pA0 x.1.length pc0] x.1) (ph1 : (Z.Ty.slice (Z.Ty.pair (Z.Ty.int .i64) (Z.Ty.pair (Z.Ty.int .i64) (Z.Ty.pair (Z.Ty.slice (Z.Ty.int .i64)) (Z.Ty.pair (Z.Ty.pair (Z.Ty.int .i64) (Z.Ty.pair (Z.Ty.int .i64) Z.Ty.str)) (Z.Ty.pair Z.Ty.str (Z.Ty.pair (Z.Ty.int .i64) (Z.Ty.int .i64)))))))).rep w (Z.nt []) [.slice pA1 x.2.1.length pc1] x.2.1) (ph2 : (Z.Ty.slice (Z.Ty.pair (Z.Ty.int .i64) (Z.Ty.pair (Z.Ty.int .i64) (Z.Ty.pair (Z.Ty.int .i64) (Z.Ty.pair (Z.Ty.int .i64) (Z.Ty.pair (Z.Ty.int .i64) (Z.Ty.pair (Z.Ty.int .i64) Z.Ty.str))))))).rep w (Z.nt []) [.slice pA2 x.2.2.length pc2] x.2.2) (pk3 : Z.Ty.ok (Z.Ty.pair (Z.Ty.slice (Z.Ty.int .i64)) (Z.Ty.pair (Z.Ty.slice (Z.Ty.pair (Z.Ty.int .i64) (Z.Ty.pair (Z.Ty.int .i64) (Z.Ty.pair (Z.Ty.slice (Z.Ty.int .i64)) (Z.Ty.pair (Z.Ty.pair (Z.Ty.int .i64) (Z.Ty.pair (Z.Ty.int .i64) Z.Ty.str)) (Z.Ty.pair Z.Ty.str (Z.Ty.pair (Z.Ty.int .i64) (Z.Ty.int .i64)))))))) (Z.Ty.slice (Z.Ty.pair (Z.Ty.int .i64) (Z.Ty.pair (Z.Ty.int .i64) (Z.Ty.pair (Z.Ty.int .i64) (Z.Ty.pair (Z.Ty.int .i64) (Z.Ty.pair (Z.Ty.int .i64) (Z.Ty.pair (Z.Ty.int .i64) Z.Ty.str))))))))) x) (ph3 : (Z.Ty.slice (Z.Ty.int .i64)).rep w (Z.nt []) [.slice pA3 y.1.length pc3] y.1) (ph4 : (Z.Ty.slice (Z.Ty.pair (Z.Ty.int .i64) (Z.Ty.pair (Z.Ty.int .i64) (Z.Ty.pair (Z.Ty.slice (Z.Ty.int .i64)) (Z.Ty.pair (Z.Ty.pair (Z.Ty.int .i64) (Z.Ty.pair (Z.Ty.int .i64) Z.Ty.str)) (Z.Ty.pair Z.Ty.str (Z.Ty.pair (Z.Ty.int .i64) (Z.Ty.int .i64)))))))).rep w (Z.nt []) [.slice pA4 y.2.1.length pc4] y.2.1) (ph5 : (Z.Ty.slice (Z.Ty.pair (Z.Ty.int .i64) (Z.Ty.pair (Z.Ty.int .i64) (Z.Ty.pair (Z.Ty.int .i64) (Z.Ty.pair (Z.Ty.int .i64) (Z.Ty.pair (Z.Ty.int .i64) (Z.Ty.pair (Z.Ty.int .i64) Z.Ty.str))))))).rep w (Z.nt []) [.slice pA5 y.2.2.length pc5] y.2.2) (pk7 : Z.Ty.ok (Z.Ty.pair (Z.Ty.slice (Z.Ty.int .i64)) (Z.Ty.pair (Z.Ty.slice (Z.Ty.pair (Z.Ty.int .i64) (Z.Ty.pair (Z.Ty.int .i64) (Z.Ty.pair (Z.Ty.slice (Z.Ty.int .i64)) (Z.Ty.pair (Z.Ty.pair (Z.Ty.int .i64) (Z.Ty.pair (Z.Ty.int .i64) Z.Ty.str)) (Z.Ty.pair Z.Ty.str (Z.Ty.pair (Z.Ty.int .i64) (Z.Ty.int .i64)))))))) (Z.Ty.slice (Z.Ty.pair (Z.Ty.int .i64) (Z.Ty.pair (Z.Ty.int .i64) (Z.Ty.pair (Z.Ty.int .i64) (Z.Ty.pair (Z.Ty.int .i64) (Z.Ty.pair (Z.Ty.int .i64) (Z.Ty.pair (Z.Ty.int .i64) Z.Ty.str))))))))) y)  :
    Calls Try.prog 23 #[.agg #[.slice pA0 x.1.length pc0, .slice pA1 x.2.1.length pc1, .slice pA2 x.2.2.length pc2], .agg #[.slice pA3 y.1.length pc3, .slice pA4 y.2.1.length pc4, .slice pA5 y.2.2.length pc5]] w fun e w' => e = .returned (.bool (decide (x = y))) ∧ Z.Ch [] w w' := by
  refine Z.enter Try.func23 rfl Try.ntmps23 (Nat.le_of_ble_eq_true rfl) fun a hf => ?_
  replace hf : Z.Fr a 49 [] [(0, .agg #[.slice pA0 x.1.length pc0, .slice pA1 x.2.1.length pc1, .slice pA2 x.2.2.length pc2]), (1, .agg #[.slice pA3 y.1.length pc3, .slice pA4 y.2.1.length pc4, .slice pA5 y.2.2.length pc5])] := hf
  have hle_pA0 := Z.rep_le ph0
  have ph0o := Z.rep_ol ph0
  have hle_pA1 := Z.rep_le ph1
  have ph1o := Z.rep_ol ph1
  have hle_pA2 := Z.rep_le ph2
  have ph2o := Z.rep_ol ph2
  have hle_pA3 := Z.rep_le ph3
  have ph3o := Z.rep_ol ph3
  have hle_pA4 := Z.rep_le ph4
  have ph4o := Z.rep_ol ph4
  have hle_pA5 := Z.rep_le ph5
  have ph5o := Z.rep_ol ph5
  refine Z.seq' (Z.Pq.body _ _ _) fun Q1 hp2 hn3 he4 => ?_
  refine Z.reg ?_
  refine Z.st_box hf rfl rfl rfl ?_; clear hf a; intro g5 w6 a hg7 hz8 hb9 hc10 hf
  refine Z.st_box hf rfl rfl rfl ?_; clear hf a; intro g11 w12 a hg13 hz14 hb15 hc16 hf
  refine Z.val hf rfl (Z.r_assign (hf.eval rfl)) ?_; clear hf a; intro a hf
  refine Z.done ?_
  refine hn3 _ _ ?_
  replace hf : Z.Fr a 49 [] [(2, .pointer (some ⟨g5, 0, none⟩)), (3, .pointer (some ⟨g11, 0, none⟩))] := hf.keep [2, 3]
  refine Z.seq' (Z.Pq.body _ _ _) fun Q17 hp18 hn19 he20 => ?_
  refine Z.seq' hp18 fun Q21 hp22 hn23 he24 => ?_
  refine Z.reg ?_
  refine Z.val hf rfl (Z.r_fieldAddrB Try.underlying33 rfl Try.sizeOf29 (hf.eval rfl) rfl) ?_; clear hf a; intro a hf
  have hb25 := hb9.ch0 hc16
  refine Z.val hf rfl (Z.r_loadB Try.isAgg29 (hf.eval rfl) hb25 rfl) ?_; clear hf a; intro a hf
  refine Z.val hf rfl (Z.r_len Try.underlying29 (hf.eval rfl)) ?_; clear hf a; intro a hf
  refine Z.val hf rfl (Z.r_fieldAddrB Try.underlying33 rfl Try.sizeOf29 (hf.eval rfl) rfl) ?_; clear hf a; intro a hf
  refine Z.val hf rfl (Z.r_loadB Try.isAgg29 (hf.eval rfl) hb15 rfl) ?_; clear hf a; intro a hf
  refine Z.val hf rfl (Z.r_len Try.underlying29 (hf.eval rfl)) ?_; clear hf a; intro a hf
  refine Z.val hf rfl (Z.r_neq (hf.eval rfl) (hf.eval rfl)) ?_; clear hf a; intro a hf
  refine Z.val hf rfl (Z.r_move (hf.eval rfl)) ?_; clear hf a; intro a hf
  by_cases hdec : (x.1.length : Int) ≠ (y.1.length : Int) <;> revert hdec
  · intro hp26
    have hgd := hp26
    replace hf := hf.setb (d := 13) (b' := true) rfl (decide_eq_true hp26)
    refine Z.off hf rfl rfl rfl (by simp) ?_; clear hf a; intro a hf
    refine Z.off hf rfl rfl rfl (by simp) ?_; clear hf a; intro a hf
    refine Z.off hf rfl rfl rfl (by simp) ?_; clear hf a; intro a hf
    refine Z.off hf rfl rfl rfl (by simp) ?_; clear hf a; intro a hf
    refine Z.off hf rfl rfl rfl (by simp) ?_; clear hf a; intro a hf
    refine Z.off hf rfl rfl rfl (by simp) ?_; clear hf a; intro a hf
    refine Z.off hf rfl rfl rfl (by simp) ?_; clear hf a; intro a hf
    refine Z.off hf rfl rfl rfl (by simp) ?_; clear hf a; intro a hf
    refine Z.val hf rfl (Z.r_pick_t (hf.eval rfl) (hf.eval rfl)) ?_; clear hf a; intro a hf
    refine Z.val hf rfl (Z.r_move (hf.eval rfl)) ?_; clear hf a; intro a hf
    refine Z.off hf rfl rfl rfl (by simp) ?_; clear hf a; intro a hf
    refine Z.off hf rfl rfl rfl (by simp) ?_; clear hf a; intro a hf
    refine Z.off hf rfl rfl rfl (by simp) ?_; clear hf a; intro a hf
    refine Z.off hf rfl rfl rfl (by simp) ?_; clear hf a; intro a hf
    refine Z.off hf rfl rfl rfl (by simp) ?_; clear hf a; intro a hf
    refine Z.off hf rfl rfl rfl (by simp) ?_; clear hf a; intro a hf
    refine Z.val hf rfl (Z.r_pick_t (hf.eval rfl) (hf.eval rfl)) ?_; clear hf a; intro a hf
    refine Z.done ?_
    refine hn23 _ _ ?_
    replace hf : Z.Fr a 49 [] [(2, .pointer (some ⟨g5, 0, none⟩)), (3, .pointer (some ⟨g11, 0, none⟩)), (30, .bool true)] := hf.keep [2, 3, 30]
    refine Z.condt hf rfl ?_
    refine Z.seq' hp18 fun Q27 hp28 hn29 he30 => ?_
    refine Z.reg ?_
    refine Z.val hf rfl (Z.r_assign (hf.eval rfl)) ?_; clear hf a; intro a hf
    refine Z.done ?_
    refine hn29 _ _ ?_
    replace hf : Z.Fr a 49 [] [(4, .bool false)] := hf.keep [4]
    refine wp_ret ?_
    refine he20 _ _ _ (by simp) ?_
    replace hf := hf.setv (d := 4) (y := .bool (decide (x = y))) rfl (congrArg Value.bool (by first | (symm; apply decide_eq_false; intro h; first | (refine hgd ?_; rw [h]; done) | (refine hcond ?_; rw [h]; done) | (simp only [Bool.not_eq_true', decide_eq_false_iff_not] at hgd; refine hgd ?_; rw [h]; done) | (simp only [Bool.not_eq_true', decide_eq_false_iff_not] at hcond; refine hcond ?_; rw [h]; done) | (rw [h, heb] at hea; injection hea with hea; exact hcond hea.symm)) | (exact Codec.same_true (Codec.delta_ext (by simpa using hNONE) (by simpa using hNONE) (Codec.take_end hp26 ht hp26)))))
    have hq31 : Z.Ch [] w w12 := hc10.then hc16 (by simp) (by simp)
    refine Z.ret1 hf Try.results23 rfl ?_
    exact ⟨rfl, hq31⟩
  · intro hp32
    have hgd := hp32
    replace hf := hf.setb (d := 13) (b' := false) rfl (decide_eq_false hp32)
    refine Z.on hf rfl rfl ?_
    refine Z.val hf rfl (Z.r_fieldAddrB Try.underlying33 rfl Try.sizeOf30 (hf.eval rfl) rfl) ?_; clear hf a; intro a hf
    refine Z.on hf rfl rfl ?_
    refine Z.val hf rfl (Z.r_loadB Try.isAgg30 (hf.eval rfl) hb25 rfl) ?_; clear hf a; intro a hf
    refine Z.on hf rfl rfl ?_
    refine Z.val hf rfl (Z.r_build hf Try.underlying101 Try.zeroValue101 (parts := [(0, .tmp 15)]) rfl (pl := #[(0, 1)]) (fun _ => by kernel_rfl) rfl) ?_; clear hf a; intro a hf
    refine Z.on hf rfl rfl ?_
    refine Z.val hf rfl (Z.r_fieldAddrB Try.underlying33 rfl Try.sizeOf30 (hf.eval rfl) rfl) ?_; clear hf a; intro a hf
    refine Z.on hf rfl rfl ?_
    refine Z.val hf rfl (Z.r_loadB Try.isAgg30 (hf.eval rfl) hb15 rfl) ?_; clear hf a; intro a hf
    refine Z.on hf rfl rfl ?_
    refine Z.val hf rfl (Z.r_build hf Try.underlying101 Try.zeroValue101 (parts := [(0, .tmp 18)]) rfl (pl := #[(0, 1)]) (fun _ => by kernel_rfl) rfl) ?_; clear hf a; intro a hf
    refine Z.on hf rfl rfl ?_
    have hq33 : Z.Ch [] w w12 := hc10.then hc16 (by simp) (by simp)
    have hr34 : (Z.Ty.slice (Z.Ty.pair (Z.Ty.int .i64) (Z.Ty.pair (Z.Ty.int .i64) (Z.Ty.pair (Z.Ty.slice (Z.Ty.int .i64)) (Z.Ty.pair (Z.Ty.pair (Z.Ty.int .i64) (Z.Ty.pair (Z.Ty.int .i64) Z.Ty.str)) (Z.Ty.pair Z.Ty.str (Z.Ty.pair (Z.Ty.int .i64) (Z.Ty.int .i64)))))))).rep w12 (Z.nt []) [.slice pA1 x.2.1.length pc1] x.2.1 := Z.rep_to ph1o hq33 (by intro b h1 h2; (try simp only [Z.nt, Z.iv, Z.no, Z.ol, List.mem_cons, List.not_mem_nil, or_false, not_or, not_false_eq_true] at h1); (try simp only [Z.nt, Z.iv, Z.no, Z.ol, List.mem_cons, List.mem_append, List.not_mem_nil, or_false, not_or, not_false_eq_true, true_and, and_true]) <;> omega)
    have hr35 : (Z.Ty.slice (Z.Ty.pair (Z.Ty.int .i64) (Z.Ty.pair (Z.Ty.int .i64) (Z.Ty.pair (Z.Ty.slice (Z.Ty.int .i64)) (Z.Ty.pair (Z.Ty.pair (Z.Ty.int .i64) (Z.Ty.pair (Z.Ty.int .i64) Z.Ty.str)) (Z.Ty.pair Z.Ty.str (Z.Ty.pair (Z.Ty.int .i64) (Z.Ty.int .i64)))))))).rep w12 (Z.nt []) [.slice pA4 y.2.1.length pc4] y.2.1 := Z.rep_to ph4o hq33 (by intro b h1 h2; (try simp only [Z.nt, Z.iv, Z.no, Z.ol, List.mem_cons, List.not_mem_nil, or_false, not_or, not_false_eq_true] at h1); (try simp only [Z.nt, Z.iv, Z.no, Z.ol, List.mem_cons, List.mem_append, List.not_mem_nil, or_false, not_or, not_false_eq_true, true_and, and_true]) <;> omega)
    have hcall := Same_spec (x.2.1) (y.2.1) w12 (pA1) (pc1) (pA4) (pc4) hr34 pk3.2.1 hr35 pk7.2.1
    refine Z.call1 hf rfl (Z.r_call cf45 hf (xs := [.tmp 16, .tmp 19]) rfl) hcall ?_; clear hcall hf a
    rintro _ w36 ⟨rfl, hc37⟩
    have hzhc37 := hc37.size
    refine ⟨_, rfl, ?_⟩; intro a hf
    refine Z.on hf rfl rfl ?_
    refine Z.val hf rfl (Z.r_not (hf.eval rfl)) ?_; clear hf a; intro a hf
    refine Z.val hf rfl (Z.r_pick_f (hf.eval rfl) (hf.eval rfl)) ?_; clear hf a; intro a hf
    refine Z.val hf rfl (Z.r_move (hf.eval rfl)) ?_; clear hf a; intro a hf
    cases hdec : (!(decide (x.2.1 = y.2.1))) <;> revert hdec
    · intro hp38
      have hgd := hp38
      replace hf := hf.setb (d := 23) (b' := false) rfl hp38
      refine Z.on hf rfl rfl ?_
      refine Z.val hf rfl (Z.r_fieldAddrB Try.underlying33 rfl Try.sizeOf31 (hf.eval rfl) rfl) ?_; clear hf a; intro a hf
      refine Z.on hf rfl rfl ?_
      have hb39 := hb25.ch0 hc37
      refine Z.val hf rfl (Z.r_loadB Try.isAgg31 (hf.eval rfl) hb39 rfl) ?_; clear hf a; intro a hf
      refine Z.on hf rfl rfl ?_
      refine Z.val hf rfl (Z.r_fieldAddrB Try.underlying33 rfl Try.sizeOf31 (hf.eval rfl) rfl) ?_; clear hf a; intro a hf
      refine Z.on hf rfl rfl ?_
      have hb40 := hb15.ch0 hc37
      refine Z.val hf rfl (Z.r_loadB Try.isAgg31 (hf.eval rfl) hb40 rfl) ?_; clear hf a; intro a hf
      refine Z.on hf rfl rfl ?_
      have hq41 : Z.Ch [] w w36 := hq33.then hc37 (by simp) (by simp)
      have hr42 : (Z.Ty.slice (Z.Ty.pair (Z.Ty.int .i64) (Z.Ty.pair (Z.Ty.int .i64) (Z.Ty.pair (Z.Ty.int .i64) (Z.Ty.pair (Z.Ty.int .i64) (Z.Ty.pair (Z.Ty.int .i64) (Z.Ty.pair (Z.Ty.int .i64) Z.Ty.str))))))).rep w36 (Z.nt []) [.slice pA2 x.2.2.length pc2] x.2.2 := Z.rep_to ph2o hq41 (by intro b h1 h2; (try simp only [Z.nt, Z.iv, Z.no, Z.ol, List.mem_cons, List.not_mem_nil, or_false, not_or, not_false_eq_true] at h1); (try simp only [Z.nt, Z.iv, Z.no, Z.ol, List.mem_cons, List.mem_append, List.not_mem_nil, or_false, not_or, not_false_eq_true, true_and, and_true]) <;> omega)
      have hr43 : (Z.Ty.slice (Z.Ty.pair (Z.Ty.int .i64) (Z.Ty.pair (Z.Ty.int .i64) (Z.Ty.pair (Z.Ty.int .i64) (Z.Ty.pair (Z.Ty.int .i64) (Z.Ty.pair (Z.Ty.int .i64) (Z.Ty.pair (Z.Ty.int .i64) Z.Ty.str))))))).rep w36 (Z.nt []) [.slice pA5 y.2.2.length pc5] y.2.2 := Z.rep_to ph5o hq41 (by intro b h1 h2; (try simp only [Z.nt, Z.iv, Z.no, Z.ol, List.mem_cons, List.not_mem_nil, or_false, not_or, not_false_eq_true] at h1); (try simp only [Z.nt, Z.iv, Z.no, Z.ol, List.mem_cons, List.mem_append, List.not_mem_nil, or_false, not_or, not_false_eq_true, true_and, and_true]) <;> omega)
      have hcall := SameMoves_spec (x.2.2) (y.2.2) w36 (pA2) (pc2) (pA5) (pc5) hr42 hr43
      refine Z.call1 hf rfl (Z.r_call cf46 hf (xs := [.tmp 25, .tmp 27]) rfl) hcall ?_; clear hcall hf a
      rintro _ w44 ⟨rfl, hc45⟩
      have hzhc45 := hc45.size
      refine ⟨_, rfl, ?_⟩; intro a hf
      refine Z.on hf rfl rfl ?_
      refine Z.val hf rfl (Z.r_not (hf.eval rfl)) ?_; clear hf a; intro a hf
      refine Z.val hf rfl (Z.r_pick_f (hf.eval rfl) (hf.eval rfl)) ?_; clear hf a; intro a hf
      refine Z.done ?_
      refine hn23 _ _ ?_
      replace hf : Z.Fr a 49 [] [(2, .pointer (some ⟨g5, 0, none⟩)), (3, .pointer (some ⟨g11, 0, none⟩)), (30, .bool (!(decide (x.2.2 = y.2.2))))] := hf.keep [2, 3, 30]
      refine Z.cond hf rfl ?_ ?_
      · intro hp46
        have hcond := hp46
        refine Z.seq' hp18 fun Q47 hp48 hn49 he50 => ?_
        refine Z.reg ?_
        refine Z.val hf rfl (Z.r_assign (hf.eval rfl)) ?_; clear hf a; intro a hf
        refine Z.done ?_
        refine hn49 _ _ ?_
        replace hf : Z.Fr a 49 [] [(4, .bool false)] := hf.keep [4]
        refine wp_ret ?_
        refine he20 _ _ _ (by simp) ?_
        replace hf := hf.setv (d := 4) (y := .bool (decide (x = y))) rfl (congrArg Value.bool (by first | (symm; apply decide_eq_false; intro h; first | (refine hgd ?_; rw [h]; done) | (refine hcond ?_; rw [h]; done) | (simp only [Bool.not_eq_true', decide_eq_false_iff_not] at hgd; refine hgd ?_; rw [h]; done) | (simp only [Bool.not_eq_true', decide_eq_false_iff_not] at hcond; refine hcond ?_; rw [h]; done) | (rw [h, heb] at hea; injection hea with hea; exact hcond hea.symm)) | (exact Codec.same_true (Codec.delta_ext (by simpa using hp38) (by simpa using hp46) (Codec.take_end hp32 ht hp46)))))
        have hq51 : Z.Ch [] w w44 := hq41.then hc45 (by simp) (by simp)
        refine Z.ret1 hf Try.results23 rfl ?_
        exact ⟨rfl, hq51⟩
      · intro hp52
        have hcond := hp52
        refine wp_skip ?_
        refine hn19 _ _ ?_
        replace hf : Z.Fr a 49 [] [(2, .pointer (some ⟨g5, 0, none⟩)), (3, .pointer (some ⟨g11, 0, none⟩))] := hf.keep [2, 3]
        refine Z.seq' (Z.Pq.body _ _ _) fun Q53 hp54 hn55 he56 => ?_
        refine Z.seq' hp54 fun Q57 hp58 hn59 he60 => ?_
        refine Z.reg ?_
        refine Z.val hf rfl (Z.r_assign (hf.eval rfl)) ?_; clear hf a; intro a hf
        refine Z.done ?_
        refine hn59 _ _ ?_
        replace hf : Z.Fr a 49 [] [(2, .pointer (some ⟨g5, 0, none⟩)), (3, .pointer (some ⟨g11, 0, none⟩)), (5, .int .i64 0)] := hf.keep [2, 3, 5]
        refine Z.block' hp54 fun Q61 hp62 hn63 hx64 he65 => ?_
        refine Z.loop' hp62 (fun m a wl => ∃ (k : Nat), m = x.1.length - k ∧ Z.Ch [] w44 wl ∧ (k ≤ x.1.length) ∧ (x.1.take k = y.1.take k) ∧ Z.Fr a 49 [] [(2, .pointer (some ⟨g5, 0, none⟩)), (3, .pointer (some ⟨g11, 0, none⟩)), (5, .int .i64 (k : Int))]) (x.1.length - 0) ?_ ?_
        · replace hf := hf.setv (d := 5) (y := .int .i64 (0 : Int)) rfl (congrArg (Value.int .i64) (by first | rfl | omega | (simp; done) | (simp; omega)))
          replace hf : Z.Fr a 49 [] [(2, .pointer (some ⟨g5, 0, none⟩)), (3, .pointer (some ⟨g11, 0, none⟩)), (5, .int .i64 (0 : Int))] := hf.keep [2, 3, 5]
          exact ⟨0, rfl, (Z.Ch.refl w44), (by omega), (by simp), hf⟩
        · rintro m76 a w66 ⟨k69, hm68, hc67, hk74, ht75, hf⟩ Q70 hp71 hn72 he73
          have hzhc67 := hc67.size
          refine Z.seq' hp71 fun Q77 hp78 hn79 he80 => ?_
          refine Z.seq' hp78 fun Q81 hp82 hn83 he84 => ?_
          refine Z.reg ?_
          refine Z.val hf rfl (Z.r_move (hf.eval rfl)) ?_; clear hf a; intro a hf
          refine Z.val hf rfl (Z.r_fieldAddrB Try.underlying33 rfl Try.sizeOf29 (hf.eval rfl) rfl) ?_; clear hf a; intro a hf
          have hq85 : Z.Ch [] w36 w66 := hc45.then hc67 (by simp) (by simp)
          have hb86 := hb39.ch0 hq85
          refine Z.val hf rfl (Z.r_loadB Try.isAgg29 (hf.eval rfl) hb86 rfl) ?_; clear hf a; intro a hf
          refine Z.val hf rfl (Z.r_len Try.underlying29 (hf.eval rfl)) ?_; clear hf a; intro a hf
          refine Z.val hf rfl (Z.r_lss (hf.eval rfl) (hf.eval rfl)) ?_; clear hf a; intro a hf
          refine Z.done ?_
          refine hn83 _ _ ?_
          replace hf : Z.Fr a 49 [] [(2, .pointer (some ⟨g5, 0, none⟩)), (3, .pointer (some ⟨g11, 0, none⟩)), (5, .int .i64 (k69 : Int)), (35, .bool (decide ((k69 : Int) < (x.1.length : Int))))] := hf.keep [2, 3, 5, 35]
          refine Z.condp hf rfl ?_ ?_
          · intro hp87
            have hcond := hp87
            refine wp_skip ?_
            refine hn79 _ _ ?_
            replace hf : Z.Fr a 49 [] [(2, .pointer (some ⟨g5, 0, none⟩)), (3, .pointer (some ⟨g11, 0, none⟩)), (5, .int .i64 (k69 : Int))] := hf.keep [2, 3, 5]
            refine Z.seq' hp71 fun Q88 hp89 hn90 he91 => ?_
            refine Z.block' hp89 fun Q92 hp93 hn94 hx95 he96 => ?_
            refine Z.seq' hp93 fun Q97 hp98 hn99 he100 => ?_
            refine Z.dr_reg (S := fun w' => Z.Ch [] w66 w') mixed ?_; intro w101 hc102 hz103
            refine Z.dr_val 0 hf rfl rfl (by kernel_rfl) (by kernel_rfl) (by kernel_rfl) (fun _ _ _ h => hp98 _ _ _ _ _ h) hc102 Z.wanted_none (fun _ hw => Z.r_fieldAddrB Try.underlying33 rfl Try.sizeOf29 (hf.eval rfl) rfl) ?_; clear hf a; intro a hf
            refine Z.dr_val 1 hf rfl rfl (by kernel_rfl) (by kernel_rfl) (by kernel_rfl) (fun _ _ _ h => hp98 _ _ _ _ _ h) hc102 Z.wanted_none (fun _ hw => Z.r_loadB Try.isAgg29 (hf.eval rfl) (hb86.ch0 hw) rfl) ?_; clear hf a; intro a hf
            refine Z.dr_val 2 hf rfl rfl (by kernel_rfl) (by kernel_rfl) (by kernel_rfl) (fun _ _ _ h => hp98 _ _ _ _ _ h) hc102 Z.wanted_none (fun _ hw => Z.r_move (hf.eval rfl)) ?_; clear hf a; intro a hf
            have hq104 : Z.Ch [] w w44 := hq41.then hc45 (by simp) (by simp)
            have hq105 : Z.Ch [] w w66 := hq104.then hc67 (by simp) (by simp)
            have hr106 : (Z.Ty.slice (Z.Ty.int .i64)).rep w66 (Z.ol [] w.heap.size) [.slice pA0 x.1.length pc0] x.1 := Z.rep_to ph0o hq105 (by intro b h1 h2; (try simp only [Z.nt, Z.iv, Z.no, Z.ol, List.mem_cons, List.not_mem_nil, or_false, not_or, not_false_eq_true] at h1); (try simp only [Z.nt, Z.iv, Z.no, Z.ol, List.mem_cons, List.mem_append, List.not_mem_nil, or_false, not_or, not_false_eq_true, true_and, and_true]) <;> omega)
            have hkx109 : k69 < (x.1).length := (by omega)
            obtain ⟨ad107, es108, x109, hA110, hF111, hl112, hx113, hc114, hr115⟩ := Z.rep_el hr106 hkx109
            have hok116 := Z.rep_ok _ hr115
            have he117 := hr115.1
            have he118 : es108 = [.int .i64 x109] := by simp only [he117, List.cons_append, List.nil_append]
            rw [he118] at hc114
            have hea := hx113
            refine Z.dr_val 3 hf rfl rfl (by kernel_rfl) (by kernel_rfl) (by kernel_rfl) (fun _ _ _ h => hp98 _ _ _ _ _ h) hc102 Z.wanted_none (fun _ hw => Z.r_indexAddrE Try.underlying29 Try.sizeOf3 (hf.eval rfl) hA110 (hf.eval rfl) (k := k69) (by first | rfl | omega) (by omega)) ?_; clear hf a; intro a hf
            refine Z.dr_val 4 hf rfl rfl (by kernel_rfl) (by kernel_rfl) (by kernel_rfl) (fun _ _ _ h => hp98 _ _ _ _ _ h) hc102 Z.wanted_none (fun _ hw => Z.r_loadE1 Try.isAgg3 (hf.eval rfl) (hc114.ch0 hw) rfl) ?_; clear hf a; intro a hf
            refine Z.dr_val 5 hf rfl rfl (by kernel_rfl) (by kernel_rfl) (by kernel_rfl) (fun _ _ _ h => hp98 _ _ _ _ _ h) hc102 Z.wanted_none (fun _ hw => Z.r_fieldAddrB Try.underlying33 rfl Try.sizeOf29 (hf.eval rfl) rfl) ?_; clear hf a; intro a hf
            have hb119 := hb40.ch0 hq85
            refine Z.dr_val 6 hf rfl rfl (by kernel_rfl) (by kernel_rfl) (by kernel_rfl) (fun _ _ _ h => hp98 _ _ _ _ _ h) hc102 Z.wanted_none (fun _ hw => Z.r_loadB Try.isAgg29 (hf.eval rfl) (hb119.ch0 hw) rfl) ?_; clear hf a; intro a hf
            refine Z.dr_val 7 hf rfl rfl (by kernel_rfl) (by kernel_rfl) (by kernel_rfl) (fun _ _ _ h => hp98 _ _ _ _ _ h) hc102 Z.wanted_none (fun _ hw => Z.r_move (hf.eval rfl)) ?_; clear hf a; intro a hf
            have hq120 : Z.Ch [] w w44 := hq41.then hc45 (by simp) (by simp)
            have hq121 : Z.Ch [] w w66 := hq120.then hc67 (by simp) (by simp)
            have hr122 : (Z.Ty.slice (Z.Ty.int .i64)).rep w66 (Z.ol [] w.heap.size) [.slice pA3 y.1.length pc3] y.1 := Z.rep_to ph3o hq121 (by intro b h1 h2; (try simp only [Z.nt, Z.iv, Z.no, Z.ol, List.mem_cons, List.not_mem_nil, or_false, not_or, not_false_eq_true] at h1); (try simp only [Z.nt, Z.iv, Z.no, Z.ol, List.mem_cons, List.mem_append, List.not_mem_nil, or_false, not_or, not_false_eq_true, true_and, and_true]) <;> omega)
            have hkx125 : k69 < (y.1).length := (by omega)
            obtain ⟨ad123, es124, x125, hA126, hF127, hl128, hx129, hc130, hr131⟩ := Z.rep_el hr122 hkx125
            have hok132 := Z.rep_ok _ hr131
            have he133 := hr131.1
            have he134 : es124 = [.int .i64 x125] := by simp only [he133, List.cons_append, List.nil_append]
            rw [he134] at hc130
            have heb := hx129
            refine Z.dr_val 8 hf rfl rfl (by kernel_rfl) (by kernel_rfl) (by kernel_rfl) (fun _ _ _ h => hp98 _ _ _ _ _ h) hc102 Z.wanted_none (fun _ hw => Z.r_indexAddrE Try.underlying29 Try.sizeOf3 (hf.eval rfl) hA126 (hf.eval rfl) (k := k69) (by first | rfl | omega) (by omega)) ?_; clear hf a; intro a hf
            refine Z.dr_val 9 hf rfl rfl (by kernel_rfl) (by kernel_rfl) (by kernel_rfl) (fun _ _ _ h => hp98 _ _ _ _ _ h) hc102 Z.wanted_none (fun _ hw => Z.r_loadE1 Try.isAgg3 (hf.eval rfl) (hc130.ch0 hw) rfl) ?_; clear hf a; intro a hf
            refine Z.dr_val 10 hf rfl rfl (by kernel_rfl) (by kernel_rfl) (by kernel_rfl) (fun _ _ _ h => hp98 _ _ _ _ _ h) hc102 Z.wanted_none (fun _ hw => Z.r_neq (hf.eval rfl) (hf.eval rfl)) ?_; clear hf a; intro a hf
            refine Z.dr_done (by kernel_rfl) ?_
            refine hn99 _ _ ?_
            replace hf : Z.Fr a 49 [] [(2, .pointer (some ⟨g5, 0, none⟩)), (3, .pointer (some ⟨g11, 0, none⟩)), (5, .int .i64 (k69 : Int)), (48, .bool (decide (x109 ≠ x125)))] := hf.keep [2, 3, 5, 48]
            refine Z.condp hf rfl ?_ ?_
            · intro hp135
              have hcond := hp135
              refine Z.seq' hp93 fun Q136 hp137 hn138 he139 => ?_
              refine Z.reg ?_
              refine Z.val hf rfl (Z.r_assign (hf.eval rfl)) ?_; clear hf a; intro a hf
              refine Z.done ?_
              refine hn138 _ _ ?_
              replace hf : Z.Fr a 49 [] [(4, .bool false)] := hf.keep [4]
              refine wp_ret ?_
              refine he96 _ _ _ (by simp) (by simp) ?_
              refine he91 _ _ _ (by simp) ?_
              refine he73 _ _ _ (by simp) ?_
              refine he65 _ _ _ (by simp) (by simp) ?_
              refine he56 _ _ _ (by simp) ?_
              replace hf := hf.setv (d := 4) (y := .bool (decide (x = y))) rfl (congrArg Value.bool (by first | (symm; apply decide_eq_false; intro h; first | (refine hgd ?_; rw [h]; done) | (refine hcond ?_; rw [h]; done) | (simp only [Bool.not_eq_true', decide_eq_false_iff_not] at hgd; refine hgd ?_; rw [h]; done) | (simp only [Bool.not_eq_true', decide_eq_false_iff_not] at hcond; refine hcond ?_; rw [h]; done) | (rw [h, heb] at hea; injection hea with hea; exact hcond hea.symm)) | (exact Codec.same_true (Codec.delta_ext (by simpa using hp38) (by simpa using hp52) (Codec.take_end hp32 ht75 hp135)))))
              have hq140 : Z.Ch [] w w44 := hq41.then hc45 (by simp) (by simp)
              have hq141 : Z.Ch [] w w66 := hq140.then hc67 (by simp) (by simp)
              have hq142 : Z.Ch [] w w101 := hq141.then hc102 (by simp) (by simp)
              refine Z.ret1 hf Try.results23 rfl ?_
              exact ⟨rfl, hq142⟩
            · intro hp143
              have hcond := hp143
              refine wp_skip ?_
              refine hn94 _ _ ?_
              refine hn90 _ _ ?_
              replace hf : Z.Fr a 49 [] [(2, .pointer (some ⟨g5, 0, none⟩)), (3, .pointer (some ⟨g11, 0, none⟩)), (5, .int .i64 (k69 : Int))] := hf.keep [2, 3, 5]
              refine Z.reg ?_
              refine Z.val hf rfl (Z.r_move (hf.eval rfl)) ?_; clear hf a; intro a hf
              refine Z.val hf rfl (Z.r_add64 (hf.eval rfl) (hf.eval rfl) (by omega)) ?_; clear hf a; intro a hf
              refine Z.val hf rfl (Z.r_assign (hf.eval rfl)) ?_; clear hf a; intro a hf
              refine Z.done ?_
              refine hn72 (x.1.length - (k69 + 1)) _ _ ?_ ?_
              rotate_left
              replace hf := hf.setv (d := 5) (y := .int .i64 ((k69 + 1 : Nat) : Int)) rfl (congrArg (Value.int .i64) (by first | rfl | omega | (simp; done) | (simp; omega)))
              have hq144 : Z.Ch [] w44 w101 := hc67.then hc102 (by simp) (by simp)
              replace hf : Z.Fr a 49 [] [(2, .pointer (some ⟨g5, 0, none⟩)), (3, .pointer (some ⟨g11, 0, none⟩)), (5, .int .i64 ((k69 + 1 : Nat) : Int))] := hf.keep [2, 3, 5]
              exact ⟨k69 + 1, rfl, hq144, (by omega), (by exact Codec.take_step ht75 hea heb hcond), hf⟩
              rw [hm68]; omega
          · intro hp145
            have hcond := hp145
            refine wp_exit ?_
            refine he80 _ _ _ (by simp) ?_
            refine he73 _ _ _ (by simp) ?_
            refine hx64 _ _ ?_
            refine hn55 _ _ ?_
            replace hf : Z.Fr a 49 [] [] := hf.keep []
            refine Z.seq' (Z.Pq.body _ _ _) fun Q146 hp147 hn148 he149 => ?_
            refine Z.reg ?_
            refine Z.val hf rfl (Z.r_assign (hf.eval rfl)) ?_; clear hf a; intro a hf
            refine Z.done ?_
            refine hn148 _ _ ?_
            replace hf : Z.Fr a 49 [] [(4, .bool true)] := hf.keep [4]
            refine wp_ret ?_
            replace hf := hf.setv (d := 4) (y := .bool (decide (x = y))) rfl (congrArg Value.bool (by first | (symm; apply decide_eq_false; intro h; first | (refine hgd ?_; rw [h]; done) | (refine hcond ?_; rw [h]; done) | (simp only [Bool.not_eq_true', decide_eq_false_iff_not] at hgd; refine hgd ?_; rw [h]; done) | (simp only [Bool.not_eq_true', decide_eq_false_iff_not] at hcond; refine hcond ?_; rw [h]; done) | (rw [h, heb] at hea; injection hea with hea; exact hcond hea.symm)) | (exact Codec.same_true (Codec.delta_ext (by simpa using hp38) (by simpa using hp52) (Codec.take_end hp32 ht75 hp145)))))
            have hq150 : Z.Ch [] w w44 := hq41.then hc45 (by simp) (by simp)
            have hq151 : Z.Ch [] w w66 := hq150.then hc67 (by simp) (by simp)
            refine Z.ret1 hf Try.results23 rfl ?_
            exact ⟨rfl, hq151⟩
    · intro hp152
      have hgd := hp152
      replace hf := hf.setb (d := 23) (b' := true) rfl hp152
      refine Z.off hf rfl rfl rfl (by simp) ?_; clear hf a; intro a hf
      refine Z.off hf rfl rfl rfl (by simp) ?_; clear hf a; intro a hf
      refine Z.off hf rfl rfl rfl (by simp) ?_; clear hf a; intro a hf
      refine Z.off hf rfl rfl rfl (by simp) ?_; clear hf a; intro a hf
      refine Z.off hf rfl rfl rfl (by simp) ?_; clear hf a; intro a hf
      refine Z.off hf rfl rfl rfl (by simp) ?_; clear hf a; intro a hf
      refine Z.val hf rfl (Z.r_pick_t (hf.eval rfl) (hf.eval rfl)) ?_; clear hf a; intro a hf
      refine Z.done ?_
      refine hn23 _ _ ?_
      replace hf : Z.Fr a 49 [] [(2, .pointer (some ⟨g5, 0, none⟩)), (3, .pointer (some ⟨g11, 0, none⟩)), (30, .bool true)] := hf.keep [2, 3, 30]
      refine Z.condt hf rfl ?_
      refine Z.seq' hp18 fun Q153 hp154 hn155 he156 => ?_
      refine Z.reg ?_
      refine Z.val hf rfl (Z.r_assign (hf.eval rfl)) ?_; clear hf a; intro a hf
      refine Z.done ?_
      refine hn155 _ _ ?_
      replace hf : Z.Fr a 49 [] [(4, .bool false)] := hf.keep [4]
      refine wp_ret ?_
      refine he20 _ _ _ (by simp) ?_
      replace hf := hf.setv (d := 4) (y := .bool (decide (x = y))) rfl (congrArg Value.bool (by first | (symm; apply decide_eq_false; intro h; first | (refine hgd ?_; rw [h]; done) | (refine hcond ?_; rw [h]; done) | (simp only [Bool.not_eq_true', decide_eq_false_iff_not] at hgd; refine hgd ?_; rw [h]; done) | (simp only [Bool.not_eq_true', decide_eq_false_iff_not] at hcond; refine hcond ?_; rw [h]; done) | (rw [h, heb] at hea; injection hea with hea; exact hcond hea.symm)) | (exact Codec.same_true (Codec.delta_ext (by simpa using hp152) (by simpa using hNONE) (Codec.take_end hp32 ht75 hp152)))))
      have hq157 : Z.Ch [] w w36 := hq33.then hc37 (by simp) (by simp)
      refine Z.ret1 hf Try.results23 rfl ?_
      exact ⟨rfl, hq157⟩

end Go.Proofs.Ytlhpkogdcgebeaa
