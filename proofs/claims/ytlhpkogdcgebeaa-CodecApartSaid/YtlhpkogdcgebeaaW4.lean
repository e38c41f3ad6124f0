/- Walks: the law's own functions on messages. -/
import Derived.Test.YtlhpkogdcgebeaaW4a
set_option linter.unusedVariables false
set_option linter.unusedSimpArgs false
set_option synthInstance.maxSize 4000
set_option synthInstance.maxHeartbeats 400000
namespace Go.Proofs.Ytlhpkogdcgebeaa
open Go.RowKit
set_option maxHeartbeats 1000000 in
set_option maxRecDepth 20000 in
theorem SameMsg_spec (x : (Int × Int × (Int × Int) × (Int × Int × (Int × Int × Int × Int)) × (List (Int × ByteArray)) × (List ((Int × Int) × (Int × Int × (Int × Int × Int × Int)) × Int)) × ((List Int) × (List (Int × Int × (List Int) × (Int × Int × ByteArray) × ByteArray × Int × Int)) × (List (Int × Int × Int × Int × (Int × Int × ByteArray)))) × Int × (List (Int × Int × ByteArray × Int)) × Bool × Int)) (y : (Int × Int × (Int × Int) × (Int × Int × (Int × Int × Int × Int)) × (List (Int × ByteArray)) × (List ((Int × Int) × (Int × Int × (Int × Int × Int × Int)) × Int)) × ((List Int) × (List (Int × Int × (List Int) × (Int × Int × ByteArray) × ByteArray × Int × Int)) × (List (Int × Int × Int × Int × (Int × Int × ByteArray)))) × Int × (List (Int × Int × ByteArray × Int)) × Bool × Int)) (w : World) (pA0 : Option Addr) (pc0 : Nat) (pA1 : Option Addr) (pc1 : Nat) (pA2 : Option Addr) (pc2 : Nat) (pA3 : Option Addr) (pc3 : Nat) (pA4 : Option Addr) (pc4 : Nat) (pA5 : Option Addr) (pc5 : Nat) (pA6 : Option Addr) (pc6 : Nat) (pA7 : Option Addr) (pc7 : Nat) (pA8 : Option Addr) (pc8 : Nat) (pA9 : Option Addr) (pc9 : Nat) (pA10 : Option Addr) (pc10 : Nat) (pA11 : Option Addr) (pc11 : Nat) (ph0 : (Z.Ty.slice (Z.Ty.pair (Z.Ty.int .i64) Z.Ty.str)).rep w (Z.nt []) [.slice pA0 x.2.2.2.2.1.length pc0] x.2.2.2.2.1) (ph1 : (Z.Ty.slice (Z.Ty.pair (Z.Ty.pair (Z.Ty.int .i64) (Z.Ty.int .i64)) (Z.Ty.pair (Z.Ty.pair (Z.Ty.int .i64) (Z.Ty.pair (Z.Ty.int .i64) (Z.Ty.pair (Z.Ty.int .i64) (Z.Ty.pair (Z.Ty.int .i64) (Z.Ty.pair (Z.Ty.int .i64) (Z.Ty.int .i64)))))) (Z.Ty.int .i64)))).rep w (Z.nt []) [.slice pA1 x.2.2.2.2.2.1.length pc1] x.2.2.2.2.2.1) (ph2 : (Z.Ty.slice (Z.Ty.int .i64)).rep w (Z.nt []) [.slice pA2 x.2.2.2.2.2.2.1.1.length pc2] x.2.2.2.2.2.2.1.1) (ph3 : (Z.Ty.slice (Z.Ty.pair (Z.Ty.int .i64) (Z.Ty.pair (Z.Ty.int .i64) (Z.Ty.pair (Z.Ty.slice (Z.Ty.int .i64)) (Z.Ty.pair (Z.Ty.pair (Z.Ty.int .i64) (Z.Ty.pair (Z.Ty.int .i64) Z.Ty.str)) (Z.Ty.pair Z.Ty.str (Z.Ty.pair (Z.Ty.int .i64) (Z.Ty.int .i64)))))))).rep w (Z.nt []) [.slice pA3 x.2.2.2.2.2.2.1.2.1.length pc3] x.2.2.2.2.2.2.1.2.1) (ph4 : (Z.Ty.slice (Z.Ty.pair (Z.Ty.int .i64) (Z.Ty.pair (Z.Ty.int .i64) (Z.Ty.pair (Z.Ty.int .i64) (Z.Ty.pair (Z.Ty.int .i64) (Z.Ty.pair (Z.Ty.int .i64) (Z.Ty.pair (Z.Ty.int .i64) Z.Ty.str))))))).rep w (Z.nt []) [.slice pA4 x.2.2.2.2.2.2.1.2.2.length pc4] x.2.2.2.2.2.2.1.2.2) (ph5 : (Z.Ty.slice (Z.Ty.pair (Z.Ty.int .i64) (Z.Ty.pair (Z.Ty.int .i64) (Z.Ty.pair Z.Ty.str (Z.Ty.int .i64))))).rep w (Z.nt []) [.slice pA5 x.2.2.2.2.2.2.2.2.1.length pc5] x.2.2.2.2.2.2.2.2.1) (pk6 : Z.Ty.ok (Z.Ty.pair (Z.Ty.int .i64) (Z.Ty.pair (Z.Ty.int .i64) (Z.Ty.pair (Z.Ty.pair (Z.Ty.int .i64) (Z.Ty.int .i64)) (Z.Ty.pair (Z.Ty.pair (Z.Ty.int .i64) (Z.Ty.pair (Z.Ty.int .i64) (Z.Ty.pair (Z.Ty.int .i64) (Z.Ty.pair (Z.Ty.int .i64) (Z.Ty.pair (Z.Ty.int .i64) (Z.Ty.int .i64)))))) (Z.Ty.pair (Z.Ty.slice (Z.Ty.pair (Z.Ty.int .i64) Z.Ty.str)) (Z.Ty.pair (Z.Ty.slice (Z.Ty.pair (Z.Ty.pair (Z.Ty.int .i64) (Z.Ty.int .i64)) (Z.Ty.pair (Z.Ty.pair (Z.Ty.int .i64) (Z.Ty.pair (Z.Ty.int .i64) (Z.Ty.pair (Z.Ty.int .i64) (Z.Ty.pair (Z.Ty.int .i64) (Z.Ty.pair (Z.Ty.int .i64) (Z.Ty.int .i64)))))) (Z.Ty.int .i64)))) (Z.Ty.pair (Z.Ty.pair (Z.Ty.slice (Z.Ty.int .i64)) (Z.Ty.pair (Z.Ty.slice (Z.Ty.pair (Z.Ty.int .i64) (Z.Ty.pair (Z.Ty.int .i64) (Z.Ty.pair (Z.Ty.slice (Z.Ty.int .i64)) (Z.Ty.pair (Z.Ty.pair (Z.Ty.int .i64) (Z.Ty.pair (Z.Ty.int .i64) Z.Ty.str)) (Z.Ty.pair Z.Ty.str (Z.Ty.pair (Z.Ty.int .i64) (Z.Ty.int .i64)))))))) (Z.Ty.slice (Z.Ty.pair (Z.Ty.int .i64) (Z.Ty.pair (Z.Ty.int .i64) (Z.Ty.pair (Z.Ty.int .i64) (Z.Ty.pair (Z.Ty.int .i64) (Z.Ty.pair (Z.Ty.int .i64) (Z.Ty.pair (Z.Ty.int .i64) Z.Ty.str))))))))) (Z.Ty.pair (Z.Ty.int .i64) (Z.Ty.pair (Z.Ty.slice (Z.Ty.pair (Z.Ty.int .i64) (Z.Ty.pair (Z.Ty.int .i64) (Z.Ty.pair Z.Ty.str (Z.Ty.int .i64))))) (Z.Ty.pair Z.Ty.bool (Z.Ty.int .i64))))))))))) x) (ph6 : (Z.Ty.slice (Z.Ty.pair (Z.Ty.int .i64) Z.Ty.str)).rep w (Z.nt []) [.slice pA6 y.2.2.2.2.1.length pc6] y.2.2.2.2.1) (ph7 : (Z.Ty.slice (Z.Ty.pair (Z.Ty.pair (Z.Ty.int .i64) (Z.Ty.int .i64)) (Z.Ty.pair (Z.Ty.pair (Z.Ty.int .i64) (Z.Ty.pair (Z.Ty.int .i64) (Z.Ty.pair (Z.Ty.int .i64) (Z.Ty.pair (Z.Ty.int .i64) (Z.Ty.pair (Z.Ty.int .i64) (Z.Ty.int .i64)))))) (Z.Ty.int .i64)))).rep w (Z.nt []) [.slice pA7 y.2.2.2.2.2.1.length pc7] y.2.2.2.2.2.1) (ph8 : (Z.Ty.slice (Z.Ty.int .i64)).rep w (Z.nt []) [.slice pA8 y.2.2.2.2.2.2.1.1.length pc8] y.2.2.2.2.2.2.1.1) (ph9 : (Z.Ty.slice (Z.Ty.pair (Z.Ty.int .i64) (Z.Ty.pair (Z.Ty.int .i64) (Z.Ty.pair (Z.Ty.slice (Z.Ty.int .i64)) (Z.Ty.pair (Z.Ty.pair (Z.Ty.int .i64) (Z.Ty.pair (Z.Ty.int .i64) Z.Ty.str)) (Z.Ty.pair Z.Ty.str (Z.Ty.pair (Z.Ty.int .i64) (Z.Ty.int .i64)))))))).rep w (Z.nt []) [.slice pA9 y.2.2.2.2.2.2.1.2.1.length pc9] y.2.2.2.2.2.2.1.2.1) (ph10 : (Z.Ty.slice (Z.Ty.pair (Z.Ty.int .i64) (Z.Ty.pair (Z.Ty.int .i64) (Z.Ty.pair (Z.Ty.int .i64) (Z.Ty.pair (Z.Ty.int .i64) (Z.Ty.pair (Z.Ty.int .i64) (Z.Ty.pair (Z.Ty.int .i64) Z.Ty.str))))))).rep w (Z.nt []) [.slice pA10 y.2.2.2.2.2.2.1.2.2.length pc10] y.2.2.2.2.2.2.1.2.2) (ph11 : (Z.Ty.slice (Z.Ty.pair (Z.Ty.int .i64) (Z.Ty.pair (Z.Ty.int .i64) (Z.Ty.pair Z.Ty.str (Z.Ty.int .i64))))).rep w (Z.nt []) [.slice pA11 y.2.2.2.2.2.2.2.2.1.length pc11] y.2.2.2.2.2.2.2.2.1) (pk13 : Z.Ty.ok (Z.Ty.pair (Z.Ty.int .i64) (Z.Ty.pair (Z.Ty.int .i64) (Z.Ty.pair (Z.Ty.pair (Z.Ty.int .i64) (Z.Ty.int .i64)) (Z.Ty.pair (Z.Ty.pair (Z.Ty.int .i64) (Z.Ty.pair (Z.Ty.int .i64) (Z.Ty.pair (Z.Ty.int .i64) (Z.Ty.pair (Z.Ty.int .i64) (Z.Ty.pair (Z.Ty.int .i64) (Z.Ty.int .i64)))))) (Z.Ty.pair (Z.Ty.slice (Z.Ty.pair (Z.Ty.int .i64) Z.Ty.str)) (Z.Ty.pair (Z.Ty.slice (Z.Ty.pair (Z.Ty.pair (Z.Ty.int .i64) (Z.Ty.int .i64)) (Z.Ty.pair (Z.Ty.pair (Z.Ty.int .i64) (Z.Ty.pair (Z.Ty.int .i64) (Z.Ty.pair (Z.Ty.int .i64) (Z.Ty.pair (Z.Ty.int .i64) (Z.Ty.pair (Z.Ty.int .i64) (Z.Ty.int .i64)))))) (Z.Ty.int .i64)))) (Z.Ty.pair (Z.Ty.pair (Z.Ty.slice (Z.Ty.int .i64)) (Z.Ty.pair (Z.Ty.slice (Z.Ty.pair (Z.Ty.int .i64) (Z.Ty.pair (Z.Ty.int .i64) (Z.Ty.pair (Z.Ty.slice (Z.Ty.int .i64)) (Z.Ty.pair (Z.Ty.pair (Z.Ty.int .i64) (Z.Ty.pair (Z.Ty.int .i64) Z.Ty.str)) (Z.Ty.pair Z.Ty.str (Z.Ty.pair (Z.Ty.int .i64) (Z.Ty.int .i64)))))))) (Z.Ty.slice (Z.Ty.pair (Z.Ty.int .i64) (Z.Ty.pair (Z.Ty.int .i64) (Z.Ty.pair (Z.Ty.int .i64) (Z.Ty.pair (Z.Ty.int .i64) (Z.Ty.pair (Z.Ty.int .i64) (Z.Ty.pair (Z.Ty.int .i64) Z.Ty.str))))))))) (Z.Ty.pair (Z.Ty.int .i64) (Z.Ty.pair (Z.Ty.slice (Z.Ty.pair (Z.Ty.int .i64) (Z.Ty.pair (Z.Ty.int .i64) (Z.Ty.pair Z.Ty.str (Z.Ty.int .i64))))) (Z.Ty.pair Z.Ty.bool (Z.Ty.int .i64))))))))))) y)  :
    Calls Try.prog 9 #[.agg #[.int .i64 x.1, .int .i64 x.2.1, .int .i64 x.2.2.1.1, .int .i64 x.2.2.1.2, .int .i64 x.2.2.2.1.1, .int .i64 x.2.2.2.1.2.1, .int .i64 x.2.2.2.1.2.2.1, .int .i64 x.2.2.2.1.2.2.2.1, .int .i64 x.2.2.2.1.2.2.2.2.1, .int .i64 x.2.2.2.1.2.2.2.2.2, .slice pA0 x.2.2.2.2.1.length pc0, .slice pA1 x.2.2.2.2.2.1.length pc1, .slice pA2 x.2.2.2.2.2.2.1.1.length pc2, .slice pA3 x.2.2.2.2.2.2.1.2.1.length pc3, .slice pA4 x.2.2.2.2.2.2.1.2.2.length pc4, .int .i64 x.2.2.2.2.2.2.2.1, .slice pA5 x.2.2.2.2.2.2.2.2.1.length pc5, .bool x.2.2.2.2.2.2.2.2.2.1, .int .i64 x.2.2.2.2.2.2.2.2.2.2], .agg #[.int .i64 y.1, .int .i64 y.2.1, .int .i64 y.2.2.1.1, .int .i64 y.2.2.1.2, .int .i64 y.2.2.2.1.1, .int .i64 y.2.2.2.1.2.1, .int .i64 y.2.2.2.1.2.2.1, .int .i64 y.2.2.2.1.2.2.2.1, .int .i64 y.2.2.2.1.2.2.2.2.1, .int .i64 y.2.2.2.1.2.2.2.2.2, .slice pA6 y.2.2.2.2.1.length pc6, .slice pA7 y.2.2.2.2.2.1.length pc7, .slice pA8 y.2.2.2.2.2.2.1.1.length pc8, .slice pA9 y.2.2.2.2.2.2.1.2.1.length pc9, .slice pA10 y.2.2.2.2.2.2.1.2.2.length pc10, .int .i64 y.2.2.2.2.2.2.2.1, .slice pA11 y.2.2.2.2.2.2.2.2.1.length pc11, .bool y.2.2.2.2.2.2.2.2.2.1, .int .i64 y.2.2.2.2.2.2.2.2.2.2]] w fun e w' => e = .returned (.bool (decide (x = y))) ∧ Z.Ch [] w w' := by
  refine Z.enter Try.func9 rfl Try.ntmps9 (Nat.le_of_ble_eq_true rfl) fun a hf => ?_
  replace hf : Z.Fr a 99 [] [(0, .agg #[.int .i64 x.1, .int .i64 x.2.1, .int .i64 x.2.2.1.1, .int .i64 x.2.2.1.2, .int .i64 x.2.2.2.1.1, .int .i64 x.2.2.2.1.2.1, .int .i64 x.2.2.2.1.2.2.1, .int .i64 x.2.2.2.1.2.2.2.1, .int .i64 x.2.2.2.1.2.2.2.2.1, .int .i64 x.2.2.2.1.2.2.2.2.2, .slice pA0 x.2.2.2.2.1.length pc0, .slice pA1 x.2.2.2.2.2.1.length pc1, .slice pA2 x.2.2.2.2.2.2.1.1.length pc2, .slice pA3 x.2.2.2.2.2.2.1.2.1.length pc3, .slice pA4 x.2.2.2.2.2.2.1.2.2.length pc4, .int .i64 x.2.2.2.2.2.2.2.1, .slice pA5 x.2.2.2.2.2.2.2.2.1.length pc5, .bool x.2.2.2.2.2.2.2.2.2.1, .int .i64 x.2.2.2.2.2.2.2.2.2.2]), (1, .agg #[.int .i64 y.1, .int .i64 y.2.1, .int .i64 y.2.2.1.1, .int .i64 y.2.2.1.2, .int .i64 y.2.2.2.1.1, .int .i64 y.2.2.2.1.2.1, .int .i64 y.2.2.2.1.2.2.1, .int .i64 y.2.2.2.1.2.2.2.1, .int .i64 y.2.2.2.1.2.2.2.2.1, .int .i64 y.2.2.2.1.2.2.2.2.2, .slice pA6 y.2.2.2.2.1.length pc6, .slice pA7 y.2.2.2.2.2.1.length pc7, .slice pA8 y.2.2.2.2.2.2.1.1.length pc8, .slice pA9 y.2.2.2.2.2.2.1.2.1.length pc9, .slice pA10 y.2.2.2.2.2.2.1.2.2.length pc10, .int .i64 y.2.2.2.2.2.2.2.1, .slice pA11 y.2.2.2.2.2.2.2.2.1.length pc11, .bool y.2.2.2.2.2.2.2.2.2.1, .int .i64 y.2.2.2.2.2.2.2.2.2.2])] := hf
  have hle_pA0 := Z.rep_le ph0
  have ph0o := Z.rep_ol ph0
  have hle_pA1 := Z.rep_le ph1
  have ph1o := Z.rep_ol ph1
  have hle_pA2 := Z.rep_le ph2
  have ph2o := Z.rep_ol ph2
  have hle_pA3 := Z.rep_le ph3
  have ph3o := Z.rep_ol ph3
  have hle_pA4 := Z.rep_le ph4
  have ph4o := Z.rep_ol ph4
  have hle_pA5 := Z.rep_le ph5
  have ph5o := Z.rep_ol ph5
  have hle_pA6 := Z.rep_le ph6
  have ph6o := Z.rep_ol ph6
  have hle_pA7 := Z.rep_le ph7
  have ph7o := Z.rep_ol ph7
  have hle_pA8 := Z.rep_le ph8
  have ph8o := Z.rep_ol ph8
  have hle_pA9 := Z.rep_le ph9
  have ph9o := Z.rep_ol ph9
  have hle_pA10 := Z.rep_le ph10
  have ph10o := Z.rep_ol ph10
  have hle_pA11 := Z.rep_le ph11
  have ph11o := Z.rep_ol ph11
  refine Z.seq' (Z.Pq.body _ _ _) fun Q1 hp2 hn3 he4 => ?_
  refine Z.reg ?_
  refine Z.st_box hf rfl rfl rfl ?_; clear hf a; intro g5 w6 a hg7 hz8 hb9 hc10 hf
  refine Z.st_box hf rfl rfl rfl ?_; clear hf a; intro g11 w12 a hg13 hz14 hb15 hc16 hf
  refine Z.val hf rfl (Z.r_assign (hf.eval rfl)) ?_; clear hf a; intro a hf
  refine Z.done ?_
  refine hn3 _ _ ?_
  replace hf : Z.Fr a 99 [] [(2, .pointer (some ⟨g5, 0, none⟩)), (3, .pointer (some ⟨g11, 0, none⟩))] := hf.keep [2, 3]
  refine Z.seq' (Z.Pq.body _ _ _) fun Q17 hp18 hn19 he20 => ?_
  refine Z.seq' hp18 fun Q21 hp22 hn23 he24 => ?_
  refine Z.reg ?_
  refine Z.val hf rfl (Z.r_fieldAddrB Try.underlying37 rfl Try.sizeOf3 (hf.eval rfl) rfl) ?_; clear hf a; intro a hf
  have hb25 := hb9.ch0 hc16
  refine Z.val hf rfl (Z.r_loadB Try.isAgg3 (hf.eval rfl) hb25 rfl) ?_; clear hf a; intro a hf
  refine Z.val hf rfl (Z.r_fieldAddrB Try.underlying37 rfl Try.sizeOf3 (hf.eval rfl) rfl) ?_; clear hf a; intro a hf
  refine Z.val hf rfl (Z.r_loadB Try.isAgg3 (hf.eval rfl) hb15 rfl) ?_; clear hf a; intro a hf
  refine Z.val hf rfl (Z.r_neq (hf.eval rfl) (hf.eval rfl)) ?_; clear hf a; intro a hf
  refine Z.val hf rfl (Z.r_move (hf.eval rfl)) ?_; clear hf a; intro a hf
  by_cases hdec : x.1 ≠ y.1 <;> revert hdec
  · intro hp26
    have hgd := hp26
    replace hf := hf.setb (d := 11) (b' := true) rfl (decide_eq_true hp26)
    refine Z.off hf rfl rfl rfl (by simp) ?_; clear hf a; intro a hf
    refine Z.off hf rfl rfl rfl (by simp) ?_; clear hf a; intro a hf
    refine Z.off hf rfl rfl rfl (by simp) ?_; clear hf a; intro a hf
    refine Z.off hf rfl rfl rfl (by simp) ?_; clear hf a; intro a hf
    refine Z.off hf rfl rfl rfl (by simp) ?_; clear hf a; intro a hf
    refine Z.val hf rfl (Z.r_pick_t (hf.eval rfl) (hf.eval rfl)) ?_; clear hf a; intro a hf
    refine Z.val hf rfl (Z.r_move (hf.eval rfl)) ?_; clear hf a; intro a hf
    refine Z.off hf rfl rfl rfl (by simp) ?_; clear hf a; intro a hf
    refine Z.off hf rfl rfl rfl (by simp) ?_; clear hf a; intro a hf
    refine Z.off hf rfl rfl rfl (by simp) ?_; clear hf a; intro a hf
    refine Z.off hf rfl rfl rfl (by simp) ?_; clear hf a; intro a hf
    refine Z.off hf rfl rfl rfl (by simp) ?_; clear hf a; intro a hf
    refine Z.val hf rfl (Z.r_pick_t (hf.eval rfl) (hf.eval rfl)) ?_; clear hf a; intro a hf
    refine Z.val hf rfl (Z.r_move (hf.eval rfl)) ?_; clear hf a; intro a hf
    refine Z.off hf rfl rfl rfl (by simp) ?_; clear hf a; intro a hf
    refine Z.off hf rfl rfl rfl (by simp) ?_; clear hf a; intro a hf
    refine Z.off hf rfl rfl rfl (by simp) ?_; clear hf a; intro a hf
    refine Z.off hf rfl rfl rfl (by simp) ?_; clear hf a; intro a hf
    refine Z.off hf rfl rfl rfl (by simp) ?_; clear hf a; intro a hf
    refine Z.val hf rfl (Z.r_pick_t (hf.eval rfl) (hf.eval rfl)) ?_; clear hf a; intro a hf
    refine Z.val hf rfl (Z.r_move (hf.eval rfl)) ?_; clear hf a; intro a hf
    refine Z.off hf rfl rfl rfl (by simp) ?_; clear hf a; intro a hf
    refine Z.off hf rfl rfl rfl (by simp) ?_; clear hf a; intro a hf
    refine Z.off hf rfl rfl rfl (by simp) ?_; clear hf a; intro a hf
    refine Z.off hf rfl rfl rfl (by simp) ?_; clear hf a; intro a hf
    refine Z.off hf rfl rfl rfl (by simp) ?_; clear hf a; intro a hf
    refine Z.val hf rfl (Z.r_pick_t (hf.eval rfl) (hf.eval rfl)) ?_; clear hf a; intro a hf
    refine Z.val hf rfl (Z.r_move (hf.eval rfl)) ?_; clear hf a; intro a hf
    refine Z.off hf rfl rfl rfl (by simp) ?_; clear hf a; intro a hf
    refine Z.off hf rfl rfl rfl (by simp) ?_; clear hf a; intro a hf
    refine Z.off hf rfl rfl rfl (by simp) ?_; clear hf a; intro a hf
    refine Z.off hf rfl rfl rfl (by simp) ?_; clear hf a; intro a hf
    refine Z.off hf rfl rfl rfl (by simp) ?_; clear hf a; intro a hf
    refine Z.val hf rfl (Z.r_pick_t (hf.eval rfl) (hf.eval rfl)) ?_; clear hf a; intro a hf
    refine Z.val hf rfl (Z.r_move (hf.eval rfl)) ?_; clear hf a; intro a hf
    refine Z.off hf rfl rfl rfl (by simp) ?_; clear hf a; intro a hf
    refine Z.off hf rfl rfl rfl (by simp) ?_; clear hf a; intro a hf
    refine Z.off hf rfl rfl rfl (by simp) ?_; clear hf a; intro a hf
    refine Z.off hf rfl rfl rfl (by simp) ?_; clear hf a; intro a hf
    refine Z.off hf rfl rfl rfl (by simp) ?_; clear hf a; intro a hf
    refine Z.val hf rfl (Z.r_pick_t (hf.eval rfl) (hf.eval rfl)) ?_; clear hf a; intro a hf
    refine Z.val hf rfl (Z.r_move (hf.eval rfl)) ?_; clear hf a; intro a hf
    refine Z.off hf rfl rfl rfl (by simp) ?_; clear hf a; intro a hf
    refine Z.off hf rfl rfl rfl (by simp) ?_; clear hf a; intro a hf
    refine Z.off hf rfl rfl rfl (by simp) ?_; clear hf a; intro a hf
    refine Z.off hf rfl rfl rfl (by simp) ?_; clear hf a; intro a hf
    refine Z.off hf rfl rfl rfl (by simp) ?_; clear hf a; intro a hf
    refine Z.off hf rfl rfl rfl (by simp) ?_; clear hf a; intro a hf
    refine Z.off hf rfl rfl rfl (by simp) ?_; clear hf a; intro a hf
    refine Z.val hf rfl (Z.r_pick_t (hf.eval rfl) (hf.eval rfl)) ?_; clear hf a; intro a hf
    refine Z.done ?_
    refine hn23 _ _ ?_
    replace hf : Z.Fr a 99 [] [(2, .pointer (some ⟨g5, 0, none⟩)), (3, .pointer (some ⟨g11, 0, none⟩)), (61, .bool true)] := hf.keep [2, 3, 61]
    refine Z.condt hf rfl ?_
    refine Z.seq' hp18 fun Q27 hp28 hn29 he30 => ?_
    refine Z.reg ?_
    refine Z.val hf rfl (Z.r_assign (hf.eval rfl)) ?_; clear hf a; intro a hf
    refine Z.done ?_
    refine hn29 _ _ ?_
    replace hf : Z.Fr a 99 [] [(4, .bool false)] := hf.keep [4]
    refine wp_ret ?_
    refine he20 _ _ _ (by simp) ?_
    replace hf := hf.setv (d := 4) (y := .bool (decide (x = y))) rfl (congrArg Value.bool (by first | (symm; apply decide_eq_false; intro h; first | (refine hgd ?_; rw [h]; done) | (refine hcond ?_; rw [h]; done) | (simp only [Bool.not_eq_true', decide_eq_false_iff_not] at hgd; refine hgd ?_; rw [h]; done) | (simp only [Bool.not_eq_true', decide_eq_false_iff_not] at hcond; refine hcond ?_; rw [h]; done) | (rw [h, heb] at hea; injection hea with hea; exact hcond hea.symm)) | (exact Codec.msg_iff (Codec.not_ne hp26) (Codec.not_ne hNONE) (Codec.not_ne hNONE) (Codec.not_ne hNONE) (Codec.not_ne hNONE) (Codec.not_ne hNONE) (Codec.not_ne hNONE) (Codec.take_end hNONE hNONE hNONE) hNONE hNONE)))
    have hq31 : Z.Ch [] w w12 := hc10.then hc16 (by simp) (by simp)
    refine Z.ret1 hf Try.results9 rfl ?_
    exact ⟨rfl, hq31⟩
  · intro hp32
    have hgd := hp32
    replace hf := hf.setb (d := 11) (b' := false) rfl (decide_eq_false hp32)
    refine Z.on hf rfl rfl ?_
    refine Z.val hf rfl (Z.r_fieldAddrB Try.underlying37 rfl Try.sizeOf2 (hf.eval rfl) rfl) ?_; clear hf a; intro a hf
    refine Z.on hf rfl rfl ?_
    refine Z.val hf rfl (Z.r_loadB Try.isAgg2 (hf.eval rfl) hb25 rfl) ?_; clear hf a; intro a hf
    refine Z.on hf rfl rfl ?_
    refine Z.val hf rfl (Z.r_fieldAddrB Try.underlying37 rfl Try.sizeOf2 (hf.eval rfl) rfl) ?_; clear hf a; intro a hf
    refine Z.on hf rfl rfl ?_
    refine Z.val hf rfl (Z.r_loadB Try.isAgg2 (hf.eval rfl) hb15 rfl) ?_; clear hf a; intro a hf
    refine Z.on hf rfl rfl ?_
    refine Z.val hf rfl (Z.r_neq (hf.eval rfl) (hf.eval rfl)) ?_; clear hf a; intro a hf
    refine Z.val hf rfl (Z.r_pick_f (hf.eval rfl) (hf.eval rfl)) ?_; clear hf a; intro a hf
    refine Z.val hf rfl (Z.r_move (hf.eval rfl)) ?_; clear hf a; intro a hf
    by_cases hdec : x.2.1 ≠ y.2.1 <;> revert hdec
    · intro hp33
      have hgd := hp33
      replace hf := hf.setb (d := 18) (b' := true) rfl (decide_eq_true hp33)
      refine Z.off hf rfl rfl rfl (by simp) ?_; clear hf a; intro a hf
      refine Z.off hf rfl rfl rfl (by simp) ?_; clear hf a; intro a hf
      refine Z.off hf rfl rfl rfl (by simp) ?_; clear hf a; intro a hf
      refine Z.off hf rfl rfl rfl (by simp) ?_; clear hf a; intro a hf
      refine Z.off hf rfl rfl rfl (by simp) ?_; clear hf a; intro a hf
      refine Z.val hf rfl (Z.r_pick_t (hf.eval rfl) (hf.eval rfl)) ?_; clear hf a; intro a hf
      refine Z.val hf rfl (Z.r_move (hf.eval rfl)) ?_; clear hf a; intro a hf
      refine Z.off hf rfl rfl rfl (by simp) ?_; clear hf a; intro a hf
      refine Z.off hf rfl rfl rfl (by simp) ?_; clear hf a; intro a hf
      refine Z.off hf rfl rfl rfl (by simp) ?_; clear hf a; intro a hf
      refine Z.off hf rfl rfl rfl (by simp) ?_; clear hf a; intro a hf
      refine Z.off hf rfl rfl rfl (by simp) ?_; clear hf a; intro a hf
      refine Z.val hf rfl (Z.r_pick_t (hf.eval rfl) (hf.eval rfl)) ?_; clear hf a; intro a hf
      refine Z.val hf rfl (Z.r_move (hf.eval rfl)) ?_; clear hf a; intro a hf
      refine Z.off hf rfl rfl rfl (by simp) ?_; clear hf a; intro a hf
      refine Z.off hf rfl rfl rfl (by simp) ?_; clear hf a; intro a hf
      refine Z.off hf rfl rfl rfl (by simp) ?_; clear hf a; intro a hf
      refine Z.off hf rfl rfl rfl (by simp) ?_; clear hf a; intro a hf
      refine Z.off hf rfl rfl rfl (by simp) ?_; clear hf a; intro a hf
      refine Z.val hf rfl (Z.r_pick_t (hf.eval rfl) (hf.eval rfl)) ?_; clear hf a; intro a hf
      refine Z.val hf rfl (Z.r_move (hf.eval rfl)) ?_; clear hf a; intro a hf
      refine Z.off hf rfl rfl rfl (by simp) ?_; clear hf a; intro a hf
      refine Z.off hf rfl rfl rfl (by simp) ?_; clear hf a; intro a hf
      refine Z.off hf rfl rfl rfl (by simp) ?_; clear hf a; intro a hf
      refine Z.off hf rfl rfl rfl (by simp) ?_; clear hf a; intro a hf
      refine Z.off hf rfl rfl rfl (by simp) ?_; clear hf a; intro a hf
      refine Z.val hf rfl (Z.r_pick_t (hf.eval rfl) (hf.eval rfl)) ?_; clear hf a; intro a hf
      refine Z.val hf rfl (Z.r_move (hf.eval rfl)) ?_; clear hf a; intro a hf
      refine Z.off hf rfl rfl rfl (by simp) ?_; clear hf a; intro a hf
      refine Z.off hf rfl rfl rfl (by simp) ?_; clear hf a; intro a hf
      refine Z.off hf rfl rfl rfl (by simp) ?_; clear hf a; intro a hf
      refine Z.off hf rfl rfl rfl (by simp) ?_; clear hf a; intro a hf
      refine Z.off hf rfl rfl rfl (by simp) ?_; clear hf a; intro a hf
      refine Z.val hf rfl (Z.r_pick_t (hf.eval rfl) (hf.eval rfl)) ?_; clear hf a; intro a hf
      refine Z.val hf rfl (Z.r_move (hf.eval rfl)) ?_; clear hf a; intro a hf
      refine Z.off hf rfl rfl rfl (by simp) ?_; clear hf a; intro a hf
      refine Z.off hf rfl rfl rfl (by simp) ?_; clear hf a; intro a hf
      refine Z.off hf rfl rfl rfl (by simp) ?_; clear hf a; intro a hf
      refine Z.off hf rfl rfl rfl (by simp) ?_; clear hf a; intro a hf
      refine Z.off hf rfl rfl rfl (by simp) ?_; clear hf a; intro a hf
      refine Z.off hf rfl rfl rfl (by simp) ?_; clear hf a; intro a hf
      refine Z.off hf rfl rfl rfl (by simp) ?_; clear hf a; intro a hf
      refine Z.val hf rfl (Z.r_pick_t (hf.eval rfl) (hf.eval rfl)) ?_; clear hf a; intro a hf
      refine Z.done ?_
      refine hn23 _ _ ?_
      replace hf : Z.Fr a 99 [] [(2, .pointer (some ⟨g5, 0, none⟩)), (3, .pointer (some ⟨g11, 0, none⟩)), (61, .bool true)] := hf.keep [2, 3, 61]
      refine Z.condt hf rfl ?_
      refine Z.seq' hp18 fun Q34 hp35 hn36 he37 => ?_
      refine Z.reg ?_
      refine Z.val hf rfl (Z.r_assign (hf.eval rfl)) ?_; clear hf a; intro a hf
      refine Z.done ?_
      refine hn36 _ _ ?_
      replace hf : Z.Fr a 99 [] [(4, .bool false)] := hf.keep [4]
      refine wp_ret ?_
      refine he20 _ _ _ (by simp) ?_
      replace hf := hf.setv (d := 4) (y := .bool (decide (x = y))) rfl (congrArg Value.bool (by first | (symm; apply decide_eq_false; intro h; first | (refine hgd ?_; rw [h]; done) | (refine hcond ?_; rw [h]; done) | (simp only [Bool.not_eq_true', decide_eq_false_iff_not] at hgd; refine hgd ?_; rw [h]; done) | (simp only [Bool.not_eq_true', decide_eq_false_iff_not] at hcond; refine hcond ?_; rw [h]; done) | (rw [h, heb] at hea; injection hea with hea; exact hcond hea.symm)) | (exact Codec.msg_iff (Codec.not_ne hp32) (Codec.not_ne hp33) (Codec.not_ne hNONE) (Codec.not_ne hNONE) (Codec.not_ne hNONE) (Codec.not_ne hNONE) (Codec.not_ne hNONE) (Codec.take_end hNONE hNONE hNONE) hNONE hNONE)))
      have hq38 : Z.Ch [] w w12 := hc10.then hc16 (by simp) (by simp)
      refine Z.ret1 hf Try.results9 rfl ?_
      exact ⟨rfl, hq38⟩
    · intro hp39
      have hgd := hp39
      replace hf := hf.setb (d := 18) (b' := false) rfl (decide_eq_false hp39)
      refine Z.on hf rfl rfl ?_
      refine Z.val hf rfl (Z.r_fieldAddrB Try.underlying37 rfl Try.sizeOf23 (hf.eval rfl) rfl) ?_; clear hf a; intro a hf
      refine Z.on hf rfl rfl ?_
      refine Z.val hf rfl (Z.r_loadBN Try.isAgg23 Try.sizeOf23 (hf.eval rfl) hb25 rfl rfl) ?_; clear hf a; intro a hf
      refine Z.on hf rfl rfl ?_
      refine Z.val hf rfl (Z.r_fieldAddrB Try.underlying37 rfl Try.sizeOf23 (hf.eval rfl) rfl) ?_; clear hf a; intro a hf
      refine Z.on hf rfl rfl ?_
      refine Z.val hf rfl (Z.r_loadBN Try.isAgg23 Try.sizeOf23 (hf.eval rfl) hb15 rfl rfl) ?_; clear hf a; intro a hf
      refine Z.on hf rfl rfl ?_
      refine Z.val hf rfl (eqagg_neq23 (x := x.2.2.1) (y := y.2.2.1) (hf.eval rfl) (hf.eval rfl)) ?_; clear hf a; intro a hf
      refine Z.val hf rfl (Z.r_pick_f (hf.eval rfl) (hf.eval rfl)) ?_; clear hf a; intro a hf
      refine Z.val hf rfl (Z.r_move (hf.eval rfl)) ?_; clear hf a; intro a hf
      by_cases hdec : x.2.2.1 ≠ y.2.2.1 <;> revert hdec
      · intro hp40
        have hgd := hp40
        replace hf := hf.setb (d := 25) (b' := true) rfl (decide_eq_true hp40)
        refine Z.off hf rfl rfl rfl (by simp) ?_; clear hf a; intro a hf
        refine Z.off hf rfl rfl rfl (by simp) ?_; clear hf a; intro a hf
        refine Z.off hf rfl rfl rfl (by simp) ?_; clear hf a; intro a hf
        refine Z.off hf rfl rfl rfl (by simp) ?_; clear hf a; intro a hf
        refine Z.off hf rfl rfl rfl (by simp) ?_; clear hf a; intro a hf
        refine Z.val hf rfl (Z.r_pick_t (hf.eval rfl) (hf.eval rfl)) ?_; clear hf a; intro a hf
        refine Z.val hf rfl (Z.r_move (hf.eval rfl)) ?_; clear hf a; intro a hf
        refine Z.off hf rfl rfl rfl (by simp) ?_; clear hf a; intro a hf
        refine Z.off hf rfl rfl rfl (by simp) ?_; clear hf a; intro a hf
        refine Z.off hf rfl rfl rfl (by simp) ?_; clear hf a; intro a hf
        refine Z.off hf rfl rfl rfl (by simp) ?_; clear hf a; intro a hf
        refine Z.off hf rfl rfl rfl (by simp) ?_; clear hf a; intro a hf
        refine Z.val hf rfl (Z.r_pick_t (hf.eval rfl) (hf.eval rfl)) ?_; clear hf a; intro a hf
        refine Z.val hf rfl (Z.r_move (hf.eval rfl)) ?_; clear hf a; intro a hf
        refine Z.off hf rfl rfl rfl (by simp) ?_; clear hf a; intro a hf
        refine Z.off hf rfl rfl rfl (by simp) ?_; clear hf a; intro a hf
        refine Z.off hf rfl rfl rfl (by simp) ?_; clear hf a; intro a hf
        refine Z.off hf rfl rfl rfl (by simp) ?_; clear hf a; intro a hf
        refine Z.off hf rfl rfl rfl (by simp) ?_; clear hf a; intro a hf
        refine Z.val hf rfl (Z.r_pick_t (hf.eval rfl) (hf.eval rfl)) ?_; clear hf a; intro a hf
        refine Z.val hf rfl (Z.r_move (hf.eval rfl)) ?_; clear hf a; intro a hf
        refine Z.off hf rfl rfl rfl (by simp) ?_; clear hf a; intro a hf
        refine Z.off hf rfl rfl rfl (by simp) ?_; clear hf a; intro a hf
        refine Z.off hf rfl rfl rfl (by simp) ?_; clear hf a; intro a hf
        refine Z.off hf rfl rfl rfl (by simp) ?_; clear hf a; intro a hf
        refine Z.off hf rfl rfl rfl (by simp) ?_; clear hf a; intro a hf
        refine Z.val hf rfl (Z.r_pick_t (hf.eval rfl) (hf.eval rfl)) ?_; clear hf a; intro a hf
        refine Z.val hf rfl (Z.r_move (hf.eval rfl)) ?_; clear hf a; intro a hf
        refine Z.off hf rfl rfl rfl (by simp) ?_; clear hf a; intro a hf
        refine Z.off hf rfl rfl rfl (by simp) ?_; clear hf a; intro a hf
        refine Z.off hf rfl rfl rfl (by simp) ?_; clear hf a; intro a hf
        refine Z.off hf rfl rfl rfl (by simp) ?_; clear hf a; intro a hf
        refine Z.off hf rfl rfl rfl (by simp) ?_; clear hf a; intro a hf
        refine Z.off hf rfl rfl rfl (by simp) ?_; clear hf a; intro a hf
        refine Z.off hf rfl rfl rfl (by simp) ?_; clear hf a; intro a hf
        refine Z.val hf rfl (Z.r_pick_t (hf.eval rfl) (hf.eval rfl)) ?_; clear hf a; intro a hf
        refine Z.done ?_
        refine hn23 _ _ ?_
        replace hf : Z.Fr a 99 [] [(2, .pointer (some ⟨g5, 0, none⟩)), (3, .pointer (some ⟨g11, 0, none⟩)), (61, .bool true)] := hf.keep [2, 3, 61]
        refine Z.condt hf rfl ?_
        refine Z.seq' hp18 fun Q41 hp42 hn43 he44 => ?_
        refine Z.reg ?_
        refine Z.val hf rfl (Z.r_assign (hf.eval rfl)) ?_; clear hf a; intro a hf
        refine Z.done ?_
        refine hn43 _ _ ?_
        replace hf : Z.Fr a 99 [] [(4, .bool false)] := hf.keep [4]
        refine wp_ret ?_
        refine he20 _ _ _ (by simp) ?_
        replace hf := hf.setv (d := 4) (y := .bool (decide (x = y))) rfl (congrArg Value.bool (by first | (symm; apply decide_eq_false; intro h; first | (refine hgd ?_; rw [h]; done) | (refine hcond ?_; rw [h]; done) | (simp only [Bool.not_eq_true', decide_eq_false_iff_not] at hgd; refine hgd ?_; rw [h]; done) | (simp only [Bool.not_eq_true', decide_eq_false_iff_not] at hcond; refine hcond ?_; rw [h]; done) | (rw [h, heb] at hea; injection hea with hea; exact hcond hea.symm)) | (exact Codec.msg_iff (Codec.not_ne hp32) (Codec.not_ne hp39) (Codec.not_ne hp40) (Codec.not_ne hNONE) (Codec.not_ne hNONE) (Codec.not_ne hNONE) (Codec.not_ne hNONE) (Codec.take_end hNONE hNONE hNONE) hNONE hNONE)))
        have hq45 : Z.Ch [] w w12 := hc10.then hc16 (by simp) (by simp)
        refine Z.ret1 hf Try.results9 rfl ?_
        exact ⟨rfl, hq45⟩
      · intro hp46
        have hgd := hp46
        replace hf := hf.setb (d := 25) (b' := false) rfl (decide_eq_false hp46)
        refine Z.on hf rfl rfl ?_
        refine Z.val hf rfl (Z.r_fieldAddrB Try.underlying37 rfl Try.sizeOf26 (hf.eval rfl) rfl) ?_; clear hf a; intro a hf
        refine Z.on hf rfl rfl ?_
        refine Z.val hf rfl (Z.r_loadBN Try.isAgg26 Try.sizeOf26 (hf.eval rfl) hb25 rfl rfl) ?_; clear hf a; intro a hf
        refine Z.on hf rfl rfl ?_
        refine Z.val hf rfl (Z.r_fieldAddrB Try.underlying37 rfl Try.sizeOf26 (hf.eval rfl) rfl) ?_; clear hf a; intro a hf
        refine Z.on hf rfl rfl ?_
        refine Z.val hf rfl (Z.r_loadBN Try.isAgg26 Try.sizeOf26 (hf.eval rfl) hb15 rfl rfl) ?_; clear hf a; intro a hf
        refine Z.on hf rfl rfl ?_
        refine Z.val hf rfl (eqagg_neq26 (x := x.2.2.2.1) (y := y.2.2.2.1) (hf.eval rfl) (hf.eval rfl)) ?_; clear hf a; intro a hf
        refine Z.val hf rfl (Z.r_pick_f (hf.eval rfl) (hf.eval rfl)) ?_; clear hf a; intro a hf
        refine Z.val hf rfl (Z.r_move (hf.eval rfl)) ?_; clear hf a; intro a hf
        by_cases hdec : x.2.2.2.1 ≠ y.2.2.2.1 <;> revert hdec
        · intro hp47
          have hgd := hp47
          replace hf := hf.setb (d := 32) (b' := true) rfl (decide_eq_true hp47)
          refine Z.off hf rfl rfl rfl (by simp) ?_; clear hf a; intro a hf
          refine Z.off hf rfl rfl rfl (by simp) ?_; clear hf a; intro a hf
          refine Z.off hf rfl rfl rfl (by simp) ?_; clear hf a; intro a hf
          refine Z.off hf rfl rfl rfl (by simp) ?_; clear hf a; intro a hf
          refine Z.off hf rfl rfl rfl (by simp) ?_; clear hf a; intro a hf
          refine Z.val hf rfl (Z.r_pick_t (hf.eval rfl) (hf.eval rfl)) ?_; clear hf a; intro a hf
          refine Z.val hf rfl (Z.r_move (hf.eval rfl)) ?_; clear hf a; intro a hf
          refine Z.off hf rfl rfl rfl (by simp) ?_; clear hf a; intro a hf
          refine Z.off hf rfl rfl rfl (by simp) ?_; clear hf a; intro a hf
          refine Z.off hf rfl rfl rfl (by simp) ?_; clear hf a; intro a hf
          refine Z.off hf rfl rfl rfl (by simp) ?_; clear hf a; intro a hf
          refine Z.off hf rfl rfl rfl (by simp) ?_; clear hf a; intro a hf
          refine Z.val hf rfl (Z.r_pick_t (hf.eval rfl) (hf.eval rfl)) ?_; clear hf a; intro a hf
          refine Z.val hf rfl (Z.r_move (hf.eval rfl)) ?_; clear hf a; intro a hf
          refine Z.off hf rfl rfl rfl (by simp) ?_; clear hf a; intro a hf
          refine Z.off hf rfl rfl rfl (by simp) ?_; clear hf a; intro a hf
          refine Z.off hf rfl rfl rfl (by simp) ?_; clear hf a; intro a hf
          refine Z.off hf rfl rfl rfl (by simp) ?_; clear hf a; intro a hf
          refine Z.off hf rfl rfl rfl (by simp) ?_; clear hf a; intro a hf
          refine Z.val hf rfl (Z.r_pick_t (hf.eval rfl) (hf.eval rfl)) ?_; clear hf a; intro a hf
          refine Z.val hf rfl (Z.r_move (hf.eval rfl)) ?_; clear hf a; intro a hf
          refine Z.off hf rfl rfl rfl (by simp) ?_; clear hf a; intro a hf
          refine Z.off hf rfl rfl rfl (by simp) ?_; clear hf a; intro a hf
          refine Z.off hf rfl rfl rfl (by simp) ?_; clear hf a; intro a hf
          refine Z.off hf rfl rfl rfl (by simp) ?_; clear hf a; intro a hf
          refine Z.off hf rfl rfl rfl (by simp) ?_; clear hf a; intro a hf
          refine Z.off hf rfl rfl rfl (by simp) ?_; clear hf a; intro a hf
          refine Z.off hf rfl rfl rfl (by simp) ?_; clear hf a; intro a hf
          refine Z.val hf rfl (Z.r_pick_t (hf.eval rfl) (hf.eval rfl)) ?_; clear hf a; intro a hf
          refine Z.done ?_
          refine hn23 _ _ ?_
          replace hf : Z.Fr a 99 [] [(2, .pointer (some ⟨g5, 0, none⟩)), (3, .pointer (some ⟨g11, 0, none⟩)), (61, .bool true)] := hf.keep [2, 3, 61]
          refine Z.condt hf rfl ?_
          refine Z.seq' hp18 fun Q48 hp49 hn50 he51 => ?_
          refine Z.reg ?_
          refine Z.val hf rfl (Z.r_assign (hf.eval rfl)) ?_; clear hf a; intro a hf
          refine Z.done ?_
          refine hn50 _ _ ?_
          replace hf : Z.Fr a 99 [] [(4, .bool false)] := hf.keep [4]
          refine wp_ret ?_
          refine he20 _ _ _ (by simp) ?_
          replace hf := hf.setv (d := 4) (y := .bool (decide (x = y))) rfl (congrArg Value.bool (by first | (symm; apply decide_eq_false; intro h; first | (refine hgd ?_; rw [h]; done) | (refine hcond ?_; rw [h]; done) | (simp only [Bool.not_eq_true', decide_eq_false_iff_not] at hgd; refine hgd ?_; rw [h]; done) | (simp only [Bool.not_eq_true', decide_eq_false_iff_not] at hcond; refine hcond ?_; rw [h]; done) | (rw [h, heb] at hea; injection hea with hea; exact hcond hea.symm)) | (exact Codec.msg_iff (Codec.not_ne hp32) (Codec.not_ne hp39) (Codec.not_ne hp46) (Codec.not_ne hp47) (Codec.not_ne hNONE) (Codec.not_ne hNONE) (Codec.not_ne hNONE) (Codec.take_end hNONE hNONE hNONE) hNONE hNONE)))
          have hq52 : Z.Ch [] w w12 := hc10.then hc16 (by simp) (by simp)
          refine Z.ret1 hf Try.results9 rfl ?_
          exact ⟨rfl, hq52⟩
        · intro hp53
          have hgd := hp53
          replace hf := hf.setb (d := 32) (b' := false) rfl (decide_eq_false hp53)
          refine Z.on hf rfl rfl ?_
          refine Z.val hf rfl (Z.r_fieldAddrB Try.underlying37 rfl Try.sizeOf2 (hf.eval rfl) rfl) ?_; clear hf a; intro a hf
          refine Z.on hf rfl rfl ?_
          refine Z.val hf rfl (Z.r_loadB Try.isAgg2 (hf.eval rfl) hb25 rfl) ?_; clear hf a; intro a hf
          refine Z.on hf rfl rfl ?_
          refine Z.val hf rfl (Z.r_fieldAddrB Try.underlying37 rfl Try.sizeOf2 (hf.eval rfl) rfl) ?_; clear hf a; intro a hf
          refine Z.on hf rfl rfl ?_
          refine Z.val hf rfl (Z.r_loadB Try.isAgg2 (hf.eval rfl) hb15 rfl) ?_; clear hf a; intro a hf
          refine Z.on hf rfl rfl ?_
          refine Z.val hf rfl (Z.r_neq (hf.eval rfl) (hf.eval rfl)) ?_; clear hf a; intro a hf
          refine Z.val hf rfl (Z.r_pick_f (hf.eval rfl) (hf.eval rfl)) ?_; clear hf a; intro a hf
          refine Z.val hf rfl (Z.r_move (hf.eval rfl)) ?_; clear hf a; intro a hf
          by_cases hdec : x.2.2.2.2.2.2.2.1 ≠ y.2.2.2.2.2.2.2.1 <;> revert hdec
          · intro hp54
            have hgd := hp54
            replace hf := hf.setb (d := 39) (b' := true) rfl (decide_eq_true hp54)
            refine Z.off hf rfl rfl rfl (by simp) ?_; clear hf a; intro a hf
            refine Z.off hf rfl rfl rfl (by simp) ?_; clear hf a; intro a hf
            refine Z.off hf rfl rfl rfl (by simp) ?_; clear hf a; intro a hf
            refine Z.off hf rfl rfl rfl (by simp) ?_; clear hf a; intro a hf
            refine Z.off hf rfl rfl rfl (by simp) ?_; clear hf a; intro a hf
            refine Z.val hf rfl (Z.r_pick_t (hf.eval rfl) (hf.eval rfl)) ?_; clear hf a; intro a hf
            refine Z.val hf rfl (Z.r_move (hf.eval rfl)) ?_; clear hf a; intro a hf
            refine Z.off hf rfl rfl rfl (by simp) ?_; clear hf a; intro a hf
            refine Z.off hf rfl rfl rfl (by simp) ?_; clear hf a; intro a hf
            refine Z.off hf rfl rfl rfl (by simp) ?_; clear hf a; intro a hf
            refine Z.off hf rfl rfl rfl (by simp) ?_; clear hf a; intro a hf
            refine Z.off hf rfl rfl rfl (by simp) ?_; clear hf a; intro a hf
            refine Z.val hf rfl (Z.r_pick_t (hf.eval rfl) (hf.eval rfl)) ?_; clear hf a; intro a hf
            refine Z.val hf rfl (Z.r_move (hf.eval rfl)) ?_; clear hf a; intro a hf
            refine Z.off hf rfl rfl rfl (by simp) ?_; clear hf a; intro a hf
            refine Z.off hf rfl rfl rfl (by simp) ?_; clear hf a; intro a hf
            refine Z.off hf rfl rfl rfl (by simp) ?_; clear hf a; intro a hf
            refine Z.off hf rfl rfl rfl (by simp) ?_; clear hf a; intro a hf
            refine Z.off hf rfl rfl rfl (by simp) ?_; clear hf a; intro a hf
            refine Z.off hf rfl rfl rfl (by simp) ?_; clear hf a; intro a hf
            refine Z.off hf rfl rfl rfl (by simp) ?_; clear hf a; intro a hf
            refine Z.val hf rfl (Z.r_pick_t (hf.eval rfl) (hf.eval rfl)) ?_; clear hf a; intro a hf
            refine Z.done ?_
            refine hn23 _ _ ?_
            replace hf : Z.Fr a 99 [] [(2, .pointer (some ⟨g5, 0, none⟩)), (3, .pointer (some ⟨g11, 0, none⟩)), (61, .bool true)] := hf.keep [2, 3, 61]
            refine Z.condt hf rfl ?_
            refine Z.seq' hp18 fun Q55 hp56 hn57 he58 => ?_
            refine Z.reg ?_
            refine Z.val hf rfl (Z.r_assign (hf.eval rfl)) ?_; clear hf a; intro a hf
            refine Z.done ?_
            refine hn57 _ _ ?_
            replace hf : Z.Fr a 99 [] [(4, .bool false)] := hf.keep [4]
            refine wp_ret ?_
            refine he20 _ _ _ (by simp) ?_
            replace hf := hf.setv (d := 4) (y := .bool (decide (x = y))) rfl (congrArg Value.bool (by first | (symm; apply decide_eq_false; intro h; first | (refine hgd ?_; rw [h]; done) | (refine hcond ?_; rw [h]; done) | (simp only [Bool.not_eq_true', decide_eq_false_iff_not] at hgd; refine hgd ?_; rw [h]; done) | (simp only [Bool.not_eq_true', decide_eq_false_iff_not] at hcond; refine hcond ?_; rw [h]; done) | (rw [h, heb] at hea; injection hea with hea; exact hcond hea.symm)) | (exact Codec.msg_iff (Codec.not_ne hp32) (Codec.not_ne hp39) (Codec.not_ne hp46) (Codec.not_ne hp53) (Codec.not_ne hp54) (Codec.not_ne hNONE) (Codec.not_ne hNONE) (Codec.take_end hNONE hNONE hNONE) hNONE hNONE)))
            have hq59 : Z.Ch [] w w12 := hc10.then hc16 (by simp) (by simp)
            refine Z.ret1 hf Try.results9 rfl ?_
            exact ⟨rfl, hq59⟩
          · intro hp60
            have hgd := hp60
            replace hf := hf.setb (d := 39) (b' := false) rfl (decide_eq_false hp60)
            refine Z.on hf rfl rfl ?_
            refine Z.val hf rfl (Z.r_fieldAddrB Try.underlying37 rfl Try.sizeOf4 (hf.eval rfl) rfl) ?_; clear hf a; intro a hf
            refine Z.on hf rfl rfl ?_
            refine Z.val hf rfl (Z.r_loadB Try.isAgg4 (hf.eval rfl) hb25 rfl) ?_; clear hf a; intro a hf
            refine Z.on hf rfl rfl ?_
            refine Z.val hf rfl (Z.r_fieldAddrB Try.underlying37 rfl Try.sizeOf4 (hf.eval rfl) rfl) ?_; clear hf a; intro a hf
            refine Z.on hf rfl rfl ?_
            refine Z.val hf rfl (Z.r_loadB Try.isAgg4 (hf.eval rfl) hb15 rfl) ?_; clear hf a; intro a hf
            refine Z.on hf rfl rfl ?_
            refine Z.val hf rfl (Z.r_neb' Try.underlying4 (hf.eval rfl) (hf.eval rfl)) ?_; clear hf a; intro a hf
            refine Z.val hf rfl (Z.r_pick_f (hf.eval rfl) (hf.eval rfl)) ?_; clear hf a; intro a hf
            refine Z.val hf rfl (Z.r_move (hf.eval rfl)) ?_; clear hf a; intro a hf
            by_cases hdec : x.2.2.2.2.2.2.2.2.2.1 ≠ y.2.2.2.2.2.2.2.2.2.1 <;> revert hdec
            · intro hp61
              have hgd := hp61
              replace hf := hf.setb (d := 46) (b' := true) rfl (decide_eq_true hp61)
              refine Z.off hf rfl rfl rfl (by simp) ?_; clear hf a; intro a hf
              refine Z.off hf rfl rfl rfl (by simp) ?_; clear hf a; intro a hf
              refine Z.off hf rfl rfl rfl (by simp) ?_; clear hf a; intro a hf
              refine Z.off hf rfl rfl rfl (by simp) ?_; clear hf a; intro a hf
              refine Z.off hf rfl rfl rfl (by simp) ?_; clear hf a; intro a hf
              refine Z.val hf rfl (Z.r_pick_t (hf.eval rfl) (hf.eval rfl)) ?_; clear hf a; intro a hf
              refine Z.val hf rfl (Z.r_move (hf.eval rfl)) ?_; clear hf a; intro a hf
              refine Z.off hf rfl rfl rfl (by simp) ?_; clear hf a; intro a hf
              refine Z.off hf rfl rfl rfl (by simp) ?_; clear hf a; intro a hf
              refine Z.off hf rfl rfl rfl (by simp) ?_; clear hf a; intro a hf
              refine Z.off hf rfl rfl rfl (by simp) ?_; clear hf a; intro a hf
              refine Z.off hf rfl rfl rfl (by simp) ?_; clear hf a; intro a hf
              refine Z.off hf rfl rfl rfl (by simp) ?_; clear hf a; intro a hf
              refine Z.off hf rfl rfl rfl (by simp) ?_; clear hf a; intro a hf
              refine Z.val hf rfl (Z.r_pick_t (hf.eval rfl) (hf.eval rfl)) ?_; clear hf a; intro a hf
              refine Z.done ?_
              refine hn23 _ _ ?_
              replace hf : Z.Fr a 99 [] [(2, .pointer (some ⟨g5, 0, none⟩)), (3, .pointer (some ⟨g11, 0, none⟩)), (61, .bool true)] := hf.keep [2, 3, 61]
              refine Z.condt hf rfl ?_
              refine Z.seq' hp18 fun Q62 hp63 hn64 he65 => ?_
              refine Z.reg ?_
              refine Z.val hf rfl (Z.r_assign (hf.eval rfl)) ?_; clear hf a; intro a hf
              refine Z.done ?_
              refine hn64 _ _ ?_
              replace hf : Z.Fr a 99 [] [(4, .bool false)] := hf.keep [4]
              refine wp_ret ?_
              refine he20 _ _ _ (by simp) ?_
              replace hf := hf.setv (d := 4) (y := .bool (decide (x = y))) rfl (congrArg Value.bool (by first | (symm; apply decide_eq_false; intro h; first | (refine hgd ?_; rw [h]; done) | (refine hcond ?_; rw [h]; done) | (simp only [Bool.not_eq_true', decide_eq_false_iff_not] at hgd; refine hgd ?_; rw [h]; done) | (simp only [Bool.not_eq_true', decide_eq_false_iff_not] at hcond; refine hcond ?_; rw [h]; done) | (rw [h, heb] at hea; injection hea with hea; exact hcond hea.symm)) | (exact Codec.msg_iff (Codec.not_ne hp32) (Codec.not_ne hp39) (Codec.not_ne hp46) (Codec.not_ne hp53) (Codec.not_ne hp60) (Codec.not_ne hp61) (Codec.not_ne hNONE) (Codec.take_end hNONE hNONE hNONE) hNONE hNONE)))
              have hq66 : Z.Ch [] w w12 := hc10.then hc16 (by simp) (by simp)
              refine Z.ret1 hf Try.results9 rfl ?_
              exact ⟨rfl, hq66⟩
            · intro hp67
              have hgd := hp67
              replace hf := hf.setb (d := 46) (b' := false) rfl (decide_eq_false hp67)
              refine Z.on hf rfl rfl ?_
              refine Z.val hf rfl (Z.r_fieldAddrB Try.underlying37 rfl Try.sizeOf35 (hf.eval rfl) rfl) ?_; clear hf a; intro a hf
              refine Z.on hf rfl rfl ?_
              refine Z.val hf rfl (Z.r_loadB Try.isAgg35 (hf.eval rfl) hb25 rfl) ?_; clear hf a; intro a hf
              refine Z.on hf rfl rfl ?_
              refine Z.val hf rfl (Z.r_fieldAddrB Try.underlying37 rfl Try.sizeOf35 (hf.eval rfl) rfl) ?_; clear hf a; intro a hf
              refine Z.on hf rfl rfl ?_
              refine Z.val hf rfl (Z.r_loadB Try.isAgg35 (hf.eval rfl) hb15 rfl) ?_; clear hf a; intro a hf
              refine Z.on hf rfl rfl ?_
              refine Z.val hf rfl (Z.r_neq (hf.eval rfl) (hf.eval rfl)) ?_; clear hf a; intro a hf
              refine Z.val hf rfl (Z.r_pick_f (hf.eval rfl) (hf.eval rfl)) ?_; clear hf a; intro a hf
              refine Z.val hf rfl (Z.r_move (hf.eval rfl)) ?_; clear hf a; intro a hf
              by_cases hdec : x.2.2.2.2.2.2.2.2.2.2 ≠ y.2.2.2.2.2.2.2.2.2.2 <;> revert hdec
              · intro hp68
                have hgd := hp68
                replace hf := hf.setb (d := 53) (b' := true) rfl (decide_eq_true hp68)
                refine Z.off hf rfl rfl rfl (by simp) ?_; clear hf a; intro a hf
                refine Z.off hf rfl rfl rfl (by simp) ?_; clear hf a; intro a hf
                refine Z.off hf rfl rfl rfl (by simp) ?_; clear hf a; intro a hf
                refine Z.off hf rfl rfl rfl (by simp) ?_; clear hf a; intro a hf
                refine Z.off hf rfl rfl rfl (by simp) ?_; clear hf a; intro a hf
                refine Z.off hf rfl rfl rfl (by simp) ?_; clear hf a; intro a hf
                refine Z.off hf rfl rfl rfl (by simp) ?_; clear hf a; intro a hf
                refine Z.val hf rfl (Z.r_pick_t (hf.eval rfl) (hf.eval rfl)) ?_; clear hf a; intro a hf
                refine Z.done ?_
                refine hn23 _ _ ?_
                replace hf : Z.Fr a 99 [] [(2, .pointer (some ⟨g5, 0, none⟩)), (3, .pointer (some ⟨g11, 0, none⟩)), (61, .bool true)] := hf.keep [2, 3, 61]
                refine Z.condt hf rfl ?_
                refine Z.seq' hp18 fun Q69 hp70 hn71 he72 => ?_
                refine Z.reg ?_
                refine Z.val hf rfl (Z.r_assign (hf.eval rfl)) ?_; clear hf a; intro a hf
                refine Z.done ?_
                refine hn71 _ _ ?_
                replace hf : Z.Fr a 99 [] [(4, .bool false)] := hf.keep [4]
                refine wp_ret ?_
                refine he20 _ _ _ (by simp) ?_
                replace hf := hf.setv (d := 4) (y := .bool (decide (x = y))) rfl (congrArg Value.bool (by first | (symm; apply decide_eq_false; intro h; first | (refine hgd ?_; rw [h]; done) | (refine hcond ?_; rw [h]; done) | (simp only [Bool.not_eq_true', decide_eq_false_iff_not] at hgd; refine hgd ?_; rw [h]; done) | (simp only [Bool.not_eq_true', decide_eq_false_iff_not] at hcond; refine hcond ?_; rw [h]; done) | (rw [h, heb] at hea; injection hea with hea; exact hcond hea.symm)) | (exact Codec.msg_iff (Codec.not_ne hp32) (Codec.not_ne hp39) (Codec.not_ne hp46) (Codec.not_ne hp53) (Codec.not_ne hp60) (Codec.not_ne hp67) (Codec.not_ne hp68) (Codec.take_end hNONE hNONE hNONE) hNONE hNONE)))
                have hq73 : Z.Ch [] w w12 := hc10.then hc16 (by simp) (by simp)
                refine Z.ret1 hf Try.results9 rfl ?_
                exact ⟨rfl, hq73⟩
              · intro hp74
                have hgd := hp74
                replace hf := hf.setb (d := 53) (b' := false) rfl (decide_eq_false hp74)
                refine Z.on hf rfl rfl ?_
                refine Z.val hf rfl (Z.r_fieldAddrB Try.underlying37 rfl Try.sizeOf28 (hf.eval rfl) rfl) ?_; clear hf a; intro a hf
                refine Z.on hf rfl rfl ?_
                refine Z.val hf rfl (Z.r_loadB Try.isAgg28 (hf.eval rfl) hb25 rfl) ?_; clear hf a; intro a hf
                refine Z.on hf rfl rfl ?_
                refine Z.val hf rfl (Z.r_len Try.underlying28 (hf.eval rfl)) ?_; clear hf a; intro a hf
                refine Z.on hf rfl rfl ?_
                refine Z.val hf rfl (Z.r_fieldAddrB Try.underlying37 rfl Try.sizeOf28 (hf.eval rfl) rfl) ?_; clear hf a; intro a hf
                refine Z.on hf rfl rfl ?_
                refine Z.val hf rfl (Z.r_loadB Try.isAgg28 (hf.eval rfl) hb15 rfl) ?_; clear hf a; intro a hf
                refine Z.on hf rfl rfl ?_
                refine Z.val hf rfl (Z.r_len Try.underlying28 (hf.eval rfl)) ?_; clear hf a; intro a hf
                refine Z.on hf rfl rfl ?_
                refine Z.val hf rfl (Z.r_neq (hf.eval rfl) (hf.eval rfl)) ?_; clear hf a; intro a hf
                refine Z.val hf rfl (Z.r_pick_f (hf.eval rfl) (hf.eval rfl)) ?_; clear hf a; intro a hf
                refine Z.done ?_
                refine hn23 _ _ ?_
                replace hf : Z.Fr a 99 [] [(2, .pointer (some ⟨g5, 0, none⟩)), (3, .pointer (some ⟨g11, 0, none⟩)), (61, .bool (decide ((x.2.2.2.2.2.1.length : Int) ≠ (y.2.2.2.2.2.1.length : Int))))] := hf.keep [2, 3, 61]
                refine Z.condp hf rfl ?_ ?_
                · intro hp75
                  have hcond := hp75
                  refine Z.seq' hp18 fun Q76 hp77 hn78 he79 => ?_
                  refine Z.reg ?_
                  refine Z.val hf rfl (Z.r_assign (hf.eval rfl)) ?_; clear hf a; intro a hf
                  refine Z.done ?_
                  refine hn78 _ _ ?_
                  replace hf : Z.Fr a 99 [] [(4, .bool false)] := hf.keep [4]
                  refine wp_ret ?_
                  refine he20 _ _ _ (by simp) ?_
                  replace hf := hf.setv (d := 4) (y := .bool (decide (x = y))) rfl (congrArg Value.bool (by first | (symm; apply decide_eq_false; intro h; first | (refine hgd ?_; rw [h]; done) | (refine hcond ?_; rw [h]; done) | (simp only [Bool.not_eq_true', decide_eq_false_iff_not] at hgd; refine hgd ?_; rw [h]; done) | (simp only [Bool.not_eq_true', decide_eq_false_iff_not] at hcond; refine hcond ?_; rw [h]; done) | (rw [h, heb] at hea; injection hea with hea; exact hcond hea.symm)) | (exact Codec.msg_iff (Codec.not_ne hp32) (Codec.not_ne hp39) (Codec.not_ne hp46) (Codec.not_ne hp53) (Codec.not_ne hp60) (Codec.not_ne hp67) (Codec.not_ne hp74) (Codec.take_end hp75 hNONE hNONE) hNONE hNONE)))
                  have hq80 : Z.Ch [] w w12 := hc10.then hc16 (by simp) (by simp)
                  refine Z.ret1 hf Try.results9 rfl ?_
                  exact ⟨rfl, hq80⟩
                · intro hp81
                  have hcond := hp81
                  refine wp_skip ?_
                  refine hn19 _ _ ?_
                  replace hf : Z.Fr a 99 [] [(2, .pointer (some ⟨g5, 0, none⟩)), (3, .pointer (some ⟨g11, 0, none⟩))] := hf.keep [2, 3]
                  refine Z.seq' (Z.Pq.body _ _ _) fun Q82 hp83 hn84 he85 => ?_
                  refine Z.seq' hp83 fun Q86 hp87 hn88 he89 => ?_
                  refine Z.reg ?_
                  refine Z.val hf rfl (Z.r_assign (hf.eval rfl)) ?_; clear hf a; intro a hf
                  refine Z.done ?_
                  refine hn88 _ _ ?_
                  replace hf : Z.Fr a 99 [] [(2, .pointer (some ⟨g5, 0, none⟩)), (3, .pointer (some ⟨g11, 0, none⟩)), (5, .int .i64 0)] := hf.keep [2, 3, 5]
                  refine Z.block' hp83 fun Q90 hp91 hn92 hx93 he94 => ?_
                  refine Z.loop' hp91 (fun m a wl => ∃ (k : Nat), m = x.2.2.2.2.2.1.length - k ∧ Z.Ch [] w12 wl ∧ (k ≤ x.2.2.2.2.2.1.length) ∧ (x.2.2.2.2.2.1.take k = y.2.2.2.2.2.1.take k) ∧ Z.Fr a 99 [] [(2, .pointer (some ⟨g5, 0, none⟩)), (3, .pointer (some ⟨g11, 0, none⟩)), (5, .int .i64 (k : Int))]) (x.2.2.2.2.2.1.length - 0) ?_ ?_
                  · replace hf := hf.setv (d := 5) (y := .int .i64 (0 : Int)) rfl (congrArg (Value.int .i64) (by first | rfl | omega | (simp; done) | (simp; omega)))
                    replace hf : Z.Fr a 99 [] [(2, .pointer (some ⟨g5, 0, none⟩)), (3, .pointer (some ⟨g11, 0, none⟩)), (5, .int .i64 (0 : Int))] := hf.keep [2, 3, 5]
                    exact ⟨0, rfl, (Z.Ch.refl w12), (by omega), (by simp), hf⟩
                  · rintro m105 a w95 ⟨k98, hm97, hc96, hk103, ht104, hf⟩ Q99 hp100 hn101 he102
                    have hzhc96 := hc96.size
                    refine Z.seq' hp100 fun Q106 hp107 hn108 he109 => ?_
                    refine Z.seq' hp107 fun Q110 hp111 hn112 he113 => ?_
                    refine Z.reg ?_
                    refine Z.val hf rfl (Z.r_move (hf.eval rfl)) ?_; clear hf a; intro a hf
                    refine Z.val hf rfl (Z.r_fieldAddrB Try.underlying37 rfl Try.sizeOf28 (hf.eval rfl) rfl) ?_; clear hf a; intro a hf
                    have hb114 := hb25.ch0 hc96
                    refine Z.val hf rfl (Z.r_loadB Try.isAgg28 (hf.eval rfl) hb114 rfl) ?_; clear hf a; intro a hf
                    refine Z.val hf rfl (Z.r_len Try.underlying28 (hf.eval rfl)) ?_; clear hf a; intro a hf
                    refine Z.val hf rfl (Z.r_lss (hf.eval rfl) (hf.eval rfl)) ?_; clear hf a; intro a hf
                    refine Z.done ?_
                    refine hn112 _ _ ?_
                    replace hf : Z.Fr a 99 [] [(2, .pointer (some ⟨g5, 0, none⟩)), (3, .pointer (some ⟨g11, 0, none⟩)), (5, .int .i64 (k98 : Int)), (66, .bool (decide ((k98 : Int) < (x.2.2.2.2.2.1.length : Int))))] := hf.keep [2, 3, 5, 66]
                    refine Z.condp hf rfl ?_ ?_
                    · intro hp115
                      have hcond := hp115
                      refine wp_skip ?_
                      refine hn108 _ _ ?_
                      replace hf : Z.Fr a 99 [] [(2, .pointer (some ⟨g5, 0, none⟩)), (3, .pointer (some ⟨g11, 0, none⟩)), (5, .int .i64 (k98 : Int))] := hf.keep [2, 3, 5]
                      refine Z.seq' hp100 fun Q116 hp117 hn118 he119 => ?_
                      refine Z.block' hp117 fun Q120 hp121 hn122 hx123 he124 => ?_
                      refine Z.seq' hp121 fun Q125 hp126 hn127 he128 => ?_
                      refine Z.dr_reg (S := fun w' => Z.Ch [] w95 w') mixed ?_; intro w129 hc130 hz131
                      refine Z.dr_val 0 hf rfl rfl (by kernel_rfl) (by kernel_rfl) (by kernel_rfl) (fun _ _ _ h => hp126 _ _ _ _ _ h) hc130 Z.wanted_none (fun _ hw => Z.r_fieldAddrB Try.underlying37 rfl Try.sizeOf28 (hf.eval rfl) rfl) ?_; clear hf a; intro a hf
                      refine Z.dr_val 1 hf rfl rfl (by kernel_rfl) (by kernel_rfl) (by kernel_rfl) (fun _ _ _ h => hp126 _ _ _ _ _ h) hc130 Z.wanted_none (fun _ hw => Z.r_loadB Try.isAgg28 (hf.eval rfl) (hb114.ch0 hw) rfl) ?_; clear hf a; intro a hf
                      refine Z.dr_val 2 hf rfl rfl (by kernel_rfl) (by kernel_rfl) (by kernel_rfl) (fun _ _ _ h => hp126 _ _ _ _ _ h) hc130 Z.wanted_none (fun _ hw => Z.r_move (hf.eval rfl)) ?_; clear hf a; intro a hf
                      have hq132 : Z.Ch [] w w12 := hc10.then hc16 (by simp) (by simp)
                      have hq133 : Z.Ch [] w w95 := hq132.then hc96 (by simp) (by simp)
                      have hr134 : (Z.Ty.slice (Z.Ty.pair (Z.Ty.pair (Z.Ty.int .i64) (Z.Ty.int .i64)) (Z.Ty.pair (Z.Ty.pair (Z.Ty.int .i64) (Z.Ty.pair (Z.Ty.int .i64) (Z.Ty.pair (Z.Ty.int .i64) (Z.Ty.pair (Z.Ty.int .i64) (Z.Ty.pair (Z.Ty.int .i64) (Z.Ty.int .i64)))))) (Z.Ty.int .i64)))).rep w95 (Z.ol [] w.heap.size) [.slice pA1 x.2.2.2.2.2.1.length pc1] x.2.2.2.2.2.1 := Z.rep_to ph1o hq133 (by intro b h1 h2; (try simp only [Z.nt, Z.iv, Z.no, Z.ol, List.mem_cons, List.not_mem_nil, or_false, not_or, not_false_eq_true] at h1); (try simp only [Z.nt, Z.iv, Z.no, Z.ol, List.mem_cons, List.mem_append, List.not_mem_nil, or_false, not_or, not_false_eq_true, true_and, and_true]) <;> omega)
                      have hkx137 : k98 < (x.2.2.2.2.2.1).length := (by omega)
                      obtain ⟨ad135, es136, x137, hA138, hF139, hl140, hx141, hc142, hr143⟩ := Z.rep_el hr134 hkx137
                      have hok144 := Z.rep_ok _ hr143
                      obtain ⟨ca145, cb146, he147, hr148, hr149⟩ := hr143
                      obtain ⟨ca150, cb151, he152, hr153, hr154⟩ := hr148
                      have he155 := hr153.1
                      have he156 := hr154.1
                      obtain ⟨ca157, cb158, he159, hr160, hr161⟩ := hr149
                      obtain ⟨ca162, cb163, he164, hr165, hr166⟩ := hr160
                      have he167 := hr165.1
                      obtain ⟨ca168, cb169, he170, hr171, hr172⟩ := hr166
                      have he173 := hr171.1
                      obtain ⟨ca174, cb175, he176, hr177, hr178⟩ := hr172
                      have he179 := hr177.1
                      obtain ⟨ca180, cb181, he182, hr183, hr184⟩ := hr178
                      have he185 := hr183.1
                      obtain ⟨ca186, cb187, he188, hr189, hr190⟩ := hr184
                      have he191 := hr189.1
                      have he192 := hr190.1
                      have he193 := hr161.1
                      have he194 : es136 = [.int .i64 x137.1.1, .int .i64 x137.1.2, .int .i64 x137.2.1.1, .int .i64 x137.2.1.2.1, .int .i64 x137.2.1.2.2.1, .int .i64 x137.2.1.2.2.2.1, .int .i64 x137.2.1.2.2.2.2.1, .int .i64 x137.2.1.2.2.2.2.2, .int .i64 x137.2.2] := by simp only [he147, he152, he155, he156, he159, he164, he167, he170, he173, he176, he179, he182, he185, he188, he191, he192, he193, List.cons_append, List.nil_append]
                      rw [he194] at hc142
                      have hea := hx141
                      refine Z.dr_val 3 hf rfl rfl (by kernel_rfl) (by kernel_rfl) (by kernel_rfl) (fun _ _ _ h => hp126 _ _ _ _ _ h) hc130 Z.wanted_none (fun _ hw => Z.r_indexAddrE Try.underlying28 Try.sizeOf71 (hf.eval rfl) hA138 (hf.eval rfl) (k := k98) (by first | rfl | omega) (by omega)) ?_; clear hf a; intro a hf
                      refine Z.dr_val 4 hf rfl rfl (by kernel_rfl) (by kernel_rfl) (by kernel_rfl) (fun _ _ _ h => hp126 _ _ _ _ _ h) hc130 Z.wanted_none (fun _ hw => Z.r_loadEN Try.isAgg71 Try.sizeOf71 (hf.eval rfl) (hc142.ch0 hw) rfl rfl) ?_; clear hf a; intro a hf
                      refine Z.dr_val 5 hf rfl rfl (by kernel_rfl) (by kernel_rfl) (by kernel_rfl) (fun _ _ _ h => hp126 _ _ _ _ _ h) hc130 Z.wanted_none (fun _ hw => Z.r_fieldAddrB Try.underlying37 rfl Try.sizeOf28 (hf.eval rfl) rfl) ?_; clear hf a; intro a hf
                      have hb195 := hb15.ch0 hc96
                      refine Z.dr_val 6 hf rfl rfl (by kernel_rfl) (by kernel_rfl) (by kernel_rfl) (fun _ _ _ h => hp126 _ _ _ _ _ h) hc130 Z.wanted_none (fun _ hw => Z.r_loadB Try.isAgg28 (hf.eval rfl) (hb195.ch0 hw) rfl) ?_; clear hf a; intro a hf
                      refine Z.dr_val 7 hf rfl rfl (by kernel_rfl) (by kernel_rfl) (by kernel_rfl) (fun _ _ _ h => hp126 _ _ _ _ _ h) hc130 Z.wanted_none (fun _ hw => Z.r_move (hf.eval rfl)) ?_; clear hf a; intro a hf
                      have hq196 : Z.Ch [] w w12 := hc10.then hc16 (by simp) (by simp)
                      have hq197 : Z.Ch [] w w95 := hq196.then hc96 (by simp) (by simp)
                      have hr198 : (Z.Ty.slice (Z.Ty.pair (Z.Ty.pair (Z.Ty.int .i64) (Z.Ty.int .i64)) (Z.Ty.pair (Z.Ty.pair (Z.Ty.int .i64) (Z.Ty.pair (Z.Ty.int .i64) (Z.Ty.pair (Z.Ty.int .i64) (Z.Ty.pair (Z.Ty.int .i64) (Z.Ty.pair (Z.Ty.int .i64) (Z.Ty.int .i64)))))) (Z.Ty.int .i64)))).rep w95 (Z.ol [] w.heap.size) [.slice pA7 y.2.2.2.2.2.1.length pc7] y.2.2.2.2.2.1 := Z.rep_to ph7o hq197 (by intro b h1 h2; (try simp only [Z.nt, Z.iv, Z.no, Z.ol, List.mem_cons, List.not_mem_nil, or_false, not_or, not_false_eq_true] at h1); (try simp only [Z.nt, Z.iv, Z.no, Z.ol, List.mem_cons, List.mem_append, List.not_mem_nil, or_false, not_or, not_false_eq_true, true_and, and_true]) <;> omega)
                      have hkx201 : k98 < (y.2.2.2.2.2.1).length := (by omega)
                      obtain ⟨ad199, es200, x201, hA202, hF203, hl204, hx205, hc206, hr207⟩ := Z.rep_el hr198 hkx201
                      have hok208 := Z.rep_ok _ hr207
                      obtain ⟨ca209, cb210, he211, hr212, hr213⟩ := hr207
                      obtain ⟨ca214, cb215, he216, hr217, hr218⟩ := hr212
                      have he219 := hr217.1
                      have he220 := hr218.1
                      obtain ⟨ca221, cb222, he223, hr224, hr225⟩ := hr213
                      obtain ⟨ca226, cb227, he228, hr229, hr230⟩ := hr224
                      have he231 := hr229.1
                      obtain ⟨ca232, cb233, he234, hr235, hr236⟩ := hr230
                      have he237 := hr235.1
                      obtain ⟨ca238, cb239, he240, hr241, hr242⟩ := hr236
                      have he243 := hr241.1
                      obtain ⟨ca244, cb245, he246, hr247, hr248⟩ := hr242
                      have he249 := hr247.1
                      obtain ⟨ca250, cb251, he252, hr253, hr254⟩ := hr248
                      have he255 := hr253.1
                      have he256 := hr254.1
                      have he257 := hr225.1
                      have he258 : es200 = [.int .i64 x201.1.1, .int .i64 x201.1.2, .int .i64 x201.2.1.1, .int .i64 x201.2.1.2.1, .int .i64 x201.2.1.2.2.1, .int .i64 x201.2.1.2.2.2.1, .int .i64 x201.2.1.2.2.2.2.1, .int .i64 x201.2.1.2.2.2.2.2, .int .i64 x201.2.2] := by simp only [he211, he216, he219, he220, he223, he228, he231, he234, he237, he240, he243, he246, he249, he252, he255, he256, he257, List.cons_append, List.nil_append]
                      rw [he258] at hc206
                      have heb := hx205
                      refine Z.dr_val 8 hf rfl rfl (by kernel_rfl) (by kernel_rfl) (by kernel_rfl) (fun _ _ _ h => hp126 _ _ _ _ _ h) hc130 Z.wanted_none (fun _ hw => Z.r_indexAddrE Try.underlying28 Try.sizeOf71 (hf.eval rfl) hA202 (hf.eval rfl) (k := k98) (by first | rfl | omega) (by omega)) ?_; clear hf a; intro a hf
                      refine Z.dr_val 9 hf rfl rfl (by kernel_rfl) (by kernel_rfl) (by kernel_rfl) (fun _ _ _ h => hp126 _ _ _ _ _ h) hc130 Z.wanted_none (fun _ hw => Z.r_loadEN Try.isAgg71 Try.sizeOf71 (hf.eval rfl) (hc206.ch0 hw) rfl rfl) ?_; clear hf a; intro a hf
                      refine Z.dr_val 10 hf rfl rfl (by kernel_rfl) (by kernel_rfl) (by kernel_rfl) (fun _ _ _ h => hp126 _ _ _ _ _ h) hc130 Z.wanted_none (fun _ hw => eqagg_neq71 (x := x137) (y := x201) (hf.eval rfl) (hf.eval rfl)) ?_; clear hf a; intro a hf
                      refine Z.dr_done (by kernel_rfl) ?_
                      refine hn127 _ _ ?_
                      replace hf : Z.Fr a 99 [] [(2, .pointer (some ⟨g5, 0, none⟩)), (3, .pointer (some ⟨g11, 0, none⟩)), (5, .int .i64 (k98 : Int)), (79, .bool (decide (x137 ≠ x201)))] := hf.keep [2, 3, 5, 79]
                      refine Z.condp hf rfl ?_ ?_
                      · intro hp259
                        have hcond := hp259
                        refine Z.seq' hp121 fun Q260 hp261 hn262 he263 => ?_
                        refine Z.reg ?_
                        refine Z.val hf rfl (Z.r_assign (hf.eval rfl)) ?_; clear hf a; intro a hf
                        refine Z.done ?_
                        refine hn262 _ _ ?_
                        replace hf : Z.Fr a 99 [] [(4, .bool false)] := hf.keep [4]
                        refine wp_ret ?_
                        refine he124 _ _ _ (by simp) (by simp) ?_
                        refine he119 _ _ _ (by simp) ?_
                        refine he102 _ _ _ (by simp) ?_
                        refine he94 _ _ _ (by simp) (by simp) ?_
                        refine he85 _ _ _ (by simp) ?_
                        replace hf := hf.setv (d := 4) (y := .bool (decide (x = y))) rfl (congrArg Value.bool (by first | (symm; apply decide_eq_false; intro h; first | (refine hgd ?_; rw [h]; done) | (refine hcond ?_; rw [h]; done) | (simp only [Bool.not_eq_true', decide_eq_false_iff_not] at hgd; refine hgd ?_; rw [h]; done) | (simp only [Bool.not_eq_true', decide_eq_false_iff_not] at hcond; refine hcond ?_; rw [h]; done) | (rw [h, heb] at hea; injection hea with hea; exact hcond hea.symm)) | (exact Codec.msg_iff (Codec.not_ne hp32) (Codec.not_ne hp39) (Codec.not_ne hp46) (Codec.not_ne hp53) (Codec.not_ne hp60) (Codec.not_ne hp67) (Codec.not_ne hp74) (Codec.take_end hp81 ht104 hp115) hp259 hNONE)))
                        have hq264 : Z.Ch [] w w12 := hc10.then hc16 (by simp) (by simp)
                        have hq265 : Z.Ch [] w w95 := hq264.then hc96 (by simp) (by simp)
                        have hq266 : Z.Ch [] w w129 := hq265.then hc130 (by simp) (by simp)
                        refine Z.ret1 hf Try.results9 rfl ?_
                        exact ⟨rfl, hq266⟩
                      · intro hp267
                        have hcond := hp267
                        refine wp_skip ?_
                        refine hn122 _ _ ?_
                        refine hn118 _ _ ?_
                        replace hf : Z.Fr a 99 [] [(2, .pointer (some ⟨g5, 0, none⟩)), (3, .pointer (some ⟨g11, 0, none⟩)), (5, .int .i64 (k98 : Int))] := hf.keep [2, 3, 5]
                        refine Z.reg ?_
                        refine Z.val hf rfl (Z.r_move (hf.eval rfl)) ?_; clear hf a; intro a hf
                        refine Z.val hf rfl (Z.r_add64 (hf.eval rfl) (hf.eval rfl) (by omega)) ?_; clear hf a; intro a hf
                        refine Z.val hf rfl (Z.r_assign (hf.eval rfl)) ?_; clear hf a; intro a hf
                        refine Z.done ?_
                        refine hn101 (x.2.2.2.2.2.1.length - (k98 + 1)) _ _ ?_ ?_
                        rotate_left
                        replace hf := hf.setv (d := 5) (y := .int .i64 ((k98 + 1 : Nat) : Int)) rfl (congrArg (Value.int .i64) (by first | rfl | omega | (simp; done) | (simp; omega)))
                        have hq268 : Z.Ch [] w12 w129 := hc96.then hc130 (by simp) (by simp)
                        replace hf : Z.Fr a 99 [] [(2, .pointer (some ⟨g5, 0, none⟩)), (3, .pointer (some ⟨g11, 0, none⟩)), (5, .int .i64 ((k98 + 1 : Nat) : Int))] := hf.keep [2, 3, 5]
                        exact ⟨k98 + 1, rfl, hq268, (by omega), (by exact Codec.take_step ht104 hea heb hcond), hf⟩
                        rw [hm97]; omega
                    · intro hp269
                      have hcond := hp269
                      refine wp_exit ?_
                      refine he109 _ _ _ (by simp) ?_
                      refine he102 _ _ _ (by simp) ?_
                      refine hx93 _ _ ?_
                      refine hn84 _ _ ?_
                      replace hf : Z.Fr a 99 [] [(2, .pointer (some ⟨g5, 0, none⟩)), (3, .pointer (some ⟨g11, 0, none⟩))] := hf.keep [2, 3]
                      refine Z.seq' (Z.Pq.body _ _ _) fun Q270 hp271 hn272 he273 => ?_
                      refine Z.reg ?_
                      refine Z.val hf rfl (Z.r_fieldAddrB Try.underlying37 rfl Try.sizeOf27 (hf.eval rfl) rfl) ?_; clear hf a; intro a hf
                      refine Z.val hf rfl (Z.r_loadB Try.isAgg27 (hf.eval rfl) hb114 rfl) ?_; clear hf a; intro a hf
                      refine Z.val hf rfl (Z.r_fieldAddrB Try.underlying37 rfl Try.sizeOf27 (hf.eval rfl) rfl) ?_; clear hf a; intro a hf
                      have hb274 := hb15.ch0 hc96
                      refine Z.val hf rfl (Z.r_loadB Try.isAgg27 (hf.eval rfl) hb274 rfl) ?_; clear hf a; intro a hf
                      have hq275 : Z.Ch [] w w12 := hc10.then hc16 (by simp) (by simp)
                      have hq276 : Z.Ch [] w w95 := hq275.then hc96 (by simp) (by simp)
                      have hr277 : (Z.Ty.slice (Z.Ty.pair (Z.Ty.int .i64) Z.Ty.str)).rep w95 (Z.nt []) [.slice pA0 x.2.2.2.2.1.length pc0] x.2.2.2.2.1 := Z.rep_to ph0o hq276 (by intro b h1 h2; (try simp only [Z.nt, Z.iv, Z.no, Z.ol, List.mem_cons, List.not_mem_nil, or_false, not_or, not_false_eq_true] at h1); (try simp only [Z.nt, Z.iv, Z.no, Z.ol, List.mem_cons, List.mem_append, List.not_mem_nil, or_false, not_or, not_false_eq_true, true_and, and_true]) <;> omega)
                      have hr278 : (Z.Ty.slice (Z.Ty.pair (Z.Ty.int .i64) Z.Ty.str)).rep w95 (Z.nt []) [.slice pA6 y.2.2.2.2.1.length pc6] y.2.2.2.2.1 := Z.rep_to ph6o hq276 (by intro b h1 h2; (try simp only [Z.nt, Z.iv, Z.no, Z.ol, List.mem_cons, List.not_mem_nil, or_false, not_or, not_false_eq_true] at h1); (try simp only [Z.nt, Z.iv, Z.no, Z.ol, List.mem_cons, List.mem_append, List.not_mem_nil, or_false, not_or, not_false_eq_true, true_and, and_true]) <;> omega)
                      have hcall := sameRecs_spec (x.2.2.2.2.1) (y.2.2.2.2.1) w95 (pA0) (pc0) (pA6) (pc6) hr277 hr278
                      refine Z.call1 hf rfl (Z.r_call cf22 hf (xs := [.tmp 81, .tmp 83]) rfl) hcall ?_; clear hcall hf a
                      rintro _ w279 ⟨rfl, hc280⟩
                      have hzhc280 := hc280.size
                      refine ⟨_, rfl, ?_⟩; intro a hf
                      refine Z.val hf rfl (Z.r_move (hf.eval rfl)) ?_; clear hf a; intro a hf
                      by_cases hdec : x.2.2.2.2.1 = y.2.2.2.2.1 <;> revert hdec
                      · intro hp281
                        have hgd := hp281
                        replace hf := hf.setb (d := 85) (b' := true) rfl (decide_eq_true hp281)
                        refine Z.on hf rfl rfl ?_
                        refine Z.val hf rfl (Z.r_fieldAddrB Try.underlying37 rfl Try.sizeOf33 (hf.eval rfl) rfl) ?_; clear hf a; intro a hf
                        refine Z.on hf rfl rfl ?_
                        have hb282 := hb114.ch0 hc280
                        refine Z.val hf rfl (Z.r_loadBN Try.isAgg33 Try.sizeOf33 (hf.eval rfl) hb282 rfl rfl) ?_; clear hf a; intro a hf
                        refine Z.on hf rfl rfl ?_
                        refine Z.val hf rfl (Z.r_fieldAddrB Try.underlying37 rfl Try.sizeOf33 (hf.eval rfl) rfl) ?_; clear hf a; intro a hf
                        refine Z.on hf rfl rfl ?_
                        have hb283 := hb274.ch0 hc280
                        refine Z.val hf rfl (Z.r_loadBN Try.isAgg33 Try.sizeOf33 (hf.eval rfl) hb283 rfl rfl) ?_; clear hf a; intro a hf
                        refine Z.on hf rfl rfl ?_
                        have hq284 : Z.Ch [] w w279 := hq276.then hc280 (by simp) (by simp)
                        have hr285 : (Z.Ty.slice (Z.Ty.int .i64)).rep w279 (Z.nt []) [.slice pA2 x.2.2.2.2.2.2.1.1.length pc2] x.2.2.2.2.2.2.1.1 := Z.rep_to ph2o hq284 (by intro b h1 h2; (try simp only [Z.nt, Z.iv, Z.no, Z.ol, List.mem_cons, List.not_mem_nil, or_false, not_or, not_false_eq_true] at h1); (try simp only [Z.nt, Z.iv, Z.no, Z.ol, List.mem_cons, List.mem_append, List.not_mem_nil, or_false, not_or, not_false_eq_true, true_and, and_true]) <;> omega)
                        have hr286 : (Z.Ty.slice (Z.Ty.pair (Z.Ty.int .i64) (Z.Ty.pair (Z.Ty.int .i64) (Z.Ty.pair (Z.Ty.slice (Z.Ty.int .i64)) (Z.Ty.pair (Z.Ty.pair (Z.Ty.int .i64) (Z.Ty.pair (Z.Ty.int .i64) Z.Ty.str)) (Z.Ty.pair Z.Ty.str (Z.Ty.pair (Z.Ty.int .i64) (Z.Ty.int .i64)))))))).rep w279 (Z.nt []) [.slice pA3 x.2.2.2.2.2.2.1.2.1.length pc3] x.2.2.2.2.2.2.1.2.1 := Z.rep_to ph3o hq284 (by intro b h1 h2; (try simp only [Z.nt, Z.iv, Z.no, Z.ol, List.mem_cons, List.not_mem_nil, or_false, not_or, not_false_eq_true] at h1); (try simp only [Z.nt, Z.iv, Z.no, Z.ol, List.mem_cons, List.mem_append, List.not_mem_nil, or_false, not_or, not_false_eq_true, true_and, and_true]) <;> omega)
                        have hr287 : (Z.Ty.slice (Z.Ty.pair (Z.Ty.int .i64) (Z.Ty.pair (Z.Ty.int .i64) (Z.Ty.pair (Z.Ty.int .i64) (Z.Ty.pair (Z.Ty.int .i64) (Z.Ty.pair (Z.Ty.int .i64) (Z.Ty.pair (Z.Ty.int .i64) Z.Ty.str))))))).rep w279 (Z.nt []) [.slice pA4 x.2.2.2.2.2.2.1.2.2.length pc4] x.2.2.2.2.2.2.1.2.2 := Z.rep_to ph4o hq284 (by intro b h1 h2; (try simp only [Z.nt, Z.iv, Z.no, Z.ol, List.mem_cons, List.not_mem_nil, or_false, not_or, not_false_eq_true] at h1); (try simp only [Z.nt, Z.iv, Z.no, Z.ol, List.mem_cons, List.mem_append, List.not_mem_nil, or_false, not_or, not_false_eq_true, true_and, and_true]) <;> omega)
                        have hr288 : (Z.Ty.slice (Z.Ty.int .i64)).rep w279 (Z.nt []) [.slice pA8 y.2.2.2.2.2.2.1.1.length pc8] y.2.2.2.2.2.2.1.1 := Z.rep_to ph8o hq284 (by intro b h1 h2; (try simp only [Z.nt, Z.iv, Z.no, Z.ol, List.mem_cons, List.not_mem_nil, or_false, not_or, not_false_eq_true] at h1); (try simp only [Z.nt, Z.iv, Z.no, Z.ol, List.mem_cons, List.mem_append, List.not_mem_nil, or_false, not_or, not_false_eq_true, true_and, and_true]) <;> omega)
                        have hr289 : (Z.Ty.slice (Z.Ty.pair (Z.Ty.int .i64) (Z.Ty.pair (Z.Ty.int .i64) (Z.Ty.pair (Z.Ty.slice (Z.Ty.int .i64)) (Z.Ty.pair (Z.Ty.pair (Z.Ty.int .i64) (Z.Ty.pair (Z.Ty.int .i64) Z.Ty.str)) (Z.Ty.pair Z.Ty.str (Z.Ty.pair (Z.Ty.int .i64) (Z.Ty.int .i64)))))))).rep w279 (Z.nt []) [.slice pA9 y.2.2.2.2.2.2.1.2.1.length pc9] y.2.2.2.2.2.2.1.2.1 := Z.rep_to ph9o hq284 (by intro b h1 h2; (try simp only [Z.nt, Z.iv, Z.no, Z.ol, List.mem_cons, List.not_mem_nil, or_false, not_or, not_false_eq_true] at h1); (try simp only [Z.nt, Z.iv, Z.no, Z.ol, List.mem_cons, List.mem_append, List.not_mem_nil, or_false, not_or, not_false_eq_true, true_and, and_true]) <;> omega)
                        have hr290 : (Z.Ty.slice (Z.Ty.pair (Z.Ty.int .i64) (Z.Ty.pair (Z.Ty.int .i64) (Z.Ty.pair (Z.Ty.int .i64) (Z.Ty.pair (Z.Ty.int .i64) (Z.Ty.pair (Z.Ty.int .i64) (Z.Ty.pair (Z.Ty.int .i64) Z.Ty.str))))))).rep w279 (Z.nt []) [.slice pA10 y.2.2.2.2.2.2.1.2.2.length pc10] y.2.2.2.2.2.2.1.2.2 := Z.rep_to ph10o hq284 (by intro b h1 h2; (try simp only [Z.nt, Z.iv, Z.no, Z.ol, List.mem_cons, List.not_mem_nil, or_false, not_or, not_false_eq_true] at h1); (try simp only [Z.nt, Z.iv, Z.no, Z.ol, List.mem_cons, List.mem_append, List.not_mem_nil, or_false, not_or, not_false_eq_true, true_and, and_true]) <;> omega)
                        have hcall := SameDelta_spec (x.2.2.2.2.2.2.1) (y.2.2.2.2.2.2.1) w279 (pA2) (pc2) (pA3) (pc3) (pA4) (pc4) (pA8) (pc8) (pA9) (pc9) (pA10) (pc10) hr285 hr286 hr287 pk6.2.2.2.2.2.2.1 hr288 hr289 hr290 pk13.2.2.2.2.2.2.1
                        refine Z.call1 hf rfl (Z.r_call cf23 hf (xs := [.tmp 87, .tmp 89]) rfl) hcall ?_; clear hcall hf a
                        rintro _ w291 ⟨rfl, hc292⟩
                        have hzhc292 := hc292.size
                        refine ⟨_, rfl, ?_⟩; intro a hf
                        refine Z.val hf rfl (Z.r_pick_t (hf.eval rfl) (hf.eval rfl)) ?_; clear hf a; intro a hf
                        refine Z.val hf rfl (Z.r_move (hf.eval rfl)) ?_; clear hf a; intro a hf
                        by_cases hdec : x.2.2.2.2.2.2.1 = y.2.2.2.2.2.2.1 <;> revert hdec
                        · intro hp293
                          have hgd := hp293
                          replace hf := hf.setb (d := 92) (b' := true) rfl (decide_eq_true hp293)
                          refine Z.on hf rfl rfl ?_
                          refine Z.val hf rfl (Z.r_fieldAddrB Try.underlying37 rfl Try.sizeOf34 (hf.eval rfl) rfl) ?_; clear hf a; intro a hf
                          refine Z.on hf rfl rfl ?_
                          have hb294 := hb282.ch0 hc292
                          refine Z.val hf rfl (Z.r_loadB Try.isAgg34 (hf.eval rfl) hb294 rfl) ?_; clear hf a; intro a hf
                          refine Z.on hf rfl rfl ?_
                          refine Z.val hf rfl (Z.r_fieldAddrB Try.underlying37 rfl Try.sizeOf34 (hf.eval rfl) rfl) ?_; clear hf a; intro a hf
                          refine Z.on hf rfl rfl ?_
                          have hb295 := hb283.ch0 hc292
                          refine Z.val hf rfl (Z.r_loadB Try.isAgg34 (hf.eval rfl) hb295 rfl) ?_; clear hf a; intro a hf
                          refine Z.on hf rfl rfl ?_
                          have hq296 : Z.Ch [] w w291 := hq284.then hc292 (by simp) (by simp)
                          have hr297 : (Z.Ty.slice (Z.Ty.pair (Z.Ty.int .i64) (Z.Ty.pair (Z.Ty.int .i64) (Z.Ty.pair Z.Ty.str (Z.Ty.int .i64))))).rep w291 (Z.nt []) [.slice pA5 x.2.2.2.2.2.2.2.2.1.length pc5] x.2.2.2.2.2.2.2.2.1 := Z.rep_to ph5o hq296 (by intro b h1 h2; (try simp only [Z.nt, Z.iv, Z.no, Z.ol, List.mem_cons, List.not_mem_nil, or_false, not_or, not_false_eq_true] at h1); (try simp only [Z.nt, Z.iv, Z.no, Z.ol, List.mem_cons, List.mem_append, List.not_mem_nil, or_false, not_or, not_false_eq_true, true_and, and_true]) <;> omega)
                          have hr298 : (Z.Ty.slice (Z.Ty.pair (Z.Ty.int .i64) (Z.Ty.pair (Z.Ty.int .i64) (Z.Ty.pair Z.Ty.str (Z.Ty.int .i64))))).rep w291 (Z.nt []) [.slice pA11 y.2.2.2.2.2.2.2.2.1.length pc11] y.2.2.2.2.2.2.2.2.1 := Z.rep_to ph11o hq296 (by intro b h1 h2; (try simp only [Z.nt, Z.iv, Z.no, Z.ol, List.mem_cons, List.not_mem_nil, or_false, not_or, not_false_eq_true] at h1); (try simp only [Z.nt, Z.iv, Z.no, Z.ol, List.mem_cons, List.mem_append, List.not_mem_nil, or_false, not_or, not_false_eq_true, true_and, and_true]) <;> omega)
                          have hcall := SameEntries_spec (x.2.2.2.2.2.2.2.2.1) (y.2.2.2.2.2.2.2.2.1) w291 (pA5) (pc5) (pA11) (pc11) hr297 hr298
                          refine Z.call1 hf rfl (Z.r_call cf24 hf (xs := [.tmp 94, .tmp 96]) rfl) hcall ?_; clear hcall hf a
                          rintro _ w299 ⟨rfl, hc300⟩
                          have hzhc300 := hc300.size
                          refine ⟨_, rfl, ?_⟩; intro a hf
                          refine Z.val hf rfl (Z.r_pick_t (hf.eval rfl) (hf.eval rfl)) ?_; clear hf a; intro a hf
                          refine Z.val hf rfl (Z.r_assign (hf.eval rfl)) ?_; clear hf a; intro a hf
                          refine Z.done ?_
                          refine hn272 _ _ ?_
                          replace hf : Z.Fr a 99 [] [(4, .bool (decide (x.2.2.2.2.2.2.2.2.1 = y.2.2.2.2.2.2.2.2.1)))] := hf.keep [4]
                          refine wp_ret ?_
                          replace hf := hf.setv (d := 4) (y := .bool (decide (x = y))) rfl (congrArg Value.bool (by first | (symm; apply decide_eq_false; intro h; first | (refine hgd ?_; rw [h]; done) | (refine hcond ?_; rw [h]; done) | (simp only [Bool.not_eq_true', decide_eq_false_iff_not] at hgd; refine hgd ?_; rw [h]; done) | (simp only [Bool.not_eq_true', decide_eq_false_iff_not] at hcond; refine hcond ?_; rw [h]; done) | (rw [h, heb] at hea; injection hea with hea; exact hcond hea.symm)) | (exact Codec.msg_iff (Codec.not_ne hp32) (Codec.not_ne hp39) (Codec.not_ne hp46) (Codec.not_ne hp53) (Codec.not_ne hp60) (Codec.not_ne hp67) (Codec.not_ne hp74) (Codec.take_end hp81 ht104 hp269) hp281 hp293)))
                          have hq301 : Z.Ch [] w w299 := hq296.then hc300 (by simp) (by simp)
                          refine Z.ret1 hf Try.results9 rfl ?_
                          exact ⟨rfl, hq301⟩
                        · intro hp302
                          have hgd := hp302
                          replace hf := hf.setb (d := 92) (b' := false) rfl (decide_eq_false hp302)
                          refine Z.off hf rfl rfl rfl (by simp) ?_; clear hf a; intro a hf
                          refine Z.off hf rfl rfl rfl (by simp) ?_; clear hf a; intro a hf
                          refine Z.off hf rfl rfl rfl (by simp) ?_; clear hf a; intro a hf
                          refine Z.off hf rfl rfl rfl (by simp) ?_; clear hf a; intro a hf
                          refine Z.off hf rfl rfl rfl (by simp) ?_; clear hf a; intro a hf
                          refine Z.val hf rfl (Z.r_pick_f (hf.eval rfl) (hf.eval rfl)) ?_; clear hf a; intro a hf
                          refine Z.val hf rfl (Z.r_assign (hf.eval rfl)) ?_; clear hf a; intro a hf
                          refine Z.done ?_
                          refine hn272 _ _ ?_
                          replace hf : Z.Fr a 99 [] [(4, .bool false)] := hf.keep [4]
                          refine wp_ret ?_
                          replace hf := hf.setv (d := 4) (y := .bool (decide (x = y))) rfl (congrArg Value.bool (by first | (symm; apply decide_eq_false; intro h; first | (refine hgd ?_; rw [h]; done) | (refine hcond ?_; rw [h]; done) | (simp only [Bool.not_eq_true', decide_eq_false_iff_not] at hgd; refine hgd ?_; rw [h]; done) | (simp only [Bool.not_eq_true', decide_eq_false_iff_not] at hcond; refine hcond ?_; rw [h]; done) | (rw [h, heb] at hea; injection hea with hea; exact hcond hea.symm)) | (exact Codec.msg_iff (Codec.not_ne hp32) (Codec.not_ne hp39) (Codec.not_ne hp46) (Codec.not_ne hp53) (Codec.not_ne hp60) (Codec.not_ne hp67) (Codec.not_ne hp74) (Codec.take_end hp81 ht104 hp269) hp281 hp302)))
                          have hq303 : Z.Ch [] w w291 := hq284.then hc292 (by simp) (by simp)
                          refine Z.ret1 hf Try.results9 rfl ?_
                          exact ⟨rfl, hq303⟩
                      · intro hp304
                        have hgd := hp304
                        replace hf := hf.setb (d := 85) (b' := false) rfl (decide_eq_false hp304)
                        refine Z.off hf rfl rfl rfl (by simp) ?_; clear hf a; intro a hf
                        refine Z.off hf rfl rfl rfl (by simp) ?_; clear hf a; intro a hf
                        refine Z.off hf rfl rfl rfl (by simp) ?_; clear hf a; intro a hf
                        refine Z.off hf rfl rfl rfl (by simp) ?_; clear hf a; intro a hf
                        refine Z.off hf rfl rfl rfl (by simp) ?_; clear hf a; intro a hf
                        refine Z.val hf rfl (Z.r_pick_f (hf.eval rfl) (hf.eval rfl)) ?_; clear hf a; intro a hf
                        refine Z.val hf rfl (Z.r_move (hf.eval rfl)) ?_; clear hf a; intro a hf
                        refine Z.off hf rfl rfl rfl (by simp) ?_; clear hf a; intro a hf
                        refine Z.off hf rfl rfl rfl (by simp) ?_; clear hf a; intro a hf
                        refine Z.off hf rfl rfl rfl (by simp) ?_; clear hf a; intro a hf
                        refine Z.off hf rfl rfl rfl (by simp) ?_; clear hf a; intro a hf
                        refine Z.off hf rfl rfl rfl (by simp) ?_; clear hf a; intro a hf
                        refine Z.val hf rfl (Z.r_pick_f (hf.eval rfl) (hf.eval rfl)) ?_; clear hf a; intro a hf
                        refine Z.val hf rfl (Z.r_assign (hf.eval rfl)) ?_; clear hf a; intro a hf
                        refine Z.done ?_
                        refine hn272 _ _ ?_
                        replace hf : Z.Fr a 99 [] [(4, .bool false)] := hf.keep [4]
                        refine wp_ret ?_
                        replace hf := hf.setv (d := 4) (y := .bool (decide (x = y))) rfl (congrArg Value.bool (by first | (symm; apply decide_eq_false; intro h; first | (refine hgd ?_; rw [h]; done) | (refine hcond ?_; rw [h]; done) | (simp only [Bool.not_eq_true', decide_eq_false_iff_not] at hgd; refine hgd ?_; rw [h]; done) | (simp only [Bool.not_eq_true', decide_eq_false_iff_not] at hcond; refine hcond ?_; rw [h]; done) | (rw [h, heb] at hea; injection hea with hea; exact hcond hea.symm)) | (exact Codec.msg_iff (Codec.not_ne hp32) (Codec.not_ne hp39) (Codec.not_ne hp46) (Codec.not_ne hp53) (Codec.not_ne hp60) (Codec.not_ne hp67) (Codec.not_ne hp74) (Codec.take_end hp81 ht104 hp269) hp304 hNONE)))
                        have hq305 : Z.Ch [] w w279 := hq276.then hc280 (by simp) (by simp)
                        refine Z.ret1 hf Try.results9 rfl ?_
                        exact ⟨rfl, hq305⟩

set_option maxHeartbeats 400000 in
set_option maxRecDepth 20000 in
theorem nodes_spec (xs : List (Int × Int × (List Int) × (Int × Int × ByteArray) × ByteArray × Int × Int)) (w : World) (pA0 : Option Addr) (pc0 : Nat) (ph0 : (Z.Ty.slice (Z.Ty.pair (Z.Ty.int .i64) (Z.Ty.pair (Z.Ty.int .i64) (Z.Ty.pair (Z.Ty.slice (Z.Ty.int .i64)) (Z.Ty.pair (Z.Ty.pair (Z.Ty.int .i64) (Z.Ty.pair (Z.Ty.int .i64) Z.Ty.str)) (Z.Ty.pair Z.Ty.str (Z.Ty.pair (Z.Ty.int .i64) (Z.Ty.int .i64)))))))).rep w (Z.nt []) [.slice pA0 xs.length pc0] xs)  :
    Calls Try.prog 19 #[.slice pA0 xs.length pc0] w fun e w' => ∃ (r : Bool), e = .returned (.bool r) ∧ Z.Ch [] w w' ∧ (r = true → xs.length ≤ 40 ∧ ∀ a ∈ xs, Codec.sNode a) := by
  refine Z.enter Try.func19 rfl Try.ntmps19 (Nat.le_of_ble_eq_true rfl) fun a hf => ?_
  replace hf : Z.Fr a 42 [] [(0, .slice pA0 xs.length pc0)] := hf
  have hle_pA0 := Z.rep_le ph0
  have ph0o := Z.rep_ol ph0
  refine Z.seq' (Z.Pq.body _ _ _) fun Q1 hp2 hn3 he4 => ?_
  refine Z.reg ?_
  refine Z.val hf rfl (Z.r_assign (hf.eval rfl)) ?_; clear hf a; intro a hf
  refine Z.done ?_
  refine hn3 _ _ ?_
  replace hf : Z.Fr a 42 [] [(0, .slice pA0 xs.length pc0)] := hf.keep [0]
  refine Z.seq' (Z.Pq.body _ _ _) fun Q5 hp6 hn7 he8 => ?_
  refine Z.reg ?_
  refine Z.val hf rfl (Z.r_assign (hf.eval rfl)) ?_; clear hf a; intro a hf
  refine Z.done ?_
  refine hn7 _ _ ?_
  replace hf : Z.Fr a 42 [] [(0, .slice pA0 xs.length pc0), (3, .int .i64 0)] := hf.keep [0, 3]
  refine Z.seq' (Z.Pq.body _ _ _) fun Q9 hp10 hn11 he12 => ?_
  refine Z.seq' hp10 fun Q13 hp14 hn15 he16 => ?_
  refine Z.reg ?_
  refine Z.val hf rfl (Z.r_move (hf.eval rfl)) ?_; clear hf a; intro a hf
  refine Z.val hf rfl (Z.r_move (hf.eval rfl)) ?_; clear hf a; intro a hf
  refine Z.val hf rfl (Z.r_len Try.underlying30 (hf.eval rfl)) ?_; clear hf a; intro a hf
  refine Z.val hf rfl (Z.r_min (hf.eval rfl) (hf.eval rfl)) ?_; clear hf a; intro a hf
  have hl17 := Z.rep_slice_len ph0o
  have hr18 := Z.rep_cuth ph0o (min xs.length 99) (by omega)
  have hn19 : (xs.take (min xs.length 99)).length = (min xs.length 99) := by first | rfl | omega | (simp only [List.length_take, List.length_drop]; done) | (simp only [List.length_take, List.length_drop]; omega)
  refine Z.val hf rfl (Z.r_slice_h (u := (min xs.length 99)) Try.underlying30 Try.sizeOf86 (hf.eval rfl) (hf.eval rfl) (by omega) (by omega)) ?_; clear hf a; intro a hf
  replace hf := hf.setv (d := 10) (y := .slice pA0 ((xs.take (min xs.length 99)).length) pc0) rfl (Z.slice_n (by first | rfl | omega | (simp only [List.length_take, List.length_drop]; done) | (simp only [List.length_take, List.length_drop]; omega) | (simp; omega)))
  refine Z.val hf rfl (Z.r_len Try.underlying30 (hf.eval rfl)) ?_; clear hf a; intro a hf
  refine Z.val hf rfl (Z.r_move (hf.eval rfl)) ?_; clear hf a; intro a hf
  refine Z.done ?_
  refine hn15 _ _ ?_
  replace hf : Z.Fr a 42 [] [(0, .slice pA0 xs.length pc0), (3, .int .i64 0), (10, .slice pA0 ((xs.take (min xs.length 99)).length) pc0), (11, .int .i64 ((xs.take (min xs.length 99)).length : Int)), (12, .int .i64 0)] := hf.keep [0, 3, 10, 11, 12]
  refine Z.block' hp10 fun Q20 hp21 hn22 hx23 he24 => ?_
  refine Z.loop' hp21 (fun m a wl => ∃ (k : Nat), ∃ (u : Int), m = (xs.take (min xs.length 99)).length - k ∧ Z.Ch [] w wl ∧ (k ≤ (xs.take (min xs.length 99)).length) ∧ (0 ≤ u ∧ u ≤ 1048576) ∧ (Codec.seen (fun n : (Int × Int × (List Int) × (Int × Int × ByteArray) × ByteArray × Int × Int) => n.2.2.1.length) ((xs.take (min xs.length 99)).take k) u) ∧ (Codec.seen (fun n : (Int × Int × (List Int) × (Int × Int × ByteArray) × ByteArray × Int × Int) => n.2.2.2.2.1.size) ((xs.take (min xs.length 99)).take k) u) ∧ (Codec.seen (fun n : (Int × Int × (List Int) × (Int × Int × ByteArray) × ByteArray × Int × Int) => n.2.2.2.1.2.2.size) ((xs.take (min xs.length 99)).take k) u) ∧ Z.Fr a 42 [] [(0, .slice pA0 xs.length pc0), (3, .int .i64 u), (10, .slice pA0 ((xs.take (min xs.length 99)).length) pc0), (11, .int .i64 ((xs.take (min xs.length 99)).length : Int)), (12, .int .i64 (k : Int))]) ((xs.take (min xs.length 99)).length - 0) ?_ ?_
  · replace hf := hf.setv (d := 12) (y := .int .i64 (0 : Int)) rfl (congrArg (Value.int .i64) (by first | rfl | omega | (simp; done) | (simp; omega)))
    replace hf : Z.Fr a 42 [] [(0, .slice pA0 xs.length pc0), (3, .int .i64 0), (10, .slice pA0 ((xs.take (min xs.length 99)).length) pc0), (11, .int .i64 ((xs.take (min xs.length 99)).length : Int)), (12, .int .i64 (0 : Int))] := hf.keep [0, 3, 10, 11, 12]
    exact ⟨0, 0, rfl, (Z.Ch.refl w), (by omega), (by omega), (by exact Codec.seen_nil _ _), (by exact Codec.seen_nil _ _), (by exact Codec.seen_nil _ _), hf⟩
  · rintro m39 a w25 ⟨k28, u29, hm27, hc26, hk34, hu35, h136, h237, h338, hf⟩ Q30 hp31 hn32 he33
    have hzhc26 := hc26.size
    refine Z.seq' hp31 fun Q40 hp41 hn42 he43 => ?_
    refine Z.reg ?_
    refine Z.val hf rfl (Z.r_lss (hf.eval rfl) (hf.eval rfl)) ?_; clear hf a; intro a hf
    refine Z.done ?_
    refine hn42 _ _ ?_
    replace hf : Z.Fr a 42 [] [(0, .slice pA0 xs.length pc0), (3, .int .i64 u29), (10, .slice pA0 ((xs.take (min xs.length 99)).length) pc0), (11, .int .i64 ((xs.take (min xs.length 99)).length : Int)), (12, .int .i64 (k28 : Int)), (13, .bool (decide ((k28 : Int) < ((xs.take (min xs.length 99)).length : Int))))] := hf.keep [0, 3, 10, 11, 12, 13]
    refine Z.seq' hp31 fun Q44 hp45 hn46 he47 => ?_
    refine Z.condp hf rfl ?_ ?_
    · intro hp48
      have hcond := hp48
      refine wp_skip ?_
      refine hn46 _ _ ?_
      replace hf : Z.Fr a 42 [] [(0, .slice pA0 xs.length pc0), (3, .int .i64 u29), (10, .slice pA0 ((xs.take (min xs.length 99)).length) pc0), (11, .int .i64 ((xs.take (min xs.length 99)).length : Int)), (12, .int .i64 (k28 : Int))] := hf.keep [0, 3, 10, 11, 12]
      refine Z.seq' hp31 fun Q49 hp50 hn51 he52 => ?_
      refine Z.block' hp50 fun Q53 hp54 hn55 hx56 he57 => ?_
      refine Z.seq' hp54 fun Q58 hp59 hn60 he61 => ?_
      refine Z.reg ?_
      have hr62 : (Z.Ty.slice (Z.Ty.pair (Z.Ty.int .i64) (Z.Ty.pair (Z.Ty.int .i64) (Z.Ty.pair (Z.Ty.slice (Z.Ty.int .i64)) (Z.Ty.pair (Z.Ty.pair (Z.Ty.int .i64) (Z.Ty.pair (Z.Ty.int .i64) Z.Ty.str)) (Z.Ty.pair Z.Ty.str (Z.Ty.pair (Z.Ty.int .i64) (Z.Ty.int .i64)))))))).rep w25 (Z.ol [] w.heap.size) [.slice pA0 ((xs.take (min xs.length 99)).length) pc0] (xs.take (min xs.length 99)) := Z.rep_to hr18 hc26 (by intro b h1 h2; (try simp only [Z.nt, Z.iv, Z.no, Z.ol, List.mem_cons, List.not_mem_nil, or_false, not_or, not_false_eq_true] at h1); (try simp only [Z.nt, Z.iv, Z.no, Z.ol, List.mem_cons, List.mem_append, List.not_mem_nil, or_false, not_or, not_false_eq_true, true_and, and_true]) <;> omega)
      have hkx65 : k28 < (xs.take (min xs.length 99)).length := (by omega)
      obtain ⟨ad63, es64, x65, hA66, hF67, hl68, hx69, hc70, hr71⟩ := Z.rep_el hr62 hkx65
      have hok72 := Z.rep_ok _ hr71
      obtain ⟨ca73, cb74, he75, hr76, hr77⟩ := hr71
      have he78 := hr76.1
      obtain ⟨ca79, cb80, he81, hr82, hr83⟩ := hr77
      have he84 := hr82.1
      obtain ⟨ca85, cb86, he87, hr88, hr89⟩ := hr83
      obtain ⟨A90, c91, he92, hn93, hn94⟩ := Z.rep_slice hr88
      rw [he92] at hr88
      have hle_A90 := Z.rep_le hr88
      obtain ⟨ca95, cb96, he97, hr98, hr99⟩ := hr89
      obtain ⟨ca100, cb101, he102, hr103, hr104⟩ := hr98
      have he105 := hr103.1
      obtain ⟨ca106, cb107, he108, hr109, hr110⟩ := hr104
      have he111 := hr109.1
      have he112 := hr110.1
      obtain ⟨ca113, cb114, he115, hr116, hr117⟩ := hr99
      have he118 := hr116.1
      obtain ⟨ca119, cb120, he121, hr122, hr123⟩ := hr117
      have he124 := hr122.1
      have he125 := hr123.1
      have he126 : es64 = [.int .i64 x65.1, .int .i64 x65.2.1, .slice A90 x65.2.2.1.length c91, .int .i64 x65.2.2.2.1.1, .int .i64 x65.2.2.2.1.2.1, .string x65.2.2.2.1.2.2, .string x65.2.2.2.2.1, .int .i64 x65.2.2.2.2.2.1, .int .i64 x65.2.2.2.2.2.2] := by simp only [he75, he78, he81, he84, he87, he92, he97, he102, he105, he108, he111, he112, he115, he118, he121, he124, he125, List.cons_append, List.nil_append]
      rw [he126] at hc70
      have hea := hx69
      refine Z.val hf rfl (Z.r_indexAddrE Try.underlying30 Try.sizeOf86 (hf.eval rfl) hA66 (hf.eval rfl) (k := k28) (by first | rfl | omega) (by omega)) ?_; clear hf a; intro a hf
      refine Z.val hf rfl (Z.r_loadEN Try.isAgg86 Try.sizeOf86 (hf.eval rfl) hc70 rfl rfl) ?_; clear hf a; intro a hf
      refine Z.st_alloc hf rfl Try.zeroValue86 rfl ?_; clear hf a; intro g127 w128 a hg129 hz130 hb131 hc132 hf
      refine Z.st_store hf hb131 rfl rfl Try.sizeOf86 rfl rfl rfl (by simp [Value.oneCell']) rfl ?_; clear hf a; intro w133 a hz134 hb135 hc136 hf
      refine Z.done ?_
      refine hn60 _ _ ?_
      replace hf : Z.Fr a 42 [] [(0, .slice pA0 xs.length pc0), (3, .int .i64 u29), (5, .pointer (some ⟨g127, 0, none⟩)), (10, .slice pA0 ((xs.take (min xs.length 99)).length) pc0), (11, .int .i64 ((xs.take (min xs.length 99)).length : Int)), (12, .int .i64 (k28 : Int))] := hf.keep [0, 3, 5, 10, 11, 12]
      refine Z.reg ?_
      refine Z.val hf rfl (Z.r_move (hf.eval rfl)) ?_; clear hf a; intro a hf
      refine Z.val hf rfl (Z.r_fieldAddrB Try.underlying86 rfl Try.sizeOf29 (hf.eval rfl) rfl) ?_; clear hf a; intro a hf
      refine Z.val hf rfl (Z.r_loadB Try.isAgg29 (hf.eval rfl) hb135 rfl) ?_; clear hf a; intro a hf
      refine Z.val hf rfl (Z.r_len Try.underlying29 (hf.eval rfl)) ?_; clear hf a; intro a hf
      refine Z.val hf rfl (Z.r_min (hf.eval rfl) (hf.eval rfl)) ?_; clear hf a; intro a hf
      refine Z.val hf rfl (Z.r_add64 (hf.eval rfl) (hf.eval rfl) (by omega)) ?_; clear hf a; intro a hf
      refine Z.val hf rfl (Z.r_fieldAddrB Try.underlying86 rfl Try.sizeOf9 (hf.eval rfl) rfl) ?_; clear hf a; intro a hf
      refine Z.val hf rfl (Z.r_loadB Try.isAgg9 (hf.eval rfl) hb135 rfl) ?_; clear hf a; intro a hf
      refine Z.val hf rfl (Z.r_lens Try.underlying9 (hf.eval rfl)) ?_; clear hf a; intro a hf
      refine Z.val hf rfl (Z.r_min (hf.eval rfl) (hf.eval rfl)) ?_; clear hf a; intro a hf
      refine Z.val hf rfl (Z.r_add64 (hf.eval rfl) (hf.eval rfl) (by omega)) ?_; clear hf a; intro a hf
      refine Z.val hf rfl (Z.r_fieldAddrB Try.underlying86 rfl Try.sizeOf62 (hf.eval rfl) rfl) ?_; clear hf a; intro a hf
      refine Z.val hf rfl (Z.r_fieldAddrB Try.underlying62 rfl Try.sizeOf9 (hf.eval rfl) rfl) ?_; clear hf a; intro a hf
      refine Z.val hf rfl (Z.r_loadB Try.isAgg9 (hf.eval rfl) hb135 rfl) ?_; clear hf a; intro a hf
      refine Z.val hf rfl (Z.r_lens Try.underlying9 (hf.eval rfl)) ?_; clear hf a; intro a hf
      refine Z.val hf rfl (Z.r_min (hf.eval rfl) (hf.eval rfl)) ?_; clear hf a; intro a hf
      refine Z.val hf rfl (Z.r_add64 (hf.eval rfl) (hf.eval rfl) (by omega)) ?_; clear hf a; intro a hf
      refine Z.val hf rfl (Z.r_min (hf.eval rfl) (hf.eval rfl)) ?_; clear hf a; intro a hf
      refine Z.val hf rfl (Z.r_assign (hf.eval rfl)) ?_; clear hf a; intro a hf
      refine Z.done ?_
      refine hn55 _ _ ?_
      refine hn51 _ _ ?_
      replace hf : Z.Fr a 42 [] [(0, .slice pA0 xs.length pc0), (3, .int .i64 (min (u29 + min (x65.2.2.1.length : Int) 1048576 + min (x65.2.2.2.2.1.size : Int) 1048576 + min (x65.2.2.2.1.2.2.size : Int) 1048576) 1048576)), (10, .slice pA0 ((xs.take (min xs.length 99)).length) pc0), (11, .int .i64 ((xs.take (min xs.length 99)).length : Int)), (12, .int .i64 (k28 : Int))] := hf.keep [0, 3, 10, 11, 12]
      refine Z.reg ?_
      refine Z.val hf rfl (Z.r_add64 (hf.eval rfl) (hf.eval rfl) (by omega)) ?_; clear hf a; intro a hf
      refine Z.val hf rfl (Z.r_move (hf.eval rfl)) ?_; clear hf a; intro a hf
      refine Z.done ?_
      refine hn32 ((xs.take (min xs.length 99)).length - (k28 + 1)) _ _ ?_ ?_
      rotate_left
      replace hf := hf.setv (d := 12) (y := .int .i64 ((k28 + 1 : Nat) : Int)) rfl (congrArg (Value.int .i64) (by first | rfl | omega | (simp; done) | (simp; omega)))
      have hq137 : Z.Ch [] w w128 := hc26.then hc132 (by simp) (by simp)
      have hq138 : Z.Ch [g127] w w133 := hq137.then hc136 (by simp) (by simp)
      replace hf : Z.Fr a 42 [] [(0, .slice pA0 xs.length pc0), (3, .int .i64 (min (u29 + min (x65.2.2.1.length : Int) 1048576 + min (x65.2.2.2.2.1.size : Int) 1048576 + min (x65.2.2.2.1.2.2.size : Int) 1048576) 1048576)), (10, .slice pA0 ((xs.take (min xs.length 99)).length) pc0), (11, .int .i64 ((xs.take (min xs.length 99)).length : Int)), (12, .int .i64 ((k28 + 1 : Nat) : Int))] := hf.keep [0, 3, 10, 11, 12]
      exact ⟨k28 + 1, min (u29 + min (x65.2.2.1.length : Int) 1048576 + min (x65.2.2.2.2.1.size : Int) 1048576 + min (x65.2.2.2.1.2.2.size : Int) 1048576) 1048576, rfl, (hq138.mono (by intro k hk; (try simp only [List.mem_cons, List.mem_append, List.not_mem_nil, or_false, false_or] at hk ⊢) <;> omega)), (by omega), (by omega), (by exact Codec.seen_step h136 hea hu35.1 (by omega)), (by exact Codec.seen_step h237 hea hu35.1 (by omega)), (by exact Codec.seen_step h338 hea hu35.1 (by omega)), hf⟩
      rw [hm27]; omega
    · intro hp139
      have hcond := hp139
      refine wp_exit ?_
      refine he47 _ _ _ (by simp) ?_
      refine he33 _ _ _ (by simp) ?_
      refine hx23 _ _ ?_
      refine hn11 _ _ ?_
      replace hf : Z.Fr a 42 [] [(0, .slice pA0 xs.length pc0), (3, .int .i64 u29)] := hf.keep [0, 3]
      refine Z.seq' (Z.Pq.body _ _ _) fun Q140 hp141 hn142 he143 => ?_
      refine Z.reg ?_
      refine Z.val hf rfl (Z.r_move (hf.eval rfl)) ?_; clear hf a; intro a hf
      refine Z.val hf rfl (Z.r_len Try.underlying30 (hf.eval rfl)) ?_; clear hf a; intro a hf
      refine Z.val hf rfl (Z.r_leq (hf.eval rfl) (hf.eval rfl)) ?_; clear hf a; intro a hf
      refine Z.val hf rfl (Z.r_move (hf.eval rfl)) ?_; clear hf a; intro a hf
      by_cases hdec : (xs.length : Int) ≤ 40 <;> revert hdec
      · intro hp144
        have hgd := hp144
        replace hf := hf.setb (d := 38) (b' := true) rfl (decide_eq_true hp144)
        refine Z.on hf rfl rfl ?_
        refine Z.val hf rfl (Z.r_move (hf.eval rfl)) ?_; clear hf a; intro a hf
        refine Z.on hf rfl rfl ?_
        refine Z.val hf rfl (Z.r_leq (hf.eval rfl) (hf.eval rfl)) ?_; clear hf a; intro a hf
        refine Z.val hf rfl (Z.r_pick_t (hf.eval rfl) (hf.eval rfl)) ?_; clear hf a; intro a hf
        refine Z.val hf rfl (Z.r_assign (hf.eval rfl)) ?_; clear hf a; intro a hf
        refine Z.done ?_
        refine hn142 _ _ ?_
        replace hf : Z.Fr a 42 [] [(2, .bool (decide (u29 ≤ 5000)))] := hf.keep [2]
        refine wp_ret ?_
        refine Z.ret1 hf Try.results19 rfl ?_
        exact ⟨decide (u29 ≤ 5000), rfl, hc26, (by intro h; first | exact absurd h (by decide) | (have h9 := of_decide_eq_true h; exact ⟨by omega, fun a ha => ⟨Codec.seen_all (n := min xs.length 99) (m := 5000) h136 hp139 (by omega) (by omega) (by omega) a ha, Codec.seen_all (n := min xs.length 99) (m := 5000) h338 hp139 (by omega) (by omega) (by omega) a ha, Codec.seen_all (n := min xs.length 99) (m := 5000) h237 hp139 (by omega) (by omega) (by omega) a ha⟩⟩))⟩
      · intro hp145
        have hgd := hp145
        replace hf := hf.setb (d := 38) (b' := false) rfl (decide_eq_false hp145)
        refine Z.off hf rfl rfl rfl (by simp) ?_; clear hf a; intro a hf
        refine Z.off hf rfl rfl rfl (by simp) ?_; clear hf a; intro a hf
        refine Z.val hf rfl (Z.r_pick_f (hf.eval rfl) (hf.eval rfl)) ?_; clear hf a; intro a hf
        refine Z.val hf rfl (Z.r_assign (hf.eval rfl)) ?_; clear hf a; intro a hf
        refine Z.done ?_
        refine hn142 _ _ ?_
        replace hf : Z.Fr a 42 [] [(2, .bool false)] := hf.keep [2]
        refine wp_ret ?_
        refine Z.ret1 hf Try.results19 rfl ?_
        exact ⟨false, rfl, hc26, (by intro h; first | exact absurd h (by decide) | (have h9 := of_decide_eq_true h; exact ⟨by omega, fun a ha => ⟨Codec.seen_all (n := min xs.length 99) (m := 5000) h136 hp139 (by omega) (by omega) (by omega) a ha, Codec.seen_all (n := min xs.length 99) (m := 5000) h338 hp139 (by omega) (by omega) (by omega) a ha, Codec.seen_all (n := min xs.length 99) (m := 5000) h237 hp139 (by omega) (by omega) (by omega) a ha⟩⟩))⟩

set_option maxHeartbeats 1000000 in
set_option maxRecDepth 20000 in
theorem small_spec (x : (Int × Int × (Int × Int) × (Int × Int × (Int × Int × Int × Int)) × (List (Int × ByteArray)) × (List ((Int × Int) × (Int × Int × (Int × Int × Int × Int)) × Int)) × ((List Int) × (List (Int × Int × (List Int) × (Int × Int × ByteArray) × ByteArray × Int × Int)) × (List (Int × Int × Int × Int × (Int × Int × ByteArray)))) × Int × (List (Int × Int × ByteArray × Int)) × Bool × Int)) (w : World) (pA0 : Option Addr) (pc0 : Nat) (pA1 : Option Addr) (pc1 : Nat) (pA2 : Option Addr) (pc2 : Nat) (pA3 : Option Addr) (pc3 : Nat) (pA4 : Option Addr) (pc4 : Nat) (pA5 : Option Addr) (pc5 : Nat) (ph0 : (Z.Ty.slice (Z.Ty.pair (Z.Ty.int .i64) Z.Ty.str)).rep w (Z.nt []) [.slice pA0 x.2.2.2.2.1.length pc0] x.2.2.2.2.1) (ph1 : (Z.Ty.slice (Z.Ty.pair (Z.Ty.pair (Z.Ty.int .i64) (Z.Ty.int .i64)) (Z.Ty.pair (Z.Ty.pair (Z.Ty.int .i64) (Z.Ty.pair (Z.Ty.int .i64) (Z.Ty.pair (Z.Ty.int .i64) (Z.Ty.pair (Z.Ty.int .i64) (Z.Ty.pair (Z.Ty.int .i64) (Z.Ty.int .i64)))))) (Z.Ty.int .i64)))).rep w (Z.nt []) [.slice pA1 x.2.2.2.2.2.1.length pc1] x.2.2.2.2.2.1) (ph2 : (Z.Ty.slice (Z.Ty.int .i64)).rep w (Z.nt []) [.slice pA2 x.2.2.2.2.2.2.1.1.length pc2] x.2.2.2.2.2.2.1.1) (ph3 : (Z.Ty.slice (Z.Ty.pair (Z.Ty.int .i64) (Z.Ty.pair (Z.Ty.int .i64) (Z.Ty.pair (Z.Ty.slice (Z.Ty.int .i64)) (Z.Ty.pair (Z.Ty.pair (Z.Ty.int .i64) (Z.Ty.pair (Z.Ty.int .i64) Z.Ty.str)) (Z.Ty.pair Z.Ty.str (Z.Ty.pair (Z.Ty.int .i64) (Z.Ty.int .i64)))))))).rep w (Z.nt []) [.slice pA3 x.2.2.2.2.2.2.1.2.1.length pc3] x.2.2.2.2.2.2.1.2.1) (ph4 : (Z.Ty.slice (Z.Ty.pair (Z.Ty.int .i64) (Z.Ty.pair (Z.Ty.int .i64) (Z.Ty.pair (Z.Ty.int .i64) (Z.Ty.pair (Z.Ty.int .i64) (Z.Ty.pair (Z.Ty.int .i64) (Z.Ty.pair (Z.Ty.int .i64) Z.Ty.str))))))).rep w (Z.nt []) [.slice pA4 x.2.2.2.2.2.2.1.2.2.length pc4] x.2.2.2.2.2.2.1.2.2) (ph5 : (Z.Ty.slice (Z.Ty.pair (Z.Ty.int .i64) (Z.Ty.pair (Z.Ty.int .i64) (Z.Ty.pair Z.Ty.str (Z.Ty.int .i64))))).rep w (Z.nt []) [.slice pA5 x.2.2.2.2.2.2.2.2.1.length pc5] x.2.2.2.2.2.2.2.2.1) (pk6 : Z.Ty.ok (Z.Ty.pair (Z.Ty.int .i64) (Z.Ty.pair (Z.Ty.int .i64) (Z.Ty.pair (Z.Ty.pair (Z.Ty.int .i64) (Z.Ty.int .i64)) (Z.Ty.pair (Z.Ty.pair (Z.Ty.int .i64) (Z.Ty.pair (Z.Ty.int .i64) (Z.Ty.pair (Z.Ty.int .i64) (Z.Ty.pair (Z.Ty.int .i64) (Z.Ty.pair (Z.Ty.int .i64) (Z.Ty.int .i64)))))) (Z.Ty.pair (Z.Ty.slice (Z.Ty.pair (Z.Ty.int .i64) Z.Ty.str)) (Z.Ty.pair (Z.Ty.slice (Z.Ty.pair (Z.Ty.pair (Z.Ty.int .i64) (Z.Ty.int .i64)) (Z.Ty.pair (Z.Ty.pair (Z.Ty.int .i64) (Z.Ty.pair (Z.Ty.int .i64) (Z.Ty.pair (Z.Ty.int .i64) (Z.Ty.pair (Z.Ty.int .i64) (Z.Ty.pair (Z.Ty.int .i64) (Z.Ty.int .i64)))))) (Z.Ty.int .i64)))) (Z.Ty.pair (Z.Ty.pair (Z.Ty.slice (Z.Ty.int .i64)) (Z.Ty.pair (Z.Ty.slice (Z.Ty.pair (Z.Ty.int .i64) (Z.Ty.pair (Z.Ty.int .i64) (Z.Ty.pair (Z.Ty.slice (Z.Ty.int .i64)) (Z.Ty.pair (Z.Ty.pair (Z.Ty.int .i64) (Z.Ty.pair (Z.Ty.int .i64) Z.Ty.str)) (Z.Ty.pair Z.Ty.str (Z.Ty.pair (Z.Ty.int .i64) (Z.Ty.int .i64)))))))) (Z.Ty.slice (Z.Ty.pair (Z.Ty.int .i64) (Z.Ty.pair (Z.Ty.int .i64) (Z.Ty.pair (Z.Ty.int .i64) (Z.Ty.pair (Z.Ty.int .i64) (Z.Ty.pair (Z.Ty.int .i64) (Z.Ty.pair (Z.Ty.int .i64) Z.Ty.str))))))))) (Z.Ty.pair (Z.Ty.int .i64) (Z.Ty.pair (Z.Ty.slice (Z.Ty.pair (Z.Ty.int .i64) (Z.Ty.pair (Z.Ty.int .i64) (Z.Ty.pair Z.Ty.str (Z.Ty.int .i64))))) (Z.Ty.pair Z.Ty.bool (Z.Ty.int .i64))))))))))) x)  :
    Calls Try.prog 7 #[.agg #[.int .i64 x.1, .int .i64 x.2.1, .int .i64 x.2.2.1.1, .int .i64 x.2.2.1.2, .int .i64 x.2.2.2.1.1, .int .i64 x.2.2.2.1.2.1, .int .i64 x.2.2.2.1.2.2.1, .int .i64 x.2.2.2.1.2.2.2.1, .int .i64 x.2.2.2.1.2.2.2.2.1, .int .i64 x.2.2.2.1.2.2.2.2.2, .slice pA0 x.2.2.2.2.1.length pc0, .slice pA1 x.2.2.2.2.2.1.length pc1, .slice pA2 x.2.2.2.2.2.2.1.1.length pc2, .slice pA3 x.2.2.2.2.2.2.1.2.1.length pc3, .slice pA4 x.2.2.2.2.2.2.1.2.2.length pc4, .int .i64 x.2.2.2.2.2.2.2.1, .slice pA5 x.2.2.2.2.2.2.2.2.1.length pc5, .bool x.2.2.2.2.2.2.2.2.2.1, .int .i64 x.2.2.2.2.2.2.2.2.2.2]] w fun e w' => ∃ (r : Bool), e = .returned (.bool r) ∧ Z.Ch [] w w' ∧ (r = true → Codec.sMsg x) := by
  refine Z.enter Try.func7 rfl Try.ntmps7 (Nat.le_of_ble_eq_true rfl) fun a hf => ?_
  replace hf : Z.Fr a 113 [] [(0, .agg #[.int .i64 x.1, .int .i64 x.2.1, .int .i64 x.2.2.1.1, .int .i64 x.2.2.1.2, .int .i64 x.2.2.2.1.1, .int .i64 x.2.2.2.1.2.1, .int .i64 x.2.2.2.1.2.2.1, .int .i64 x.2.2.2.1.2.2.2.1, .int .i64 x.2.2.2.1.2.2.2.2.1, .int .i64 x.2.2.2.1.2.2.2.2.2, .slice pA0 x.2.2.2.2.1.length pc0, .slice pA1 x.2.2.2.2.2.1.length pc1, .slice pA2 x.2.2.2.2.2.2.1.1.length pc2, .slice pA3 x.2.2.2.2.2.2.1.2.1.length pc3, .slice pA4 x.2.2.2.2.2.2.1.2.2.length pc4, .int .i64 x.2.2.2.2.2.2.2.1, .slice pA5 x.2.2.2.2.2.2.2.2.1.length pc5, .bool x.2.2.2.2.2.2.2.2.2.1, .int .i64 x.2.2.2.2.2.2.2.2.2.2])] := hf
  have hle_pA0 := Z.rep_le ph0
  have ph0o := Z.rep_ol ph0
  have hle_pA1 := Z.rep_le ph1
  have ph1o := Z.rep_ol ph1
  have hle_pA2 := Z.rep_le ph2
  have ph2o := Z.rep_ol ph2
  have hle_pA3 := Z.rep_le ph3
  have ph3o := Z.rep_ol ph3
  have hle_pA4 := Z.rep_le ph4
  have ph4o := Z.rep_ol ph4
  have hle_pA5 := Z.rep_le ph5
  have ph5o := Z.rep_ol ph5
  refine Z.seq' (Z.Pq.body _ _ _) fun Q1 hp2 hn3 he4 => ?_
  refine Z.reg ?_
  refine Z.st_box hf rfl rfl rfl ?_; clear hf a; intro g5 w6 a hg7 hz8 hb9 hc10 hf
  refine Z.val hf rfl (Z.r_assign (hf.eval rfl)) ?_; clear hf a; intro a hf
  refine Z.done ?_
  refine hn3 _ _ ?_
  replace hf : Z.Fr a 113 [] [(1, .pointer (some ⟨g5, 0, none⟩))] := hf.keep [1]
  refine Z.seq' (Z.Pq.body _ _ _) fun Q11 hp12 hn13 he14 => ?_
  refine Z.reg ?_
  refine Z.val hf rfl (Z.r_assign (hf.eval rfl)) ?_; clear hf a; intro a hf
  refine Z.done ?_
  refine hn13 _ _ ?_
  replace hf : Z.Fr a 113 [] [(1, .pointer (some ⟨g5, 0, none⟩)), (3, .int .i64 0)] := hf.keep [1, 3]
  refine Z.seq' (Z.Pq.body _ _ _) fun Q15 hp16 hn17 he18 => ?_
  refine Z.seq' hp16 fun Q19 hp20 hn21 he22 => ?_
  refine Z.reg ?_
  refine Z.val hf rfl (Z.r_fieldAddrB Try.underlying37 rfl Try.sizeOf27 (hf.eval rfl) rfl) ?_; clear hf a; intro a hf
  refine Z.val hf rfl (Z.r_loadB Try.isAgg27 (hf.eval rfl) hb9 rfl) ?_; clear hf a; intro a hf
  refine Z.val hf rfl (Z.r_fieldAddrB Try.underlying37 rfl Try.sizeOf27 (hf.eval rfl) rfl) ?_; clear hf a; intro a hf
  refine Z.val hf rfl (Z.r_loadB Try.isAgg27 (hf.eval rfl) hb9 rfl) ?_; clear hf a; intro a hf
  refine Z.val hf rfl (Z.r_len Try.underlying27 (hf.eval rfl)) ?_; clear hf a; intro a hf
  refine Z.val hf rfl (Z.r_min (hf.eval rfl) (hf.eval rfl)) ?_; clear hf a; intro a hf
  have hr23 : (Z.Ty.slice (Z.Ty.pair (Z.Ty.int .i64) Z.Ty.str)).rep w6 (Z.ol [] w.heap.size) [.slice pA0 x.2.2.2.2.1.length pc0] x.2.2.2.2.1 := Z.rep_to ph0o hc10 (by intro b h1 h2; (try simp only [Z.nt, Z.iv, Z.no, Z.ol, List.mem_cons, List.not_mem_nil, or_false, not_or, not_false_eq_true] at h1); (try simp only [Z.nt, Z.iv, Z.no, Z.ol, List.mem_cons, List.mem_append, List.not_mem_nil, or_false, not_or, not_false_eq_true, true_and, and_true]) <;> omega)
  have hl24 := Z.rep_slice_len hr23
  have hr25 := Z.rep_cuth hr23 (min x.2.2.2.2.1.length 300) (by omega)
  have hn26 : (x.2.2.2.2.1.take (min x.2.2.2.2.1.length 300)).length = (min x.2.2.2.2.1.length 300) := by first | rfl | omega | (simp only [List.length_take, List.length_drop]; done) | (simp only [List.length_take, List.length_drop]; omega)
  refine Z.val hf rfl (Z.r_slice_h (u := (min x.2.2.2.2.1.length 300)) Try.underlying27 Try.sizeOf60 (hf.eval rfl) (hf.eval rfl) (by omega) (by omega)) ?_; clear hf a; intro a hf
  replace hf := hf.setv (d := 16) (y := .slice pA0 ((x.2.2.2.2.1.take (min x.2.2.2.2.1.length 300)).length) pc0) rfl (Z.slice_n (by first | rfl | omega | (simp only [List.length_take, List.length_drop]; done) | (simp only [List.length_take, List.length_drop]; omega) | (simp; omega)))
  refine Z.val hf rfl (Z.r_len Try.underlying27 (hf.eval rfl)) ?_; clear hf a; intro a hf
  refine Z.val hf rfl (Z.r_move (hf.eval rfl)) ?_; clear hf a; intro a hf
  refine Z.done ?_
  refine hn21 _ _ ?_
  replace hf : Z.Fr a 113 [] [(1, .pointer (some ⟨g5, 0, none⟩)), (3, .int .i64 0), (16, .slice pA0 ((x.2.2.2.2.1.take (min x.2.2.2.2.1.length 300)).length) pc0), (17, .int .i64 ((x.2.2.2.2.1.take (min x.2.2.2.2.1.length 300)).length : Int)), (18, .int .i64 0)] := hf.keep [1, 3, 16, 17, 18]
  refine Z.block' hp16 fun Q27 hp28 hn29 hx30 he31 => ?_
  refine Z.loop' hp28 (fun m a wl => ∃ (k : Nat), ∃ (u : Int), m = (x.2.2.2.2.1.take (min x.2.2.2.2.1.length 300)).length - k ∧ Z.Ch [] w6 wl ∧ (k ≤ (x.2.2.2.2.1.take (min x.2.2.2.2.1.length 300)).length) ∧ (0 ≤ u ∧ u ≤ 1048576) ∧ (0 ≤ u) ∧ (Codec.seen (fun n : (Int × ByteArray) => n.2.size) ((x.2.2.2.2.1.take (min x.2.2.2.2.1.length 300)).take k) u) ∧ Z.Fr a 113 [] [(1, .pointer (some ⟨g5, 0, none⟩)), (3, .int .i64 u), (16, .slice pA0 ((x.2.2.2.2.1.take (min x.2.2.2.2.1.length 300)).length) pc0), (17, .int .i64 ((x.2.2.2.2.1.take (min x.2.2.2.2.1.length 300)).length : Int)), (18, .int .i64 (k : Int))]) ((x.2.2.2.2.1.take (min x.2.2.2.2.1.length 300)).length - 0) ?_ ?_
  · replace hf := hf.setv (d := 18) (y := .int .i64 (0 : Int)) rfl (congrArg (Value.int .i64) (by first | rfl | omega | (simp; done) | (simp; omega)))
    replace hf : Z.Fr a 113 [] [(1, .pointer (some ⟨g5, 0, none⟩)), (3, .int .i64 0), (16, .slice pA0 ((x.2.2.2.2.1.take (min x.2.2.2.2.1.length 300)).length) pc0), (17, .int .i64 ((x.2.2.2.2.1.take (min x.2.2.2.2.1.length 300)).length : Int)), (18, .int .i64 (0 : Int))] := hf.keep [1, 3, 16, 17, 18]
    exact ⟨0, 0, rfl, (Z.Ch.refl w6), (by omega), (by omega), (by omega), (by exact Codec.seen_nil _ _), hf⟩
  · rintro m45 a w32 ⟨k35, u36, hm34, hc33, hk41, hu42, hm43, hs44, hf⟩ Q37 hp38 hn39 he40
    have hzhc33 := hc33.size
    refine Z.seq' hp38 fun Q46 hp47 hn48 he49 => ?_
    refine Z.reg ?_
    refine Z.val hf rfl (Z.r_lss (hf.eval rfl) (hf.eval rfl)) ?_; clear hf a; intro a hf
    refine Z.done ?_
    refine hn48 _ _ ?_
    replace hf : Z.Fr a 113 [] [(1, .pointer (some ⟨g5, 0, none⟩)), (3, .int .i64 u36), (16, .slice pA0 ((x.2.2.2.2.1.take (min x.2.2.2.2.1.length 300)).length) pc0), (17, .int .i64 ((x.2.2.2.2.1.take (min x.2.2.2.2.1.length 300)).length : Int)), (18, .int .i64 (k35 : Int)), (19, .bool (decide ((k35 : Int) < ((x.2.2.2.2.1.take (min x.2.2.2.2.1.length 300)).length : Int))))] := hf.keep [1, 3, 16, 17, 18, 19]
    refine Z.seq' hp38 fun Q50 hp51 hn52 he53 => ?_
    refine Z.condp hf rfl ?_ ?_
    · intro hp54
      have hcond := hp54
      refine wp_skip ?_
      refine hn52 _ _ ?_
      replace hf : Z.Fr a 113 [] [(1, .pointer (some ⟨g5, 0, none⟩)), (3, .int .i64 u36), (16, .slice pA0 ((x.2.2.2.2.1.take (min x.2.2.2.2.1.length 300)).length) pc0), (17, .int .i64 ((x.2.2.2.2.1.take (min x.2.2.2.2.1.length 300)).length : Int)), (18, .int .i64 (k35 : Int))] := hf.keep [1, 3, 16, 17, 18]
      refine Z.seq' hp38 fun Q55 hp56 hn57 he58 => ?_
      refine Z.block' hp56 fun Q59 hp60 hn61 hx62 he63 => ?_
      refine Z.seq' hp60 fun Q64 hp65 hn66 he67 => ?_
      refine Z.reg ?_
      have hr68 : (Z.Ty.slice (Z.Ty.pair (Z.Ty.int .i64) Z.Ty.str)).rep w32 (Z.ol [] w.heap.size) [.slice pA0 ((x.2.2.2.2.1.take (min x.2.2.2.2.1.length 300)).length) pc0] (x.2.2.2.2.1.take (min x.2.2.2.2.1.length 300)) := Z.rep_to hr25 hc33 (by intro b h1 h2; (try simp only [Z.nt, Z.iv, Z.no, Z.ol, List.mem_cons, List.not_mem_nil, or_false, not_or, not_false_eq_true] at h1); (try simp only [Z.nt, Z.iv, Z.no, Z.ol, List.mem_cons, List.mem_append, List.not_mem_nil, or_false, not_or, not_false_eq_true, true_and, and_true]) <;> omega)
      have hkx71 : k35 < (x.2.2.2.2.1.take (min x.2.2.2.2.1.length 300)).length := (by omega)
      obtain ⟨ad69, es70, x71, hA72, hF73, hl74, hx75, hc76, hr77⟩ := Z.rep_el hr68 hkx71
      have hok78 := Z.rep_ok _ hr77
      obtain ⟨ca79, cb80, he81, hr82, hr83⟩ := hr77
      have he84 := hr82.1
      have he85 := hr83.1
      have he86 : es70 = [.int .i64 x71.1, .string x71.2] := by simp only [he81, he84, he85, List.cons_append, List.nil_append]
      rw [he86] at hc76
      have hea := hx75
      refine Z.val hf rfl (Z.r_indexAddrE Try.underlying27 Try.sizeOf60 (hf.eval rfl) hA72 (hf.eval rfl) (k := k35) (by first | rfl | omega) (by omega)) ?_; clear hf a; intro a hf
      refine Z.val hf rfl (Z.r_loadEN Try.isAgg60 Try.sizeOf60 (hf.eval rfl) hc76 rfl rfl) ?_; clear hf a; intro a hf
      refine Z.st_alloc hf rfl Try.zeroValue60 rfl ?_; clear hf a; intro g87 w88 a hg89 hz90 hb91 hc92 hf
      refine Z.st_store hf hb91 rfl rfl Try.sizeOf60 rfl rfl rfl (by simp [Value.oneCell']) rfl ?_; clear hf a; intro w93 a hz94 hb95 hc96 hf
      refine Z.done ?_
      refine hn66 _ _ ?_
      replace hf : Z.Fr a 113 [] [(1, .pointer (some ⟨g5, 0, none⟩)), (3, .int .i64 u36), (5, .pointer (some ⟨g87, 0, none⟩)), (16, .slice pA0 ((x.2.2.2.2.1.take (min x.2.2.2.2.1.length 300)).length) pc0), (17, .int .i64 ((x.2.2.2.2.1.take (min x.2.2.2.2.1.length 300)).length : Int)), (18, .int .i64 (k35 : Int))] := hf.keep [1, 3, 5, 16, 17, 18]
      refine Z.reg ?_
      refine Z.val hf rfl (Z.r_move (hf.eval rfl)) ?_; clear hf a; intro a hf
      refine Z.val hf rfl (Z.r_fieldAddrB Try.underlying60 rfl Try.sizeOf9 (hf.eval rfl) rfl) ?_; clear hf a; intro a hf
      refine Z.val hf rfl (Z.r_loadB Try.isAgg9 (hf.eval rfl) hb95 rfl) ?_; clear hf a; intro a hf
      refine Z.val hf rfl (Z.r_lens Try.underlying9 (hf.eval rfl)) ?_; clear hf a; intro a hf
      refine Z.val hf rfl (Z.r_min (hf.eval rfl) (hf.eval rfl)) ?_; clear hf a; intro a hf
      refine Z.val hf rfl (Z.r_add64 (hf.eval rfl) (hf.eval rfl) (by omega)) ?_; clear hf a; intro a hf
      refine Z.val hf rfl (Z.r_min (hf.eval rfl) (hf.eval rfl)) ?_; clear hf a; intro a hf
      refine Z.val hf rfl (Z.r_assign (hf.eval rfl)) ?_; clear hf a; intro a hf
      refine Z.done ?_
      refine hn61 _ _ ?_
      refine hn57 _ _ ?_
      replace hf : Z.Fr a 113 [] [(1, .pointer (some ⟨g5, 0, none⟩)), (3, .int .i64 (min (u36 + min (x71.2.size : Int) 1048576) 1048576)), (16, .slice pA0 ((x.2.2.2.2.1.take (min x.2.2.2.2.1.length 300)).length) pc0), (17, .int .i64 ((x.2.2.2.2.1.take (min x.2.2.2.2.1.length 300)).length : Int)), (18, .int .i64 (k35 : Int))] := hf.keep [1, 3, 16, 17, 18]
      refine Z.reg ?_
      refine Z.val hf rfl (Z.r_add64 (hf.eval rfl) (hf.eval rfl) (by omega)) ?_; clear hf a; intro a hf
      refine Z.val hf rfl (Z.r_move (hf.eval rfl)) ?_; clear hf a; intro a hf
      refine Z.done ?_
      refine hn39 ((x.2.2.2.2.1.take (min x.2.2.2.2.1.length 300)).length - (k35 + 1)) _ _ ?_ ?_
      rotate_left
      replace hf := hf.setv (d := 18) (y := .int .i64 ((k35 + 1 : Nat) : Int)) rfl (congrArg (Value.int .i64) (by first | rfl | omega | (simp; done) | (simp; omega)))
      have hq97 : Z.Ch [] w6 w88 := hc33.then hc92 (by simp) (by simp)
      have hq98 : Z.Ch [g87] w6 w93 := hq97.then hc96 (by simp) (by simp)
      replace hf : Z.Fr a 113 [] [(1, .pointer (some ⟨g5, 0, none⟩)), (3, .int .i64 (min (u36 + min (x71.2.size : Int) 1048576) 1048576)), (16, .slice pA0 ((x.2.2.2.2.1.take (min x.2.2.2.2.1.length 300)).length) pc0), (17, .int .i64 ((x.2.2.2.2.1.take (min x.2.2.2.2.1.length 300)).length : Int)), (18, .int .i64 ((k35 + 1 : Nat) : Int))] := hf.keep [1, 3, 16, 17, 18]
      exact ⟨k35 + 1, min (u36 + min (x71.2.size : Int) 1048576) 1048576, rfl, (hq98.mono (by intro k hk; (try simp only [List.mem_cons, List.mem_append, List.not_mem_nil, or_false, false_or] at hk ⊢) <;> omega)), (by omega), (by omega), (by omega), (by exact Codec.seen_step hs44 hea hu42.1 (by omega)), hf⟩
      rw [hm34]; omega
    · intro hp99
      have hcond := hp99
      refine wp_exit ?_
      refine he53 _ _ _ (by simp) ?_
      refine he40 _ _ _ (by simp) ?_
      refine hx30 _ _ ?_
      refine hn17 _ _ ?_
      replace hf : Z.Fr a 113 [] [(1, .pointer (some ⟨g5, 0, none⟩)), (3, .int .i64 u36)] := hf.keep [1, 3]
      refine Z.seq' (Z.Pq.body _ _ _) fun Q100 hp101 hn102 he103 => ?_
      refine Z.seq' hp101 fun Q104 hp105 hn106 he107 => ?_
      refine Z.reg ?_
      refine Z.val hf rfl (Z.r_fieldAddrB Try.underlying37 rfl Try.sizeOf34 (hf.eval rfl) rfl) ?_; clear hf a; intro a hf
      have hb108 := hb9.ch0 hc33
      refine Z.val hf rfl (Z.r_loadB Try.isAgg34 (hf.eval rfl) hb108 rfl) ?_; clear hf a; intro a hf
      refine Z.val hf rfl (Z.r_fieldAddrB Try.underlying37 rfl Try.sizeOf34 (hf.eval rfl) rfl) ?_; clear hf a; intro a hf
      refine Z.val hf rfl (Z.r_loadB Try.isAgg34 (hf.eval rfl) hb108 rfl) ?_; clear hf a; intro a hf
      refine Z.val hf rfl (Z.r_len Try.underlying34 (hf.eval rfl)) ?_; clear hf a; intro a hf
      refine Z.val hf rfl (Z.r_min (hf.eval rfl) (hf.eval rfl)) ?_; clear hf a; intro a hf
      have hq109 : Z.Ch [] w w32 := hc10.then hc33 (by simp) (by simp)
      have hr110 : (Z.Ty.slice (Z.Ty.pair (Z.Ty.int .i64) (Z.Ty.pair (Z.Ty.int .i64) (Z.Ty.pair Z.Ty.str (Z.Ty.int .i64))))).rep w32 (Z.ol [] w.heap.size) [.slice pA5 x.2.2.2.2.2.2.2.2.1.length pc5] x.2.2.2.2.2.2.2.2.1 := Z.rep_to ph5o hq109 (by intro b h1 h2; (try simp only [Z.nt, Z.iv, Z.no, Z.ol, List.mem_cons, List.not_mem_nil, or_false, not_or, not_false_eq_true] at h1); (try simp only [Z.nt, Z.iv, Z.no, Z.ol, List.mem_cons, List.mem_append, List.not_mem_nil, or_false, not_or, not_false_eq_true, true_and, and_true]) <;> omega)
      have hl111 := Z.rep_slice_len hr110
      have hr112 := Z.rep_cuth hr110 (min x.2.2.2.2.2.2.2.2.1.length 300) (by omega)
      have hn113 : (x.2.2.2.2.2.2.2.2.1.take (min x.2.2.2.2.2.2.2.2.1.length 300)).length = (min x.2.2.2.2.2.2.2.2.1.length 300) := by first | rfl | omega | (simp only [List.length_take, List.length_drop]; done) | (simp only [List.length_take, List.length_drop]; omega)
      refine Z.val hf rfl (Z.r_slice_h (u := (min x.2.2.2.2.2.2.2.2.1.length 300)) Try.underlying34 Try.sizeOf58 (hf.eval rfl) (hf.eval rfl) (by omega) (by omega)) ?_; clear hf a; intro a hf
      replace hf := hf.setv (d := 36) (y := .slice pA5 ((x.2.2.2.2.2.2.2.2.1.take (min x.2.2.2.2.2.2.2.2.1.length 300)).length) pc5) rfl (Z.slice_n (by first | rfl | omega | (simp only [List.length_take, List.length_drop]; done) | (simp only [List.length_take, List.length_drop]; omega) | (simp; omega)))
      refine Z.val hf rfl (Z.r_len Try.underlying34 (hf.eval rfl)) ?_; clear hf a; intro a hf
      refine Z.val hf rfl (Z.r_move (hf.eval rfl)) ?_; clear hf a; intro a hf
      refine Z.done ?_
      refine hn106 _ _ ?_
      replace hf : Z.Fr a 113 [] [(1, .pointer (some ⟨g5, 0, none⟩)), (3, .int .i64 u36), (36, .slice pA5 ((x.2.2.2.2.2.2.2.2.1.take (min x.2.2.2.2.2.2.2.2.1.length 300)).length) pc5), (37, .int .i64 ((x.2.2.2.2.2.2.2.2.1.take (min x.2.2.2.2.2.2.2.2.1.length 300)).length : Int)), (38, .int .i64 0)] := hf.keep [1, 3, 36, 37, 38]
      refine Z.block' hp101 fun Q114 hp115 hn116 hx117 he118 => ?_
      refine Z.loop' hp115 (fun m a wl => ∃ (k : Nat), ∃ (u : Int), m = (x.2.2.2.2.2.2.2.2.1.take (min x.2.2.2.2.2.2.2.2.1.length 300)).length - k ∧ Z.Ch [] w32 wl ∧ (k ≤ (x.2.2.2.2.2.2.2.2.1.take (min x.2.2.2.2.2.2.2.2.1.length 300)).length) ∧ (0 ≤ u ∧ u ≤ 1048576) ∧ (u36 ≤ u) ∧ (Codec.seen (fun n : (Int × Int × ByteArray × Int) => n.2.2.1.size) ((x.2.2.2.2.2.2.2.2.1.take (min x.2.2.2.2.2.2.2.2.1.length 300)).take k) u) ∧ Z.Fr a 113 [] [(1, .pointer (some ⟨g5, 0, none⟩)), (3, .int .i64 u), (36, .slice pA5 ((x.2.2.2.2.2.2.2.2.1.take (min x.2.2.2.2.2.2.2.2.1.length 300)).length) pc5), (37, .int .i64 ((x.2.2.2.2.2.2.2.2.1.take (min x.2.2.2.2.2.2.2.2.1.length 300)).length : Int)), (38, .int .i64 (k : Int))]) ((x.2.2.2.2.2.2.2.2.1.take (min x.2.2.2.2.2.2.2.2.1.length 300)).length - 0) ?_ ?_
      · replace hf := hf.setv (d := 38) (y := .int .i64 (0 : Int)) rfl (congrArg (Value.int .i64) (by first | rfl | omega | (simp; done) | (simp; omega)))
        replace hf : Z.Fr a 113 [] [(1, .pointer (some ⟨g5, 0, none⟩)), (3, .int .i64 u36), (36, .slice pA5 ((x.2.2.2.2.2.2.2.2.1.take (min x.2.2.2.2.2.2.2.2.1.length 300)).length) pc5), (37, .int .i64 ((x.2.2.2.2.2.2.2.2.1.take (min x.2.2.2.2.2.2.2.2.1.length 300)).length : Int)), (38, .int .i64 (0 : Int))] := hf.keep [1, 3, 36, 37, 38]
        exact ⟨0, u36, rfl, (Z.Ch.refl w32), (by omega), (by omega), (by omega), (by exact Codec.seen_nil _ _), hf⟩
      · rintro m132 a w119 ⟨k122, u123, hm121, hc120, hk128, hu129, hm130, hs131, hf⟩ Q124 hp125 hn126 he127
        have hzhc120 := hc120.size
        refine Z.seq' hp125 fun Q133 hp134 hn135 he136 => ?_
        refine Z.reg ?_
        refine Z.val hf rfl (Z.r_lss (hf.eval rfl) (hf.eval rfl)) ?_; clear hf a; intro a hf
        refine Z.done ?_
        refine hn135 _ _ ?_
        replace hf : Z.Fr a 113 [] [(1, .pointer (some ⟨g5, 0, none⟩)), (3, .int .i64 u123), (36, .slice pA5 ((x.2.2.2.2.2.2.2.2.1.take (min x.2.2.2.2.2.2.2.2.1.length 300)).length) pc5), (37, .int .i64 ((x.2.2.2.2.2.2.2.2.1.take (min x.2.2.2.2.2.2.2.2.1.length 300)).length : Int)), (38, .int .i64 (k122 : Int)), (39, .bool (decide ((k122 : Int) < ((x.2.2.2.2.2.2.2.2.1.take (min x.2.2.2.2.2.2.2.2.1.length 300)).length : Int))))] := hf.keep [1, 3, 36, 37, 38, 39]
        refine Z.seq' hp125 fun Q137 hp138 hn139 he140 => ?_
        refine Z.condp hf rfl ?_ ?_
        · intro hp141
          have hcond := hp141
          refine wp_skip ?_
          refine hn139 _ _ ?_
          replace hf : Z.Fr a 113 [] [(1, .pointer (some ⟨g5, 0, none⟩)), (3, .int .i64 u123), (36, .slice pA5 ((x.2.2.2.2.2.2.2.2.1.take (min x.2.2.2.2.2.2.2.2.1.length 300)).length) pc5), (37, .int .i64 ((x.2.2.2.2.2.2.2.2.1.take (min x.2.2.2.2.2.2.2.2.1.length 300)).length : Int)), (38, .int .i64 (k122 : Int))] := hf.keep [1, 3, 36, 37, 38]
          refine Z.seq' hp125 fun Q142 hp143 hn144 he145 => ?_
          refine Z.block' hp143 fun Q146 hp147 hn148 hx149 he150 => ?_
          refine Z.seq' hp147 fun Q151 hp152 hn153 he154 => ?_
          refine Z.reg ?_
          have hr155 : (Z.Ty.slice (Z.Ty.pair (Z.Ty.int .i64) (Z.Ty.pair (Z.Ty.int .i64) (Z.Ty.pair Z.Ty.str (Z.Ty.int .i64))))).rep w119 (Z.ol [] w.heap.size) [.slice pA5 ((x.2.2.2.2.2.2.2.2.1.take (min x.2.2.2.2.2.2.2.2.1.length 300)).length) pc5] (x.2.2.2.2.2.2.2.2.1.take (min x.2.2.2.2.2.2.2.2.1.length 300)) := Z.rep_to hr112 hc120 (by intro b h1 h2; (try simp only [Z.nt, Z.iv, Z.no, Z.ol, List.mem_cons, List.not_mem_nil, or_false, not_or, not_false_eq_true] at h1); (try simp only [Z.nt, Z.iv, Z.no, Z.ol, List.mem_cons, List.mem_append, List.not_mem_nil, or_false, not_or, not_false_eq_true, true_and, and_true]) <;> omega)
          have hkx158 : k122 < (x.2.2.2.2.2.2.2.2.1.take (min x.2.2.2.2.2.2.2.2.1.length 300)).length := (by omega)
          obtain ⟨ad156, es157, x158, hA159, hF160, hl161, hx162, hc163, hr164⟩ := Z.rep_el hr155 hkx158
          have hok165 := Z.rep_ok _ hr164
          obtain ⟨ca166, cb167, he168, hr169, hr170⟩ := hr164
          have he171 := hr169.1
          obtain ⟨ca172, cb173, he174, hr175, hr176⟩ := hr170
          have he177 := hr175.1
          obtain ⟨ca178, cb179, he180, hr181, hr182⟩ := hr176
          have he183 := hr181.1
          have he184 := hr182.1
          have he185 : es157 = [.int .i64 x158.1, .int .i64 x158.2.1, .string x158.2.2.1, .int .i64 x158.2.2.2] := by simp only [he168, he171, he174, he177, he180, he183, he184, List.cons_append, List.nil_append]
          rw [he185] at hc163
          have hea := hx162
          refine Z.val hf rfl (Z.r_indexAddrE Try.underlying34 Try.sizeOf58 (hf.eval rfl) hA159 (hf.eval rfl) (k := k122) (by first | rfl | omega) (by omega)) ?_; clear hf a; intro a hf
          refine Z.val hf rfl (Z.r_loadEN Try.isAgg58 Try.sizeOf58 (hf.eval rfl) hc163 rfl rfl) ?_; clear hf a; intro a hf
          refine Z.st_alloc hf rfl Try.zeroValue58 rfl ?_; clear hf a; intro g186 w187 a hg188 hz189 hb190 hc191 hf
          refine Z.st_store hf hb190 rfl rfl Try.sizeOf58 rfl rfl rfl (by simp [Value.oneCell']) rfl ?_; clear hf a; intro w192 a hz193 hb194 hc195 hf
          refine Z.done ?_
          refine hn153 _ _ ?_
          replace hf : Z.Fr a 113 [] [(1, .pointer (some ⟨g5, 0, none⟩)), (3, .int .i64 u123), (7, .pointer (some ⟨g186, 0, none⟩)), (36, .slice pA5 ((x.2.2.2.2.2.2.2.2.1.take (min x.2.2.2.2.2.2.2.2.1.length 300)).length) pc5), (37, .int .i64 ((x.2.2.2.2.2.2.2.2.1.take (min x.2.2.2.2.2.2.2.2.1.length 300)).length : Int)), (38, .int .i64 (k122 : Int))] := hf.keep [1, 3, 7, 36, 37, 38]
          refine Z.reg ?_
          refine Z.val hf rfl (Z.r_move (hf.eval rfl)) ?_; clear hf a; intro a hf
          refine Z.val hf rfl (Z.r_fieldAddrB Try.underlying58 rfl Try.sizeOf9 (hf.eval rfl) rfl) ?_; clear hf a; intro a hf
          refine Z.val hf rfl (Z.r_loadB Try.isAgg9 (hf.eval rfl) hb194 rfl) ?_; clear hf a; intro a hf
          refine Z.val hf rfl (Z.r_lens Try.underlying9 (hf.eval rfl)) ?_; clear hf a; intro a hf
          refine Z.val hf rfl (Z.r_min (hf.eval rfl) (hf.eval rfl)) ?_; clear hf a; intro a hf
          refine Z.val hf rfl (Z.r_add64 (hf.eval rfl) (hf.eval rfl) (by omega)) ?_; clear hf a; intro a hf
          refine Z.val hf rfl (Z.r_min (hf.eval rfl) (hf.eval rfl)) ?_; clear hf a; intro a hf
          refine Z.val hf rfl (Z.r_assign (hf.eval rfl)) ?_; clear hf a; intro a hf
          refine Z.done ?_
          refine hn148 _ _ ?_
          refine hn144 _ _ ?_
          replace hf : Z.Fr a 113 [] [(1, .pointer (some ⟨g5, 0, none⟩)), (3, .int .i64 (min (u123 + min (x158.2.2.1.size : Int) 1048576) 1048576)), (36, .slice pA5 ((x.2.2.2.2.2.2.2.2.1.take (min x.2.2.2.2.2.2.2.2.1.length 300)).length) pc5), (37, .int .i64 ((x.2.2.2.2.2.2.2.2.1.take (min x.2.2.2.2.2.2.2.2.1.length 300)).length : Int)), (38, .int .i64 (k122 : Int))] := hf.keep [1, 3, 36, 37, 38]
          refine Z.reg ?_
          refine Z.val hf rfl (Z.r_add64 (hf.eval rfl) (hf.eval rfl) (by omega)) ?_; clear hf a; intro a hf
          refine Z.val hf rfl (Z.r_move (hf.eval rfl)) ?_; clear hf a; intro a hf
          refine Z.done ?_
          refine hn126 ((x.2.2.2.2.2.2.2.2.1.take (min x.2.2.2.2.2.2.2.2.1.length 300)).length - (k122 + 1)) _ _ ?_ ?_
          rotate_left
          replace hf := hf.setv (d := 38) (y := .int .i64 ((k122 + 1 : Nat) : Int)) rfl (congrArg (Value.int .i64) (by first | rfl | omega | (simp; done) | (simp; omega)))
          have hq196 : Z.Ch [] w32 w187 := hc120.then hc191 (by simp) (by simp)
          have hq197 : Z.Ch [g186] w32 w192 := hq196.then hc195 (by simp) (by simp)
          replace hf : Z.Fr a 113 [] [(1, .pointer (some ⟨g5, 0, none⟩)), (3, .int .i64 (min (u123 + min (x158.2.2.1.size : Int) 1048576) 1048576)), (36, .slice pA5 ((x.2.2.2.2.2.2.2.2.1.take (min x.2.2.2.2.2.2.2.2.1.length 300)).length) pc5), (37, .int .i64 ((x.2.2.2.2.2.2.2.2.1.take (min x.2.2.2.2.2.2.2.2.1.length 300)).length : Int)), (38, .int .i64 ((k122 + 1 : Nat) : Int))] := hf.keep [1, 3, 36, 37, 38]
          exact ⟨k122 + 1, min (u123 + min (x158.2.2.1.size : Int) 1048576) 1048576, rfl, (hq197.mono (by intro k hk; (try simp only [List.mem_cons, List.mem_append, List.not_mem_nil, or_false, false_or] at hk ⊢) <;> omega)), (by omega), (by omega), (by omega), (by exact Codec.seen_step hs131 hea hu129.1 (by omega)), hf⟩
          rw [hm121]; omega
        · intro hp198
          have hcond := hp198
          refine wp_exit ?_
          refine he140 _ _ _ (by simp) ?_
          refine he127 _ _ _ (by simp) ?_
          refine hx117 _ _ ?_
          refine hn102 _ _ ?_
          replace hf : Z.Fr a 113 [] [(1, .pointer (some ⟨g5, 0, none⟩)), (3, .int .i64 u123)] := hf.keep [1, 3]
          refine Z.seq' (Z.Pq.body _ _ _) fun Q199 hp200 hn201 he202 => ?_
          refine Z.seq' hp200 fun Q203 hp204 hn205 he206 => ?_
          refine Z.reg ?_
          refine Z.val hf rfl (Z.r_fieldAddrB Try.underlying37 rfl Try.sizeOf33 (hf.eval rfl) rfl) ?_; clear hf a; intro a hf
          refine Z.val hf rfl (Z.r_fieldAddrB Try.underlying33 rfl Try.sizeOf31 (hf.eval rfl) rfl) ?_; clear hf a; intro a hf
          have hb207 := hb108.ch0 hc120
          refine Z.val hf rfl (Z.r_loadB Try.isAgg31 (hf.eval rfl) hb207 rfl) ?_; clear hf a; intro a hf
          refine Z.val hf rfl (Z.r_fieldAddrB Try.underlying37 rfl Try.sizeOf33 (hf.eval rfl) rfl) ?_; clear hf a; intro a hf
          refine Z.val hf rfl (Z.r_fieldAddrB Try.underlying33 rfl Try.sizeOf31 (hf.eval rfl) rfl) ?_; clear hf a; intro a hf
          refine Z.val hf rfl (Z.r_loadB Try.isAgg31 (hf.eval rfl) hb207 rfl) ?_; clear hf a; intro a hf
          refine Z.val hf rfl (Z.r_len Try.underlying31 (hf.eval rfl)) ?_; clear hf a; intro a hf
          refine Z.val hf rfl (Z.r_min (hf.eval rfl) (hf.eval rfl)) ?_; clear hf a; intro a hf
          have hq208 : Z.Ch [] w w119 := hq109.then hc120 (by simp) (by simp)
          have hr209 : (Z.Ty.slice (Z.Ty.pair (Z.Ty.int .i64) (Z.Ty.pair (Z.Ty.int .i64) (Z.Ty.pair (Z.Ty.int .i64) (Z.Ty.pair (Z.Ty.int .i64) (Z.Ty.pair (Z.Ty.int .i64) (Z.Ty.pair (Z.Ty.int .i64) Z.Ty.str))))))).rep w119 (Z.ol [] w.heap.size) [.slice pA4 x.2.2.2.2.2.2.1.2.2.length pc4] x.2.2.2.2.2.2.1.2.2 := Z.rep_to ph4o hq208 (by intro b h1 h2; (try simp only [Z.nt, Z.iv, Z.no, Z.ol, List.mem_cons, List.not_mem_nil, or_false, not_or, not_false_eq_true] at h1); (try simp only [Z.nt, Z.iv, Z.no, Z.ol, List.mem_cons, List.mem_append, List.not_mem_nil, or_false, not_or, not_false_eq_true, true_and, and_true]) <;> omega)
          have hl210 := Z.rep_slice_len hr209
          have hr211 := Z.rep_cuth hr209 (min x.2.2.2.2.2.2.1.2.2.length 300) (by omega)
          have hn212 : (x.2.2.2.2.2.2.1.2.2.take (min x.2.2.2.2.2.2.1.2.2.length 300)).length = (min x.2.2.2.2.2.2.1.2.2.length 300) := by first | rfl | omega | (simp only [List.length_take, List.length_drop]; done) | (simp only [List.length_take, List.length_drop]; omega)
          refine Z.val hf rfl (Z.r_slice_h (u := (min x.2.2.2.2.2.2.1.2.2.length 300)) Try.underlying31 Try.sizeOf64 (hf.eval rfl) (hf.eval rfl) (by omega) (by omega)) ?_; clear hf a; intro a hf
          replace hf := hf.setv (d := 58) (y := .slice pA4 ((x.2.2.2.2.2.2.1.2.2.take (min x.2.2.2.2.2.2.1.2.2.length 300)).length) pc4) rfl (Z.slice_n (by first | rfl | omega | (simp only [List.length_take, List.length_drop]; done) | (simp only [List.length_take, List.length_drop]; omega) | (simp; omega)))
          refine Z.val hf rfl (Z.r_len Try.underlying31 (hf.eval rfl)) ?_; clear hf a; intro a hf
          refine Z.val hf rfl (Z.r_move (hf.eval rfl)) ?_; clear hf a; intro a hf
          refine Z.done ?_
          refine hn205 _ _ ?_
          replace hf : Z.Fr a 113 [] [(1, .pointer (some ⟨g5, 0, none⟩)), (3, .int .i64 u123), (58, .slice pA4 ((x.2.2.2.2.2.2.1.2.2.take (min x.2.2.2.2.2.2.1.2.2.length 300)).length) pc4), (59, .int .i64 ((x.2.2.2.2.2.2.1.2.2.take (min x.2.2.2.2.2.2.1.2.2.length 300)).length : Int)), (60, .int .i64 0)] := hf.keep [1, 3, 58, 59, 60]
          refine Z.block' hp200 fun Q213 hp214 hn215 hx216 he217 => ?_
          refine Z.loop' hp214 (fun m a wl => ∃ (k : Nat), ∃ (u : Int), m = (x.2.2.2.2.2.2.1.2.2.take (min x.2.2.2.2.2.2.1.2.2.length 300)).length - k ∧ Z.Ch [] w119 wl ∧ (k ≤ (x.2.2.2.2.2.2.1.2.2.take (min x.2.2.2.2.2.2.1.2.2.length 300)).length) ∧ (0 ≤ u ∧ u ≤ 1048576) ∧ (u123 ≤ u) ∧ (Codec.seen (fun n : (Int × Int × Int × Int × (Int × Int × ByteArray)) => n.2.2.2.2.2.2.size) ((x.2.2.2.2.2.2.1.2.2.take (min x.2.2.2.2.2.2.1.2.2.length 300)).take k) u) ∧ Z.Fr a 113 [] [(1, .pointer (some ⟨g5, 0, none⟩)), (3, .int .i64 u), (58, .slice pA4 ((x.2.2.2.2.2.2.1.2.2.take (min x.2.2.2.2.2.2.1.2.2.length 300)).length) pc4), (59, .int .i64 ((x.2.2.2.2.2.2.1.2.2.take (min x.2.2.2.2.2.2.1.2.2.length 300)).length : Int)), (60, .int .i64 (k : Int))]) ((x.2.2.2.2.2.2.1.2.2.take (min x.2.2.2.2.2.2.1.2.2.length 300)).length - 0) ?_ ?_
          · replace hf := hf.setv (d := 60) (y := .int .i64 (0 : Int)) rfl (congrArg (Value.int .i64) (by first | rfl | omega | (simp; done) | (simp; omega)))
            replace hf : Z.Fr a 113 [] [(1, .pointer (some ⟨g5, 0, none⟩)), (3, .int .i64 u123), (58, .slice pA4 ((x.2.2.2.2.2.2.1.2.2.take (min x.2.2.2.2.2.2.1.2.2.length 300)).length) pc4), (59, .int .i64 ((x.2.2.2.2.2.2.1.2.2.take (min x.2.2.2.2.2.2.1.2.2.length 300)).length : Int)), (60, .int .i64 (0 : Int))] := hf.keep [1, 3, 58, 59, 60]
            exact ⟨0, u123, rfl, (Z.Ch.refl w119), (by omega), (by omega), (by omega), (by exact Codec.seen_nil _ _), hf⟩
          · rintro m231 a w218 ⟨k221, u222, hm220, hc219, hk227, hu228, hm229, hs230, hf⟩ Q223 hp224 hn225 he226
            have hzhc219 := hc219.size
            refine Z.seq' hp224 fun Q232 hp233 hn234 he235 => ?_
            refine Z.reg ?_
            refine Z.val hf rfl (Z.r_lss (hf.eval rfl) (hf.eval rfl)) ?_; clear hf a; intro a hf
            refine Z.done ?_
            refine hn234 _ _ ?_
            replace hf : Z.Fr a 113 [] [(1, .pointer (some ⟨g5, 0, none⟩)), (3, .int .i64 u222), (58, .slice pA4 ((x.2.2.2.2.2.2.1.2.2.take (min x.2.2.2.2.2.2.1.2.2.length 300)).length) pc4), (59, .int .i64 ((x.2.2.2.2.2.2.1.2.2.take (min x.2.2.2.2.2.2.1.2.2.length 300)).length : Int)), (60, .int .i64 (k221 : Int)), (61, .bool (decide ((k221 : Int) < ((x.2.2.2.2.2.2.1.2.2.take (min x.2.2.2.2.2.2.1.2.2.length 300)).length : Int))))] := hf.keep [1, 3, 58, 59, 60, 61]
            refine Z.seq' hp224 fun Q236 hp237 hn238 he239 => ?_
            refine Z.condp hf rfl ?_ ?_
            · intro hp240
              have hcond := hp240
              refine wp_skip ?_
              refine hn238 _ _ ?_
              replace hf : Z.Fr a 113 [] [(1, .pointer (some ⟨g5, 0, none⟩)), (3, .int .i64 u222), (58, .slice pA4 ((x.2.2.2.2.2.2.1.2.2.take (min x.2.2.2.2.2.2.1.2.2.length 300)).length) pc4), (59, .int .i64 ((x.2.2.2.2.2.2.1.2.2.take (min x.2.2.2.2.2.2.1.2.2.length 300)).length : Int)), (60, .int .i64 (k221 : Int))] := hf.keep [1, 3, 58, 59, 60]
              refine Z.seq' hp224 fun Q241 hp242 hn243 he244 => ?_
              refine Z.block' hp242 fun Q245 hp246 hn247 hx248 he249 => ?_
              refine Z.seq' hp246 fun Q250 hp251 hn252 he253 => ?_
              refine Z.reg ?_
              have hr254 : (Z.Ty.slice (Z.Ty.pair (Z.Ty.int .i64) (Z.Ty.pair (Z.Ty.int .i64) (Z.Ty.pair (Z.Ty.int .i64) (Z.Ty.pair (Z.Ty.int .i64) (Z.Ty.pair (Z.Ty.int .i64) (Z.Ty.pair (Z.Ty.int .i64) Z.Ty.str))))))).rep w218 (Z.ol [] w.heap.size) [.slice pA4 ((x.2.2.2.2.2.2.1.2.2.take (min x.2.2.2.2.2.2.1.2.2.length 300)).length) pc4] (x.2.2.2.2.2.2.1.2.2.take (min x.2.2.2.2.2.2.1.2.2.length 300)) := Z.rep_to hr211 hc219 (by intro b h1 h2; (try simp only [Z.nt, Z.iv, Z.no, Z.ol, List.mem_cons, List.not_mem_nil, or_false, not_or, not_false_eq_true] at h1); (try simp only [Z.nt, Z.iv, Z.no, Z.ol, List.mem_cons, List.mem_append, List.not_mem_nil, or_false, not_or, not_false_eq_true, true_and, and_true]) <;> omega)
              have hkx257 : k221 < (x.2.2.2.2.2.2.1.2.2.take (min x.2.2.2.2.2.2.1.2.2.length 300)).length := (by omega)
              obtain ⟨ad255, es256, x257, hA258, hF259, hl260, hx261, hc262, hr263⟩ := Z.rep_el hr254 hkx257
              have hok264 := Z.rep_ok _ hr263
              obtain ⟨ca265, cb266, he267, hr268, hr269⟩ := hr263
              have he270 := hr268.1
              obtain ⟨ca271, cb272, he273, hr274, hr275⟩ := hr269
              have he276 := hr274.1
              obtain ⟨ca277, cb278, he279, hr280, hr281⟩ := hr275
              have he282 := hr280.1
              obtain ⟨ca283, cb284, he285, hr286, hr287⟩ := hr281
              have he288 := hr286.1
              obtain ⟨ca289, cb290, he291, hr292, hr293⟩ := hr287
              have he294 := hr292.1
              obtain ⟨ca295, cb296, he297, hr298, hr299⟩ := hr293
              have he300 := hr298.1
              have he301 := hr299.1
              have he302 : es256 = [.int .i64 x257.1, .int .i64 x257.2.1, .int .i64 x257.2.2.1, .int .i64 x257.2.2.2.1, .int .i64 x257.2.2.2.2.1, .int .i64 x257.2.2.2.2.2.1, .string x257.2.2.2.2.2.2] := by simp only [he267, he270, he273, he276, he279, he282, he285, he288, he291, he294, he297, he300, he301, List.cons_append, List.nil_append]
              rw [he302] at hc262
              have hea := hx261
              refine Z.val hf rfl (Z.r_indexAddrE Try.underlying31 Try.sizeOf64 (hf.eval rfl) hA258 (hf.eval rfl) (k := k221) (by first | rfl | omega) (by omega)) ?_; clear hf a; intro a hf
              refine Z.val hf rfl (Z.r_loadEN Try.isAgg64 Try.sizeOf64 (hf.eval rfl) hc262 rfl rfl) ?_; clear hf a; intro a hf
              refine Z.st_alloc hf rfl Try.zeroValue64 rfl ?_; clear hf a; intro g303 w304 a hg305 hz306 hb307 hc308 hf
              refine Z.st_store hf hb307 rfl rfl Try.sizeOf64 rfl rfl rfl (by simp [Value.oneCell']) rfl ?_; clear hf a; intro w309 a hz310 hb311 hc312 hf
              refine Z.done ?_
              refine hn252 _ _ ?_
              replace hf : Z.Fr a 113 [] [(1, .pointer (some ⟨g5, 0, none⟩)), (3, .int .i64 u222), (9, .pointer (some ⟨g303, 0, none⟩)), (58, .slice pA4 ((x.2.2.2.2.2.2.1.2.2.take (min x.2.2.2.2.2.2.1.2.2.length 300)).length) pc4), (59, .int .i64 ((x.2.2.2.2.2.2.1.2.2.take (min x.2.2.2.2.2.2.1.2.2.length 300)).length : Int)), (60, .int .i64 (k221 : Int))] := hf.keep [1, 3, 9, 58, 59, 60]
              refine Z.reg ?_
              refine Z.val hf rfl (Z.r_move (hf.eval rfl)) ?_; clear hf a; intro a hf
              refine Z.val hf rfl (Z.r_fieldAddrB Try.underlying64 rfl Try.sizeOf62 (hf.eval rfl) rfl) ?_; clear hf a; intro a hf
              refine Z.val hf rfl (Z.r_fieldAddrB Try.underlying62 rfl Try.sizeOf9 (hf.eval rfl) rfl) ?_; clear hf a; intro a hf
              refine Z.val hf rfl (Z.r_loadB Try.isAgg9 (hf.eval rfl) hb311 rfl) ?_; clear hf a; intro a hf
              refine Z.val hf rfl (Z.r_lens Try.underlying9 (hf.eval rfl)) ?_; clear hf a; intro a hf
              refine Z.val hf rfl (Z.r_min (hf.eval rfl) (hf.eval rfl)) ?_; clear hf a; intro a hf
              refine Z.val hf rfl (Z.r_add64 (hf.eval rfl) (hf.eval rfl) (by omega)) ?_; clear hf a; intro a hf
              refine Z.val hf rfl (Z.r_min (hf.eval rfl) (hf.eval rfl)) ?_; clear hf a; intro a hf
              refine Z.val hf rfl (Z.r_assign (hf.eval rfl)) ?_; clear hf a; intro a hf
              refine Z.done ?_
              refine hn247 _ _ ?_
              refine hn243 _ _ ?_
              replace hf : Z.Fr a 113 [] [(1, .pointer (some ⟨g5, 0, none⟩)), (3, .int .i64 (min (u222 + min (x257.2.2.2.2.2.2.size : Int) 1048576) 1048576)), (58, .slice pA4 ((x.2.2.2.2.2.2.1.2.2.take (min x.2.2.2.2.2.2.1.2.2.length 300)).length) pc4), (59, .int .i64 ((x.2.2.2.2.2.2.1.2.2.take (min x.2.2.2.2.2.2.1.2.2.length 300)).length : Int)), (60, .int .i64 (k221 : Int))] := hf.keep [1, 3, 58, 59, 60]
              refine Z.reg ?_
              refine Z.val hf rfl (Z.r_add64 (hf.eval rfl) (hf.eval rfl) (by omega)) ?_; clear hf a; intro a hf
              refine Z.val hf rfl (Z.r_move (hf.eval rfl)) ?_; clear hf a; intro a hf
              refine Z.done ?_
              refine hn225 ((x.2.2.2.2.2.2.1.2.2.take (min x.2.2.2.2.2.2.1.2.2.length 300)).length - (k221 + 1)) _ _ ?_ ?_
              rotate_left
              replace hf := hf.setv (d := 60) (y := .int .i64 ((k221 + 1 : Nat) : Int)) rfl (congrArg (Value.int .i64) (by first | rfl | omega | (simp; done) | (simp; omega)))
              have hq313 : Z.Ch [] w119 w304 := hc219.then hc308 (by simp) (by simp)
              have hq314 : Z.Ch [g303] w119 w309 := hq313.then hc312 (by simp) (by simp)
              replace hf : Z.Fr a 113 [] [(1, .pointer (some ⟨g5, 0, none⟩)), (3, .int .i64 (min (u222 + min (x257.2.2.2.2.2.2.size : Int) 1048576) 1048576)), (58, .slice pA4 ((x.2.2.2.2.2.2.1.2.2.take (min x.2.2.2.2.2.2.1.2.2.length 300)).length) pc4), (59, .int .i64 ((x.2.2.2.2.2.2.1.2.2.take (min x.2.2.2.2.2.2.1.2.2.length 300)).length : Int)), (60, .int .i64 ((k221 + 1 : Nat) : Int))] := hf.keep [1, 3, 58, 59, 60]
              exact ⟨k221 + 1, min (u222 + min (x257.2.2.2.2.2.2.size : Int) 1048576) 1048576, rfl, (hq314.mono (by intro k hk; (try simp only [List.mem_cons, List.mem_append, List.not_mem_nil, or_false, false_or] at hk ⊢) <;> omega)), (by omega), (by omega), (by omega), (by exact Codec.seen_step hs230 hea hu228.1 (by omega)), hf⟩
              rw [hm220]; omega
            · intro hp315
              have hcond := hp315
              refine wp_exit ?_
              refine he239 _ _ _ (by simp) ?_
              refine he226 _ _ _ (by simp) ?_
              refine hx216 _ _ ?_
              refine hn201 _ _ ?_
              replace hf : Z.Fr a 113 [] [(1, .pointer (some ⟨g5, 0, none⟩)), (3, .int .i64 u222)] := hf.keep [1, 3]
              refine Z.seq' (Z.Pq.body _ _ _) fun Q316 hp317 hn318 he319 => ?_
              refine Z.reg ?_
              refine Z.val hf rfl (Z.r_fieldAddrB Try.underlying37 rfl Try.sizeOf27 (hf.eval rfl) rfl) ?_; clear hf a; intro a hf
              have hb320 := hb207.ch0 hc219
              refine Z.val hf rfl (Z.r_loadB Try.isAgg27 (hf.eval rfl) hb320 rfl) ?_; clear hf a; intro a hf
              refine Z.val hf rfl (Z.r_len Try.underlying27 (hf.eval rfl)) ?_; clear hf a; intro a hf
              refine Z.val hf rfl (Z.r_leq (hf.eval rfl) (hf.eval rfl)) ?_; clear hf a; intro a hf
              refine Z.val hf rfl (Z.r_move (hf.eval rfl)) ?_; clear hf a; intro a hf
              by_cases hdec : (x.2.2.2.2.1.length : Int) ≤ 200 <;> revert hdec
              · intro hp321
                have hgd := hp321
                replace hf := hf.setb (d := 77) (b' := true) rfl (decide_eq_true hp321)
                refine Z.on hf rfl rfl ?_
                refine Z.val hf rfl (Z.r_fieldAddrB Try.underlying37 rfl Try.sizeOf28 (hf.eval rfl) rfl) ?_; clear hf a; intro a hf
                refine Z.on hf rfl rfl ?_
                refine Z.val hf rfl (Z.r_loadB Try.isAgg28 (hf.eval rfl) hb320 rfl) ?_; clear hf a; intro a hf
                refine Z.on hf rfl rfl ?_
                refine Z.val hf rfl (Z.r_len Try.underlying28 (hf.eval rfl)) ?_; clear hf a; intro a hf
                refine Z.on hf rfl rfl ?_
                refine Z.val hf rfl (Z.r_leq (hf.eval rfl) (hf.eval rfl)) ?_; clear hf a; intro a hf
                refine Z.val hf rfl (Z.r_pick_t (hf.eval rfl) (hf.eval rfl)) ?_; clear hf a; intro a hf
                refine Z.val hf rfl (Z.r_move (hf.eval rfl)) ?_; clear hf a; intro a hf
                by_cases hdec : (x.2.2.2.2.2.1.length : Int) ≤ 200 <;> revert hdec
                · intro hp322
                  have hgd := hp322
                  replace hf := hf.setb (d := 83) (b' := true) rfl (decide_eq_true hp322)
                  refine Z.on hf rfl rfl ?_
                  refine Z.val hf rfl (Z.r_fieldAddrB Try.underlying37 rfl Try.sizeOf34 (hf.eval rfl) rfl) ?_; clear hf a; intro a hf
                  refine Z.on hf rfl rfl ?_
                  refine Z.val hf rfl (Z.r_loadB Try.isAgg34 (hf.eval rfl) hb320 rfl) ?_; clear hf a; intro a hf
                  refine Z.on hf rfl rfl ?_
                  refine Z.val hf rfl (Z.r_len Try.underlying34 (hf.eval rfl)) ?_; clear hf a; intro a hf
                  refine Z.on hf rfl rfl ?_
                  refine Z.val hf rfl (Z.r_leq (hf.eval rfl) (hf.eval rfl)) ?_; clear hf a; intro a hf
                  refine Z.val hf rfl (Z.r_pick_t (hf.eval rfl) (hf.eval rfl)) ?_; clear hf a; intro a hf
                  refine Z.val hf rfl (Z.r_move (hf.eval rfl)) ?_; clear hf a; intro a hf
                  by_cases hdec : (x.2.2.2.2.2.2.2.2.1.length : Int) ≤ 200 <;> revert hdec
                  · intro hp323
                    have hgd := hp323
                    replace hf := hf.setb (d := 89) (b' := true) rfl (decide_eq_true hp323)
                    refine Z.on hf rfl rfl ?_
                    refine Z.val hf rfl (Z.r_fieldAddrB Try.underlying37 rfl Try.sizeOf33 (hf.eval rfl) rfl) ?_; clear hf a; intro a hf
                    refine Z.on hf rfl rfl ?_
                    refine Z.val hf rfl (Z.r_fieldAddrB Try.underlying33 rfl Try.sizeOf31 (hf.eval rfl) rfl) ?_; clear hf a; intro a hf
                    refine Z.on hf rfl rfl ?_
                    refine Z.val hf rfl (Z.r_loadB Try.isAgg31 (hf.eval rfl) hb320 rfl) ?_; clear hf a; intro a hf
                    refine Z.on hf rfl rfl ?_
                    refine Z.val hf rfl (Z.r_len Try.underlying31 (hf.eval rfl)) ?_; clear hf a; intro a hf
                    refine Z.on hf rfl rfl ?_
                    refine Z.val hf rfl (Z.r_leq (hf.eval rfl) (hf.eval rfl)) ?_; clear hf a; intro a hf
                    refine Z.val hf rfl (Z.r_pick_t (hf.eval rfl) (hf.eval rfl)) ?_; clear hf a; intro a hf
                    refine Z.val hf rfl (Z.r_move (hf.eval rfl)) ?_; clear hf a; intro a hf
                    by_cases hdec : (x.2.2.2.2.2.2.1.2.2.length : Int) ≤ 200 <;> revert hdec
                    · intro hp324
                      have hgd := hp324
                      replace hf := hf.setb (d := 96) (b' := true) rfl (decide_eq_true hp324)
                      refine Z.on hf rfl rfl ?_
                      refine Z.val hf rfl (Z.r_fieldAddrB Try.underlying37 rfl Try.sizeOf33 (hf.eval rfl) rfl) ?_; clear hf a; intro a hf
                      refine Z.on hf rfl rfl ?_
                      refine Z.val hf rfl (Z.r_fieldAddrB Try.underlying33 rfl Try.sizeOf29 (hf.eval rfl) rfl) ?_; clear hf a; intro a hf
                      refine Z.on hf rfl rfl ?_
                      refine Z.val hf rfl (Z.r_loadB Try.isAgg29 (hf.eval rfl) hb320 rfl) ?_; clear hf a; intro a hf
                      refine Z.on hf rfl rfl ?_
                      refine Z.val hf rfl (Z.r_len Try.underlying29 (hf.eval rfl)) ?_; clear hf a; intro a hf
                      refine Z.on hf rfl rfl ?_
                      refine Z.val hf rfl (Z.r_leq (hf.eval rfl) (hf.eval rfl)) ?_; clear hf a; intro a hf
                      refine Z.val hf rfl (Z.r_pick_t (hf.eval rfl) (hf.eval rfl)) ?_; clear hf a; intro a hf
                      refine Z.val hf rfl (Z.r_move (hf.eval rfl)) ?_; clear hf a; intro a hf
                      by_cases hdec : (x.2.2.2.2.2.2.1.1.length : Int) ≤ 200 <;> revert hdec
                      · intro hp325
                        have hgd := hp325
                        replace hf := hf.setb (d := 103) (b' := true) rfl (decide_eq_true hp325)
                        refine Z.on hf rfl rfl ?_
                        refine Z.val hf rfl (Z.r_move (hf.eval rfl)) ?_; clear hf a; intro a hf
                        refine Z.on hf rfl rfl ?_
                        refine Z.val hf rfl (Z.r_leq (hf.eval rfl) (hf.eval rfl)) ?_; clear hf a; intro a hf
                        refine Z.val hf rfl (Z.r_pick_t (hf.eval rfl) (hf.eval rfl)) ?_; clear hf a; intro a hf
                        refine Z.val hf rfl (Z.r_move (hf.eval rfl)) ?_; clear hf a; intro a hf
                        by_cases hdec : u222 ≤ 9000 <;> revert hdec
                        · intro hp326
                          have hgd := hp326
                          replace hf := hf.setb (d := 107) (b' := true) rfl (decide_eq_true hp326)
                          refine Z.on hf rfl rfl ?_
                          refine Z.val hf rfl (Z.r_fieldAddrB Try.underlying37 rfl Try.sizeOf33 (hf.eval rfl) rfl) ?_; clear hf a; intro a hf
                          refine Z.on hf rfl rfl ?_
                          refine Z.val hf rfl (Z.r_fieldAddrB Try.underlying33 rfl Try.sizeOf30 (hf.eval rfl) rfl) ?_; clear hf a; intro a hf
                          refine Z.on hf rfl rfl ?_
                          refine Z.val hf rfl (Z.r_loadB Try.isAgg30 (hf.eval rfl) hb320 rfl) ?_; clear hf a; intro a hf
                          refine Z.on hf rfl rfl ?_
                          have hq327 : Z.Ch [] w w218 := hq208.then hc219 (by simp) (by simp)
                          have hr328 : (Z.Ty.slice (Z.Ty.pair (Z.Ty.int .i64) (Z.Ty.pair (Z.Ty.int .i64) (Z.Ty.pair (Z.Ty.slice (Z.Ty.int .i64)) (Z.Ty.pair (Z.Ty.pair (Z.Ty.int .i64) (Z.Ty.pair (Z.Ty.int .i64) Z.Ty.str)) (Z.Ty.pair Z.Ty.str (Z.Ty.pair (Z.Ty.int .i64) (Z.Ty.int .i64)))))))).rep w218 (Z.nt []) [.slice pA3 x.2.2.2.2.2.2.1.2.1.length pc3] x.2.2.2.2.2.2.1.2.1 := Z.rep_to ph3o hq327 (by intro b h1 h2; (try simp only [Z.nt, Z.iv, Z.no, Z.ol, List.mem_cons, List.not_mem_nil, or_false, not_or, not_false_eq_true] at h1); (try simp only [Z.nt, Z.iv, Z.no, Z.ol, List.mem_cons, List.mem_append, List.not_mem_nil, or_false, not_or, not_false_eq_true, true_and, and_true]) <;> omega)
                          have hcall := nodes_spec (x.2.2.2.2.2.2.1.2.1) w218 (pA3) (pc3) hr328
                          refine Z.call1 hf rfl (Z.r_call cf19 hf (xs := [.tmp 110]) rfl) hcall ?_; clear hcall hf a
                          rintro _ w329 ⟨r330, rfl, hc331, hr332⟩
                          have hzhc331 := hc331.size
                          refine ⟨_, rfl, ?_⟩; intro a hf
                          have hnr := hr332
                          refine Z.val hf rfl (Z.r_pick_t (hf.eval rfl) (hf.eval rfl)) ?_; clear hf a; intro a hf
                          refine Z.val hf rfl (Z.r_assign (hf.eval rfl)) ?_; clear hf a; intro a hf
                          refine Z.done ?_
                          refine hn318 _ _ ?_
                          replace hf : Z.Fr a 113 [] [(2, .bool r330)] := hf.keep [2]
                          refine wp_ret ?_
                          have hq333 : Z.Ch [] w w329 := hq327.then hc331 (by simp) (by simp)
                          refine Z.ret1 hf Try.results7 rfl ?_
                          exact ⟨r330, rfl, hq333, (by intro h; first | exact absurd h (by decide) | (obtain ⟨n1, n2⟩ := hnr h; exact ⟨⟨by omega, fun a ha => Codec.seen_all (n := min x.2.2.2.2.1.length 300) (m := 9000) (Codec.seen_mono hs44 (v := u222) (by have := hm130; have := hm229; omega)) hp99 (by omega) (by omega) (by omega) a ha⟩, by omega, ⟨by omega, fun a ha => Codec.seen_all (n := min x.2.2.2.2.2.2.2.2.1.length 300) (m := 9000) (Codec.seen_mono hs131 (v := u222) (by have := hm130; have := hm229; omega)) hp198 (by omega) (by omega) (by omega) a ha⟩, ⟨by omega, fun a ha => Codec.seen_all (n := min x.2.2.2.2.2.2.1.2.2.length 300) (m := 9000) (Codec.seen_mono hs230 (v := u222) (by have := hm130; have := hm229; omega)) hp315 (by omega) (by omega) (by omega) a ha⟩, by omega, n1, n2⟩))⟩
                        · intro hp334
                          have hgd := hp334
                          replace hf := hf.setb (d := 107) (b' := false) rfl (decide_eq_false hp334)
                          refine Z.off hf rfl rfl rfl (by simp) ?_; clear hf a; intro a hf
                          refine Z.off hf rfl rfl rfl (by simp) ?_; clear hf a; intro a hf
                          refine Z.off hf rfl rfl rfl (by simp) ?_; clear hf a; intro a hf
                          refine Z.off hf rfl rfl rfl (by simp) ?_; clear hf a; intro a hf
                          refine Z.val hf rfl (Z.r_pick_f (hf.eval rfl) (hf.eval rfl)) ?_; clear hf a; intro a hf
                          refine Z.val hf rfl (Z.r_assign (hf.eval rfl)) ?_; clear hf a; intro a hf
                          refine Z.done ?_
                          refine hn318 _ _ ?_
                          replace hf : Z.Fr a 113 [] [(2, .bool false)] := hf.keep [2]
                          refine wp_ret ?_
                          have hq335 : Z.Ch [] w w218 := hq208.then hc219 (by simp) (by simp)
                          refine Z.ret1 hf Try.results7 rfl ?_
                          exact ⟨false, rfl, hq335, (by intro h; first | exact absurd h (by decide) | (obtain ⟨n1, n2⟩ := hnr h; exact ⟨⟨by omega, fun a ha => Codec.seen_all (n := min x.2.2.2.2.1.length 300) (m := 9000) (Codec.seen_mono hs44 (v := u222) (by have := hm130; have := hm229; omega)) hp99 (by omega) (by omega) (by omega) a ha⟩, by omega, ⟨by omega, fun a ha => Codec.seen_all (n := min x.2.2.2.2.2.2.2.2.1.length 300) (m := 9000) (Codec.seen_mono hs131 (v := u222) (by have := hm130; have := hm229; omega)) hp198 (by omega) (by omega) (by omega) a ha⟩, ⟨by omega, fun a ha => Codec.seen_all (n := min x.2.2.2.2.2.2.1.2.2.length 300) (m := 9000) (Codec.seen_mono hs230 (v := u222) (by have := hm130; have := hm229; omega)) hp315 (by omega) (by omega) (by omega) a ha⟩, by omega, n1, n2⟩))⟩
                      · intro hp336
                        have hgd := hp336
                        replace hf := hf.setb (d := 103) (b' := false) rfl (decide_eq_false hp336)
                        refine Z.off hf rfl rfl rfl (by simp) ?_; clear hf a; intro a hf
                        refine Z.off hf rfl rfl rfl (by simp) ?_; clear hf a; intro a hf
                        refine Z.val hf rfl (Z.r_pick_f (hf.eval rfl) (hf.eval rfl)) ?_; clear hf a; intro a hf
                        refine Z.val hf rfl (Z.r_move (hf.eval rfl)) ?_; clear hf a; intro a hf
                        refine Z.off hf rfl rfl rfl (by simp) ?_; clear hf a; intro a hf
                        refine Z.off hf rfl rfl rfl (by simp) ?_; clear hf a; intro a hf
                        refine Z.off hf rfl rfl rfl (by simp) ?_; clear hf a; intro a hf
                        refine Z.off hf rfl rfl rfl (by simp) ?_; clear hf a; intro a hf
                        refine Z.val hf rfl (Z.r_pick_f (hf.eval rfl) (hf.eval rfl)) ?_; clear hf a; intro a hf
                        refine Z.val hf rfl (Z.r_assign (hf.eval rfl)) ?_; clear hf a; intro a hf
                        refine Z.done ?_
                        refine hn318 _ _ ?_
                        replace hf : Z.Fr a 113 [] [(2, .bool false)] := hf.keep [2]
                        refine wp_ret ?_
                        have hq337 : Z.Ch [] w w218 := hq208.then hc219 (by simp) (by simp)
                        refine Z.ret1 hf Try.results7 rfl ?_
                        exact ⟨false, rfl, hq337, (by intro h; first | exact absurd h (by decide) | (obtain ⟨n1, n2⟩ := hnr h; exact ⟨⟨by omega, fun a ha => Codec.seen_all (n := min x.2.2.2.2.1.length 300) (m := 9000) (Codec.seen_mono hs44 (v := u222) (by have := hm130; have := hm229; omega)) hp99 (by omega) (by omega) (by omega) a ha⟩, by omega, ⟨by omega, fun a ha => Codec.seen_all (n := min x.2.2.2.2.2.2.2.2.1.length 300) (m := 9000) (Codec.seen_mono hs131 (v := u222) (by have := hm130; have := hm229; omega)) hp198 (by omega) (by omega) (by omega) a ha⟩, ⟨by omega, fun a ha => Codec.seen_all (n := min x.2.2.2.2.2.2.1.2.2.length 300) (m := 9000) (Codec.seen_mono hs230 (v := u222) (by have := hm130; have := hm229; omega)) hp315 (by omega) (by omega) (by omega) a ha⟩, by omega, n1, n2⟩))⟩
                    · intro hp338
                      have hgd := hp338
                      replace hf := hf.setb (d := 96) (b' := false) rfl (decide_eq_false hp338)
                      refine Z.off hf rfl rfl rfl (by simp) ?_; clear hf a; intro a hf
                      refine Z.off hf rfl rfl rfl (by simp) ?_; clear hf a; intro a hf
                      refine Z.off hf rfl rfl rfl (by simp) ?_; clear hf a; intro a hf
                      refine Z.off hf rfl rfl rfl (by simp) ?_; clear hf a; intro a hf
                      refine Z.off hf rfl rfl rfl (by simp) ?_; clear hf a; intro a hf
                      refine Z.val hf rfl (Z.r_pick_f (hf.eval rfl) (hf.eval rfl)) ?_; clear hf a; intro a hf
                      refine Z.val hf rfl (Z.r_move (hf.eval rfl)) ?_; clear hf a; intro a hf
                      refine Z.off hf rfl rfl rfl (by simp) ?_; clear hf a; intro a hf
                      refine Z.off hf rfl rfl rfl (by simp) ?_; clear hf a; intro a hf
                      refine Z.val hf rfl (Z.r_pick_f (hf.eval rfl) (hf.eval rfl)) ?_; clear hf a; intro a hf
                      refine Z.val hf rfl (Z.r_move (hf.eval rfl)) ?_; clear hf a; intro a hf
                      refine Z.off hf rfl rfl rfl (by simp) ?_; clear hf a; intro a hf
                      refine Z.off hf rfl rfl rfl (by simp) ?_; clear hf a; intro a hf
                      refine Z.off hf rfl rfl rfl (by simp) ?_; clear hf a; intro a hf
                      refine Z.off hf rfl rfl rfl (by simp) ?_; clear hf a; intro a hf
                      refine Z.val hf rfl (Z.r_pick_f (hf.eval rfl) (hf.eval rfl)) ?_; clear hf a; intro a hf
                      refine Z.val hf rfl (Z.r_assign (hf.eval rfl)) ?_; clear hf a; intro a hf
                      refine Z.done ?_
                      refine hn318 _ _ ?_
                      replace hf : Z.Fr a 113 [] [(2, .bool false)] := hf.keep [2]
                      refine wp_ret ?_
                      have hq339 : Z.Ch [] w w218 := hq208.then hc219 (by simp) (by simp)
                      refine Z.ret1 hf Try.results7 rfl ?_
                      exact ⟨false, rfl, hq339, (by intro h; first | exact absurd h (by decide) | (obtain ⟨n1, n2⟩ := hnr h; exact ⟨⟨by omega, fun a ha => Codec.seen_all (n := min x.2.2.2.2.1.length 300) (m := 9000) (Codec.seen_mono hs44 (v := u222) (by have := hm130; have := hm229; omega)) hp99 (by omega) (by omega) (by omega) a ha⟩, by omega, ⟨by omega, fun a ha => Codec.seen_all (n := min x.2.2.2.2.2.2.2.2.1.length 300) (m := 9000) (Codec.seen_mono hs131 (v := u222) (by have := hm130; have := hm229; omega)) hp198 (by omega) (by omega) (by omega) a ha⟩, ⟨by omega, fun a ha => Codec.seen_all (n := min x.2.2.2.2.2.2.1.2.2.length 300) (m := 9000) (Codec.seen_mono hs230 (v := u222) (by have := hm130; have := hm229; omega)) hp315 (by omega) (by omega) (by omega) a ha⟩, by omega, n1, n2⟩))⟩
                  · intro hp340
                    have hgd := hp340
                    replace hf := hf.setb (d := 89) (b' := false) rfl (decide_eq_false hp340)
                    refine Z.off hf rfl rfl rfl (by simp) ?_; clear hf a; intro a hf
                    refine Z.off hf rfl rfl rfl (by simp) ?_; clear hf a; intro a hf
                    refine Z.off hf rfl rfl rfl (by simp) ?_; clear hf a; intro a hf
                    refine Z.off hf rfl rfl rfl (by simp) ?_; clear hf a; intro a hf
                    refine Z.off hf rfl rfl rfl (by simp) ?_; clear hf a; intro a hf
                    refine Z.val hf rfl (Z.r_pick_f (hf.eval rfl) (hf.eval rfl)) ?_; clear hf a; intro a hf
                    refine Z.val hf rfl (Z.r_move (hf.eval rfl)) ?_; clear hf a; intro a hf
                    refine Z.off hf rfl rfl rfl (by simp) ?_; clear hf a; intro a hf
                    refine Z.off hf rfl rfl rfl (by simp) ?_; clear hf a; intro a hf
                    refine Z.off hf rfl rfl rfl (by simp) ?_; clear hf a; intro a hf
                    refine Z.off hf rfl rfl rfl (by simp) ?_; clear hf a; intro a hf
                    refine Z.off hf rfl rfl rfl (by simp) ?_; clear hf a; intro a hf
                    refine Z.val hf rfl (Z.r_pick_f (hf.eval rfl) (hf.eval rfl)) ?_; clear hf a; intro a hf
                    refine Z.val hf rfl (Z.r_move (hf.eval rfl)) ?_; clear hf a; intro a hf
                    refine Z.off hf rfl rfl rfl (by simp) ?_; clear hf a; intro a hf
                    refine Z.off hf rfl rfl rfl (by simp) ?_; clear hf a; intro a hf
                    refine Z.val hf rfl (Z.r_pick_f (hf.eval rfl) (hf.eval rfl)) ?_; clear hf a; intro a hf
                    refine Z.val hf rfl (Z.r_move (hf.eval rfl)) ?_; clear hf a; intro a hf
                    refine Z.off hf rfl rfl rfl (by simp) ?_; clear hf a; intro a hf
                    refine Z.off hf rfl rfl rfl (by simp) ?_; clear hf a; intro a hf
                    refine Z.off hf rfl rfl rfl (by simp) ?_; clear hf a; intro a hf
                    refine Z.off hf rfl rfl rfl (by simp) ?_; clear hf a; intro a hf
                    refine Z.val hf rfl (Z.r_pick_f (hf.eval rfl) (hf.eval rfl)) ?_; clear hf a; intro a hf
                    refine Z.val hf rfl (Z.r_assign (hf.eval rfl)) ?_; clear hf a; intro a hf
                    refine Z.done ?_
                    refine hn318 _ _ ?_
                    replace hf : Z.Fr a 113 [] [(2, .bool false)] := hf.keep [2]
                    refine wp_ret ?_
                    have hq341 : Z.Ch [] w w218 := hq208.then hc219 (by simp) (by simp)
                    refine Z.ret1 hf Try.results7 rfl ?_
                    exact ⟨false, rfl, hq341, (by intro h; first | exact absurd h (by decide) | (obtain ⟨n1, n2⟩ := hnr h; exact ⟨⟨by omega, fun a ha => Codec.seen_all (n := min x.2.2.2.2.1.length 300) (m := 9000) (Codec.seen_mono hs44 (v := u222) (by have := hm130; have := hm229; omega)) hp99 (by omega) (by omega) (by omega) a ha⟩, by omega, ⟨by omega, fun a ha => Codec.seen_all (n := min x.2.2.2.2.2.2.2.2.1.length 300) (m := 9000) (Codec.seen_mono hs131 (v := u222) (by have := hm130; have := hm229; omega)) hp198 (by omega) (by omega) (by omega) a ha⟩, ⟨by omega, fun a ha => Codec.seen_all (n := min x.2.2.2.2.2.2.1.2.2.length 300) (m := 9000) (Codec.seen_mono hs230 (v := u222) (by have := hm130; have := hm229; omega)) hp315 (by omega) (by omega) (by omega) a ha⟩, by omega, n1, n2⟩))⟩
                · intro hp342
                  have hgd := hp342
                  replace hf := hf.setb (d := 83) (b' := false) rfl (decide_eq_false hp342)
                  refine Z.off hf rfl rfl rfl (by simp) ?_; clear hf a; intro a hf
                  refine Z.off hf rfl rfl rfl (by simp) ?_; clear hf a; intro a hf
                  refine Z.off hf rfl rfl rfl (by simp) ?_; clear hf a; intro a hf
                  refine Z.off hf rfl rfl rfl (by simp) ?_; clear hf a; intro a hf
                  refine Z.val hf rfl (Z.r_pick_f (hf.eval rfl) (hf.eval rfl)) ?_; clear hf a; intro a hf
                  refine Z.val hf rfl (Z.r_move (hf.eval rfl)) ?_; clear hf a; intro a hf
                  refine Z.off hf rfl rfl rfl (by simp) ?_; clear hf a; intro a hf
                  refine Z.off hf rfl rfl rfl (by simp) ?_; clear hf a; intro a hf
                  refine Z.off hf rfl rfl rfl (by simp) ?_; clear hf a; intro a hf
                  refine Z.off hf rfl rfl rfl (by simp) ?_; clear hf a; intro a hf
                  refine Z.off hf rfl rfl rfl (by simp) ?_; clear hf a; intro a hf
                  refine Z.val hf rfl (Z.r_pick_f (hf.eval rfl) (hf.eval rfl)) ?_; clear hf a; intro a hf
                  refine Z.val hf rfl (Z.r_move (hf.eval rfl)) ?_; clear hf a; intro a hf
                  refine Z.off hf rfl rfl rfl (by simp) ?_; clear hf a; intro a hf
                  refine Z.off hf rfl rfl rfl (by simp) ?_; clear hf a; intro a hf
                  refine Z.off hf rfl rfl rfl (by simp) ?_; clear hf a; intro a hf
                  refine Z.off hf rfl rfl rfl (by simp) ?_; clear hf a; intro a hf
                  refine Z.off hf rfl rfl rfl (by simp) ?_; clear hf a; intro a hf
                  refine Z.val hf rfl (Z.r_pick_f (hf.eval rfl) (hf.eval rfl)) ?_; clear hf a; intro a hf
                  refine Z.val hf rfl (Z.r_move (hf.eval rfl)) ?_; clear hf a; intro a hf
                  refine Z.off hf rfl rfl rfl (by simp) ?_; clear hf a; intro a hf
                  refine Z.off hf rfl rfl rfl (by simp) ?_; clear hf a; intro a hf
                  refine Z.val hf rfl (Z.r_pick_f (hf.eval rfl) (hf.eval rfl)) ?_; clear hf a; intro a hf
                  refine Z.val hf rfl (Z.r_move (hf.eval rfl)) ?_; clear hf a; intro a hf
                  refine Z.off hf rfl rfl rfl (by simp) ?_; clear hf a; intro a hf
                  refine Z.off hf rfl rfl rfl (by simp) ?_; clear hf a; intro a hf
                  refine Z.off hf rfl rfl rfl (by simp) ?_; clear hf a; intro a hf
                  refine Z.off hf rfl rfl rfl (by simp) ?_; clear hf a; intro a hf
                  refine Z.val hf rfl (Z.r_pick_f (hf.eval rfl) (hf.eval rfl)) ?_; clear hf a; intro a hf
                  refine Z.val hf rfl (Z.r_assign (hf.eval rfl)) ?_; clear hf a; intro a hf
                  refine Z.done ?_
                  refine hn318 _ _ ?_
                  replace hf : Z.Fr a 113 [] [(2, .bool false)] := hf.keep [2]
                  refine wp_ret ?_
                  have hq343 : Z.Ch [] w w218 := hq208.then hc219 (by simp) (by simp)
                  refine Z.ret1 hf Try.results7 rfl ?_
                  exact ⟨false, rfl, hq343, (by intro h; first | exact absurd h (by decide) | (obtain ⟨n1, n2⟩ := hnr h; exact ⟨⟨by omega, fun a ha => Codec.seen_all (n := min x.2.2.2.2.1.length 300) (m := 9000) (Codec.seen_mono hs44 (v := u222) (by have := hm130; have := hm229; omega)) hp99 (by omega) (by omega) (by omega) a ha⟩, by omega, ⟨by omega, fun a ha => Codec.seen_all (n := min x.2.2.2.2.2.2.2.2.1.length 300) (m := 9000) (Codec.seen_mono hs131 (v := u222) (by have := hm130; have := hm229; omega)) hp198 (by omega) (by omega) (by omega) a ha⟩, ⟨by omega, fun a ha => Codec.seen_all (n := min x.2.2.2.2.2.2.1.2.2.length 300) (m := 9000) (Codec.seen_mono hs230 (v := u222) (by have := hm130; have := hm229; omega)) hp315 (by omega) (by omega) (by omega) a ha⟩, by omega, n1, n2⟩))⟩
              · intro hp344
                have hgd := hp344
                replace hf := hf.setb (d := 77) (b' := false) rfl (decide_eq_false hp344)
                refine Z.off hf rfl rfl rfl (by simp) ?_; clear hf a; intro a hf
                refine Z.off hf rfl rfl rfl (by simp) ?_; clear hf a; intro a hf
                refine Z.off hf rfl rfl rfl (by simp) ?_; clear hf a; intro a hf
                refine Z.off hf rfl rfl rfl (by simp) ?_; clear hf a; intro a hf
                refine Z.val hf rfl (Z.r_pick_f (hf.eval rfl) (hf.eval rfl)) ?_; clear hf a; intro a hf
                refine Z.val hf rfl (Z.r_move (hf.eval rfl)) ?_; clear hf a; intro a hf
                refine Z.off hf rfl rfl rfl (by simp) ?_; clear hf a; intro a hf
                refine Z.off hf rfl rfl rfl (by simp) ?_; clear hf a; intro a hf
                refine Z.off hf rfl rfl rfl (by simp) ?_; clear hf a; intro a hf
                refine Z.off hf rfl rfl rfl (by simp) ?_; clear hf a; intro a hf
                refine Z.val hf rfl (Z.r_pick_f (hf.eval rfl) (hf.eval rfl)) ?_; clear hf a; intro a hf
                refine Z.val hf rfl (Z.r_move (hf.eval rfl)) ?_; clear hf a; intro a hf
                refine Z.off hf rfl rfl rfl (by simp) ?_; clear hf a; intro a hf
                refine Z.off hf rfl rfl rfl (by simp) ?_; clear hf a; intro a hf
                refine Z.off hf rfl rfl rfl (by simp) ?_; clear hf a; intro a hf
                refine Z.off hf rfl rfl rfl (by simp) ?_; clear hf a; intro a hf
                refine Z.off hf rfl rfl rfl (by simp) ?_; clear hf a; intro a hf
                refine Z.val hf rfl (Z.r_pick_f (hf.eval rfl) (hf.eval rfl)) ?_; clear hf a; intro a hf
                refine Z.val hf rfl (Z.r_move (hf.eval rfl)) ?_; clear hf a; intro a hf
                refine Z.off hf rfl rfl rfl (by simp) ?_; clear hf a; intro a hf
                refine Z.off hf rfl rfl rfl (by simp) ?_; clear hf a; intro a hf
                refine Z.off hf rfl rfl rfl (by simp) ?_; clear hf a; intro a hf
                refine Z.off hf rfl rfl rfl (by simp) ?_; clear hf a; intro a hf
                refine Z.off hf rfl rfl rfl (by simp) ?_; clear hf a; intro a hf
                refine Z.val hf rfl (Z.r_pick_f (hf.eval rfl) (hf.eval rfl)) ?_; clear hf a; intro a hf
                refine Z.val hf rfl (Z.r_move (hf.eval rfl)) ?_; clear hf a; intro a hf
                refine Z.off hf rfl rfl rfl (by simp) ?_; clear hf a; intro a hf
                refine Z.off hf rfl rfl rfl (by simp) ?_; clear hf a; intro a hf
                refine Z.val hf rfl (Z.r_pick_f (hf.eval rfl) (hf.eval rfl)) ?_; clear hf a; intro a hf
                refine Z.val hf rfl (Z.r_move (hf.eval rfl)) ?_; clear hf a; intro a hf
                refine Z.off hf rfl rfl rfl (by simp) ?_; clear hf a; intro a hf
                refine Z.off hf rfl rfl rfl (by simp) ?_; clear hf a; intro a hf
                refine Z.off hf rfl rfl rfl (by simp) ?_; clear hf a; intro a hf
                refine Z.off hf rfl rfl rfl (by simp) ?_; clear hf a; intro a hf
                refine Z.val hf rfl (Z.r_pick_f (hf.eval rfl) (hf.eval rfl)) ?_; clear hf a; intro a hf
                refine Z.val hf rfl (Z.r_assign (hf.eval rfl)) ?_; clear hf a; intro a hf
                refine Z.done ?_
                refine hn318 _ _ ?_
                replace hf : Z.Fr a 113 [] [(2, .bool false)] := hf.keep [2]
                refine wp_ret ?_
                have hq345 : Z.Ch [] w w218 := hq208.then hc219 (by simp) (by simp)
                refine Z.ret1 hf Try.results7 rfl ?_
                exact ⟨false, rfl, hq345, (by intro h; first | exact absurd h (by decide) | (obtain ⟨n1, n2⟩ := hnr h; exact ⟨⟨by omega, fun a ha => Codec.seen_all (n := min x.2.2.2.2.1.length 300) (m := 9000) (Codec.seen_mono hs44 (v := u222) (by have := hm130; have := hm229; omega)) hp99 (by omega) (by omega) (by omega) a ha⟩, by omega, ⟨by omega, fun a ha => Codec.seen_all (n := min x.2.2.2.2.2.2.2.2.1.length 300) (m := 9000) (Codec.seen_mono hs131 (v := u222) (by have := hm130; have := hm229; omega)) hp198 (by omega) (by omega) (by omega) a ha⟩, ⟨by omega, fun a ha => Codec.seen_all (n := min x.2.2.2.2.2.2.1.2.2.length 300) (m := 9000) (Codec.seen_mono hs230 (v := u222) (by have := hm130; have := hm229; omega)) hp315 (by omega) (by omega) (by omega) a ha⟩, by omega, n1, n2⟩))⟩

set_option maxHeartbeats 400000 in
set_option maxRecDepth 20000 in
theorem Frame_spec (xs : List UInt8) (w : World) (pA0 : Option Addr) (pc0 : Nat) (ph0 : (Z.Ty.slice Z.Ty.byte).rep w (Z.nt []) [.slice pA0 xs.length pc0] xs)  :
    Calls Try.prog 12 #[.slice pA0 xs.length pc0] w fun e w' => ∃ (rA0 : Option Addr) (rc0 : Nat), e = .returned (.tuple #[.slice rA0 (Codec.frameB xs).length rc0, .int .i64 (Codec.frameE xs)]) ∧ (Z.Ty.slice Z.Ty.byte).rep w' (Z.iv w.heap.size w'.heap.size) [.slice rA0 (Codec.frameB xs).length rc0] (Codec.frameB xs) ∧ Z.Ch [] w w' := by
  refine Z.enter Try.func12 rfl Try.ntmps12 (Nat.le_of_ble_eq_true rfl) fun a hf => ?_
  replace hf : Z.Fr a 13 [] [(0, .slice pA0 xs.length pc0)] := hf
  have hle_pA0 := Z.rep_le ph0
  have ph0o := Z.rep_ol ph0
  have hil := Codec.encInt_length (xs.length : Int)
  refine Z.seq' (Z.Pq.body _ _ _) fun Q1 hp2 hn3 he4 => ?_
  refine Z.reg ?_
  refine Z.val hf rfl (Z.r_assign (hf.eval rfl)) ?_; clear hf a; intro a hf
  refine Z.val hf rfl (Z.r_assign (hf.eval rfl)) ?_; clear hf a; intro a hf
  refine Z.done ?_
  refine hn3 _ _ ?_
  replace hf : Z.Fr a 13 [] [(0, .slice pA0 xs.length pc0)] := hf.keep [0]
  refine Z.seq' (Z.Pq.body _ _ _) fun Q5 hp6 hn7 he8 => ?_
  refine Z.seq' hp6 fun Q9 hp10 hn11 he12 => ?_
  refine Z.reg ?_
  refine Z.val hf rfl (Z.r_move (hf.eval rfl)) ?_; clear hf a; intro a hf
  refine Z.val hf rfl (Z.r_len Try.underlying40 (hf.eval rfl)) ?_; clear hf a; intro a hf
  refine Z.val hf rfl (Z.r_gtr (hf.eval rfl) (hf.eval rfl)) ?_; clear hf a; intro a hf
  refine Z.done ?_
  refine hn11 _ _ ?_
  replace hf : Z.Fr a 13 [] [(0, .slice pA0 xs.length pc0), (6, .bool (decide (65536 < (xs.length : Int))))] := hf.keep [0, 6]
  refine Z.condp hf rfl ?_ ?_
  · intro hp13
    refine Z.seq' hp6 fun Q14 hp15 hn16 he17 => ?_
    refine Z.reg ?_
    refine Z.val hf rfl (Z.r_assign (hf.eval rfl)) ?_; clear hf a; intro a hf
    refine Z.val hf rfl (Z.r_assign (hf.eval rfl)) ?_; clear hf a; intro a hf
    refine Z.done ?_
    refine hn16 _ _ ?_
    replace hf : Z.Fr a 13 [] [(2, .slice none 0 0), (3, .int .i64 3)] := hf.keep [2, 3]
    refine wp_ret ?_
    refine he8 _ _ _ (by simp) ?_
    have hr18 : (Z.Ty.slice Z.Ty.byte).rep w (Z.iv w.heap.size w.heap.size) [.slice none 0 0] [] := Z.rep_nil _
    have hxs19 : ([] : List UInt8) = (Codec.frameB xs : List UInt8) := by first | rfl | (unfold Codec.frameB; rw [if_neg (by omega)]; done) | (unfold Codec.frameB; rw [if_pos (by omega)]; simp; done)
    have hr20 := Z.rep_eq hr18 hxs19
    replace hf := hf.setv (d := 2) (y := .slice none ((Codec.frameB xs).length) 0) rfl (by rw [← hxs19] <;> first | done | rfl)
    replace hf := hf.setv (d := 3) (y := .int .i64 (Codec.frameE xs)) rfl (congrArg (Value.int .i64) (by first | rfl | (unfold Codec.frameE; rw [if_neg (by omega)]; done) | (unfold Codec.frameE; rw [if_pos (by omega)]; done)))
    refine Z.ret2 hf Try.results12 rfl rfl ?_
    exact ⟨none, 0, rfl, hr20, (Z.Ch.refl w)⟩
  · intro hp21
    refine wp_skip ?_
    refine hn7 _ _ ?_
    replace hf : Z.Fr a 13 [] [(0, .slice pA0 xs.length pc0)] := hf.keep [0]
    refine Z.seq' (Z.Pq.body _ _ _) fun Q22 hp23 hn24 he25 => ?_
    refine Z.reg ?_
    refine Z.val hf rfl (Z.r_move (hf.eval rfl)) ?_; clear hf a; intro a hf
    refine Z.val hf rfl (Z.r_len Try.underlying40 (hf.eval rfl)) ?_; clear hf a; intro a hf
    have hcall := Int_spec ((xs.length : Int)) w  (by unfold Codec.okInt; omega)
    refine Z.call1 hf rfl (Z.r_call cf26 hf (xs := [.tmp 8]) rfl) hcall ?_; clear hcall hf a
    rintro _ w26 ⟨A27, c28, rfl, ho29, hc31⟩
    have hzhc31 := hc31.size
    refine ⟨_, rfl, ?_⟩; intro a hf
    refine Z.val hf rfl (Z.r_move (hf.eval rfl)) ?_; clear hf a; intro a hf
    refine Z.st_bslice hf rfl Try.underlying46 Try.sizeOf40 Try.zeroValue40 (parts := [(0, .tmp 9), (1, .tmp 10)]) (cs := [.slice A27 ((Codec.encInt (xs.length : Int)).length) c28, .slice pA0 xs.length pc0]) rfl rfl rfl (by kernel_rfl) ?_; clear hf a; intro g32 w33 a hg34 hz35 hb36 hc37 hf
    have hr39 := ho29.riv
    have hr40 : (Z.Ty.slice Z.Ty.byte).rep w33 (Z.nt []) [.slice A27 ((Codec.encInt (xs.length : Int)).length) c28] (Codec.encInt (xs.length : Int)) := Z.rep_to hr39 hc37 (by intro b h1 h2; (try simp only [Z.nt, Z.iv, Z.no, Z.ol, List.mem_cons, List.not_mem_nil, or_false, not_or, not_false_eq_true] at h1); (try simp only [Z.nt, Z.iv, Z.no, Z.ol, List.mem_cons, List.mem_append, List.not_mem_nil, or_false, not_or, not_false_eq_true, true_and, and_true]) <;> omega)
    have hq41 : Z.Ch [] w w33 := hc31.then hc37 (by simp) (by simp)
    have hr42 : (Z.Ty.slice Z.Ty.byte).rep w33 (Z.nt []) [.slice pA0 xs.length pc0] xs := Z.rep_to ph0o hq41 (by intro b h1 h2; (try simp only [Z.nt, Z.iv, Z.no, Z.ol, List.mem_cons, List.not_mem_nil, or_false, not_or, not_false_eq_true] at h1); (try simp only [Z.nt, Z.iv, Z.no, Z.ol, List.mem_cons, List.mem_append, List.not_mem_nil, or_false, not_or, not_false_eq_true, true_and, and_true]) <;> omega)
    have ho38 : Z.Own (Z.Ty.slice Z.Ty.byte) 40 g32 w33 (Z.nt []) (some ⟨g32, 0, none⟩) 2 ([Codec.encInt (xs.length : Int), xs] : List (List UInt8)) := Z.Own.made (t := (Z.Ty.slice Z.Ty.byte)) (xs := ([Codec.encInt (xs.length : Int), xs] : List (List UInt8))) hb36 (Nat.le_refl _) rfl (by simp [maxLen]) (by simp [Value.oneCell']) (fun i x hi => by match i, hi with | 0, hi => (injection hi with hi; subst hi; exact hr40) | 1, hi => (injection hi with hi; subst hi; exact hr42) | (j + 2), hi => simp at hi)
    have hr43 := (ho38.rep' (F' := Z.nt []) (fun _ h => h) (fun _ _ _ => by simp [Z.nt]))
    have hcall := WJoin_spec (([Codec.encInt (xs.length : Int), xs] : List (List UInt8))) w33 (some ⟨g32, 0, none⟩) (2) hr43 (by first | omega | (simp only [List.length_append, List.flatMap_cons, List.flatMap_nil, List.flatten_cons, List.flatten_nil, List.length_nil, List.append_nil]; omega))
    refine Z.call1 hf rfl (Z.r_call cf25 hf (xs := [.tmp 11]) rfl) hcall ?_; clear hcall hf a
    rintro _ w44 ⟨A45, c46, rfl, hr47, hc48⟩
    have hzhc48 := hc48.size
    refine ⟨_, rfl, ?_⟩; intro a hf
    refine Z.val hf rfl (Z.r_assign (hf.eval rfl)) ?_; clear hf a; intro a hf
    refine Z.val hf rfl (Z.r_assign (hf.eval rfl)) ?_; clear hf a; intro a hf
    refine Z.done ?_
    refine hn24 _ _ ?_
    replace hf : Z.Fr a 13 [] [(2, .slice A45 ((([Codec.encInt (xs.length : Int), xs] : List (List UInt8)).flatten).length) c46), (3, .int .i64 0)] := hf.keep [2, 3]
    refine wp_ret ?_
    have hr49 : (Z.Ty.slice Z.Ty.byte).rep w44 (Z.iv w.heap.size w44.heap.size) [.slice A45 ((([Codec.encInt (xs.length : Int), xs] : List (List UInt8)).flatten).length) c46] (([Codec.encInt (xs.length : Int), xs] : List (List UInt8)).flatten) := Z.rep_as hr47 (by intro b h1 h2; (try simp only [Z.nt, Z.iv, Z.no, Z.ol] at h1); (try simp only [Z.iv]); omega)
    have hxs50 : ([Codec.encInt (xs.length : Int), xs] : List (List UInt8)).flatten = (Codec.frameB xs : List UInt8) := by first | rfl | (unfold Codec.frameB; rw [if_neg (by omega)]; done) | (unfold Codec.frameB; rw [if_pos (by omega)]; simp; done)
    have hr51 := Z.rep_eq hr49 hxs50
    replace hf := hf.setv (d := 2) (y := .slice A45 ((Codec.frameB xs).length) c46) rfl (by rw [← hxs50] <;> first | done | rfl)
    replace hf := hf.setv (d := 3) (y := .int .i64 (Codec.frameE xs)) rfl (congrArg (Value.int .i64) (by first | rfl | (unfold Codec.frameE; rw [if_neg (by omega)]; done) | (unfold Codec.frameE; rw [if_pos (by omega)]; done)))
    have hq52 : Z.Ch [] w w44 := hq41.then hc48 (by simp) (by simp)
    refine Z.ret2 hf Try.results12 rfl rfl ?_
    exact ⟨A45, c46, rfl, hr51, hq52⟩

set_option maxHeartbeats 400000 in
set_option maxRecDepth 20000 in
theorem begun_spec  (w : World)    :
    Calls Try.prog 6 #[] w fun e w' => e = .returned (.bool true) ∧ Z.Ch [] w w' := by
  refine Z.enter Try.func6 rfl Try.ntmps6 (Nat.le_of_ble_eq_true rfl) fun a hf => ?_
  replace hf : Z.Fr a 32 [] [] := hf
  refine Z.seq' (Z.Pq.body _ _ _) fun Q1 hp2 hn3 he4 => ?_
  refine Z.reg ?_
  refine Z.val hf rfl (Z.r_assign (hf.eval rfl)) ?_; clear hf a; intro a hf
  refine Z.done ?_
  refine hn3 _ _ ?_
  replace hf : Z.Fr a 32 [] [] := hf.keep []
  refine Z.seq' (Z.Pq.body _ _ _) fun Q5 hp6 hn7 he8 => ?_
  refine Z.reg ?_
  refine Z.val hf rfl (Z.r_build hf Try.underlying58 Try.zeroValue58 (parts := [(0, .const (.int .i64 3)), (1, .const (.int .i64 (-1))), (2, .const (.string (ByteArray.mk #[97]))), (3, .const (.int .i64 7))]) rfl (pl := #[(0, 1), (1, 1), (2, 1), (3, 1)]) (fun _ => by kernel_rfl) rfl) ?_; clear hf a; intro a hf
  refine Z.st_bslice hf rfl Try.underlying34 Try.sizeOf58 Try.zeroValue58 (parts := [(0, .tmp 6)]) (cs := [.int .i64 3, .int .i64 (-1), .string (ByteArray.mk #[97]), .int .i64 7]) rfl rfl rfl (by kernel_rfl) ?_; clear hf a; intro g9 w10 a hg11 hz12 hb13 hc14 hf
  have ho15 : Z.Own (Z.Ty.pair (Z.Ty.int .i64) (Z.Ty.pair (Z.Ty.int .i64) (Z.Ty.pair Z.Ty.str (Z.Ty.int .i64)))) 58 g9 w10 Z.no (some ⟨g9, 0, none⟩) 1 ([(3, -1, ByteArray.mk #[97], 7)] : List (Int × Int × ByteArray × Int)) := Z.Own.made (t := (Z.Ty.pair (Z.Ty.int .i64) (Z.Ty.pair (Z.Ty.int .i64) (Z.Ty.pair Z.Ty.str (Z.Ty.int .i64))))) (xs := ([(3, -1, ByteArray.mk #[97], 7)] : List (Int × Int × ByteArray × Int))) hb13 (Nat.le_refl _) rfl (by simp [maxLen]) (by simp [Value.oneCell']) (fun i x hi => by match i, hi with | 0, hi => (injection hi with hi; subst hi; exact (Z.rep_pair_mk (show (Z.Ty.int .i64).rep w10 (Z.nt []) [.int .i64 3] 3 from ⟨rfl, (Z.i64_has (by omega))⟩) (Z.rep_pair_mk (show (Z.Ty.int .i64).rep w10 (Z.nt []) [.int .i64 (-1)] (-1) from ⟨rfl, (Z.i64_has (by omega))⟩) (Z.rep_pair_mk (show Z.Ty.str.rep w10 (Z.nt []) [.string (ByteArray.mk #[97])] (ByteArray.mk #[97]) from ⟨rfl, (by first | (simp [maxLen]; done) | exact Nat.le_of_ble_eq_true rfl)⟩) (show (Z.Ty.int .i64).rep w10 (Z.nt []) [.int .i64 7] 7 from ⟨rfl, (Z.i64_has (by omega))⟩))))) | (j + 1), hi => simp at hi)
  have hr16 := ho15.riv
  have hr17 : (Z.Ty.slice (Z.Ty.pair (Z.Ty.int .i64) (Z.Ty.pair (Z.Ty.int .i64) (Z.Ty.pair Z.Ty.str (Z.Ty.int .i64))))).rep w10 (Z.nt []) [.slice (some ⟨g9, 0, none⟩) 1 1] ([(3, -1, ByteArray.mk #[97], 7)] : List (Int × Int × ByteArray × Int)) := Z.rep_to hr16 (Z.Ch.refl w10) (by intro b h1 h2; (try simp only [Z.nt, Z.iv, Z.no, Z.ol, List.mem_cons, List.not_mem_nil, or_false, not_or, not_false_eq_true] at h1); (try simp only [Z.nt, Z.iv, Z.no, Z.ol, List.mem_cons, List.mem_append, List.not_mem_nil, or_false, not_or, not_false_eq_true, true_and, and_true]) <;> omega)
  have hcall := Entries_spec (([(3, -1, ByteArray.mk #[97], 7)] : List (Int × Int × ByteArray × Int))) w10 (some ⟨g9, 0, none⟩) (1) hr17 (by decide) (by decide) (by intro a ha; simp at ha; subst ha; show _ ≤ _; decide)
  refine Z.call1 hf rfl (Z.r_call cf18 hf (xs := [.tmp 7]) rfl) hcall ?_; clear hcall hf a
  rintro _ w18 ⟨A19, c20, rfl, hr21, hc22⟩
  have hzhc22 := hc22.size
  refine ⟨_, rfl, ?_⟩; intro a hf
  refine Z.val hf rfl (Z.r_move (hf.eval rfl)) ?_; clear hf a; intro a hf
  refine Z.val hf rfl (Z.r_extract (hf.eval rfl) rfl) ?_; clear hf a; intro a hf
  refine Z.val hf rfl (Z.r_extract (hf.eval rfl) rfl) ?_; clear hf a; intro a hf
  refine Z.val hf rfl (Z.r_assign (hf.eval rfl)) ?_; clear hf a; intro a hf
  refine Z.val hf rfl (Z.r_assign (hf.eval rfl)) ?_; clear hf a; intro a hf
  refine Z.done ?_
  refine hn7 _ _ ?_
  replace hf : Z.Fr a 32 [] [(1, .slice A19 ((Codec.encList Codec.encEntry ([(3, -1, ByteArray.mk #[97], 7)] : List (Int × Int × ByteArray × Int))).length) c20), (2, .int .i64 0)] := hf.keep [1, 2]
  refine Z.seq' (Z.Pq.body _ _ _) fun Q23 hp24 hn25 he26 => ?_
  refine Z.reg ?_
  refine Z.st_bslice hf rfl Try.underlying40 Try.sizeOf5 Try.zeroValue5 (parts := [(0, .const (.int .u8 5)), (1, .const (.int .u8 6))]) (cs := [.int .u8 5, .int .u8 6]) rfl rfl rfl (by kernel_rfl) ?_; clear hf a; intro g27 w28 a hg29 hz30 hb31 hc32 hf
  have ho33 : Z.Own Z.Ty.byte 5 g27 w28 Z.no (some ⟨g27, 0, none⟩) 2 ([UInt8.ofNat 5, UInt8.ofNat 6] : List UInt8) := Z.Own.made (t := Z.Ty.byte) (xs := ([UInt8.ofNat 5, UInt8.ofNat 6] : List UInt8)) hb31 (Nat.le_refl _) rfl (by simp [maxLen]) (by simp [Value.oneCell']) (fun i x hi => by match i, hi with | 0, hi => (injection hi with hi; subst hi; exact (show _ = _ from congrArg (fun z => [Value.int .u8 z]) (by decide))) | 1, hi => (injection hi with hi; subst hi; exact (show _ = _ from congrArg (fun z => [Value.int .u8 z]) (by decide))) | (j + 2), hi => simp at hi)
  have hr34 := ho33.riv
  have hr35 : (Z.Ty.slice Z.Ty.byte).rep w28 (Z.nt []) [.slice (some ⟨g27, 0, none⟩) 2 2] ([UInt8.ofNat 5, UInt8.ofNat 6] : List UInt8) := Z.rep_to hr34 (Z.Ch.refl w28) (by intro b h1 h2; (try simp only [Z.nt, Z.iv, Z.no, Z.ol, List.mem_cons, List.not_mem_nil, or_false, not_or, not_false_eq_true] at h1); (try simp only [Z.nt, Z.iv, Z.no, Z.ol, List.mem_cons, List.mem_append, List.not_mem_nil, or_false, not_or, not_false_eq_true, true_and, and_true]) <;> omega)
  have hcall := Frame_spec (([UInt8.ofNat 5, UInt8.ofNat 6] : List UInt8)) w28 (some ⟨g27, 0, none⟩) (2) hr35
  refine Z.call1 hf rfl (Z.r_call cf12 hf (xs := [.tmp 12]) rfl) hcall ?_; clear hcall hf a
  rintro _ w36 ⟨A37, c38, rfl, hr39, hc40⟩
  have hzhc40 := hc40.size
  refine ⟨_, rfl, ?_⟩; intro a hf
  refine Z.val hf rfl (Z.r_move (hf.eval rfl)) ?_; clear hf a; intro a hf
  refine Z.val hf rfl (Z.r_extract (hf.eval rfl) rfl) ?_; clear hf a; intro a hf
  refine Z.val hf rfl (Z.r_extract (hf.eval rfl) rfl) ?_; clear hf a; intro a hf
  refine Z.val hf rfl (Z.r_assign (hf.eval rfl)) ?_; clear hf a; intro a hf
  refine Z.val hf rfl (Z.r_assign (hf.eval rfl)) ?_; clear hf a; intro a hf
  refine Z.done ?_
  refine hn25 _ _ ?_
  replace hf : Z.Fr a 32 [] [(1, .slice A19 ((Codec.encList Codec.encEntry ([(3, -1, ByteArray.mk #[97], 7)] : List (Int × Int × ByteArray × Int))).length) c20), (2, .int .i64 0), (3, .slice A37 ((Codec.frameB ([UInt8.ofNat 5, UInt8.ofNat 6] : List UInt8)).length) c38), (4, .int .i64 (Codec.frameE ([UInt8.ofNat 5, UInt8.ofNat 6] : List UInt8)))] := hf.keep [1, 2, 3, 4]
  refine Z.seq' (Z.Pq.body _ _ _) fun Q41 hp42 hn43 he44 => ?_
  refine Z.reg ?_
  refine Z.val hf rfl (Z.r_move (hf.eval rfl)) ?_; clear hf a; intro a hf
  refine Z.val hf rfl (Z.r_eql (hf.eval rfl) (hf.eval rfl)) ?_; clear hf a; intro a hf
  refine Z.val hf rfl (Z.r_move (hf.eval rfl)) ?_; clear hf a; intro a hf
  refine Z.on hf rfl rfl ?_
  refine Z.val hf rfl (Z.r_move (hf.eval rfl)) ?_; clear hf a; intro a hf
  refine Z.on hf rfl rfl ?_
  refine Z.st_bslice hf rfl Try.underlying40 Try.sizeOf5 Try.zeroValue5 (parts := [(0, .const (.int .u8 101)), (1, .const (.int .u8 103)), (2, .const (.int .u8 49)), (3, .const (.int .u8 101)), (4, .const (.int .u8 97)), (5, .const (.int .u8 107))]) (cs := [.int .u8 101, .int .u8 103, .int .u8 49, .int .u8 101, .int .u8 97, .int .u8 107]) rfl rfl rfl (by kernel_rfl) ?_; clear hf a; intro g45 w46 a hg47 hz48 hb49 hc50 hf
  have ho51 : Z.Own Z.Ty.byte 5 g45 w46 Z.no (some ⟨g45, 0, none⟩) 6 ([UInt8.ofNat 101, UInt8.ofNat 103, UInt8.ofNat 49, UInt8.ofNat 101, UInt8.ofNat 97, UInt8.ofNat 107] : List UInt8) := Z.Own.made (t := Z.Ty.byte) (xs := ([UInt8.ofNat 101, UInt8.ofNat 103, UInt8.ofNat 49, UInt8.ofNat 101, UInt8.ofNat 97, UInt8.ofNat 107] : List UInt8)) hb49 (Nat.le_refl _) rfl (by simp [maxLen]) (by simp [Value.oneCell']) (fun i x hi => by match i, hi with | 0, hi => (injection hi with hi; subst hi; exact (show _ = _ from congrArg (fun z => [Value.int .u8 z]) (by decide))) | 1, hi => (injection hi with hi; subst hi; exact (show _ = _ from congrArg (fun z => [Value.int .u8 z]) (by decide))) | 2, hi => (injection hi with hi; subst hi; exact (show _ = _ from congrArg (fun z => [Value.int .u8 z]) (by decide))) | 3, hi => (injection hi with hi; subst hi; exact (show _ = _ from congrArg (fun z => [Value.int .u8 z]) (by decide))) | 4, hi => (injection hi with hi; subst hi; exact (show _ = _ from congrArg (fun z => [Value.int .u8 z]) (by decide))) | 5, hi => (injection hi with hi; subst hi; exact (show _ = _ from congrArg (fun z => [Value.int .u8 z]) (by decide))) | (j + 6), hi => simp at hi)
  refine Z.on hf rfl rfl ?_
  have hq52 : Z.Ch [] w18 w36 := hc32.then hc40 (by simp) (by simp)
  have hq53 : Z.Ch [] w18 w46 := hq52.then hc50 (by simp) (by simp)
  have hr54 : (Z.Ty.slice Z.Ty.byte).rep w46 (Z.nt []) [.slice A19 ((Codec.encList Codec.encEntry ([(3, -1, ByteArray.mk #[97], 7)] : List (Int × Int × ByteArray × Int))).length) c20] (Codec.encList Codec.encEntry ([(3, -1, ByteArray.mk #[97], 7)] : List (Int × Int × ByteArray × Int))) := Z.rep_to hr21 hq53 (by intro b h1 h2; (try simp only [Z.nt, Z.iv, Z.no, Z.ol, List.mem_cons, List.not_mem_nil, or_false, not_or, not_false_eq_true] at h1); (try simp only [Z.nt, Z.iv, Z.no, Z.ol, List.mem_cons, List.mem_append, List.not_mem_nil, or_false, not_or, not_false_eq_true, true_and, and_true]) <;> omega)
  have hr55 := ho51.riv
  have hr56 : (Z.Ty.slice Z.Ty.byte).rep w46 (Z.nt []) [.slice (some ⟨g45, 0, none⟩) 6 6] ([UInt8.ofNat 101, UInt8.ofNat 103, UInt8.ofNat 49, UInt8.ofNat 101, UInt8.ofNat 97, UInt8.ofNat 107] : List UInt8) := Z.rep_to hr55 (Z.Ch.refl w46) (by intro b h1 h2; (try simp only [Z.nt, Z.iv, Z.no, Z.ol, List.mem_cons, List.not_mem_nil, or_false, not_or, not_false_eq_true] at h1); (try simp only [Z.nt, Z.iv, Z.no, Z.ol, List.mem_cons, List.mem_append, List.not_mem_nil, or_false, not_or, not_false_eq_true, true_and, and_true]) <;> omega)
  have hcall := Equal_spec (Codec.encList Codec.encEntry ([(3, -1, ByteArray.mk #[97], 7)] : List (Int × Int × ByteArray × Int))) (([UInt8.ofNat 101, UInt8.ofNat 103, UInt8.ofNat 49, UInt8.ofNat 101, UInt8.ofNat 97, UInt8.ofNat 107] : List UInt8)) w46 (A19) (c20) (some ⟨g45, 0, none⟩) (6) hr54 hr56
  refine Z.call1 hf rfl (Z.r_call cf10 hf (xs := [.tmp 19, .tmp 20]) rfl) hcall ?_; clear hcall hf a
  rintro _ w57 ⟨rfl, hc58⟩
  have hzhc58 := hc58.size
  refine ⟨_, rfl, ?_⟩; intro a hf
  refine Z.val hf rfl (Z.r_pick_t (hf.eval rfl) (hf.eval rfl)) ?_; clear hf a; intro a hf
  refine Z.val hf rfl (Z.r_move (hf.eval rfl)) ?_; clear hf a; intro a hf
  by_cases hdec : (Codec.encList Codec.encEntry ([(3, -1, ByteArray.mk #[97], 7)] : List (Int × Int × ByteArray × Int))) = ([UInt8.ofNat 101, UInt8.ofNat 103, UInt8.ofNat 49, UInt8.ofNat 101, UInt8.ofNat 97, UInt8.ofNat 107] : List UInt8) <;> revert hdec
  · intro hp59
    have hgd := hp59
    replace hf := hf.setb (d := 23) (b' := true) rfl (decide_eq_true hp59)
    refine Z.on hf rfl rfl ?_
    refine Z.val hf rfl (Z.r_move (hf.eval rfl)) ?_; clear hf a; intro a hf
    refine Z.on hf rfl rfl ?_
    refine Z.val hf rfl (Z.r_eql (hf.eval rfl) (hf.eval rfl)) ?_; clear hf a; intro a hf
    refine Z.val hf rfl (Z.r_pick_t (hf.eval rfl) (hf.eval rfl)) ?_; clear hf a; intro a hf
    refine Z.val hf rfl (Z.r_move (hf.eval rfl)) ?_; clear hf a; intro a hf
    by_cases hdec : Codec.frameE ([UInt8.ofNat 5, UInt8.ofNat 6] : List UInt8) = 0 <;> revert hdec
    · intro hp60
      have hgd := hp60
      replace hf := hf.setb (d := 27) (b' := true) rfl (decide_eq_true hp60)
      refine Z.on hf rfl rfl ?_
      refine Z.val hf rfl (Z.r_move (hf.eval rfl)) ?_; clear hf a; intro a hf
      refine Z.on hf rfl rfl ?_
      refine Z.st_bslice hf rfl Try.underlying40 Try.sizeOf5 Try.zeroValue5 (parts := [(0, .const (.int .u8 102)), (1, .const (.int .u8 5)), (2, .const (.int .u8 6))]) (cs := [.int .u8 102, .int .u8 5, .int .u8 6]) rfl rfl rfl (by kernel_rfl) ?_; clear hf a; intro g61 w62 a hg63 hz64 hb65 hc66 hf
      have ho67 : Z.Own Z.Ty.byte 5 g61 w62 Z.no (some ⟨g61, 0, none⟩) 3 ([UInt8.ofNat 102, UInt8.ofNat 5, UInt8.ofNat 6] : List UInt8) := Z.Own.made (t := Z.Ty.byte) (xs := ([UInt8.ofNat 102, UInt8.ofNat 5, UInt8.ofNat 6] : List UInt8)) hb65 (Nat.le_refl _) rfl (by simp [maxLen]) (by simp [Value.oneCell']) (fun i x hi => by match i, hi with | 0, hi => (injection hi with hi; subst hi; exact (show _ = _ from congrArg (fun z => [Value.int .u8 z]) (by decide))) | 1, hi => (injection hi with hi; subst hi; exact (show _ = _ from congrArg (fun z => [Value.int .u8 z]) (by decide))) | 2, hi => (injection hi with hi; subst hi; exact (show _ = _ from congrArg (fun z => [Value.int .u8 z]) (by decide))) | (j + 3), hi => simp at hi)
      refine Z.on hf rfl rfl ?_
      have hq68 : Z.Ch [] w36 w57 := hc50.then hc58 (by simp) (by simp)
      have hq69 : Z.Ch [] w36 w62 := hq68.then hc66 (by simp) (by simp)
      have hr70 : (Z.Ty.slice Z.Ty.byte).rep w62 (Z.nt []) [.slice A37 ((Codec.frameB ([UInt8.ofNat 5, UInt8.ofNat 6] : List UInt8)).length) c38] (Codec.frameB ([UInt8.ofNat 5, UInt8.ofNat 6] : List UInt8)) := Z.rep_to hr39 hq69 (by intro b h1 h2; (try simp only [Z.nt, Z.iv, Z.no, Z.ol, List.mem_cons, List.not_mem_nil, or_false, not_or, not_false_eq_true] at h1); (try simp only [Z.nt, Z.iv, Z.no, Z.ol, List.mem_cons, List.mem_append, List.not_mem_nil, or_false, not_or, not_false_eq_true, true_and, and_true]) <;> omega)
      have hr71 := ho67.riv
      have hr72 : (Z.Ty.slice Z.Ty.byte).rep w62 (Z.nt []) [.slice (some ⟨g61, 0, none⟩) 3 3] ([UInt8.ofNat 102, UInt8.ofNat 5, UInt8.ofNat 6] : List UInt8) := Z.rep_to hr71 (Z.Ch.refl w62) (by intro b h1 h2; (try simp only [Z.nt, Z.iv, Z.no, Z.ol, List.mem_cons, List.not_mem_nil, or_false, not_or, not_false_eq_true] at h1); (try simp only [Z.nt, Z.iv, Z.no, Z.ol, List.mem_cons, List.mem_append, List.not_mem_nil, or_false, not_or, not_false_eq_true, true_and, and_true]) <;> omega)
      have hcall := Equal_spec (Codec.frameB ([UInt8.ofNat 5, UInt8.ofNat 6] : List UInt8)) (([UInt8.ofNat 102, UInt8.ofNat 5, UInt8.ofNat 6] : List UInt8)) w62 (A37) (c38) (some ⟨g61, 0, none⟩) (3) hr70 hr72
      refine Z.call1 hf rfl (Z.r_call cf10 hf (xs := [.tmp 28, .tmp 29]) rfl) hcall ?_; clear hcall hf a
      rintro _ w73 ⟨rfl, hc74⟩
      have hzhc74 := hc74.size
      refine ⟨_, rfl, ?_⟩; intro a hf
      refine Z.val hf rfl (Z.r_pick_t (hf.eval rfl) (hf.eval rfl)) ?_; clear hf a; intro a hf
      refine Z.val hf rfl (Z.r_assign (hf.eval rfl)) ?_; clear hf a; intro a hf
      refine Z.done ?_
      refine hn43 _ _ ?_
      replace hf : Z.Fr a 32 [] [(0, .bool (decide ((Codec.frameB ([UInt8.ofNat 5, UInt8.ofNat 6] : List UInt8)) = ([UInt8.ofNat 102, UInt8.ofNat 5, UInt8.ofNat 6] : List UInt8))))] := hf.keep [0]
      refine wp_ret ?_
      replace hf := hf.setv (d := 0) (y := .bool true) rfl (congrArg Value.bool (by first | rfl | exact decide_eq_true (by decide)))
      have hq75 : Z.Ch [] w w18 := hc14.then hc22 (by simp) (by simp)
      have hq76 : Z.Ch [] w w28 := hq75.then hc32 (by simp) (by simp)
      have hq77 : Z.Ch [] w w36 := hq76.then hc40 (by simp) (by simp)
      have hq78 : Z.Ch [] w w46 := hq77.then hc50 (by simp) (by simp)
      have hq79 : Z.Ch [] w w57 := hq78.then hc58 (by simp) (by simp)
      have hq80 : Z.Ch [] w w62 := hq79.then hc66 (by simp) (by simp)
      have hq81 : Z.Ch [] w w73 := hq80.then hc74 (by simp) (by simp)
      refine Z.ret1 hf Try.results6 rfl ?_
      exact ⟨rfl, hq81⟩
    · intro hp82
      have hgd := hp82
      exfalso; exact hgd (by decide)
  · intro hp83
    have hgd := hp83
    exfalso; exact hgd (by decide)

set_option maxHeartbeats 1000000 in
set_option maxRecDepth 20000 in
theorem CodecApart_spec (x : (Int × Int × (Int × Int) × (Int × Int × (Int × Int × Int × Int)) × (List (Int × ByteArray)) × (List ((Int × Int) × (Int × Int × (Int × Int × Int × Int)) × Int)) × ((List Int) × (List (Int × Int × (List Int) × (Int × Int × ByteArray) × ByteArray × Int × Int)) × (List (Int × Int × Int × Int × (Int × Int × ByteArray)))) × Int × (List (Int × Int × ByteArray × Int)) × Bool × Int)) (y : (Int × Int × (Int × Int) × (Int × Int × (Int × Int × Int × Int)) × (List (Int × ByteArray)) × (List ((Int × Int) × (Int × Int × (Int × Int × Int × Int)) × Int)) × ((List Int) × (List (Int × Int × (List Int) × (Int × Int × ByteArray) × ByteArray × Int × Int)) × (List (Int × Int × Int × Int × (Int × Int × ByteArray)))) × Int × (List (Int × Int × ByteArray × Int)) × Bool × Int)) (w : World) (pA0 : Option Addr) (pc0 : Nat) (pA1 : Option Addr) (pc1 : Nat) (pA2 : Option Addr) (pc2 : Nat) (pA3 : Option Addr) (pc3 : Nat) (pA4 : Option Addr) (pc4 : Nat) (pA5 : Option Addr) (pc5 : Nat) (pA6 : Option Addr) (pc6 : Nat) (pA7 : Option Addr) (pc7 : Nat) (pA8 : Option Addr) (pc8 : Nat) (pA9 : Option Addr) (pc9 : Nat) (pA10 : Option Addr) (pc10 : Nat) (pA11 : Option Addr) (pc11 : Nat) (ph0 : (Z.Ty.slice (Z.Ty.pair (Z.Ty.int .i64) Z.Ty.str)).rep w (Z.nt []) [.slice pA0 x.2.2.2.2.1.length pc0] x.2.2.2.2.1) (ph1 : (Z.Ty.slice (Z.Ty.pair (Z.Ty.pair (Z.Ty.int .i64) (Z.Ty.int .i64)) (Z.Ty.pair (Z.Ty.pair (Z.Ty.int .i64) (Z.Ty.pair (Z.Ty.int .i64) (Z.Ty.pair (Z.Ty.int .i64) (Z.Ty.pair (Z.Ty.int .i64) (Z.Ty.pair (Z.Ty.int .i64) (Z.Ty.int .i64)))))) (Z.Ty.int .i64)))).rep w (Z.nt []) [.slice pA1 x.2.2.2.2.2.1.length pc1] x.2.2.2.2.2.1) (ph2 : (Z.Ty.slice (Z.Ty.int .i64)).rep w (Z.nt []) [.slice pA2 x.2.2.2.2.2.2.1.1.length pc2] x.2.2.2.2.2.2.1.1) (ph3 : (Z.Ty.slice (Z.Ty.pair (Z.Ty.int .i64) (Z.Ty.pair (Z.Ty.int .i64) (Z.Ty.pair (Z.Ty.slice (Z.Ty.int .i64)) (Z.Ty.pair (Z.Ty.pair (Z.Ty.int .i64) (Z.Ty.pair (Z.Ty.int .i64) Z.Ty.str)) (Z.Ty.pair Z.Ty.str (Z.Ty.pair (Z.Ty.int .i64) (Z.Ty.int .i64)))))))).rep w (Z.nt []) [.slice pA3 x.2.2.2.2.2.2.1.2.1.length pc3] x.2.2.2.2.2.2.1.2.1) (ph4 : (Z.Ty.slice (Z.Ty.pair (Z.Ty.int .i64) (Z.Ty.pair (Z.Ty.int .i64) (Z.Ty.pair (Z.Ty.int .i64) (Z.Ty.pair (Z.Ty.int .i64) (Z.Ty.pair (Z.Ty.int .i64) (Z.Ty.pair (Z.Ty.int .i64) Z.Ty.str))))))).rep w (Z.nt []) [.slice pA4 x.2.2.2.2.2.2.1.2.2.length pc4] x.2.2.2.2.2.2.1.2.2) (ph5 : (Z.Ty.slice (Z.Ty.pair (Z.Ty.int .i64) (Z.Ty.pair (Z.Ty.int .i64) (Z.Ty.pair Z.Ty.str (Z.Ty.int .i64))))).rep w (Z.nt []) [.slice pA5 x.2.2.2.2.2.2.2.2.1.length pc5] x.2.2.2.2.2.2.2.2.1) (pk6 : Z.Ty.ok (Z.Ty.pair (Z.Ty.int .i64) (Z.Ty.pair (Z.Ty.int .i64) (Z.Ty.pair (Z.Ty.pair (Z.Ty.int .i64) (Z.Ty.int .i64)) (Z.Ty.pair (Z.Ty.pair (Z.Ty.int .i64) (Z.Ty.pair (Z.Ty.int .i64) (Z.Ty.pair (Z.Ty.int .i64) (Z.Ty.pair (Z.Ty.int .i64) (Z.Ty.pair (Z.Ty.int .i64) (Z.Ty.int .i64)))))) (Z.Ty.pair (Z.Ty.slice (Z.Ty.pair (Z.Ty.int .i64) Z.Ty.str)) (Z.Ty.pair (Z.Ty.slice (Z.Ty.pair (Z.Ty.pair (Z.Ty.int .i64) (Z.Ty.int .i64)) (Z.Ty.pair (Z.Ty.pair (Z.Ty.int .i64) (Z.Ty.pair (Z.Ty.int .i64) (Z.Ty.pair (Z.Ty.int .i64) (Z.Ty.pair (Z.Ty.int .i64) (Z.Ty.pair (Z.Ty.int .i64) (Z.Ty.int .i64)))))) (Z.Ty.int .i64)))) (Z.Ty.pair (Z.Ty.pair (Z.Ty.slice (Z.Ty.int .i64)) (Z.Ty.pair (Z.Ty.slice (Z.Ty.pair (Z.Ty.int .i64) (Z.Ty.pair (Z.Ty.int .i64) (Z.Ty.pair (Z.Ty.slice (Z.Ty.int .i64)) (Z.Ty.pair (Z.Ty.pair (Z.Ty.int .i64) (Z.Ty.pair (Z.Ty.int .i64) Z.Ty.str)) (Z.Ty.pair Z.Ty.str (Z.Ty.pair (Z.Ty.int .i64) (Z.Ty.int .i64)))))))) (Z.Ty.slice (Z.Ty.pair (Z.Ty.int .i64) (Z.Ty.pair (Z.Ty.int .i64) (Z.Ty.pair (Z.Ty.int .i64) (Z.Ty.pair (Z.Ty.int .i64) (Z.Ty.pair (Z.Ty.int .i64) (Z.Ty.pair (Z.Ty.int .i64) Z.Ty.str))))))))) (Z.Ty.pair (Z.Ty.int .i64) (Z.Ty.pair (Z.Ty.slice (Z.Ty.pair (Z.Ty.int .i64) (Z.Ty.pair (Z.Ty.int .i64) (Z.Ty.pair Z.Ty.str (Z.Ty.int .i64))))) (Z.Ty.pair Z.Ty.bool (Z.Ty.int .i64))))))))))) x) (ph6 : (Z.Ty.slice (Z.Ty.pair (Z.Ty.int .i64) Z.Ty.str)).rep w (Z.nt []) [.slice pA6 y.2.2.2.2.1.length pc6] y.2.2.2.2.1) (ph7 : (Z.Ty.slice (Z.Ty.pair (Z.Ty.pair (Z.Ty.int .i64) (Z.Ty.int .i64)) (Z.Ty.pair (Z.Ty.pair (Z.Ty.int .i64) (Z.Ty.pair (Z.Ty.int .i64) (Z.Ty.pair (Z.Ty.int .i64) (Z.Ty.pair (Z.Ty.int .i64) (Z.Ty.pair (Z.Ty.int .i64) (Z.Ty.int .i64)))))) (Z.Ty.int .i64)))).rep w (Z.nt []) [.slice pA7 y.2.2.2.2.2.1.length pc7] y.2.2.2.2.2.1) (ph8 : (Z.Ty.slice (Z.Ty.int .i64)).rep w (Z.nt []) [.slice pA8 y.2.2.2.2.2.2.1.1.length pc8] y.2.2.2.2.2.2.1.1) (ph9 : (Z.Ty.slice (Z.Ty.pair (Z.Ty.int .i64) (Z.Ty.pair (Z.Ty.int .i64) (Z.Ty.pair (Z.Ty.slice (Z.Ty.int .i64)) (Z.Ty.pair (Z.Ty.pair (Z.Ty.int .i64) (Z.Ty.pair (Z.Ty.int .i64) Z.Ty.str)) (Z.Ty.pair Z.Ty.str (Z.Ty.pair (Z.Ty.int .i64) (Z.Ty.int .i64)))))))).rep w (Z.nt []) [.slice pA9 y.2.2.2.2.2.2.1.2.1.length pc9] y.2.2.2.2.2.2.1.2.1) (ph10 : (Z.Ty.slice (Z.Ty.pair (Z.Ty.int .i64) (Z.Ty.pair (Z.Ty.int .i64) (Z.Ty.pair (Z.Ty.int .i64) (Z.Ty.pair (Z.Ty.int .i64) (Z.Ty.pair (Z.Ty.int .i64) (Z.Ty.pair (Z.Ty.int .i64) Z.Ty.str))))))).rep w (Z.nt []) [.slice pA10 y.2.2.2.2.2.2.1.2.2.length pc10] y.2.2.2.2.2.2.1.2.2) (ph11 : (Z.Ty.slice (Z.Ty.pair (Z.Ty.int .i64) (Z.Ty.pair (Z.Ty.int .i64) (Z.Ty.pair Z.Ty.str (Z.Ty.int .i64))))).rep w (Z.nt []) [.slice pA11 y.2.2.2.2.2.2.2.2.1.length pc11] y.2.2.2.2.2.2.2.2.1) (pk13 : Z.Ty.ok (Z.Ty.pair (Z.Ty.int .i64) (Z.Ty.pair (Z.Ty.int .i64) (Z.Ty.pair (Z.Ty.pair (Z.Ty.int .i64) (Z.Ty.int .i64)) (Z.Ty.pair (Z.Ty.pair (Z.Ty.int .i64) (Z.Ty.pair (Z.Ty.int .i64) (Z.Ty.pair (Z.Ty.int .i64) (Z.Ty.pair (Z.Ty.int .i64) (Z.Ty.pair (Z.Ty.int .i64) (Z.Ty.int .i64)))))) (Z.Ty.pair (Z.Ty.slice (Z.Ty.pair (Z.Ty.int .i64) Z.Ty.str)) (Z.Ty.pair (Z.Ty.slice (Z.Ty.pair (Z.Ty.pair (Z.Ty.int .i64) (Z.Ty.int .i64)) (Z.Ty.pair (Z.Ty.pair (Z.Ty.int .i64) (Z.Ty.pair (Z.Ty.int .i64) (Z.Ty.pair (Z.Ty.int .i64) (Z.Ty.pair (Z.Ty.int .i64) (Z.Ty.pair (Z.Ty.int .i64) (Z.Ty.int .i64)))))) (Z.Ty.int .i64)))) (Z.Ty.pair (Z.Ty.pair (Z.Ty.slice (Z.Ty.int .i64)) (Z.Ty.pair (Z.Ty.slice (Z.Ty.pair (Z.Ty.int .i64) (Z.Ty.pair (Z.Ty.int .i64) (Z.Ty.pair (Z.Ty.slice (Z.Ty.int .i64)) (Z.Ty.pair (Z.Ty.pair (Z.Ty.int .i64) (Z.Ty.pair (Z.Ty.int .i64) Z.Ty.str)) (Z.Ty.pair Z.Ty.str (Z.Ty.pair (Z.Ty.int .i64) (Z.Ty.int .i64)))))))) (Z.Ty.slice (Z.Ty.pair (Z.Ty.int .i64) (Z.Ty.pair (Z.Ty.int .i64) (Z.Ty.pair (Z.Ty.int .i64) (Z.Ty.pair (Z.Ty.int .i64) (Z.Ty.pair (Z.Ty.int .i64) (Z.Ty.pair (Z.Ty.int .i64) Z.Ty.str))))))))) (Z.Ty.pair (Z.Ty.int .i64) (Z.Ty.pair (Z.Ty.slice (Z.Ty.pair (Z.Ty.int .i64) (Z.Ty.pair (Z.Ty.int .i64) (Z.Ty.pair Z.Ty.str (Z.Ty.int .i64))))) (Z.Ty.pair Z.Ty.bool (Z.Ty.int .i64))))))))))) y)  :
    Calls Try.prog 3 #[.agg #[.int .i64 x.1, .int .i64 x.2.1, .int .i64 x.2.2.1.1, .int .i64 x.2.2.1.2, .int .i64 x.2.2.2.1.1, .int .i64 x.2.2.2.1.2.1, .int .i64 x.2.2.2.1.2.2.1, .int .i64 x.2.2.2.1.2.2.2.1, .int .i64 x.2.2.2.1.2.2.2.2.1, .int .i64 x.2.2.2.1.2.2.2.2.2, .slice pA0 x.2.2.2.2.1.length pc0, .slice pA1 x.2.2.2.2.2.1.length pc1, .slice pA2 x.2.2.2.2.2.2.1.1.length pc2, .slice pA3 x.2.2.2.2.2.2.1.2.1.length pc3, .slice pA4 x.2.2.2.2.2.2.1.2.2.length pc4, .int .i64 x.2.2.2.2.2.2.2.1, .slice pA5 x.2.2.2.2.2.2.2.2.1.length pc5, .bool x.2.2.2.2.2.2.2.2.2.1, .int .i64 x.2.2.2.2.2.2.2.2.2.2], .agg #[.int .i64 y.1, .int .i64 y.2.1, .int .i64 y.2.2.1.1, .int .i64 y.2.2.1.2, .int .i64 y.2.2.2.1.1, .int .i64 y.2.2.2.1.2.1, .int .i64 y.2.2.2.1.2.2.1, .int .i64 y.2.2.2.1.2.2.2.1, .int .i64 y.2.2.2.1.2.2.2.2.1, .int .i64 y.2.2.2.1.2.2.2.2.2, .slice pA6 y.2.2.2.2.1.length pc6, .slice pA7 y.2.2.2.2.2.1.length pc7, .slice pA8 y.2.2.2.2.2.2.1.1.length pc8, .slice pA9 y.2.2.2.2.2.2.1.2.1.length pc9, .slice pA10 y.2.2.2.2.2.2.1.2.2.length pc10, .int .i64 y.2.2.2.2.2.2.2.1, .slice pA11 y.2.2.2.2.2.2.2.2.1.length pc11, .bool y.2.2.2.2.2.2.2.2.2.1, .int .i64 y.2.2.2.2.2.2.2.2.2.2]] w fun e w' => e = .returned (.bool true) ∧ Z.Ch [] w w' := by
  refine Z.enter Try.func3 rfl Try.ntmps3 (Nat.le_of_ble_eq_true rfl) fun a hf => ?_
  replace hf : Z.Fr a 64 [] [(0, .agg #[.int .i64 x.1, .int .i64 x.2.1, .int .i64 x.2.2.1.1, .int .i64 x.2.2.1.2, .int .i64 x.2.2.2.1.1, .int .i64 x.2.2.2.1.2.1, .int .i64 x.2.2.2.1.2.2.1, .int .i64 x.2.2.2.1.2.2.2.1, .int .i64 x.2.2.2.1.2.2.2.2.1, .int .i64 x.2.2.2.1.2.2.2.2.2, .slice pA0 x.2.2.2.2.1.length pc0, .slice pA1 x.2.2.2.2.2.1.length pc1, .slice pA2 x.2.2.2.2.2.2.1.1.length pc2, .slice pA3 x.2.2.2.2.2.2.1.2.1.length pc3, .slice pA4 x.2.2.2.2.2.2.1.2.2.length pc4, .int .i64 x.2.2.2.2.2.2.2.1, .slice pA5 x.2.2.2.2.2.2.2.2.1.length pc5, .bool x.2.2.2.2.2.2.2.2.2.1, .int .i64 x.2.2.2.2.2.2.2.2.2.2]), (1, .agg #[.int .i64 y.1, .int .i64 y.2.1, .int .i64 y.2.2.1.1, .int .i64 y.2.2.1.2, .int .i64 y.2.2.2.1.1, .int .i64 y.2.2.2.1.2.1, .int .i64 y.2.2.2.1.2.2.1, .int .i64 y.2.2.2.1.2.2.2.1, .int .i64 y.2.2.2.1.2.2.2.2.1, .int .i64 y.2.2.2.1.2.2.2.2.2, .slice pA6 y.2.2.2.2.1.length pc6, .slice pA7 y.2.2.2.2.2.1.length pc7, .slice pA8 y.2.2.2.2.2.2.1.1.length pc8, .slice pA9 y.2.2.2.2.2.2.1.2.1.length pc9, .slice pA10 y.2.2.2.2.2.2.1.2.2.length pc10, .int .i64 y.2.2.2.2.2.2.2.1, .slice pA11 y.2.2.2.2.2.2.2.2.1.length pc11, .bool y.2.2.2.2.2.2.2.2.2.1, .int .i64 y.2.2.2.2.2.2.2.2.2.2])] := hf
  have hle_pA0 := Z.rep_le ph0
  have ph0o := Z.rep_ol ph0
  have hle_pA1 := Z.rep_le ph1
  have ph1o := Z.rep_ol ph1
  have hle_pA2 := Z.rep_le ph2
  have ph2o := Z.rep_ol ph2
  have hle_pA3 := Z.rep_le ph3
  have ph3o := Z.rep_ol ph3
  have hle_pA4 := Z.rep_le ph4
  have ph4o := Z.rep_ol ph4
  have hle_pA5 := Z.rep_le ph5
  have ph5o := Z.rep_ol ph5
  have hle_pA6 := Z.rep_le ph6
  have ph6o := Z.rep_ol ph6
  have hle_pA7 := Z.rep_le ph7
  have ph7o := Z.rep_ol ph7
  have hle_pA8 := Z.rep_le ph8
  have ph8o := Z.rep_ol ph8
  have hle_pA9 := Z.rep_le ph9
  have ph9o := Z.rep_ol ph9
  have hle_pA10 := Z.rep_le ph10
  have ph10o := Z.rep_ol ph10
  have hle_pA11 := Z.rep_le ph11
  have ph11o := Z.rep_ol ph11
  have okx := Z.ok_msg (m := x) pk6
  have oky := Z.ok_msg (m := y) pk13
  refine Z.seq' (Z.Pq.body _ _ _) fun Q1 hp2 hn3 he4 => ?_
  refine Z.reg ?_
  refine Z.st_box hf rfl rfl rfl ?_; clear hf a; intro g5 w6 a hg7 hz8 hb9 hc10 hf
  refine Z.st_box hf rfl rfl rfl ?_; clear hf a; intro g11 w12 a hg13 hz14 hb15 hc16 hf
  refine Z.val hf rfl (Z.r_assign (hf.eval rfl)) ?_; clear hf a; intro a hf
  refine Z.done ?_
  refine hn3 _ _ ?_
  replace hf : Z.Fr a 64 [] [(2, .pointer (some ⟨g5, 0, none⟩)), (3, .pointer (some ⟨g11, 0, none⟩))] := hf.keep [2, 3]
  refine Z.seq' (Z.Pq.body _ _ _) fun Q17 hp18 hn19 he20 => ?_
  refine Z.seq' hp18 fun Q21 hp22 hn23 he24 => ?_
  refine Z.reg ?_
  have hcall := begun_spec  w12  
  refine Z.call1 hf rfl (Z.r_call cf6 hf (xs := []) rfl) hcall ?_; clear hcall hf a
  rintro _ w25 ⟨rfl, hc26⟩
  have hzhc26 := hc26.size
  refine ⟨_, rfl, ?_⟩; intro a hf
  refine Z.val hf rfl (Z.r_not (hf.eval rfl)) ?_; clear hf a; intro a hf
  refine Z.val hf rfl (Z.r_move (hf.eval rfl)) ?_; clear hf a; intro a hf
  refine Z.on hf rfl rfl ?_
  have hq27 : Z.Ch [] w6 w25 := hc16.then hc26 (by simp) (by simp)
  have hb28 := hb9.ch0 hq27
  refine Z.val hf rfl (Z.r_loadBN Try.isAgg37 Try.sizeOf37 (hf.eval rfl) hb28 rfl rfl) ?_; clear hf a; intro a hf
  refine Z.on hf rfl rfl ?_
  have hq29 : Z.Ch [] w w12 := hc10.then hc16 (by simp) (by simp)
  have hq30 : Z.Ch [] w w25 := hq29.then hc26 (by simp) (by simp)
  have hr31 : (Z.Ty.slice (Z.Ty.pair (Z.Ty.int .i64) Z.Ty.str)).rep w25 (Z.nt []) [.slice pA0 x.2.2.2.2.1.length pc0] x.2.2.2.2.1 := Z.rep_to ph0o hq30 (by intro b h1 h2; (try simp only [Z.nt, Z.iv, Z.no, Z.ol, List.mem_cons, List.not_mem_nil, or_false, not_or, not_false_eq_true] at h1); (try simp only [Z.nt, Z.iv, Z.no, Z.ol, List.mem_cons, List.mem_append, List.not_mem_nil, or_false, not_or, not_false_eq_true, true_and, and_true]) <;> omega)
  have hr32 : (Z.Ty.slice (Z.Ty.pair (Z.Ty.pair (Z.Ty.int .i64) (Z.Ty.int .i64)) (Z.Ty.pair (Z.Ty.pair (Z.Ty.int .i64) (Z.Ty.pair (Z.Ty.int .i64) (Z.Ty.pair (Z.Ty.int .i64) (Z.Ty.pair (Z.Ty.int .i64) (Z.Ty.pair (Z.Ty.int .i64) (Z.Ty.int .i64)))))) (Z.Ty.int .i64)))).rep w25 (Z.nt []) [.slice pA1 x.2.2.2.2.2.1.length pc1] x.2.2.2.2.2.1 := Z.rep_to ph1o hq30 (by intro b h1 h2; (try simp only [Z.nt, Z.iv, Z.no, Z.ol, List.mem_cons, List.not_mem_nil, or_false, not_or, not_false_eq_true] at h1); (try simp only [Z.nt, Z.iv, Z.no, Z.ol, List.mem_cons, List.mem_append, List.not_mem_nil, or_false, not_or, not_false_eq_true, true_and, and_true]) <;> omega)
  have hr33 : (Z.Ty.slice (Z.Ty.int .i64)).rep w25 (Z.nt []) [.slice pA2 x.2.2.2.2.2.2.1.1.length pc2] x.2.2.2.2.2.2.1.1 := Z.rep_to ph2o hq30 (by intro b h1 h2; (try simp only [Z.nt, Z.iv, Z.no, Z.ol, List.mem_cons, List.not_mem_nil, or_false, not_or, not_false_eq_true] at h1); (try simp only [Z.nt, Z.iv, Z.no, Z.ol, List.mem_cons, List.mem_append, List.not_mem_nil, or_false, not_or, not_false_eq_true, true_and, and_true]) <;> omega)
  have hr34 : (Z.Ty.slice (Z.Ty.pair (Z.Ty.int .i64) (Z.Ty.pair (Z.Ty.int .i64) (Z.Ty.pair (Z.Ty.slice (Z.Ty.int .i64)) (Z.Ty.pair (Z.Ty.pair (Z.Ty.int .i64) (Z.Ty.pair (Z.Ty.int .i64) Z.Ty.str)) (Z.Ty.pair Z.Ty.str (Z.Ty.pair (Z.Ty.int .i64) (Z.Ty.int .i64)))))))).rep w25 (Z.nt []) [.slice pA3 x.2.2.2.2.2.2.1.2.1.length pc3] x.2.2.2.2.2.2.1.2.1 := Z.rep_to ph3o hq30 (by intro b h1 h2; (try simp only [Z.nt, Z.iv, Z.no, Z.ol, List.mem_cons, List.not_mem_nil, or_false, not_or, not_false_eq_true] at h1); (try simp only [Z.nt, Z.iv, Z.no, Z.ol, List.mem_cons, List.mem_append, List.not_mem_nil, or_false, not_or, not_false_eq_true, true_and, and_true]) <;> omega)
  have hr35 : (Z.Ty.slice (Z.Ty.pair (Z.Ty.int .i64) (Z.Ty.pair (Z.Ty.int .i64) (Z.Ty.pair (Z.Ty.int .i64) (Z.Ty.pair (Z.Ty.int .i64) (Z.Ty.pair (Z.Ty.int .i64) (Z.Ty.pair (Z.Ty.int .i64) Z.Ty.str))))))).rep w25 (Z.nt []) [.slice pA4 x.2.2.2.2.2.2.1.2.2.length pc4] x.2.2.2.2.2.2.1.2.2 := Z.rep_to ph4o hq30 (by intro b h1 h2; (try simp only [Z.nt, Z.iv, Z.no, Z.ol, List.mem_cons, List.not_mem_nil, or_false, not_or, not_false_eq_true] at h1); (try simp only [Z.nt, Z.iv, Z.no, Z.ol, List.mem_cons, List.mem_append, List.not_mem_nil, or_false, not_or, not_false_eq_true, true_and, and_true]) <;> omega)
  have hr36 : (Z.Ty.slice (Z.Ty.pair (Z.Ty.int .i64) (Z.Ty.pair (Z.Ty.int .i64) (Z.Ty.pair Z.Ty.str (Z.Ty.int .i64))))).rep w25 (Z.nt []) [.slice pA5 x.2.2.2.2.2.2.2.2.1.length pc5] x.2.2.2.2.2.2.2.2.1 := Z.rep_to ph5o hq30 (by intro b h1 h2; (try simp only [Z.nt, Z.iv, Z.no, Z.ol, List.mem_cons, List.not_mem_nil, or_false, not_or, not_false_eq_true] at h1); (try simp only [Z.nt, Z.iv, Z.no, Z.ol, List.mem_cons, List.mem_append, List.not_mem_nil, or_false, not_or, not_false_eq_true, true_and, and_true]) <;> omega)
  have hcall := small_spec (x) w25 (pA0) (pc0) (pA1) (pc1) (pA2) (pc2) (pA3) (pc3) (pA4) (pc4) (pA5) (pc5) hr31 hr32 hr33 hr34 hr35 hr36 pk6
  refine Z.call1 hf rfl (Z.r_call cf7 hf (xs := [.tmp 12]) rfl) hcall ?_; clear hcall hf a
  rintro _ w37 ⟨r38, rfl, hc39, hr40⟩
  have hzhc39 := hc39.size
  refine ⟨_, rfl, ?_⟩; intro a hf
  have hsmx := hr40
  refine Z.on hf rfl rfl ?_
  refine Z.val hf rfl (Z.r_not (hf.eval rfl)) ?_; clear hf a; intro a hf
  refine Z.val hf rfl (Z.r_pick_f (hf.eval rfl) (hf.eval rfl)) ?_; clear hf a; intro a hf
  refine Z.val hf rfl (Z.r_move (hf.eval rfl)) ?_; clear hf a; intro a hf
  cases hdec : (!r38) <;> revert hdec
  · intro hp41
    have hgd := hp41
    replace hf := hf.setb (d := 16) (b' := false) rfl hp41
    refine Z.on hf rfl rfl ?_
    have hq42 : Z.Ch [] w12 w37 := hc26.then hc39 (by simp) (by simp)
    have hb43 := hb15.ch0 hq42
    refine Z.val hf rfl (Z.r_loadBN Try.isAgg37 Try.sizeOf37 (hf.eval rfl) hb43 rfl rfl) ?_; clear hf a; intro a hf
    refine Z.on hf rfl rfl ?_
    have hq44 : Z.Ch [] w w37 := hq30.then hc39 (by simp) (by simp)
    have hr45 : (Z.Ty.slice (Z.Ty.pair (Z.Ty.int .i64) Z.Ty.str)).rep w37 (Z.nt []) [.slice pA6 y.2.2.2.2.1.length pc6] y.2.2.2.2.1 := Z.rep_to ph6o hq44 (by intro b h1 h2; (try simp only [Z.nt, Z.iv, Z.no, Z.ol, List.mem_cons, List.not_mem_nil, or_false, not_or, not_false_eq_true] at h1); (try simp only [Z.nt, Z.iv, Z.no, Z.ol, List.mem_cons, List.mem_append, List.not_mem_nil, or_false, not_or, not_false_eq_true, true_and, and_true]) <;> omega)
    have hr46 : (Z.Ty.slice (Z.Ty.pair (Z.Ty.pair (Z.Ty.int .i64) (Z.Ty.int .i64)) (Z.Ty.pair (Z.Ty.pair (Z.Ty.int .i64) (Z.Ty.pair (Z.Ty.int .i64) (Z.Ty.pair (Z.Ty.int .i64) (Z.Ty.pair (Z.Ty.int .i64) (Z.Ty.pair (Z.Ty.int .i64) (Z.Ty.int .i64)))))) (Z.Ty.int .i64)))).rep w37 (Z.nt []) [.slice pA7 y.2.2.2.2.2.1.length pc7] y.2.2.2.2.2.1 := Z.rep_to ph7o hq44 (by intro b h1 h2; (try simp only [Z.nt, Z.iv, Z.no, Z.ol, List.mem_cons, List.not_mem_nil, or_false, not_or, not_false_eq_true] at h1); (try simp only [Z.nt, Z.iv, Z.no, Z.ol, List.mem_cons, List.mem_append, List.not_mem_nil, or_false, not_or, not_false_eq_true, true_and, and_true]) <;> omega)
    have hr47 : (Z.Ty.slice (Z.Ty.int .i64)).rep w37 (Z.nt []) [.slice pA8 y.2.2.2.2.2.2.1.1.length pc8] y.2.2.2.2.2.2.1.1 := Z.rep_to ph8o hq44 (by intro b h1 h2; (try simp only [Z.nt, Z.iv, Z.no, Z.ol, List.mem_cons, List.not_mem_nil, or_false, not_or, not_false_eq_true] at h1); (try simp only [Z.nt, Z.iv, Z.no, Z.ol, List.mem_cons, List.mem_append, List.not_mem_nil, or_false, not_or, not_false_eq_true, true_and, and_true]) <;> omega)
    have hr48 : (Z.Ty.slice (Z.Ty.pair (Z.Ty.int .i64) (Z.Ty.pair (Z.Ty.int .i64) (Z.Ty.pair (Z.Ty.slice (Z.Ty.int .i64)) (Z.Ty.pair (Z.Ty.pair (Z.Ty.int .i64) (Z.Ty.pair (Z.Ty.int .i64) Z.Ty.str)) (Z.Ty.pair Z.Ty.str (Z.Ty.pair (Z.Ty.int .i64) (Z.Ty.int .i64)))))))).rep w37 (Z.nt []) [.slice pA9 y.2.2.2.2.2.2.1.2.1.length pc9] y.2.2.2.2.2.2.1.2.1 := Z.rep_to ph9o hq44 (by intro b h1 h2; (try simp only [Z.nt, Z.iv, Z.no, Z.ol, List.mem_cons, List.not_mem_nil, or_false, not_or, not_false_eq_true] at h1); (try simp only [Z.nt, Z.iv, Z.no, Z.ol, List.mem_cons, List.mem_append, List.not_mem_nil, or_false, not_or, not_false_eq_true, true_and, and_true]) <;> omega)
    have hr49 : (Z.Ty.slice (Z.Ty.pair (Z.Ty.int .i64) (Z.Ty.pair (Z.Ty.int .i64) (Z.Ty.pair (Z.Ty.int .i64) (Z.Ty.pair (Z.Ty.int .i64) (Z.Ty.pair (Z.Ty.int .i64) (Z.Ty.pair (Z.Ty.int .i64) Z.Ty.str))))))).rep w37 (Z.nt []) [.slice pA10 y.2.2.2.2.2.2.1.2.2.length pc10] y.2.2.2.2.2.2.1.2.2 := Z.rep_to ph10o hq44 (by intro b h1 h2; (try simp only [Z.nt, Z.iv, Z.no, Z.ol, List.mem_cons, List.not_mem_nil, or_false, not_or, not_false_eq_true] at h1); (try simp only [Z.nt, Z.iv, Z.no, Z.ol, List.mem_cons, List.mem_append, List.not_mem_nil, or_false, not_or, not_false_eq_true, true_and, and_true]) <;> omega)
    have hr50 : (Z.Ty.slice (Z.Ty.pair (Z.Ty.int .i64) (Z.Ty.pair (Z.Ty.int .i64) (Z.Ty.pair Z.Ty.str (Z.Ty.int .i64))))).rep w37 (Z.nt []) [.slice pA11 y.2.2.2.2.2.2.2.2.1.length pc11] y.2.2.2.2.2.2.2.2.1 := Z.rep_to ph11o hq44 (by intro b h1 h2; (try simp only [Z.nt, Z.iv, Z.no, Z.ol, List.mem_cons, List.not_mem_nil, or_false, not_or, not_false_eq_true] at h1); (try simp only [Z.nt, Z.iv, Z.no, Z.ol, List.mem_cons, List.mem_append, List.not_mem_nil, or_false, not_or, not_false_eq_true, true_and, and_true]) <;> omega)
    have hcall := small_spec (y) w37 (pA6) (pc6) (pA7) (pc7) (pA8) (pc8) (pA9) (pc9) (pA10) (pc10) (pA11) (pc11) hr45 hr46 hr47 hr48 hr49 hr50 pk13
    refine Z.call1 hf rfl (Z.r_call cf7 hf (xs := [.tmp 17]) rfl) hcall ?_; clear hcall hf a
    rintro _ w51 ⟨r52, rfl, hc53, hr54⟩
    have hzhc53 := hc53.size
    refine ⟨_, rfl, ?_⟩; intro a hf
    have hsmy := hr54
    refine Z.on hf rfl rfl ?_
    refine Z.val hf rfl (Z.r_not (hf.eval rfl)) ?_; clear hf a; intro a hf
    refine Z.val hf rfl (Z.r_pick_f (hf.eval rfl) (hf.eval rfl)) ?_; clear hf a; intro a hf
    refine Z.done ?_
    refine hn23 _ _ ?_
    replace hf : Z.Fr a 64 [] [(2, .pointer (some ⟨g5, 0, none⟩)), (3, .pointer (some ⟨g11, 0, none⟩)), (20, .bool (!r52))] := hf.keep [2, 3, 20]
    refine Z.cond hf rfl ?_ ?_
    · intro hp55
      have hcond := hp55
      refine Z.seq' hp18 fun Q56 hp57 hn58 he59 => ?_
      refine Z.reg ?_
      have hcall := begun_spec  w51  
      refine Z.call1 hf rfl (Z.r_call cf6 hf (xs := []) rfl) hcall ?_; clear hcall hf a
      rintro _ w60 ⟨rfl, hc61⟩
      have hzhc61 := hc61.size
      refine ⟨_, rfl, ?_⟩; intro a hf
      refine Z.val hf rfl (Z.r_assign (hf.eval rfl)) ?_; clear hf a; intro a hf
      refine Z.done ?_
      refine hn58 _ _ ?_
      replace hf : Z.Fr a 64 [] [(4, .bool true)] := hf.keep [4]
      refine wp_ret ?_
      refine he20 _ _ _ (by simp) ?_
      have hq62 : Z.Ch [] w w51 := hq44.then hc53 (by simp) (by simp)
      have hq63 : Z.Ch [] w w60 := hq62.then hc61 (by simp) (by simp)
      refine Z.ret1 hf Try.results3 rfl ?_
      exact ⟨rfl, hq63⟩
    · intro hp64
      have hcond := hp64
      refine wp_skip ?_
      refine hn19 _ _ ?_
      replace hf : Z.Fr a 64 [] [(2, .pointer (some ⟨g5, 0, none⟩)), (3, .pointer (some ⟨g11, 0, none⟩))] := hf.keep [2, 3]
      refine Z.seq' (Z.Pq.body _ _ _) fun Q65 hp66 hn67 he68 => ?_
      refine Z.reg ?_
      have hq69 : Z.Ch [] w25 w51 := hc39.then hc53 (by simp) (by simp)
      have hb70 := hb28.ch0 hq69
      refine Z.val hf rfl (Z.r_loadBN Try.isAgg37 Try.sizeOf37 (hf.eval rfl) hb70 rfl rfl) ?_; clear hf a; intro a hf
      have hq71 : Z.Ch [] w w51 := hq44.then hc53 (by simp) (by simp)
      have hr72 : (Z.Ty.slice (Z.Ty.pair (Z.Ty.int .i64) Z.Ty.str)).rep w51 (Z.nt []) [.slice pA0 x.2.2.2.2.1.length pc0] x.2.2.2.2.1 := Z.rep_to ph0o hq71 (by intro b h1 h2; (try simp only [Z.nt, Z.iv, Z.no, Z.ol, List.mem_cons, List.not_mem_nil, or_false, not_or, not_false_eq_true] at h1); (try simp only [Z.nt, Z.iv, Z.no, Z.ol, List.mem_cons, List.mem_append, List.not_mem_nil, or_false, not_or, not_false_eq_true, true_and, and_true]) <;> omega)
      have hr73 : (Z.Ty.slice (Z.Ty.pair (Z.Ty.pair (Z.Ty.int .i64) (Z.Ty.int .i64)) (Z.Ty.pair (Z.Ty.pair (Z.Ty.int .i64) (Z.Ty.pair (Z.Ty.int .i64) (Z.Ty.pair (Z.Ty.int .i64) (Z.Ty.pair (Z.Ty.int .i64) (Z.Ty.pair (Z.Ty.int .i64) (Z.Ty.int .i64)))))) (Z.Ty.int .i64)))).rep w51 (Z.nt []) [.slice pA1 x.2.2.2.2.2.1.length pc1] x.2.2.2.2.2.1 := Z.rep_to ph1o hq71 (by intro b h1 h2; (try simp only [Z.nt, Z.iv, Z.no, Z.ol, List.mem_cons, List.not_mem_nil, or_false, not_or, not_false_eq_true] at h1); (try simp only [Z.nt, Z.iv, Z.no, Z.ol, List.mem_cons, List.mem_append, List.not_mem_nil, or_false, not_or, not_false_eq_true, true_and, and_true]) <;> omega)
      have hr74 : (Z.Ty.slice (Z.Ty.int .i64)).rep w51 (Z.nt []) [.slice pA2 x.2.2.2.2.2.2.1.1.length pc2] x.2.2.2.2.2.2.1.1 := Z.rep_to ph2o hq71 (by intro b h1 h2; (try simp only [Z.nt, Z.iv, Z.no, Z.ol, List.mem_cons, List.not_mem_nil, or_false, not_or, not_false_eq_true] at h1); (try simp only [Z.nt, Z.iv, Z.no, Z.ol, List.mem_cons, List.mem_append, List.not_mem_nil, or_false, not_or, not_false_eq_true, true_and, and_true]) <;> omega)
      have hr75 : (Z.Ty.slice (Z.Ty.pair (Z.Ty.int .i64) (Z.Ty.pair (Z.Ty.int .i64) (Z.Ty.pair (Z.Ty.slice (Z.Ty.int .i64)) (Z.Ty.pair (Z.Ty.pair (Z.Ty.int .i64) (Z.Ty.pair (Z.Ty.int .i64) Z.Ty.str)) (Z.Ty.pair Z.Ty.str (Z.Ty.pair (Z.Ty.int .i64) (Z.Ty.int .i64)))))))).rep w51 (Z.nt []) [.slice pA3 x.2.2.2.2.2.2.1.2.1.length pc3] x.2.2.2.2.2.2.1.2.1 := Z.rep_to ph3o hq71 (by intro b h1 h2; (try simp only [Z.nt, Z.iv, Z.no, Z.ol, List.mem_cons, List.not_mem_nil, or_false, not_or, not_false_eq_true] at h1); (try simp only [Z.nt, Z.iv, Z.no, Z.ol, List.mem_cons, List.mem_append, List.not_mem_nil, or_false, not_or, not_false_eq_true, true_and, and_true]) <;> omega)
      have hr76 : (Z.Ty.slice (Z.Ty.pair (Z.Ty.int .i64) (Z.Ty.pair (Z.Ty.int .i64) (Z.Ty.pair (Z.Ty.int .i64) (Z.Ty.pair (Z.Ty.int .i64) (Z.Ty.pair (Z.Ty.int .i64) (Z.Ty.pair (Z.Ty.int .i64) Z.Ty.str))))))).rep w51 (Z.nt []) [.slice pA4 x.2.2.2.2.2.2.1.2.2.length pc4] x.2.2.2.2.2.2.1.2.2 := Z.rep_to ph4o hq71 (by intro b h1 h2; (try simp only [Z.nt, Z.iv, Z.no, Z.ol, List.mem_cons, List.not_mem_nil, or_false, not_or, not_false_eq_true] at h1); (try simp only [Z.nt, Z.iv, Z.no, Z.ol, List.mem_cons, List.mem_append, List.not_mem_nil, or_false, not_or, not_false_eq_true, true_and, and_true]) <;> omega)
      have hr77 : (Z.Ty.slice (Z.Ty.pair (Z.Ty.int .i64) (Z.Ty.pair (Z.Ty.int .i64) (Z.Ty.pair Z.Ty.str (Z.Ty.int .i64))))).rep w51 (Z.nt []) [.slice pA5 x.2.2.2.2.2.2.2.2.1.length pc5] x.2.2.2.2.2.2.2.2.1 := Z.rep_to ph5o hq71 (by intro b h1 h2; (try simp only [Z.nt, Z.iv, Z.no, Z.ol, List.mem_cons, List.not_mem_nil, or_false, not_or, not_false_eq_true] at h1); (try simp only [Z.nt, Z.iv, Z.no, Z.ol, List.mem_cons, List.mem_append, List.not_mem_nil, or_false, not_or, not_false_eq_true, true_and, and_true]) <;> omega)
      have hcall := Msg_spec (x) w51 (pA0) (pc0) (pA1) (pc1) (pA2) (pc2) (pA3) (pc3) (pA4) (pc4) (pA5) (pc5) hr72 hr73 hr74 hr75 hr76 hr77 pk6 (by first | (exact (Codec.sMsg_g (hsmx (by simpa using hp41))).2) | (exact (Codec.sMsg_g (hsmy (by simpa using hp64))).2)) (by first | (exact (Codec.sMsg_g (hsmx (by simpa using hp41))).1) | (exact (Codec.sMsg_g (hsmy (by simpa using hp64))).1))
      refine Z.call1 hf rfl (Z.r_call cf8 hf (xs := [.tmp 23]) rfl) hcall ?_; clear hcall hf a
      rintro _ w78 ⟨A79, c80, rfl, hr81, hc82⟩
      have hzhc82 := hc82.size
      refine ⟨_, rfl, ?_⟩; intro a hf
      refine Z.val hf rfl (Z.r_move (hf.eval rfl)) ?_; clear hf a; intro a hf
      refine Z.val hf rfl (Z.r_extract (hf.eval rfl) rfl) ?_; clear hf a; intro a hf
      refine Z.val hf rfl (Z.r_extract (hf.eval rfl) rfl) ?_; clear hf a; intro a hf
      refine Z.val hf rfl (Z.r_assign (hf.eval rfl)) ?_; clear hf a; intro a hf
      refine Z.val hf rfl (Z.r_assign (hf.eval rfl)) ?_; clear hf a; intro a hf
      refine Z.done ?_
      refine hn67 _ _ ?_
      replace hf : Z.Fr a 64 [] [(2, .pointer (some ⟨g5, 0, none⟩)), (3, .pointer (some ⟨g11, 0, none⟩)), (5, .slice A79 ((Codec.encMsg x).length) c80), (6, .int .i64 0)] := hf.keep [2, 3, 5, 6]
      refine Z.seq' (Z.Pq.body _ _ _) fun Q83 hp84 hn85 he86 => ?_
      refine Z.reg ?_
      have hq87 : Z.Ch [] w37 w78 := hc53.then hc82 (by simp) (by simp)
      have hb88 := hb43.ch0 hq87
      refine Z.val hf rfl (Z.r_loadBN Try.isAgg37 Try.sizeOf37 (hf.eval rfl) hb88 rfl rfl) ?_; clear hf a; intro a hf
      have hq89 : Z.Ch [] w w78 := hq71.then hc82 (by simp) (by simp)
      have hr90 : (Z.Ty.slice (Z.Ty.pair (Z.Ty.int .i64) Z.Ty.str)).rep w78 (Z.nt []) [.slice pA6 y.2.2.2.2.1.length pc6] y.2.2.2.2.1 := Z.rep_to ph6o hq89 (by intro b h1 h2; (try simp only [Z.nt, Z.iv, Z.no, Z.ol, List.mem_cons, List.not_mem_nil, or_false, not_or, not_false_eq_true] at h1); (try simp only [Z.nt, Z.iv, Z.no, Z.ol, List.mem_cons, List.mem_append, List.not_mem_nil, or_false, not_or, not_false_eq_true, true_and, and_true]) <;> omega)
      have hr91 : (Z.Ty.slice (Z.Ty.pair (Z.Ty.pair (Z.Ty.int .i64) (Z.Ty.int .i64)) (Z.Ty.pair (Z.Ty.pair (Z.Ty.int .i64) (Z.Ty.pair (Z.Ty.int .i64) (Z.Ty.pair (Z.Ty.int .i64) (Z.Ty.pair (Z.Ty.int .i64) (Z.Ty.pair (Z.Ty.int .i64) (Z.Ty.int .i64)))))) (Z.Ty.int .i64)))).rep w78 (Z.nt []) [.slice pA7 y.2.2.2.2.2.1.length pc7] y.2.2.2.2.2.1 := Z.rep_to ph7o hq89 (by intro b h1 h2; (try simp only [Z.nt, Z.iv, Z.no, Z.ol, List.mem_cons, List.not_mem_nil, or_false, not_or, not_false_eq_true] at h1); (try simp only [Z.nt, Z.iv, Z.no, Z.ol, List.mem_cons, List.mem_append, List.not_mem_nil, or_false, not_or, not_false_eq_true, true_and, and_true]) <;> omega)
      have hr92 : (Z.Ty.slice (Z.Ty.int .i64)).rep w78 (Z.nt []) [.slice pA8 y.2.2.2.2.2.2.1.1.length pc8] y.2.2.2.2.2.2.1.1 := Z.rep_to ph8o hq89 (by intro b h1 h2; (try simp only [Z.nt, Z.iv, Z.no, Z.ol, List.mem_cons, List.not_mem_nil, or_false, not_or, not_false_eq_true] at h1); (try simp only [Z.nt, Z.iv, Z.no, Z.ol, List.mem_cons, List.mem_append, List.not_mem_nil, or_false, not_or, not_false_eq_true, true_and, and_true]) <;> omega)
      have hr93 : (Z.Ty.slice (Z.Ty.pair (Z.Ty.int .i64) (Z.Ty.pair (Z.Ty.int .i64) (Z.Ty.pair (Z.Ty.slice (Z.Ty.int .i64)) (Z.Ty.pair (Z.Ty.pair (Z.Ty.int .i64) (Z.Ty.pair (Z.Ty.int .i64) Z.Ty.str)) (Z.Ty.pair Z.Ty.str (Z.Ty.pair (Z.Ty.int .i64) (Z.Ty.int .i64)))))))).rep w78 (Z.nt []) [.slice pA9 y.2.2.2.2.2.2.1.2.1.length pc9] y.2.2.2.2.2.2.1.2.1 := Z.rep_to ph9o hq89 (by intro b h1 h2; (try simp only [Z.nt, Z.iv, Z.no, Z.ol, List.mem_cons, List.not_mem_nil, or_false, not_or, not_false_eq_true] at h1); (try simp only [Z.nt, Z.iv, Z.no, Z.ol, List.mem_cons, List.mem_append, List.not_mem_nil, or_false, not_or, not_false_eq_true, true_and, and_true]) <;> omega)
      have hr94 : (Z.Ty.slice (Z.Ty.pair (Z.Ty.int .i64) (Z.Ty.pair (Z.Ty.int .i64) (Z.Ty.pair (Z.Ty.int .i64) (Z.Ty.pair (Z.Ty.int .i64) (Z.Ty.pair (Z.Ty.int .i64) (Z.Ty.pair (Z.Ty.int .i64) Z.Ty.str))))))).rep w78 (Z.nt []) [.slice pA10 y.2.2.2.2.2.2.1.2.2.length pc10] y.2.2.2.2.2.2.1.2.2 := Z.rep_to ph10o hq89 (by intro b h1 h2; (try simp only [Z.nt, Z.iv, Z.no, Z.ol, List.mem_cons, List.not_mem_nil, or_false, not_or, not_false_eq_true] at h1); (try simp only [Z.nt, Z.iv, Z.no, Z.ol, List.mem_cons, List.mem_append, List.not_mem_nil, or_false, not_or, not_false_eq_true, true_and, and_true]) <;> omega)
      have hr95 : (Z.Ty.slice (Z.Ty.pair (Z.Ty.int .i64) (Z.Ty.pair (Z.Ty.int .i64) (Z.Ty.pair Z.Ty.str (Z.Ty.int .i64))))).rep w78 (Z.nt []) [.slice pA11 y.2.2.2.2.2.2.2.2.1.length pc11] y.2.2.2.2.2.2.2.2.1 := Z.rep_to ph11o hq89 (by intro b h1 h2; (try simp only [Z.nt, Z.iv, Z.no, Z.ol, List.mem_cons, List.not_mem_nil, or_false, not_or, not_false_eq_true] at h1); (try simp only [Z.nt, Z.iv, Z.no, Z.ol, List.mem_cons, List.mem_append, List.not_mem_nil, or_false, not_or, not_false_eq_true, true_and, and_true]) <;> omega)
      have hcall := Msg_spec (y) w78 (pA6) (pc6) (pA7) (pc7) (pA8) (pc8) (pA9) (pc9) (pA10) (pc10) (pA11) (pc11) hr90 hr91 hr92 hr93 hr94 hr95 pk13 (by first | (exact (Codec.sMsg_g (hsmx (by simpa using hp41))).2) | (exact (Codec.sMsg_g (hsmy (by simpa using hp64))).2)) (by first | (exact (Codec.sMsg_g (hsmx (by simpa using hp41))).1) | (exact (Codec.sMsg_g (hsmy (by simpa using hp64))).1))
      refine Z.call1 hf rfl (Z.r_call cf8 hf (xs := [.tmp 28]) rfl) hcall ?_; clear hcall hf a
      rintro _ w96 ⟨A97, c98, rfl, hr99, hc100⟩
      have hzhc100 := hc100.size
      refine ⟨_, rfl, ?_⟩; intro a hf
      refine Z.val hf rfl (Z.r_move (hf.eval rfl)) ?_; clear hf a; intro a hf
      refine Z.val hf rfl (Z.r_extract (hf.eval rfl) rfl) ?_; clear hf a; intro a hf
      refine Z.val hf rfl (Z.r_extract (hf.eval rfl) rfl) ?_; clear hf a; intro a hf
      refine Z.val hf rfl (Z.r_assign (hf.eval rfl)) ?_; clear hf a; intro a hf
      refine Z.val hf rfl (Z.r_assign (hf.eval rfl)) ?_; clear hf a; intro a hf
      refine Z.done ?_
      refine hn85 _ _ ?_
      replace hf : Z.Fr a 64 [] [(2, .pointer (some ⟨g5, 0, none⟩)), (3, .pointer (some ⟨g11, 0, none⟩)), (5, .slice A79 ((Codec.encMsg x).length) c80), (6, .int .i64 0), (7, .slice A97 ((Codec.encMsg y).length) c98), (8, .int .i64 0)] := hf.keep [2, 3, 5, 6, 7, 8]
      refine Z.seq' (Z.Pq.body _ _ _) fun Q101 hp102 hn103 he104 => ?_
      refine Z.reg ?_
      refine Z.val hf rfl (Z.r_move (hf.eval rfl)) ?_; clear hf a; intro a hf
      refine Z.val hf rfl (Z.r_eql (hf.eval rfl) (hf.eval rfl)) ?_; clear hf a; intro a hf
      refine Z.val hf rfl (Z.r_move (hf.eval rfl)) ?_; clear hf a; intro a hf
      refine Z.on hf rfl rfl ?_
      refine Z.val hf rfl (Z.r_move (hf.eval rfl)) ?_; clear hf a; intro a hf
      refine Z.on hf rfl rfl ?_
      refine Z.val hf rfl (Z.r_eql (hf.eval rfl) (hf.eval rfl)) ?_; clear hf a; intro a hf
      refine Z.val hf rfl (Z.r_pick_t (hf.eval rfl) (hf.eval rfl)) ?_; clear hf a; intro a hf
      refine Z.val hf rfl (Z.r_move (hf.eval rfl)) ?_; clear hf a; intro a hf
      refine Z.on hf rfl rfl ?_
      have hq105 : Z.Ch [] w51 w96 := hc82.then hc100 (by simp) (by simp)
      have hb106 := hb70.ch0 hq105
      refine Z.val hf rfl (Z.r_loadBN Try.isAgg37 Try.sizeOf37 (hf.eval rfl) hb106 rfl rfl) ?_; clear hf a; intro a hf
      refine Z.on hf rfl rfl ?_
      have hb107 := hb88.ch0 hc100
      refine Z.val hf rfl (Z.r_loadBN Try.isAgg37 Try.sizeOf37 (hf.eval rfl) hb107 rfl rfl) ?_; clear hf a; intro a hf
      refine Z.on hf rfl rfl ?_
      have hq108 : Z.Ch [] w w96 := hq89.then hc100 (by simp) (by simp)
      have hr109 : (Z.Ty.slice (Z.Ty.pair (Z.Ty.int .i64) Z.Ty.str)).rep w96 (Z.nt []) [.slice pA0 x.2.2.2.2.1.length pc0] x.2.2.2.2.1 := Z.rep_to ph0o hq108 (by intro b h1 h2; (try simp only [Z.nt, Z.iv, Z.no, Z.ol, List.mem_cons, List.not_mem_nil, or_false, not_or, not_false_eq_true] at h1); (try simp only [Z.nt, Z.iv, Z.no, Z.ol, List.mem_cons, List.mem_append, List.not_mem_nil, or_false, not_or, not_false_eq_true, true_and, and_true]) <;> omega)
      have hr110 : (Z.Ty.slice (Z.Ty.pair (Z.Ty.pair (Z.Ty.int .i64) (Z.Ty.int .i64)) (Z.Ty.pair (Z.Ty.pair (Z.Ty.int .i64) (Z.Ty.pair (Z.Ty.int .i64) (Z.Ty.pair (Z.Ty.int .i64) (Z.Ty.pair (Z.Ty.int .i64) (Z.Ty.pair (Z.Ty.int .i64) (Z.Ty.int .i64)))))) (Z.Ty.int .i64)))).rep w96 (Z.nt []) [.slice pA1 x.2.2.2.2.2.1.length pc1] x.2.2.2.2.2.1 := Z.rep_to ph1o hq108 (by intro b h1 h2; (try simp only [Z.nt, Z.iv, Z.no, Z.ol, List.mem_cons, List.not_mem_nil, or_false, not_or, not_false_eq_true] at h1); (try simp only [Z.nt, Z.iv, Z.no, Z.ol, List.mem_cons, List.mem_append, List.not_mem_nil, or_false, not_or, not_false_eq_true, true_and, and_true]) <;> omega)
      have hr111 : (Z.Ty.slice (Z.Ty.int .i64)).rep w96 (Z.nt []) [.slice pA2 x.2.2.2.2.2.2.1.1.length pc2] x.2.2.2.2.2.2.1.1 := Z.rep_to ph2o hq108 (by intro b h1 h2; (try simp only [Z.nt, Z.iv, Z.no, Z.ol, List.mem_cons, List.not_mem_nil, or_false, not_or, not_false_eq_true] at h1); (try simp only [Z.nt, Z.iv, Z.no, Z.ol, List.mem_cons, List.mem_append, List.not_mem_nil, or_false, not_or, not_false_eq_true, true_and, and_true]) <;> omega)
      have hr112 : (Z.Ty.slice (Z.Ty.pair (Z.Ty.int .i64) (Z.Ty.pair (Z.Ty.int .i64) (Z.Ty.pair (Z.Ty.slice (Z.Ty.int .i64)) (Z.Ty.pair (Z.Ty.pair (Z.Ty.int .i64) (Z.Ty.pair (Z.Ty.int .i64) Z.Ty.str)) (Z.Ty.pair Z.Ty.str (Z.Ty.pair (Z.Ty.int .i64) (Z.Ty.int .i64)))))))).rep w96 (Z.nt []) [.slice pA3 x.2.2.2.2.2.2.1.2.1.length pc3] x.2.2.2.2.2.2.1.2.1 := Z.rep_to ph3o hq108 (by intro b h1 h2; (try simp only [Z.nt, Z.iv, Z.no, Z.ol, List.mem_cons, List.not_mem_nil, or_false, not_or, not_false_eq_true] at h1); (try simp only [Z.nt, Z.iv, Z.no, Z.ol, List.mem_cons, List.mem_append, List.not_mem_nil, or_false, not_or, not_false_eq_true, true_and, and_true]) <;> omega)
      have hr113 : (Z.Ty.slice (Z.Ty.pair (Z.Ty.int .i64) (Z.Ty.pair (Z.Ty.int .i64) (Z.Ty.pair (Z.Ty.int .i64) (Z.Ty.pair (Z.Ty.int .i64) (Z.Ty.pair (Z.Ty.int .i64) (Z.Ty.pair (Z.Ty.int .i64) Z.Ty.str))))))).rep w96 (Z.nt []) [.slice pA4 x.2.2.2.2.2.2.1.2.2.length pc4] x.2.2.2.2.2.2.1.2.2 := Z.rep_to ph4o hq108 (by intro b h1 h2; (try simp only [Z.nt, Z.iv, Z.no, Z.ol, List.mem_cons, List.not_mem_nil, or_false, not_or, not_false_eq_true] at h1); (try simp only [Z.nt, Z.iv, Z.no, Z.ol, List.mem_cons, List.mem_append, List.not_mem_nil, or_false, not_or, not_false_eq_true, true_and, and_true]) <;> omega)
      have hr114 : (Z.Ty.slice (Z.Ty.pair (Z.Ty.int .i64) (Z.Ty.pair (Z.Ty.int .i64) (Z.Ty.pair Z.Ty.str (Z.Ty.int .i64))))).rep w96 (Z.nt []) [.slice pA5 x.2.2.2.2.2.2.2.2.1.length pc5] x.2.2.2.2.2.2.2.2.1 := Z.rep_to ph5o hq108 (by intro b h1 h2; (try simp only [Z.nt, Z.iv, Z.no, Z.ol, List.mem_cons, List.not_mem_nil, or_false, not_or, not_false_eq_true] at h1); (try simp only [Z.nt, Z.iv, Z.no, Z.ol, List.mem_cons, List.mem_append, List.not_mem_nil, or_false, not_or, not_false_eq_true, true_and, and_true]) <;> omega)
      have hr115 : (Z.Ty.slice (Z.Ty.pair (Z.Ty.int .i64) Z.Ty.str)).rep w96 (Z.nt []) [.slice pA6 y.2.2.2.2.1.length pc6] y.2.2.2.2.1 := Z.rep_to ph6o hq108 (by intro b h1 h2; (try simp only [Z.nt, Z.iv, Z.no, Z.ol, List.mem_cons, List.not_mem_nil, or_false, not_or, not_false_eq_true] at h1); (try simp only [Z.nt, Z.iv, Z.no, Z.ol, List.mem_cons, List.mem_append, List.not_mem_nil, or_false, not_or, not_false_eq_true, true_and, and_true]) <;> omega)
      have hr116 : (Z.Ty.slice (Z.Ty.pair (Z.Ty.pair (Z.Ty.int .i64) (Z.Ty.int .i64)) (Z.Ty.pair (Z.Ty.pair (Z.Ty.int .i64) (Z.Ty.pair (Z.Ty.int .i64) (Z.Ty.pair (Z.Ty.int .i64) (Z.Ty.pair (Z.Ty.int .i64) (Z.Ty.pair (Z.Ty.int .i64) (Z.Ty.int .i64)))))) (Z.Ty.int .i64)))).rep w96 (Z.nt []) [.slice pA7 y.2.2.2.2.2.1.length pc7] y.2.2.2.2.2.1 := Z.rep_to ph7o hq108 (by intro b h1 h2; (try simp only [Z.nt, Z.iv, Z.no, Z.ol, List.mem_cons, List.not_mem_nil, or_false, not_or, not_false_eq_true] at h1); (try simp only [Z.nt, Z.iv, Z.no, Z.ol, List.mem_cons, List.mem_append, List.not_mem_nil, or_false, not_or, not_false_eq_true, true_and, and_true]) <;> omega)
      have hr117 : (Z.Ty.slice (Z.Ty.int .i64)).rep w96 (Z.nt []) [.slice pA8 y.2.2.2.2.2.2.1.1.length pc8] y.2.2.2.2.2.2.1.1 := Z.rep_to ph8o hq108 (by intro b h1 h2; (try simp only [Z.nt, Z.iv, Z.no, Z.ol, List.mem_cons, List.not_mem_nil, or_false, not_or, not_false_eq_true] at h1); (try simp only [Z.nt, Z.iv, Z.no, Z.ol, List.mem_cons, List.mem_append, List.not_mem_nil, or_false, not_or, not_false_eq_true, true_and, and_true]) <;> omega)
      have hr118 : (Z.Ty.slice (Z.Ty.pair (Z.Ty.int .i64) (Z.Ty.pair (Z.Ty.int .i64) (Z.Ty.pair (Z.Ty.slice (Z.Ty.int .i64)) (Z.Ty.pair (Z.Ty.pair (Z.Ty.int .i64) (Z.Ty.pair (Z.Ty.int .i64) Z.Ty.str)) (Z.Ty.pair Z.Ty.str (Z.Ty.pair (Z.Ty.int .i64) (Z.Ty.int .i64)))))))).rep w96 (Z.nt []) [.slice pA9 y.2.2.2.2.2.2.1.2.1.length pc9] y.2.2.2.2.2.2.1.2.1 := Z.rep_to ph9o hq108 (by intro b h1 h2; (try simp only [Z.nt, Z.iv, Z.no, Z.ol, List.mem_cons, List.not_mem_nil, or_false, not_or, not_false_eq_true] at h1); (try simp only [Z.nt, Z.iv, Z.no, Z.ol, List.mem_cons, List.mem_append, List.not_mem_nil, or_false, not_or, not_false_eq_true, true_and, and_true]) <;> omega)
      have hr119 : (Z.Ty.slice (Z.Ty.pair (Z.Ty.int .i64) (Z.Ty.pair (Z.Ty.int .i64) (Z.Ty.pair (Z.Ty.int .i64) (Z.Ty.pair (Z.Ty.int .i64) (Z.Ty.pair (Z.Ty.int .i64) (Z.Ty.pair (Z.Ty.int .i64) Z.Ty.str))))))).rep w96 (Z.nt []) [.slice pA10 y.2.2.2.2.2.2.1.2.2.length pc10] y.2.2.2.2.2.2.1.2.2 := Z.rep_to ph10o hq108 (by intro b h1 h2; (try simp only [Z.nt, Z.iv, Z.no, Z.ol, List.mem_cons, List.not_mem_nil, or_false, not_or, not_false_eq_true] at h1); (try simp only [Z.nt, Z.iv, Z.no, Z.ol, List.mem_cons, List.mem_append, List.not_mem_nil, or_false, not_or, not_false_eq_true, true_and, and_true]) <;> omega)
      have hr120 : (Z.Ty.slice (Z.Ty.pair (Z.Ty.int .i64) (Z.Ty.pair (Z.Ty.int .i64) (Z.Ty.pair Z.Ty.str (Z.Ty.int .i64))))).rep w96 (Z.nt []) [.slice pA11 y.2.2.2.2.2.2.2.2.1.length pc11] y.2.2.2.2.2.2.2.2.1 := Z.rep_to ph11o hq108 (by intro b h1 h2; (try simp only [Z.nt, Z.iv, Z.no, Z.ol, List.mem_cons, List.not_mem_nil, or_false, not_or, not_false_eq_true] at h1); (try simp only [Z.nt, Z.iv, Z.no, Z.ol, List.mem_cons, List.mem_append, List.not_mem_nil, or_false, not_or, not_false_eq_true, true_and, and_true]) <;> omega)
      have hcall := SameMsg_spec (x) (y) w96 (pA0) (pc0) (pA1) (pc1) (pA2) (pc2) (pA3) (pc3) (pA4) (pc4) (pA5) (pc5) (pA6) (pc6) (pA7) (pc7) (pA8) (pc8) (pA9) (pc9) (pA10) (pc10) (pA11) (pc11) hr109 hr110 hr111 hr112 hr113 hr114 pk6 hr115 hr116 hr117 hr118 hr119 hr120 pk13
      refine Z.call1 hf rfl (Z.r_call cf9 hf (xs := [.tmp 39, .tmp 40]) rfl) hcall ?_; clear hcall hf a
      rintro _ w121 ⟨rfl, hc122⟩
      have hzhc122 := hc122.size
      refine ⟨_, rfl, ?_⟩; intro a hf
      refine Z.on hf rfl rfl ?_
      refine Z.val hf rfl (Z.r_move (hf.eval rfl)) ?_; clear hf a; intro a hf
      refine Z.on hf rfl rfl ?_
      refine Z.val hf rfl (Z.r_move (hf.eval rfl)) ?_; clear hf a; intro a hf
      refine Z.on hf rfl rfl ?_
      have hq123 : Z.Ch [] w78 w121 := hc100.then hc122 (by simp) (by simp)
      have hr124 : (Z.Ty.slice Z.Ty.byte).rep w121 (Z.nt []) [.slice A79 ((Codec.encMsg x).length) c80] (Codec.encMsg x) := Z.rep_to hr81 hq123 (by intro b h1 h2; (try simp only [Z.nt, Z.iv, Z.no, Z.ol, List.mem_cons, List.not_mem_nil, or_false, not_or, not_false_eq_true] at h1); (try simp only [Z.nt, Z.iv, Z.no, Z.ol, List.mem_cons, List.mem_append, List.not_mem_nil, or_false, not_or, not_false_eq_true, true_and, and_true]) <;> omega)
      have hr125 : (Z.Ty.slice Z.Ty.byte).rep w121 (Z.nt []) [.slice A97 ((Codec.encMsg y).length) c98] (Codec.encMsg y) := Z.rep_to hr99 hc122 (by intro b h1 h2; (try simp only [Z.nt, Z.iv, Z.no, Z.ol, List.mem_cons, List.not_mem_nil, or_false, not_or, not_false_eq_true] at h1); (try simp only [Z.nt, Z.iv, Z.no, Z.ol, List.mem_cons, List.mem_append, List.not_mem_nil, or_false, not_or, not_false_eq_true, true_and, and_true]) <;> omega)
      have hcall := Equal_spec (Codec.encMsg x) (Codec.encMsg y) w121 (A79) (c80) (A97) (c98) hr124 hr125
      refine Z.call1 hf rfl (Z.r_call cf10 hf (xs := [.tmp 42, .tmp 43]) rfl) hcall ?_; clear hcall hf a
      rintro _ w126 ⟨rfl, hc127⟩
      have hzhc127 := hc127.size
      refine ⟨_, rfl, ?_⟩; intro a hf
      refine Z.on hf rfl rfl ?_
      refine Z.val hf rfl (Z.r_eqb Try.underlying4 (hf.eval rfl) (hf.eval rfl)) ?_; clear hf a; intro a hf
      refine Z.val hf rfl (Z.r_pick_t (hf.eval rfl) (hf.eval rfl)) ?_; clear hf a; intro a hf
      refine Z.val hf rfl (Z.r_move (hf.eval rfl)) ?_; clear hf a; intro a hf
      cases hdec : ((decide (x = y)) == (decide ((Codec.encMsg x) = (Codec.encMsg y)))) <;> revert hdec
      · intro hp128
        have hgd := hp128
        exfalso; rw [Codec.apart_dec okx oky] at hgd; cases hgd
      · intro hp129
        have hgd := hp129
        replace hf := hf.setb (d := 47) (b' := true) rfl hp129
        refine Z.on hf rfl rfl ?_
        refine Z.val hf rfl (Z.r_move (hf.eval rfl)) ?_; clear hf a; intro a hf
        refine Z.on hf rfl rfl ?_
        refine Z.val hf rfl (Z.r_move (hf.eval rfl)) ?_; clear hf a; intro a hf
        refine Z.on hf rfl rfl ?_
        have hq130 : Z.Ch [] w78 w126 := hq123.then hc127 (by simp) (by simp)
        have hr131 : (Z.Ty.slice Z.Ty.byte).rep w126 (Z.nt []) [.slice A79 ((Codec.encMsg x).length) c80] (Codec.encMsg x) := Z.rep_to hr81 hq130 (by intro b h1 h2; (try simp only [Z.nt, Z.iv, Z.no, Z.ol, List.mem_cons, List.not_mem_nil, or_false, not_or, not_false_eq_true] at h1); (try simp only [Z.nt, Z.iv, Z.no, Z.ol, List.mem_cons, List.mem_append, List.not_mem_nil, or_false, not_or, not_false_eq_true, true_and, and_true]) <;> omega)
        have hq132 : Z.Ch [] w96 w126 := hc122.then hc127 (by simp) (by simp)
        have hr133 : (Z.Ty.slice Z.Ty.byte).rep w126 (Z.nt []) [.slice A97 ((Codec.encMsg y).length) c98] (Codec.encMsg y) := Z.rep_to hr99 hq132 (by intro b h1 h2; (try simp only [Z.nt, Z.iv, Z.no, Z.ol, List.mem_cons, List.not_mem_nil, or_false, not_or, not_false_eq_true] at h1); (try simp only [Z.nt, Z.iv, Z.no, Z.ol, List.mem_cons, List.mem_append, List.not_mem_nil, or_false, not_or, not_false_eq_true, true_and, and_true]) <;> omega)
        have hcall := Equal_spec (Codec.encMsg x) (Codec.encMsg y) w126 (A79) (c80) (A97) (c98) hr131 hr133
        refine Z.call1 hf rfl (Z.r_call cf10 hf (xs := [.tmp 48, .tmp 49]) rfl) hcall ?_; clear hcall hf a
        rintro _ w134 ⟨rfl, hc135⟩
        have hzhc135 := hc135.size
        refine ⟨_, rfl, ?_⟩; intro a hf
        refine Z.on hf rfl rfl ?_
        refine Z.val hf rfl (Z.r_move (hf.eval rfl)) ?_; clear hf a; intro a hf
        by_cases hdec : (Codec.encMsg x) = (Codec.encMsg y) <;> revert hdec
        · intro hp136
          have hgd := hp136
          replace hf := hf.setb (d := 51) (b' := true) rfl (decide_eq_true hp136)
          refine Z.off hf rfl rfl rfl (by simp) ?_; clear hf a; intro a hf
          refine Z.off hf rfl rfl rfl (by simp) ?_; clear hf a; intro a hf
          refine Z.off hf rfl rfl rfl (by simp) ?_; clear hf a; intro a hf
          refine Z.off hf rfl rfl rfl (by simp) ?_; clear hf a; intro a hf
          refine Z.off hf rfl rfl rfl (by simp) ?_; clear hf a; intro a hf
          refine Z.off hf rfl rfl rfl (by simp) ?_; clear hf a; intro a hf
          refine Z.off hf rfl rfl rfl (by simp) ?_; clear hf a; intro a hf
          refine Z.off hf rfl rfl rfl (by simp) ?_; clear hf a; intro a hf
          refine Z.off hf rfl rfl rfl (by simp) ?_; clear hf a; intro a hf
          refine Z.off hf rfl rfl rfl (by simp) ?_; clear hf a; intro a hf
          refine Z.on hf rfl rfl ?_
          refine Z.val hf rfl (Z.r_pick_t (hf.eval rfl) (hf.eval rfl)) ?_; clear hf a; intro a hf
          refine Z.val hf rfl (Z.r_pick_t (hf.eval rfl) (hf.eval rfl)) ?_; clear hf a; intro a hf
          refine Z.val hf rfl (Z.r_assign (hf.eval rfl)) ?_; clear hf a; intro a hf
          refine Z.done ?_
          refine hn103 _ _ ?_
          replace hf : Z.Fr a 64 [] [(4, .bool true)] := hf.keep [4]
          refine wp_ret ?_
          have hq137 : Z.Ch [] w w121 := hq108.then hc122 (by simp) (by simp)
          have hq138 : Z.Ch [] w w126 := hq137.then hc127 (by simp) (by simp)
          have hq139 : Z.Ch [] w w134 := hq138.then hc135 (by simp) (by simp)
          refine Z.ret1 hf Try.results3 rfl ?_
          exact ⟨rfl, hq139⟩
        · intro hp140
          have hgd := hp140
          replace hf := hf.setb (d := 51) (b' := false) rfl (decide_eq_false hp140)
          refine Z.on hf rfl rfl ?_
          refine Z.val hf rfl (Z.r_move (hf.eval rfl)) ?_; clear hf a; intro a hf
          refine Z.on hf rfl rfl ?_
          refine Z.val hf rfl (Z.r_move (hf.eval rfl)) ?_; clear hf a; intro a hf
          refine Z.on hf rfl rfl ?_
          have hq141 : Z.Ch [] w78 w134 := hq130.then hc135 (by simp) (by simp)
          have hr142 : (Z.Ty.slice Z.Ty.byte).rep w134 (Z.nt []) [.slice A79 ((Codec.encMsg x).length) c80] (Codec.encMsg x) := Z.rep_to hr81 hq141 (by intro b h1 h2; (try simp only [Z.nt, Z.iv, Z.no, Z.ol, List.mem_cons, List.not_mem_nil, or_false, not_or, not_false_eq_true] at h1); (try simp only [Z.nt, Z.iv, Z.no, Z.ol, List.mem_cons, List.mem_append, List.not_mem_nil, or_false, not_or, not_false_eq_true, true_and, and_true]) <;> omega)
          have hq143 : Z.Ch [] w96 w134 := hq132.then hc135 (by simp) (by simp)
          have hr144 : (Z.Ty.slice Z.Ty.byte).rep w134 (Z.nt []) [.slice A97 ((Codec.encMsg y).length) c98] (Codec.encMsg y) := Z.rep_to hr99 hq143 (by intro b h1 h2; (try simp only [Z.nt, Z.iv, Z.no, Z.ol, List.mem_cons, List.not_mem_nil, or_false, not_or, not_false_eq_true] at h1); (try simp only [Z.nt, Z.iv, Z.no, Z.ol, List.mem_cons, List.mem_append, List.not_mem_nil, or_false, not_or, not_false_eq_true, true_and, and_true]) <;> omega)
          have hcall := HasPrefix_spec (Codec.encMsg x) (Codec.encMsg y) w134 (A79) (c80) (A97) (c98) hr142 hr144
          refine Z.call1 hf rfl (Z.r_call cf11 hf (xs := [.tmp 52, .tmp 53]) rfl) hcall ?_; clear hcall hf a
          rintro _ w145 ⟨rfl, hc146⟩
          have hzhc146 := hc146.size
          refine ⟨_, rfl, ?_⟩; intro a hf
          refine Z.on hf rfl rfl ?_
          refine Z.val hf rfl (Z.r_not (hf.eval rfl)) ?_; clear hf a; intro a hf
          refine Z.on hf rfl rfl ?_
          refine Z.val hf rfl (Z.r_move (hf.eval rfl)) ?_; clear hf a; intro a hf
          cases hdec : (!(decide ((Codec.encMsg y) <+: (Codec.encMsg x)))) <;> revert hdec
          · intro hp147
            have hgd := hp147
            exfalso; simp only [Bool.not_eq_false', decide_eq_true_eq] at hgd; first | exact hp140 (Codec.apart_pre okx oky hgd) | exact hp140 (Codec.apart_pre oky okx hgd).symm
          · intro hp148
            have hgd := hp148
            replace hf := hf.setb (d := 56) (b' := true) rfl hp148
            refine Z.on hf rfl rfl ?_
            refine Z.val hf rfl (Z.r_move (hf.eval rfl)) ?_; clear hf a; intro a hf
            refine Z.on hf rfl rfl ?_
            refine Z.val hf rfl (Z.r_move (hf.eval rfl)) ?_; clear hf a; intro a hf
            refine Z.on hf rfl rfl ?_
            have hq149 : Z.Ch [] w96 w145 := hq143.then hc146 (by simp) (by simp)
            have hr150 : (Z.Ty.slice Z.Ty.byte).rep w145 (Z.nt []) [.slice A97 ((Codec.encMsg y).length) c98] (Codec.encMsg y) := Z.rep_to hr99 hq149 (by intro b h1 h2; (try simp only [Z.nt, Z.iv, Z.no, Z.ol, List.mem_cons, List.not_mem_nil, or_false, not_or, not_false_eq_true] at h1); (try simp only [Z.nt, Z.iv, Z.no, Z.ol, List.mem_cons, List.mem_append, List.not_mem_nil, or_false, not_or, not_false_eq_true, true_and, and_true]) <;> omega)
            have hq151 : Z.Ch [] w78 w145 := hq141.then hc146 (by simp) (by simp)
            have hr152 : (Z.Ty.slice Z.Ty.byte).rep w145 (Z.nt []) [.slice A79 ((Codec.encMsg x).length) c80] (Codec.encMsg x) := Z.rep_to hr81 hq151 (by intro b h1 h2; (try simp only [Z.nt, Z.iv, Z.no, Z.ol, List.mem_cons, List.not_mem_nil, or_false, not_or, not_false_eq_true] at h1); (try simp only [Z.nt, Z.iv, Z.no, Z.ol, List.mem_cons, List.mem_append, List.not_mem_nil, or_false, not_or, not_false_eq_true, true_and, and_true]) <;> omega)
            have hcall := HasPrefix_spec (Codec.encMsg y) (Codec.encMsg x) w145 (A97) (c98) (A79) (c80) hr150 hr152
            refine Z.call1 hf rfl (Z.r_call cf11 hf (xs := [.tmp 57, .tmp 58]) rfl) hcall ?_; clear hcall hf a
            rintro _ w153 ⟨rfl, hc154⟩
            have hzhc154 := hc154.size
            refine ⟨_, rfl, ?_⟩; intro a hf
            refine Z.on hf rfl rfl ?_
            refine Z.val hf rfl (Z.r_not (hf.eval rfl)) ?_; clear hf a; intro a hf
            refine Z.on hf rfl rfl ?_
            refine Z.val hf rfl (Z.r_pick_t (hf.eval rfl) (hf.eval rfl)) ?_; clear hf a; intro a hf
            refine Z.on hf rfl rfl ?_
            refine Z.val hf rfl (Z.r_pick_f (hf.eval rfl) (hf.eval rfl)) ?_; clear hf a; intro a hf
            refine Z.val hf rfl (Z.r_pick_t (hf.eval rfl) (hf.eval rfl)) ?_; clear hf a; intro a hf
            refine Z.val hf rfl (Z.r_assign (hf.eval rfl)) ?_; clear hf a; intro a hf
            refine Z.done ?_
            refine hn103 _ _ ?_
            replace hf : Z.Fr a 64 [] [(4, .bool (!(decide ((Codec.encMsg x) <+: (Codec.encMsg y)))))] := hf.keep [4]
            refine wp_ret ?_
            replace hf := hf.setv (d := 4) (y := .bool true) rfl (congrArg Value.bool (by first | rfl | (symm; simp only [Bool.not_eq_true', decide_eq_false_iff_not]; intro h; exact hp140 (Codec.apart_pre oky okx h).symm) | (simp only [Bool.not_eq_eq_eq_not, Bool.not_true, decide_eq_false_iff_not]; intro h; exact hp140 (Codec.apart_pre oky okx h).symm)))
            have hq155 : Z.Ch [] w w121 := hq108.then hc122 (by simp) (by simp)
            have hq156 : Z.Ch [] w w126 := hq155.then hc127 (by simp) (by simp)
            have hq157 : Z.Ch [] w w134 := hq156.then hc135 (by simp) (by simp)
            have hq158 : Z.Ch [] w w145 := hq157.then hc146 (by simp) (by simp)
            have hq159 : Z.Ch [] w w153 := hq158.then hc154 (by simp) (by simp)
            refine Z.ret1 hf Try.results3 rfl ?_
            exact ⟨rfl, hq159⟩
  · intro hp160
    have hgd := hp160
    replace hf := hf.setb (d := 16) (b' := true) rfl hp160
    refine Z.off hf rfl rfl rfl (by simp) ?_; clear hf a; intro a hf
    refine Z.off hf rfl rfl rfl (by simp) ?_; clear hf a; intro a hf
    refine Z.off hf rfl rfl rfl (by simp) ?_; clear hf a; intro a hf
    refine Z.val hf rfl (Z.r_pick_t (hf.eval rfl) (hf.eval rfl)) ?_; clear hf a; intro a hf
    refine Z.done ?_
    refine hn23 _ _ ?_
    replace hf : Z.Fr a 64 [] [(2, .pointer (some ⟨g5, 0, none⟩)), (3, .pointer (some ⟨g11, 0, none⟩)), (20, .bool true)] := hf.keep [2, 3, 20]
    refine Z.condt hf rfl ?_
    refine Z.seq' hp18 fun Q161 hp162 hn163 he164 => ?_
    refine Z.reg ?_
    have hcall := begun_spec  w37  
    refine Z.call1 hf rfl (Z.r_call cf6 hf (xs := []) rfl) hcall ?_; clear hcall hf a
    rintro _ w165 ⟨rfl, hc166⟩
    have hzhc166 := hc166.size
    refine ⟨_, rfl, ?_⟩; intro a hf
    refine Z.val hf rfl (Z.r_assign (hf.eval rfl)) ?_; clear hf a; intro a hf
    refine Z.done ?_
    refine hn163 _ _ ?_
    replace hf : Z.Fr a 64 [] [(4, .bool true)] := hf.keep [4]
    refine wp_ret ?_
    refine he20 _ _ _ (by simp) ?_
    have hq167 : Z.Ch [] w w37 := hq30.then hc39 (by simp) (by simp)
    have hq168 : Z.Ch [] w w165 := hq167.then hc166 (by simp) (by simp)
    refine Z.ret1 hf Try.results3 rfl ?_
    exact ⟨rfl, hq168⟩

end Go.Proofs.Ytlhpkogdcgebeaa
