/- Walks: texts are read. -/
import Derived.Test.YtlhpkogdcgebeaaW5
import Derived.Test.YtlhpkogdcgebeaaEt
set_option linter.unusedVariables false
set_option linter.unusedSimpArgs false
set_option synthInstance.maxSize 4000
set_option synthInstance.maxHeartbeats 400000
namespace Go.Proofs.Ytlhpkogdcgebeaa
open Go.RowKit
set_option maxHeartbeats 400000 in
set_option maxRecDepth 20000 in
theorem RTakeText_spec (bs : List UInt8) (w : World) (pA0 : Option Addr) (pc0 : Nat) (ph0 : (Z.Ty.slice Z.Ty.byte).rep w (Z.nt []) [.slice pA0 bs.length pc0] bs)  :
    Calls Try.prog 28 #[.slice pA0 bs.length pc0] w fun e w' => e = .returned (.tuple #[.string ((Codec.takeT bs).1), .int .i64 ((Codec.takeT bs).2.1 : Int), .int .i64 ((Codec.takeT bs).2.2)]) ∧ Z.Ch [] w w' := by
  refine Z.enter Try.func28 rfl Try.ntmps28 (Nat.le_of_ble_eq_true rfl) fun a hf => ?_
  have hle_pA0 := Z.rep_le ph0
  have ph0o := Z.rep_ol ph0
  have hall := Codec.takeI_all bs
  refine Z.qseq [.n, .n, .n] [] [] [] Z.k0 hf ?_; clear hf a; intro a hf
  refine Z.seq' (Z.Pq.body _ _ _) fun Q1 hp2 hn3 he4 => ?_
  refine Z.reg ?_
  refine Z.qr [.n] [9] [] [(9, .slice pA0 bs.length pc0)] Z.k0 hf ?_; clear hf a; intro a hf
  have hr5 := Z.rep_to (F' := (Z.nt [])) ph0o (Z.Ch.refl w)
  refine Z.call1 hf rfl (Z.r_call cf48 hf (xs := [.tmp 9]) rfl) (RTakeInt_spec bs w pA0 pc0 hr5) ?_; clear hf a
  rintro _ w6 ⟨rfl, hc7⟩
  have hzhc7 := hc7.size
  refine ⟨_, rfl, ?_⟩; intro a hf
  refine Z.qe [.n, .n, .n, .n, .n, .n, .n] [5, 6, 7] [] [(5, .int .i64 ((Codec.takeI bs).1)), (6, .int .i64 ((Codec.takeI bs).2.1 : Int)), (7, .int .i64 ((Codec.takeI bs).2.2))] Z.k0 hf ?_; clear hf a; intro a hf
  refine hn3 _ _ ?_
  refine Z.block' (Z.Pq.body _ _ _) fun Q8 hp9 hn10 hx11 he12 => ?_
  refine Z.qseq [.n, .n, .n] [24] [] [(24, .bool (decide ((Codec.takeI bs).2.2 ≠ 0)))] Z.k0 hf ?_; clear hf a; intro a hf
  refine Z.condp hf rfl ?_ ?_
  · intro hp13
    refine Z.qseq [.n, .n, .n, .n] [2, 3, 4] [] [(2, .string (ByteArray.mk #[])), (3, .int .i64 0), (4, .int .i64 ((Codec.takeI bs).2.2))] Z.k0 hf ?_; clear hf a; intro a hf
    refine Z.ret ?_
    refine he12 _ _ _ (by simp) (by simp) ?_
    have HT := Codec.takeT_err (bs := bs) (by omega)
    replace hf := hf.setv (d := 2) (y := .string ((Codec.takeT bs).1)) rfl (congrArg Value.string (by rw [HT] <;> first | rfl | (simp; done) | (simp; omega) | omega | (simp only []; congr 3; rw [List.drop_take]; congr 1; omega)))
    replace hf := hf.setv (d := 3) (y := .int .i64 ((Codec.takeT bs).2.1 : Int)) rfl (congrArg (Value.int .i64) (by rw [HT] <;> first | rfl | (simp; done) | (simp; omega) | omega | (simp only []; congr 3; rw [List.drop_take]; congr 1; omega)))
    replace hf := hf.setv (d := 4) (y := .int .i64 ((Codec.takeT bs).2.2)) rfl (congrArg (Value.int .i64) (by rw [HT] <;> first | rfl | (simp; done) | (simp; omega) | omega | (simp only []; congr 3; rw [List.drop_take]; congr 1; omega)))
    refine Z.ret3 hf Try.results28 rfl rfl rfl ?_
    exact ⟨rfl, hc7⟩
  · intro hp14
    refine Z.qseq [.n, .n, .n] [28] [] [(28, .bool (decide ((Codec.takeI bs).1 < 0)))] Z.k0 hf ?_; clear hf a; intro a hf
    refine Z.condp hf rfl ?_ ?_
    · intro hp15
      refine Z.qseq [.n, .n, .n] [2, 3, 4] [] [(2, .string (ByteArray.mk #[])), (3, .int .i64 0), (4, .int .i64 70)] Z.k0 hf ?_; clear hf a; intro a hf
      refine Z.ret ?_
      refine he12 _ _ _ (by simp) (by simp) ?_
      have HT := Codec.takeT_neg (bs := bs) (by omega) (by omega)
      replace hf := hf.setv (d := 2) (y := .string ((Codec.takeT bs).1)) rfl (congrArg Value.string (by rw [HT] <;> first | rfl | (simp; done) | (simp; omega) | omega | (simp only []; congr 3; rw [List.drop_take]; congr 1; omega)))
      replace hf := hf.setv (d := 3) (y := .int .i64 ((Codec.takeT bs).2.1 : Int)) rfl (congrArg (Value.int .i64) (by rw [HT] <;> first | rfl | (simp; done) | (simp; omega) | omega | (simp only []; congr 3; rw [List.drop_take]; congr 1; omega)))
      replace hf := hf.setv (d := 4) (y := .int .i64 ((Codec.takeT bs).2.2)) rfl (congrArg (Value.int .i64) (by rw [HT] <;> first | rfl | (simp; done) | (simp; omega) | omega | (simp only []; congr 3; rw [List.drop_take]; congr 1; omega)))
      refine Z.ret3 hf Try.results28 rfl rfl rfl ?_
      exact ⟨rfl, hc7⟩
    · intro hp16
      refine Z.qseq [.n, .n, .n] [31] [] [(31, .bool (decide (65536 < (Codec.takeI bs).1)))] Z.k0 hf ?_; clear hf a; intro a hf
      refine Z.condp hf rfl ?_ ?_
      · intro hp17
        refine Z.qseq [.n, .n, .n] [2, 3, 4] [] [(2, .string (ByteArray.mk #[])), (3, .int .i64 0), (4, .int .i64 3)] Z.k0 hf ?_; clear hf a; intro a hf
        refine Z.ret ?_
        refine he12 _ _ _ (by simp) (by simp) ?_
        have HT := Codec.takeT_big (bs := bs) (by omega) (by omega)
        replace hf := hf.setv (d := 2) (y := .string ((Codec.takeT bs).1)) rfl (congrArg Value.string (by rw [HT] <;> first | rfl | (simp; done) | (simp; omega) | omega | (simp only []; congr 3; rw [List.drop_take]; congr 1; omega)))
        replace hf := hf.setv (d := 3) (y := .int .i64 ((Codec.takeT bs).2.1 : Int)) rfl (congrArg (Value.int .i64) (by rw [HT] <;> first | rfl | (simp; done) | (simp; omega) | omega | (simp only []; congr 3; rw [List.drop_take]; congr 1; omega)))
        replace hf := hf.setv (d := 4) (y := .int .i64 ((Codec.takeT bs).2.2)) rfl (congrArg (Value.int .i64) (by rw [HT] <;> first | rfl | (simp; done) | (simp; omega) | omega | (simp only []; congr 3; rw [List.drop_take]; congr 1; omega)))
        refine Z.ret3 hf Try.results28 rfl rfl rfl ?_
        exact ⟨rfl, hc7⟩
      · intro hp18
        refine Z.qseq [.n, .n, .n, .n, .n, .n, .n] [34] [Z.R64 ((bs.length : Int) - ((Codec.takeI bs).2.1 : Int))] [(34, .bool (decide ((bs.length : Int) - ((Codec.takeI bs).2.1 : Int) < (Codec.takeI bs).1)))] Z.k0 hf ?_; clear hf a; intro a hf
        refine Z.condp hf rfl ?_ ?_
        · intro hp19
          refine Z.qseq [.n, .n, .n] [2, 3, 4] [] [(2, .string (ByteArray.mk #[])), (3, .int .i64 0), (4, .int .i64 71)] Z.k0 hf ?_; clear hf a; intro a hf
          refine Z.ret ?_
          refine he12 _ _ _ (by simp) (by simp) ?_
          have HT := Codec.takeT_short (bs := bs) (by omega) (by omega) (by omega) (by omega)
          replace hf := hf.setv (d := 2) (y := .string ((Codec.takeT bs).1)) rfl (congrArg Value.string (by rw [HT] <;> first | rfl | (simp; done) | (simp; omega) | omega | (simp only []; congr 3; rw [List.drop_take]; congr 1; omega)))
          replace hf := hf.setv (d := 3) (y := .int .i64 ((Codec.takeT bs).2.1 : Int)) rfl (congrArg (Value.int .i64) (by rw [HT] <;> first | rfl | (simp; done) | (simp; omega) | omega | (simp only []; congr 3; rw [List.drop_take]; congr 1; omega)))
          replace hf := hf.setv (d := 4) (y := .int .i64 ((Codec.takeT bs).2.2)) rfl (congrArg (Value.int .i64) (by rw [HT] <;> first | rfl | (simp; done) | (simp; omega) | omega | (simp only []; congr 3; rw [List.drop_take]; congr 1; omega)))
          refine Z.ret3 hf Try.results28 rfl rfl rfl ?_
          exact ⟨rfl, hc7⟩
        · intro hp20
          refine Z.seq' hp9 fun Q21 hp22 hn23 he24 => ?_
          refine Z.reg ?_
          refine Z.qr [.n, .n, .n, .n, .n] [14, 15, 18] [Z.R64 (((Codec.takeI bs).2.1 : Int) + (Codec.takeI bs).1)] [(14, .slice pA0 bs.length pc0), (15, .int .i64 ((Codec.takeI bs).2.1 : Int)), (18, .int .i64 (((Codec.takeI bs).2.1 : Int) + (Codec.takeI bs).1))] Z.k0 hf ?_; clear hf a; intro a hf
          have hr25 := Z.rep_to (F' := (Z.ol [] w.heap.size)) ph0o hc7
          have hl26 := Z.rep_slice_len hr25
          have hr27 := Z.rep_cut hr25 ((Codec.takeI bs).2.1) (((Codec.takeI bs).2.1 : Int) + (Codec.takeI bs).1).toNat pc0 (by omega) (by omega) (by omega) (Nat.le_refl _)
          have hn28 : ((bs.take (((Codec.takeI bs).2.1 : Int) + (Codec.takeI bs).1).toNat).drop ((Codec.takeI bs).2.1)).length = (((Codec.takeI bs).2.1 : Int) + (Codec.takeI bs).1).toNat - ((Codec.takeI bs).2.1) := by first | rfl | omega | (simp only [List.length_take, List.length_drop]; done) | (simp only [List.length_take, List.length_drop]; omega)
          refine Z.val hf rfl (Z.r_slice_lh (u := ((Codec.takeI bs).2.1)) (v := (((Codec.takeI bs).2.1 : Int) + (Codec.takeI bs).1).toNat) Try.underlying40 Try.sizeOf5 (hf.eval rfl) (hf.eval rfl) (hf.eval rfl) (by omega) (by omega) (by omega) (by omega)) ?_; clear hf a; intro a hf
          replace hf := hf.setv (d := 19) (y := .slice (Z.cutA pA0 pc0 ((Codec.takeI bs).2.1) 1) (((bs.take (((Codec.takeI bs).2.1 : Int) + (Codec.takeI bs).1).toNat).drop ((Codec.takeI bs).2.1)).length) (pc0 - ((Codec.takeI bs).2.1))) rfl (Z.slice_n (by first | rfl | omega | (simp only [List.length_take, List.length_drop]; done) | (simp only [List.length_take, List.length_drop]; omega) | (simp; omega)))
          refine Z.val hf rfl (Z.r_b2s Try.underlying40 Try.underlying5 Try.underlying9 (hf.eval rfl) hr27) ?_; clear hf a; intro a hf
          refine Z.qe [.n, .n, .n, .n, .n, .n] [2, 3, 4] [Z.R64 (((Codec.takeI bs).2.1 : Int) + (Codec.takeI bs).1)] [(2, .string (ByteArray.mk ((bs.take (((Codec.takeI bs).2.1 : Int) + (Codec.takeI bs).1).toNat).drop ((Codec.takeI bs).2.1)).toArray)), (3, .int .i64 (((Codec.takeI bs).2.1 : Int) + (Codec.takeI bs).1)), (4, .int .i64 0)] Z.k0 hf ?_; clear hf a; intro a hf
          refine hn23 _ _ ?_
          refine Z.ret ?_
          refine he12 _ _ _ (by simp) (by simp) ?_
          have HT := Codec.takeT_ok (bs := bs) (by omega) (by omega) (by omega) (by omega)
          replace hf := hf.setv (d := 2) (y := .string ((Codec.takeT bs).1)) rfl (congrArg Value.string (by rw [HT] <;> first | rfl | (simp; done) | (simp; omega) | omega | (simp only []; congr 3; rw [List.drop_take]; congr 1; omega)))
          replace hf := hf.setv (d := 3) (y := .int .i64 ((Codec.takeT bs).2.1 : Int)) rfl (congrArg (Value.int .i64) (by rw [HT] <;> first | rfl | (simp; done) | (simp; omega) | omega | (simp only []; congr 3; rw [List.drop_take]; congr 1; omega)))
          replace hf := hf.setv (d := 4) (y := .int .i64 ((Codec.takeT bs).2.2)) rfl (congrArg (Value.int .i64) (by rw [HT] <;> first | rfl | (simp; done) | (simp; omega) | omega | (simp only []; congr 3; rw [List.drop_take]; congr 1; omega)))
          refine Z.ret3 hf Try.results28 rfl rfl rfl ?_
          exact ⟨rfl, hc7⟩

set_option maxHeartbeats 400000 in
set_option maxRecDepth 20000 in
theorem isMade_spec (g : Nat) (bs : List UInt8) (p : Int) (w : World) (pA0 : Option Addr) (pc0 : Nat) (ph0 : (Z.Ty.slice Z.Ty.byte).rep w (Z.nt [g]) [.slice pA0 bs.length pc0] bs) (pb1 : Z.Blk w g 126 [.bool true, .slice pA0 bs.length pc0, .int .i64 p]) (hp : 0 ≤ p ∧ p ≤ bs.length) :
    Calls Try.prog 66 #[.pointer (some ⟨g, 0, none⟩)] w fun e w' => e = .returned (.bool true) ∧ Z.Ch [] w w' := by
  refine Z.enter Try.func66 rfl Try.ntmps66 (Nat.le_of_ble_eq_true rfl) fun a hf => ?_
  have hlt_g := pb1.lt
  have hle_pA0 := Z.rep_le ph0
  have ph0o := Z.rep_ol ph0
  refine Z.qseq [.n] [] [] [] Z.k0 hf ?_; clear hf a; intro a hf
  refine Z.qseq [.n, .n, .n, (.on .n), (.on .n), (.on .n), (.on (.b 0 0)), .n, .n] [2] [] [(2, .bool true)] (Z.kb pb1 Z.k0) hf ?_; clear hf a; intro a hf
  refine Z.ret ?_
  refine Z.ret1 hf Try.results66 rfl ?_
  exact ⟨rfl, (Z.Ch.refl w)⟩

set_option maxHeartbeats 400000 in
set_option maxRecDepth 20000 in
theorem At_spec (g : Nat) (bs : List UInt8) (p : Int) (w : World) (pA0 : Option Addr) (pc0 : Nat) (ph0 : (Z.Ty.slice Z.Ty.byte).rep w (Z.nt [g]) [.slice pA0 bs.length pc0] bs) (pb1 : Z.Blk w g 126 [.bool true, .slice pA0 bs.length pc0, .int .i64 p]) (hp : 0 ≤ p ∧ p ≤ bs.length) :
    Calls Try.prog 61 #[.pointer (some ⟨g, 0, none⟩)] w fun e w' => e = .returned (.int .i64 p) ∧ Z.Ch [] w w' := by
  refine Z.enter Try.func61 rfl Try.ntmps61 (Nat.le_of_ble_eq_true rfl) fun a hf => ?_
  have hlt_g := pb1.lt
  have hle_pA0 := Z.rep_le ph0
  have ph0o := Z.rep_ol ph0
  refine Z.qseq [.n] [] [] [] Z.k0 hf ?_; clear hf a; intro a hf
  refine Z.seq' (Z.Pq.body _ _ _) fun Q1 hp2 hn3 he4 => ?_
  refine Z.seq' hp2 fun Q5 hp6 hn7 he8 => ?_
  refine Z.reg ?_
  refine Z.qr [.n] [3] [] [(3, .pointer (some ⟨g, 0, none⟩))] Z.k0 hf ?_; clear hf a; intro a hf
  have hr9 := Z.rep_to (F' := (Z.nt [g])) ph0o (Z.Ch.refl w)
  refine Z.call1 hf rfl (Z.r_call cf66 hf (xs := [.tmp 3]) rfl) (isMade_spec g bs p w pA0 pc0 hr9 pb1 (by omega)) ?_; clear hf a
  rintro _ w10 ⟨rfl, hc11⟩
  have hzhc11 := hc11.size
  refine ⟨_, rfl, ?_⟩; intro a hf
  refine Z.qe [.n] [5] [] [(5, .bool false)] Z.k0 hf ?_; clear hf a; intro a hf
  refine hn7 _ _ ?_
  refine Z.condf hf rfl ?_
  refine Z.skip ?_
  refine hn3 _ _ ?_
  have hb12 := pb1.ch0 hc11
  refine Z.qseq [.n, .n, .n, .b 0 2, .n] [2] [] [(2, .int .i64 p)] (Z.kb hb12 Z.k0) hf ?_; clear hf a; intro a hf
  refine Z.ret ?_
  refine Z.ret1 hf Try.results61 rfl ?_
  exact ⟨rfl, hc11⟩

set_option maxHeartbeats 400000 in
set_option maxRecDepth 20000 in
theorem RInt2_spec (g : Nat) (bs : List UInt8) (p : Int) (w : World) (pA0 : Option Addr) (pc0 : Nat) (ph0 : (Z.Ty.slice Z.Ty.byte).rep w (Z.nt [g]) [.slice pA0 bs.length pc0] bs) (pb1 : Z.Blk w g 126 [.bool true, .slice pA0 bs.length pc0, .int .i64 p]) (hp : 0 ≤ p ∧ p ≤ bs.length) :
    Calls Try.prog 67 #[.pointer (some ⟨g, 0, none⟩)] w fun e w' => e = .returned (.tuple #[.int .i64 ((Codec.takeI (bs.drop p.toNat)).1), .int .i64 ((Codec.takeI (bs.drop p.toNat)).2.2)]) ∧ Z.Blk w' g 126 [.bool true, .slice pA0 bs.length pc0, .int .i64 (p + ((Codec.takeI (bs.drop p.toNat)).2.1 : Int))] ∧ Z.Ch [g] w w' := by
  refine Z.enter Try.func67 rfl Try.ntmps67 (Nat.le_of_ble_eq_true rfl) fun a hf => ?_
  have hlt_g := pb1.lt
  have hle_pA0 := Z.rep_le ph0
  have ph0o := Z.rep_ol ph0
  have hall := Codec.takeI_all (bs.drop p.toNat)
  rw [List.length_drop] at hall
  refine Z.qseq [.n, .n] [] [] [] Z.k0 hf ?_; clear hf a; intro a hf
  refine Z.seq' (Z.Pq.body _ _ _) fun Q1 hp2 hn3 he4 => ?_
  refine Z.seq' hp2 fun Q5 hp6 hn7 he8 => ?_
  refine Z.reg ?_
  refine Z.qr [.n] [7] [] [(7, .pointer (some ⟨g, 0, none⟩))] Z.k0 hf ?_; clear hf a; intro a hf
  have hr9 := Z.rep_to (F' := (Z.nt [g])) ph0o (Z.Ch.refl w)
  refine Z.call1 hf rfl (Z.r_call cf66 hf (xs := [.tmp 7]) rfl) (isMade_spec g bs p w pA0 pc0 hr9 pb1 (by omega)) ?_; clear hf a
  rintro _ w10 ⟨rfl, hc11⟩
  have hzhc11 := hc11.size
  refine ⟨_, rfl, ?_⟩; intro a hf
  refine Z.qe [.n] [9] [] [(9, .bool false)] Z.k0 hf ?_; clear hf a; intro a hf
  refine hn7 _ _ ?_
  refine Z.condf hf rfl ?_
  refine Z.skip ?_
  refine hn3 _ _ ?_
  refine Z.seq' (Z.Pq.body _ _ _) fun Q12 hp13 hn14 he15 => ?_
  refine Z.dr_reg (S := fun w' => Z.Ch [] w10 w') mixed ?_; intro w16 hc17 hz18
  have hb19 := pb1.ch0 hc11
  refine Z.dqr [true, true, true, true, true, true, true, true, false, false, false, false, false, false, false, false, false] 9 [(0, .n), (1, .n), (2, .n), (3, .b 0 1), (4, .n), (5, .n), (6, .n), (7, .b 0 2)] [14, 18] [] [(14, .slice pA0 bs.length pc0), (18, .int .i64 p)] hp13 hc17 (fun w hw => (Z.kb (hb19.ch0 hw) Z.k0)) hf ?_; clear hf a; intro a hf
  have hr20 := Z.rep_to (F' := (Z.ol [g] w.heap.size)) ph0o hc11
  have hl21 := Z.rep_slice_len hr20
  have hr22 := Z.rep_cut0 hr20 (p).toNat (by omega)
  have hn23 : (bs.drop (p).toNat).length = (bs).length - (p).toNat := by first | rfl | omega | (simp only [List.length_take, List.length_drop]; done) | (simp only [List.length_take, List.length_drop]; omega)
  refine Z.dr_val 8 hf rfl rfl (by kernel_rfl) (by kernel_rfl) hp13 hc17 Z.wanted_none (fun _ hw => Z.r_slice_l (u := (p).toNat) Try.underlying40 Try.sizeOf5 (hf.eval rfl) (hf.eval rfl) (by omega) (by omega)) ?_; clear hf a; intro a hf
  replace hf := hf.setv (d := 19) (y := .slice (Z.cutA pA0 pc0 (p).toNat 1) ((bs.drop (p).toNat).length) (pc0 - (p).toNat)) rfl (Z.slice_n (by first | rfl | omega | (simp only [List.length_take, List.length_drop]; done) | (simp only [List.length_take, List.length_drop]; omega) | (simp; omega)))
  refine Z.dr_one 9 rfl (by kernel_rfl) ?_
  have hr24 := Z.rep_to (F' := (Z.nt [])) hr22 hc17
  refine Z.call1 hf rfl (Z.r_call cf68 hf (xs := [.tmp 19]) rfl) (take_spec (bs.drop (p).toNat) w16 (Z.cutA pA0 pc0 (p).toNat 1) (pc0 - (p).toNat) hr24) ?_; clear hf a
  rintro _ w25 ⟨rfl, hc26⟩
  have hzhc26 := hc26.size
  refine ⟨_, rfl, ?_⟩; intro a hf
  refine Z.done ?_
  have hq27 : Z.Ch [] w10 w25 := hc17.then hc26
  refine And.intro hq27 ?_
  refine Z.dqr [true, true, true, true, true, true, true, true, true, true, true, true, true, true, true, true, true] 0 [(10, .n), (11, .n), (12, .n), (13, .n), (14, .n), (15, .n), (16, .n)] [4, 5, 6] [] [(4, .int .i64 ((Codec.takeI (bs.drop (p).toNat)).1)), (5, .int .i64 ((Codec.takeI (bs.drop (p).toNat)).2.1 : Int)), (6, .int .i64 ((Codec.takeI (bs.drop (p).toNat)).2.2))] hp13 hq27 (fun w hw => Z.k0) hf ?_; clear hf a; intro a hf
  refine Z.dr_done (by kernel_rfl) ?_
  refine hn14 _ _ ?_
  refine Z.seq' (Z.Pq.body _ _ _) fun Q28 hp29 hn30 he31 => ?_
  refine Z.reg ?_
  have hq32 : Z.Ch [] w w16 := hc11.then hc17
  have hq33 : Z.Ch [] w w25 := hq32.then hc26
  have hb34 := pb1.ch0 hq33
  refine Z.qr [.n, .n, .n, .b 0 2, .n, .n, .n, .n] [29, 31] [Z.R64 (p + ((Codec.takeI (bs.drop (p).toNat)).2.1 : Int))] [(29, .int .i64 (p + ((Codec.takeI (bs.drop (p).toNat)).2.1 : Int))), (31, .pointer (some ⟨g, 2, none⟩))] (Z.kb hb34 Z.k0) hf ?_; clear hf a; intro a hf
  refine Z.st_store hf hb34 rfl rfl Try.sizeOf3 rfl rfl rfl (by simp [Value.oneCell']) rfl ?_; clear hf a; intro w35 a hz36 hb37 hc38 hf
  refine Z.done ?_
  refine hn30 _ _ ?_
  refine Z.qseq [.n, .n, .n, .n] [2, 3] [] [(2, .int .i64 ((Codec.takeI (bs.drop (p).toNat)).1)), (3, .int .i64 ((Codec.takeI (bs.drop (p).toNat)).2.2))] Z.k0 hf ?_; clear hf a; intro a hf
  refine Z.ret ?_
  replace hf := hf.setv (d := 2) (y := .int .i64 ((Codec.takeI (bs.drop p.toNat)).1)) rfl (congrArg (Value.int .i64) (by first | rfl | omega | (simp; done) | (simp; omega)))
  replace hf := hf.setv (d := 3) (y := .int .i64 ((Codec.takeI (bs.drop p.toNat)).2.2)) rfl (congrArg (Value.int .i64) (by first | rfl | omega | (simp; done) | (simp; omega)))
  have hb39 : Z.Blk w35 g 126 [.bool true, .slice pA0 bs.length pc0, .int .i64 (p + ((Codec.takeI (bs.drop p.toNat)).2.1 : Int))] := Z.Blk.cast (show Z.Blk w35 g 126 [.bool true, .slice pA0 bs.length pc0, .int .i64 (p + ((Codec.takeI (bs.drop (p).toNat)).2.1 : Int))] from hb37) (by first | rfl | (simp only [List.length_append]; done) | simp_all)
  have hq40 : Z.Ch [g] w w35 := hq33.then hc38
  refine Z.ret2 hf Try.results67 rfl rfl ?_
  exact ⟨rfl, hb39, hq40⟩

set_option maxHeartbeats 400000 in
set_option maxRecDepth 20000 in
theorem back_spec (g : Nat) (bs : List UInt8) (p : Int) (q : Int) (er : Int) (w : World) (pA0 : Option Addr) (pc0 : Nat) (ph0 : (Z.Ty.slice Z.Ty.byte).rep w (Z.nt [g]) [.slice pA0 bs.length pc0] bs) (pb1 : Z.Blk w g 126 [.bool true, .slice pA0 bs.length pc0, .int .i64 p]) (hp : 0 ≤ p ∧ p ≤ bs.length) :
    Calls Try.prog 63 #[.pointer (some ⟨g, 0, none⟩), .int .i64 q, .int .i64 er] w fun e w' => e = .returned (.int .i64 er) ∧ Z.Blk w' g 126 [.bool true, .slice pA0 bs.length pc0, .int .i64 (if er = 0 then p else q)] ∧ Z.Ch [g] w w' := by
  refine Z.enter Try.func63 rfl Try.ntmps63 (Nat.le_of_ble_eq_true rfl) fun a hf => ?_
  have hlt_g := pb1.lt
  have hle_pA0 := Z.rep_le ph0
  have ph0o := Z.rep_ol ph0
  refine Z.qseq [.n] [] [] [] Z.k0 hf ?_; clear hf a; intro a hf
  refine Z.seq' (Z.Pq.body _ _ _) fun Q1 hp2 hn3 he4 => ?_
  refine Z.seq' hp2 fun Q5 hp6 hn7 he8 => ?_
  refine Z.reg ?_
  refine Z.qr [.n] [7] [] [(7, .pointer (some ⟨g, 0, none⟩))] Z.k0 hf ?_; clear hf a; intro a hf
  have hr9 := Z.rep_to (F' := (Z.nt [g])) ph0o (Z.Ch.refl w)
  refine Z.call1 hf rfl (Z.r_call cf66 hf (xs := [.tmp 7]) rfl) (isMade_spec g bs p w pA0 pc0 hr9 pb1 (by omega)) ?_; clear hf a
  rintro _ w10 ⟨rfl, hc11⟩
  have hzhc11 := hc11.size
  refine ⟨_, rfl, ?_⟩; intro a hf
  refine Z.qe [.n, (.on .n), (.on .n), .n] [12] [] [(12, .bool (decide (er ≠ 0)))] Z.k0 hf ?_; clear hf a; intro a hf
  refine hn7 _ _ ?_
  refine Z.condp hf rfl ?_ ?_
  · intro hp12
    refine Z.reg ?_
    refine Z.qr [.n, .n, .n, .n] [14, 16] [] [(14, .int .i64 q), (16, .pointer (some ⟨g, 2, none⟩))] Z.k0 hf ?_; clear hf a; intro a hf
    have hb13 := pb1.ch0 hc11
    refine Z.st_store hf hb13 rfl rfl Try.sizeOf3 rfl rfl rfl (by simp [Value.oneCell']) rfl ?_; clear hf a; intro w14 a hz15 hb16 hc17 hf
    refine Z.done ?_
    refine hn3 _ _ ?_
    refine Z.qseq [.n, .n] [6] [] [(6, .int .i64 er)] Z.k0 hf ?_; clear hf a; intro a hf
    refine Z.ret ?_
    have hb18 : Z.Blk w14 g 126 [.bool true, .slice pA0 bs.length pc0, .int .i64 (if er = 0 then p else q)] := Z.Blk.cast (show Z.Blk w14 g 126 [.bool true, .slice pA0 bs.length pc0, .int .i64 q] from hb16) (by first | rfl | (rw [if_pos (by omega)] <;> rfl) | (rw [if_neg (by omega)] <;> rfl))
    have hq19 : Z.Ch [g] w w14 := hc11.then hc17
    refine Z.ret1 hf Try.results63 rfl ?_
    exact ⟨rfl, hb18, hq19⟩
  · intro hp20
    refine Z.skip ?_
    refine hn3 _ _ ?_
    refine Z.qseq [.n, .n] [6] [] [(6, .int .i64 er)] Z.k0 hf ?_; clear hf a; intro a hf
    refine Z.ret ?_
    have hb21 := pb1.ch0 hc11
    have hb22 : Z.Blk w10 g 126 [.bool true, .slice pA0 bs.length pc0, .int .i64 (if er = 0 then p else q)] := Z.Blk.cast (show Z.Blk w10 g 126 [.bool true, .slice pA0 bs.length pc0, .int .i64 p] from hb21) (by first | rfl | (rw [if_pos (by omega)] <;> rfl) | (rw [if_neg (by omega)] <;> rfl))
    refine Z.ret1 hf Try.results63 rfl ?_
    exact ⟨rfl, hb22, (Z.Ch.mono hc11 (by intro k hk; (try simp only [List.mem_cons, List.mem_append, List.not_mem_nil, or_false, false_or] at hk ⊢) <;> omega))⟩

set_option maxHeartbeats 400000 in
set_option maxRecDepth 20000 in
theorem length_spec (g : Nat) (bs : List UInt8) (p : Int) (m : Int) (w : World) (pA0 : Option Addr) (pc0 : Nat) (ph0 : (Z.Ty.slice Z.Ty.byte).rep w (Z.nt [g]) [.slice pA0 bs.length pc0] bs) (pb1 : Z.Blk w g 126 [.bool true, .slice pA0 bs.length pc0, .int .i64 p]) (hp : 0 ≤ p ∧ p ≤ bs.length) :
    Calls Try.prog 62 #[.pointer (some ⟨g, 0, none⟩), .int .i64 m] w fun e w' => e = .returned (.tuple #[.int .i64 ((Codec.lenR bs p m).1), .int .i64 ((Codec.lenR bs p m).2.1)]) ∧ Z.Blk w' g 126 [.bool true, .slice pA0 bs.length pc0, .int .i64 ((Codec.lenR bs p m).2.2)] ∧ Z.Ch [g] w w' := by
  refine Z.enter Try.func62 rfl Try.ntmps62 (Nat.le_of_ble_eq_true rfl) fun a hf => ?_
  have hlt_g := pb1.lt
  have hle_pA0 := Z.rep_le ph0
  have ph0o := Z.rep_ol ph0
  have hall := Codec.takeI_all (bs.drop p.toNat)
  rw [List.length_drop] at hall
  refine Z.qseq [.n, .n] [] [] [] Z.k0 hf ?_; clear hf a; intro a hf
  refine Z.seq' (Z.Pq.body _ _ _) fun Q1 hp2 hn3 he4 => ?_
  refine Z.reg ?_
  refine Z.qr [.n] [9] [] [(9, .pointer (some ⟨g, 0, none⟩))] Z.k0 hf ?_; clear hf a; intro a hf
  have hr5 := Z.rep_to (F' := (Z.nt [g])) ph0o (Z.Ch.refl w)
  refine Z.call1 hf rfl (Z.r_call cf61 hf (xs := [.tmp 9]) rfl) (At_spec g bs p w pA0 pc0 hr5 pb1 (by omega)) ?_; clear hf a
  rintro _ w6 ⟨rfl, hc7⟩
  have hzhc7 := hc7.size
  refine ⟨_, rfl, ?_⟩; intro a hf
  refine Z.qe [.n] [6] [] [(6, .int .i64 p)] Z.k0 hf ?_; clear hf a; intro a hf
  refine hn3 _ _ ?_
  refine Z.seq' (Z.Pq.body _ _ _) fun Q8 hp9 hn10 he11 => ?_
  refine Z.reg ?_
  refine Z.qr [.n] [12] [] [(12, .pointer (some ⟨g, 0, none⟩))] Z.k0 hf ?_; clear hf a; intro a hf
  have hb12 := pb1.ch0 hc7
  have hr13 := Z.rep_to (F' := (Z.nt [g])) ph0o hc7
  refine Z.call1 hf rfl (Z.r_call cf67 hf (xs := [.tmp 12]) rfl) (RInt2_spec g bs p w6 pA0 pc0 hr13 hb12 (by omega)) ?_; clear hf a
  rintro _ w14 ⟨rfl, hb15, hc16⟩
  have hzhc16 := hc16.size
  refine ⟨_, rfl, ?_⟩; intro a hf
  refine Z.qe [.n, .n, .n, .n, .n] [7, 8] [] [(7, .int .i64 ((Codec.takeI (bs.drop p.toNat)).1)), (8, .int .i64 ((Codec.takeI (bs.drop p.toNat)).2.2))] Z.k0 hf ?_; clear hf a; intro a hf
  refine hn10 _ _ ?_
  refine Z.seq' (Z.Pq.body _ _ _) fun Q17 hp18 hn19 he20 => ?_
  refine Z.block' hp18 fun Q21 hp22 hn23 hx24 he25 => ?_
  refine Z.qseq [.n, .n, .n] [16] [] [(16, .bool (decide ((Codec.takeI (bs.drop p.toNat)).2.2 ≠ 0)))] Z.k0 hf ?_; clear hf a; intro a hf
  refine Z.condp hf rfl ?_ ?_
  · intro hp26
    refine Z.skip ?_
    refine hn23 _ _ ?_
    refine hn19 _ _ ?_
    refine Z.seq' (Z.Pq.body _ _ _) fun Q27 hp28 hn29 he30 => ?_
    refine Z.seq' hp28 fun Q31 hp32 hn33 he34 => ?_
    refine Z.reg ?_
    refine Z.qr [.n, .n, .n] [26, 27, 28] [] [(26, .pointer (some ⟨g, 0, none⟩)), (27, .int .i64 p), (28, .int .i64 ((Codec.takeI (bs.drop p.toNat)).2.2))] Z.k0 hf ?_; clear hf a; intro a hf
    have hq35 : Z.Ch [g] w w14 := hc7.then hc16
    have hr36 := Z.rep_to (F' := (Z.nt [g])) ph0o hq35
    refine Z.call1 hf rfl (Z.r_call cf63 hf (xs := [.tmp 26, .tmp 27, .tmp 28]) rfl) (back_spec g bs (p + ((Codec.takeI (bs.drop p.toNat)).2.1 : Int)) p ((Codec.takeI (bs.drop p.toNat)).2.2) w14 pA0 pc0 hr36 hb15 (by omega)) ?_; clear hf a
    rintro _ w37 ⟨rfl, hb38, hc39⟩
    have hzhc39 := hc39.size
    refine ⟨_, rfl, ?_⟩; intro a hf
    refine Z.qe [.n] [30] [] [(30, .bool (decide (((Codec.takeI (bs.drop p.toNat)).2.2) ≠ 0)))] Z.k0 hf ?_; clear hf a; intro a hf
    refine hn33 _ _ ?_
    refine Z.condp hf rfl ?_ ?_
    · intro hp40
      refine Z.qseq [.n, .n, .n] [4, 5] [] [(4, .int .i64 0), (5, .int .i64 ((Codec.takeI (bs.drop p.toNat)).2.2))] Z.k0 hf ?_; clear hf a; intro a hf
      refine Z.ret ?_
      refine he30 _ _ _ (by simp) ?_
      have HT : Codec.lenR bs p m = (0, (Codec.takeI (bs.drop p.toNat)).2.2, p) := by first | exact Codec.lenR_err (by omega) | exact Codec.lenR_neg (by omega) (by omega) | exact Codec.lenR_big (by omega) (by omega) (by omega) | exact Codec.lenR_ok (by omega) (by omega) (by omega)
      replace hf := hf.setv (d := 4) (y := .int .i64 ((Codec.lenR bs p m).1)) rfl (congrArg (Value.int .i64) (by rw [HT]))
      replace hf := hf.setv (d := 5) (y := .int .i64 ((Codec.lenR bs p m).2.1)) rfl (congrArg (Value.int .i64) (by rw [HT]))
      have hb41 : Z.Blk w37 g 126 [.bool true, .slice pA0 bs.length pc0, .int .i64 ((Codec.lenR bs p m).2.2)] := Z.Blk.cast (show Z.Blk w37 g 126 [.bool true, .slice pA0 bs.length pc0, .int .i64 (if ((Codec.takeI (bs.drop p.toNat)).2.2) = 0 then (p + ((Codec.takeI (bs.drop p.toNat)).2.1 : Int)) else p)] from hb38) (by first | rfl | (rw [HT] <;> rfl) | (rw [HT, if_pos (by omega)] <;> rfl) | (rw [HT, if_neg (by omega)] <;> rfl))
      have hq42 : Z.Ch [g] w w37 := hq35.then hc39
      refine Z.ret2 hf Try.results62 rfl rfl ?_
      exact ⟨rfl, hb41, hq42⟩
    · intro hp43
      refine Z.skip ?_
      refine hn29 _ _ ?_
      refine Z.qseq [.n, .n, .n] [4, 5] [] [(4, .int .i64 ((Codec.takeI (bs.drop p.toNat)).1)), (5, .int .i64 0)] Z.k0 hf ?_; clear hf a; intro a hf
      refine Z.ret ?_
      have HT : Codec.lenR bs p m = ((Codec.takeI (bs.drop p.toNat)).1, 0, p + ((Codec.takeI (bs.drop p.toNat)).2.1 : Int)) := by first | exact Codec.lenR_err (by omega) | exact Codec.lenR_neg (by omega) (by omega) | exact Codec.lenR_big (by omega) (by omega) (by omega) | exact Codec.lenR_ok (by omega) (by omega) (by omega)
      replace hf := hf.setv (d := 4) (y := .int .i64 ((Codec.lenR bs p m).1)) rfl (congrArg (Value.int .i64) (by rw [HT]))
      replace hf := hf.setv (d := 5) (y := .int .i64 ((Codec.lenR bs p m).2.1)) rfl (congrArg (Value.int .i64) (by rw [HT]))
      have hb44 : Z.Blk w37 g 126 [.bool true, .slice pA0 bs.length pc0, .int .i64 ((Codec.lenR bs p m).2.2)] := Z.Blk.cast (show Z.Blk w37 g 126 [.bool true, .slice pA0 bs.length pc0, .int .i64 (if ((Codec.takeI (bs.drop p.toNat)).2.2) = 0 then (p + ((Codec.takeI (bs.drop p.toNat)).2.1 : Int)) else p)] from hb38) (by first | rfl | (rw [HT] <;> rfl) | (rw [HT, if_pos (by omega)] <;> rfl) | (rw [HT, if_neg (by omega)] <;> rfl))
      have hq45 : Z.Ch [g] w w37 := hq35.then hc39
      refine Z.ret2 hf Try.results62 rfl rfl ?_
      exact ⟨rfl, hb44, hq45⟩
  · intro hp46
    refine Z.qseq [.n, .n, .n] [19] [] [(19, .bool (decide ((Codec.takeI (bs.drop p.toNat)).1 < 0)))] Z.k0 hf ?_; clear hf a; intro a hf
    refine Z.condp hf rfl ?_ ?_
    · intro hp47
      refine Z.qreg [.n] [8] [] [(8, .int .i64 70)] Z.k0 hf ?_; clear hf a; intro a hf
      refine hn23 _ _ ?_
      refine hn19 _ _ ?_
      refine Z.seq' (Z.Pq.body _ _ _) fun Q48 hp49 hn50 he51 => ?_
      refine Z.seq' hp49 fun Q52 hp53 hn54 he55 => ?_
      refine Z.reg ?_
      refine Z.qr [.n, .n, .n] [26, 27, 28] [] [(26, .pointer (some ⟨g, 0, none⟩)), (27, .int .i64 p), (28, .int .i64 70)] Z.k0 hf ?_; clear hf a; intro a hf
      have hq56 : Z.Ch [g] w w14 := hc7.then hc16
      have hr57 := Z.rep_to (F' := (Z.nt [g])) ph0o hq56
      refine Z.call1 hf rfl (Z.r_call cf63 hf (xs := [.tmp 26, .tmp 27, .tmp 28]) rfl) (back_spec g bs (p + ((Codec.takeI (bs.drop p.toNat)).2.1 : Int)) p 70 w14 pA0 pc0 hr57 hb15 (by omega)) ?_; clear hf a
      rintro _ w58 ⟨rfl, hb59, hc60⟩
      have hzhc60 := hc60.size
      refine ⟨_, rfl, ?_⟩; intro a hf
      refine Z.qe [.n] [30] [] [(30, .bool true)] Z.k0 hf ?_; clear hf a; intro a hf
      refine hn54 _ _ ?_
      refine Z.condt hf rfl ?_
      refine Z.qseq [.n, .n, .n] [4, 5] [] [(4, .int .i64 0), (5, .int .i64 70)] Z.k0 hf ?_; clear hf a; intro a hf
      refine Z.ret ?_
      refine he51 _ _ _ (by simp) ?_
      have HT : Codec.lenR bs p m = (0, 70, p) := by first | exact Codec.lenR_err (by omega) | exact Codec.lenR_neg (by omega) (by omega) | exact Codec.lenR_big (by omega) (by omega) (by omega) | exact Codec.lenR_ok (by omega) (by omega) (by omega)
      replace hf := hf.setv (d := 4) (y := .int .i64 ((Codec.lenR bs p m).1)) rfl (congrArg (Value.int .i64) (by rw [HT]))
      replace hf := hf.setv (d := 5) (y := .int .i64 ((Codec.lenR bs p m).2.1)) rfl (congrArg (Value.int .i64) (by rw [HT]))
      have hb61 : Z.Blk w58 g 126 [.bool true, .slice pA0 bs.length pc0, .int .i64 ((Codec.lenR bs p m).2.2)] := Z.Blk.cast (show Z.Blk w58 g 126 [.bool true, .slice pA0 bs.length pc0, .int .i64 (if 70 = 0 then (p + ((Codec.takeI (bs.drop p.toNat)).2.1 : Int)) else p)] from hb59) (by first | rfl | (rw [HT] <;> rfl) | (rw [HT, if_pos (by omega)] <;> rfl) | (rw [HT, if_neg (by omega)] <;> rfl))
      have hq62 : Z.Ch [g] w w58 := hq56.then hc60
      refine Z.ret2 hf Try.results62 rfl rfl ?_
      exact ⟨rfl, hb61, hq62⟩
    · intro hp63
      refine Z.qseq [.n, .n, .n, .n] [22] [] [(22, .bool (decide (m < (Codec.takeI (bs.drop p.toNat)).1)))] Z.k0 hf ?_; clear hf a; intro a hf
      refine Z.condp hf rfl ?_ ?_
      · intro hp64
        refine Z.qreg [.n] [8] [] [(8, .int .i64 3)] Z.k0 hf ?_; clear hf a; intro a hf
        refine hn23 _ _ ?_
        refine hn19 _ _ ?_
        refine Z.seq' (Z.Pq.body _ _ _) fun Q65 hp66 hn67 he68 => ?_
        refine Z.seq' hp66 fun Q69 hp70 hn71 he72 => ?_
        refine Z.reg ?_
        refine Z.qr [.n, .n, .n] [26, 27, 28] [] [(26, .pointer (some ⟨g, 0, none⟩)), (27, .int .i64 p), (28, .int .i64 3)] Z.k0 hf ?_; clear hf a; intro a hf
        have hq73 : Z.Ch [g] w w14 := hc7.then hc16
        have hr74 := Z.rep_to (F' := (Z.nt [g])) ph0o hq73
        refine Z.call1 hf rfl (Z.r_call cf63 hf (xs := [.tmp 26, .tmp 27, .tmp 28]) rfl) (back_spec g bs (p + ((Codec.takeI (bs.drop p.toNat)).2.1 : Int)) p 3 w14 pA0 pc0 hr74 hb15 (by omega)) ?_; clear hf a
        rintro _ w75 ⟨rfl, hb76, hc77⟩
        have hzhc77 := hc77.size
        refine ⟨_, rfl, ?_⟩; intro a hf
        refine Z.qe [.n] [30] [] [(30, .bool true)] Z.k0 hf ?_; clear hf a; intro a hf
        refine hn71 _ _ ?_
        refine Z.condt hf rfl ?_
        refine Z.qseq [.n, .n, .n] [4, 5] [] [(4, .int .i64 0), (5, .int .i64 3)] Z.k0 hf ?_; clear hf a; intro a hf
        refine Z.ret ?_
        refine he68 _ _ _ (by simp) ?_
        have HT : Codec.lenR bs p m = (0, 3, p) := by first | exact Codec.lenR_err (by omega) | exact Codec.lenR_neg (by omega) (by omega) | exact Codec.lenR_big (by omega) (by omega) (by omega) | exact Codec.lenR_ok (by omega) (by omega) (by omega)
        replace hf := hf.setv (d := 4) (y := .int .i64 ((Codec.lenR bs p m).1)) rfl (congrArg (Value.int .i64) (by rw [HT]))
        replace hf := hf.setv (d := 5) (y := .int .i64 ((Codec.lenR bs p m).2.1)) rfl (congrArg (Value.int .i64) (by rw [HT]))
        have hb78 : Z.Blk w75 g 126 [.bool true, .slice pA0 bs.length pc0, .int .i64 ((Codec.lenR bs p m).2.2)] := Z.Blk.cast (show Z.Blk w75 g 126 [.bool true, .slice pA0 bs.length pc0, .int .i64 (if 3 = 0 then (p + ((Codec.takeI (bs.drop p.toNat)).2.1 : Int)) else p)] from hb76) (by first | rfl | (rw [HT] <;> rfl) | (rw [HT, if_pos (by omega)] <;> rfl) | (rw [HT, if_neg (by omega)] <;> rfl))
        have hq79 : Z.Ch [g] w w75 := hq73.then hc77
        refine Z.ret2 hf Try.results62 rfl rfl ?_
        exact ⟨rfl, hb78, hq79⟩
      · intro hp80
        refine Z.skip ?_
        refine hn23 _ _ ?_
        refine hn19 _ _ ?_
        refine Z.seq' (Z.Pq.body _ _ _) fun Q81 hp82 hn83 he84 => ?_
        refine Z.seq' hp82 fun Q85 hp86 hn87 he88 => ?_
        refine Z.reg ?_
        refine Z.qr [.n, .n, .n] [26, 27, 28] [] [(26, .pointer (some ⟨g, 0, none⟩)), (27, .int .i64 p), (28, .int .i64 ((Codec.takeI (bs.drop p.toNat)).2.2))] Z.k0 hf ?_; clear hf a; intro a hf
        have hq89 : Z.Ch [g] w w14 := hc7.then hc16
        have hr90 := Z.rep_to (F' := (Z.nt [g])) ph0o hq89
        refine Z.call1 hf rfl (Z.r_call cf63 hf (xs := [.tmp 26, .tmp 27, .tmp 28]) rfl) (back_spec g bs (p + ((Codec.takeI (bs.drop p.toNat)).2.1 : Int)) p ((Codec.takeI (bs.drop p.toNat)).2.2) w14 pA0 pc0 hr90 hb15 (by omega)) ?_; clear hf a
        rintro _ w91 ⟨rfl, hb92, hc93⟩
        have hzhc93 := hc93.size
        refine ⟨_, rfl, ?_⟩; intro a hf
        refine Z.qe [.n] [30] [] [(30, .bool (decide (((Codec.takeI (bs.drop p.toNat)).2.2) ≠ 0)))] Z.k0 hf ?_; clear hf a; intro a hf
        refine hn87 _ _ ?_
        refine Z.condp hf rfl ?_ ?_
        · intro hp94
          refine Z.qseq [.n, .n, .n] [4, 5] [] [(4, .int .i64 0), (5, .int .i64 ((Codec.takeI (bs.drop p.toNat)).2.2))] Z.k0 hf ?_; clear hf a; intro a hf
          refine Z.ret ?_
          refine he84 _ _ _ (by simp) ?_
          have HT : Codec.lenR bs p m = (0, (Codec.takeI (bs.drop p.toNat)).2.2, p) := by first | exact Codec.lenR_err (by omega) | exact Codec.lenR_neg (by omega) (by omega) | exact Codec.lenR_big (by omega) (by omega) (by omega) | exact Codec.lenR_ok (by omega) (by omega) (by omega)
          replace hf := hf.setv (d := 4) (y := .int .i64 ((Codec.lenR bs p m).1)) rfl (congrArg (Value.int .i64) (by rw [HT]))
          replace hf := hf.setv (d := 5) (y := .int .i64 ((Codec.lenR bs p m).2.1)) rfl (congrArg (Value.int .i64) (by rw [HT]))
          have hb95 : Z.Blk w91 g 126 [.bool true, .slice pA0 bs.length pc0, .int .i64 ((Codec.lenR bs p m).2.2)] := Z.Blk.cast (show Z.Blk w91 g 126 [.bool true, .slice pA0 bs.length pc0, .int .i64 (if ((Codec.takeI (bs.drop p.toNat)).2.2) = 0 then (p + ((Codec.takeI (bs.drop p.toNat)).2.1 : Int)) else p)] from hb92) (by first | rfl | (rw [HT] <;> rfl) | (rw [HT, if_pos (by omega)] <;> rfl) | (rw [HT, if_neg (by omega)] <;> rfl))
          have hq96 : Z.Ch [g] w w91 := hq89.then hc93
          refine Z.ret2 hf Try.results62 rfl rfl ?_
          exact ⟨rfl, hb95, hq96⟩
        · intro hp97
          refine Z.skip ?_
          refine hn83 _ _ ?_
          refine Z.qseq [.n, .n, .n] [4, 5] [] [(4, .int .i64 ((Codec.takeI (bs.drop p.toNat)).1)), (5, .int .i64 0)] Z.k0 hf ?_; clear hf a; intro a hf
          refine Z.ret ?_
          have HT : Codec.lenR bs p m = ((Codec.takeI (bs.drop p.toNat)).1, 0, p + ((Codec.takeI (bs.drop p.toNat)).2.1 : Int)) := by first | exact Codec.lenR_err (by omega) | exact Codec.lenR_neg (by omega) (by omega) | exact Codec.lenR_big (by omega) (by omega) (by omega) | exact Codec.lenR_ok (by omega) (by omega) (by omega)
          replace hf := hf.setv (d := 4) (y := .int .i64 ((Codec.lenR bs p m).1)) rfl (congrArg (Value.int .i64) (by rw [HT]))
          replace hf := hf.setv (d := 5) (y := .int .i64 ((Codec.lenR bs p m).2.1)) rfl (congrArg (Value.int .i64) (by rw [HT]))
          have hb98 : Z.Blk w91 g 126 [.bool true, .slice pA0 bs.length pc0, .int .i64 ((Codec.lenR bs p m).2.2)] := Z.Blk.cast (show Z.Blk w91 g 126 [.bool true, .slice pA0 bs.length pc0, .int .i64 (if ((Codec.takeI (bs.drop p.toNat)).2.2) = 0 then (p + ((Codec.takeI (bs.drop p.toNat)).2.1 : Int)) else p)] from hb92) (by first | rfl | (rw [HT] <;> rfl) | (rw [HT, if_pos (by omega)] <;> rfl) | (rw [HT, if_neg (by omega)] <;> rfl))
          have hq99 : Z.Ch [g] w w91 := hq89.then hc93
          refine Z.ret2 hf Try.results62 rfl rfl ?_
          exact ⟨rfl, hb98, hq99⟩

set_option maxHeartbeats 400000 in
set_option maxRecDepth 20000 in
theorem Clone_spec (xs : List UInt8) (w : World) (pA0 : Option Addr) (pc0 : Nat) (ph0 : (Z.Ty.slice Z.Ty.byte).rep w (Z.nt []) [.slice pA0 xs.length pc0] xs) (hl : xs.length ≤ 70368744177664) :
    Calls Try.prog 31 #[.slice pA0 xs.length pc0] w fun e w' => ∃ (rA0 : Option Addr) (rc0 : Nat), e = .returned (.slice rA0 xs.length rc0) ∧ Z.Own Z.Ty.byte 5 w.heap.size w' Z.no rA0 rc0 xs ∧ Z.Ch [] w w' := by
  refine Z.enter Try.func31 rfl Try.ntmps31 (Nat.le_of_ble_eq_true rfl) fun a hf => ?_
  have hle_pA0 := Z.rep_le ph0
  have ph0o := Z.rep_ol ph0
  refine Z.qseq [.n] [] [] [] Z.k0 hf ?_; clear hf a; intro a hf
  refine Z.seq' (Z.Pq.body _ _ _) fun Q1 hp2 hn3 he4 => ?_
  refine Z.qseq [.n, .n] [4] [] [(4, .bool pA0.isNone)] Z.k0 hf ?_; clear hf a; intro a hf
  refine Z.cond hf rfl ?_ ?_
  · intro hp5
    refine Z.qseq [.n] [2] [] [(2, .slice none 0 0)] Z.k0 hf ?_; clear hf a; intro a hf
    refine Z.ret ?_
    refine he4 _ _ _ (by simp) ?_
    have hxs6 : ([] : List UInt8) = (xs : List UInt8) := by exact (Z.rep_none ph0 hp5).symm
    have ho7 := hxs6 ▸ (Z.Own.nil Z.Ty.byte 5 w.heap.size w Z.no)
    replace hf := hf.setv (d := 2) (y := .slice none xs.length 0) rfl (by rw [← hxs6] <;> first | done | rfl)
    refine Z.ret1 hf Try.results31 rfl ?_
    exact ⟨none, 0, rfl, ho7, (Z.Ch.refl w)⟩
  · intro hp8
    refine Z.skip ?_
    refine hn3 _ _ ?_
    refine Z.seq' (Z.Pq.body _ _ _) fun Q9 hp10 hn11 he12 => ?_
    refine Z.reg ?_
    refine Z.st_bslice0 hf rfl Try.underlying40 Try.sizeOf5 ?_; clear hf a; intro g13 w14 a hg15 hz16 hb17 hc18 hf
    have ho19 : Z.Own Z.Ty.byte 5 g13 w14 Z.no (some ⟨g13, 0, none⟩) 0 ([] : List UInt8) := Z.Own.made (t := Z.Ty.byte) (xs := ([] : List UInt8)) hb17 (Nat.le_refl _) rfl (by simp [maxLen]) (by simp [Value.oneCell']) (fun i x hi => by match i, hi with  | (j + 0), hi => simp at hi)
    refine Z.qr [.n] [6] [] [(6, .slice pA0 xs.length pc0)] Z.k0 hf ?_; clear hf a; intro a hf
    have hr20 := Z.rep_to (F' := (Z.ol [] w.heap.size)) ph0o hc18
    refine Z.st_append_flat (t := Z.Ty.byte) hf rfl Try.underlying40 inf5.1 inf5.2.1 inf5.2.2.1 inf5.2.2.2.1 inf5.2.2.2.2 (by decide) (by decide) rfl rfl (by first | rfl | omega) ho19 rfl hr20 (by first | omega | (simp only [List.length_cons, List.length_nil, List.length_append]; omega) | (simp; done))  (by omega) ?_; clear hf a; intro A21 c22 w23 a ho24 hc25 hcas26 hf
    replace hc25 : Z.Ch [g13] w14 w23 := hc25
    have hzhc25 := hc25.size
    have hob27 : ∀ k, k ∈ Z.obl A21 → k = g13 ∨ k = w14.heap.size := fun k hk => by rcases hcas26 k hk with h | h; (left; simpa [Z.obl] using h); (right; exact h)
    refine Z.qe [.n] [2] [] [(2, .slice A21 ((([] : List UInt8) ++ xs).length) c22)] Z.k0 hf ?_; clear hf a; intro a hf
    refine hn11 _ _ ?_
    refine Z.ret ?_
    have ho29 := (ho24).base (B' := w.heap.size) (by omega)
    have hxs30 : ([] : List UInt8) ++ xs = (xs : List UInt8) := by simp
    have ho31 := hxs30 ▸ ho29
    replace hf := hf.setv (d := 2) (y := .slice A21 xs.length c22) rfl (by rw [← hxs30] <;> first | done | rfl)
    have hq32 : Z.Ch [g13] w w23 := hc18.then hc25
    refine Z.ret1 hf Try.results31 rfl ?_
    exact ⟨A21, c22, rfl, ho31, (Z.Ch.mono hq32 (by intro k hk; (try simp only [List.mem_cons, List.mem_append, List.not_mem_nil, or_false, false_or] at hk ⊢) <;> omega))⟩

set_option maxHeartbeats 400000 in
set_option maxRecDepth 20000 in
theorem New_spec (bs : List UInt8) (w : World) (pA0 : Option Addr) (pc0 : Nat) (ph0 : (Z.Ty.slice Z.Ty.byte).rep w (Z.nt []) [.slice pA0 bs.length pc0] bs) (hl : bs.length ≤ 70368744177664) :
    Calls Try.prog 49 #[.slice pA0 bs.length pc0] w fun e w' => ∃ (rg : Nat), ∃ (rA1 : Option Addr) (rc1 : Nat), e = .returned (.pointer (some ⟨rg, 0, none⟩)) ∧ (Z.Ty.slice Z.Ty.byte).rep w' (Z.nt [rg]) [.slice rA1 bs.length rc1] bs ∧ (w.heap.size ≤ rg ∧ rg < w'.heap.size) ∧ Z.Blk w' rg 126 [.bool true, .slice rA1 bs.length rc1, .int .i64 0] ∧ Z.Ch [] w w' := by
  refine Z.enter Try.func49 rfl Try.ntmps49 (Nat.le_of_ble_eq_true rfl) fun a hf => ?_
  have hle_pA0 := Z.rep_le ph0
  have ph0o := Z.rep_ol ph0
  refine Z.qseq [.n] [] [] [] Z.k0 hf ?_; clear hf a; intro a hf
  refine Z.seq' (Z.Pq.body _ _ _) fun Q1 hp2 hn3 he4 => ?_
  refine Z.reg ?_
  refine Z.qr [.n] [4] [] [(4, .slice pA0 bs.length pc0)] Z.k0 hf ?_; clear hf a; intro a hf
  have hr5 := Z.rep_to (F' := (Z.nt [])) ph0o (Z.Ch.refl w)
  refine Z.call1 hf rfl (Z.r_call cf31 hf (xs := [.tmp 4]) rfl) (Clone_spec bs w pA0 pc0 hr5 (by omega)) ?_; clear hf a
  rintro _ w6 ⟨A7, c8, rfl, ho9, hc11⟩
  have hzhc11 := hc11.size
  refine ⟨_, rfl, ?_⟩; intro a hf
  refine Z.qe [.n] [3] [] [(3, .slice A7 ((bs).length) c8)] Z.k0 hf ?_; clear hf a; intro a hf
  refine hn3 _ _ ?_
  refine Z.seq' (Z.Pq.body _ _ _) fun Q12 hp13 hn14 he15 => ?_
  refine Z.reg ?_
  refine Z.qr [.n, .n, .n, .n, .n] [6, 8, 10] [] [(6, .slice A7 ((bs).length) c8), (8, .int .i64 ((bs).length : Int)), (10, .int .i64 ((bs).length : Int))] Z.k0 hf ?_; clear hf a; intro a hf
  have hr16 := ho9.riv
  have hl17 := Z.rep_slice_len hr16
  have hr18 := Z.rep_cuthm hr16 ((bs).length) ((bs).length) (by omega) (by omega) (by omega)
  have hn19 : (bs.take ((bs).length)).length = ((bs).length) := by first | rfl | omega | (simp only [List.length_take, List.length_drop]; done) | (simp only [List.length_take, List.length_drop]; omega)
  refine Z.val hf rfl (Z.r_slice_hm (v := ((bs).length)) (m := ((bs).length)) Try.underlying40 Try.sizeOf5 (hf.eval rfl) (hf.eval rfl) (hf.eval rfl) (by omega) (by omega) (by omega) (by omega)) ?_; clear hf a; intro a hf
  replace hf := hf.setv (d := 11) (y := .slice A7 ((bs.take ((bs).length)).length) ((bs).length)) rfl (Z.slice_n (by first | rfl | omega | (simp only [List.length_take, List.length_drop]; done) | (simp only [List.length_take, List.length_drop]; omega) | (simp; omega)))
  refine Z.qr [.n] [12] [] [(12, .agg #[.bool true, .slice A7 ((bs.take ((bs).length)).length) ((bs).length), .int .i64 0])] Z.k0 hf ?_; clear hf a; intro a hf
  refine Z.st_box hf rfl rfl rfl ?_; clear hf a; intro g20 w21 a hg22 hz23 hb24 hc25 hf
  refine Z.qe [.n] [2] [] [(2, .pointer (some ⟨g20, 0, none⟩))] Z.k0 hf ?_; clear hf a; intro a hf
  refine hn14 _ _ ?_
  refine Z.ret ?_
  have hr26 := Z.rep_to (F' := (Z.nt [g20])) hr18 hc25
  have hxs27 : bs.take ((bs).length) = (bs : List UInt8) := by first | rfl | (rw [List.take_of_length_le (by omega)]) | (simp; done)
  have hr28 := Z.rep_eq hr26 hxs27
  have hq30 : Z.Ch [] w w21 := hc11.then hc25
  refine Z.ret1 hf Try.results49 rfl ?_
  exact ⟨g20, A7, ((bs).length), rfl, hr28, (by omega), (Z.Blk.cast (show Z.Blk w21 g20 126 [.bool true, .slice A7 ((bs.take ((bs).length)).length) ((bs).length), .int .i64 0] from hb24) (by first | rfl | (rw [hxs27]; done) | (simp only [hxs27]; done) | simp_all)), hq30⟩

end Go.Proofs.Ytlhpkogdcgebeaa
