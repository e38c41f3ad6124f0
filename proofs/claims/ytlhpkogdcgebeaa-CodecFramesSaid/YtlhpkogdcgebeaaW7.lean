/- Walks: a reader's text. -/
import Derived.Test.YtlhpkogdcgebeaaW6
set_option linter.unusedVariables false
set_option linter.unusedSimpArgs false
set_option synthInstance.maxSize 4000
set_option synthInstance.maxHeartbeats 400000
namespace Go.Proofs.Ytlhpkogdcgebeaa
open Go.RowKit
set_option maxHeartbeats 1000000 in
set_option maxRecDepth 20000 in
theorem Text2_spec (g : Nat) (bs : List UInt8) (p : Int) (w : World) (pA0 : Option Addr) (pc0 : Nat) (ph0 : (Z.Ty.slice Z.Ty.byte).rep w (Z.nt [g]) [.slice pA0 bs.length pc0] bs) (pb1 : Z.Blk w g 126 [.bool true, .slice pA0 bs.length pc0, .int .i64 p]) (hp : 0 ≤ p ∧ p ≤ bs.length) :
    Calls Try.prog 50 #[.pointer (some ⟨g, 0, none⟩)] w fun e w' => e = .returned (.tuple #[.string ((Codec.takeT (bs.drop p.toNat)).1), .int .i64 ((Codec.takeT (bs.drop p.toNat)).2.2)]) ∧ Z.Blk w' g 126 [.bool true, .slice pA0 bs.length pc0, .int .i64 (p + ((Codec.takeT (bs.drop p.toNat)).2.1 : Int))] ∧ Z.Ch [g] w w' := by
  refine Z.enter Try.func50 rfl Try.ntmps50 (Nat.le_of_ble_eq_true rfl) fun a hf => ?_
  have hlt_g := pb1.lt
  have hle_pA0 := Z.rep_le ph0
  have ph0o := Z.rep_ol ph0
  have hlr := Codec.lenR_T bs p hp
  refine Z.qseq [.n, .n] [] [] [] Z.k0 hf ?_; clear hf a; intro a hf
  refine Z.seq' (Z.Pq.body _ _ _) fun Q1 hp2 hn3 he4 => ?_
  refine Z.reg ?_
  refine Z.qr [.n] [8] [] [(8, .pointer (some ⟨g, 0, none⟩))] Z.k0 hf ?_; clear hf a; intro a hf
  have hr5 := Z.rep_to (F' := (Z.nt [g])) ph0o (Z.Ch.refl w)
  refine Z.call1 hf rfl (Z.r_call cf61 hf (xs := [.tmp 8]) rfl) (At_spec g bs p w pA0 pc0 hr5 pb1 (by omega)) ?_; clear hf a
  rintro _ w6 ⟨rfl, hc7⟩
  have hzhc7 := hc7.size
  refine ⟨_, rfl, ?_⟩; intro a hf
  refine Z.qe [.n] [4] [] [(4, .int .i64 p)] Z.k0 hf ?_; clear hf a; intro a hf
  refine hn3 _ _ ?_
  refine Z.seq' (Z.Pq.body _ _ _) fun Q8 hp9 hn10 he11 => ?_
  refine Z.reg ?_
  refine Z.qr [.n] [11] [] [(11, .pointer (some ⟨g, 0, none⟩))] Z.k0 hf ?_; clear hf a; intro a hf
  have hb12 := pb1.ch0 hc7
  have hr13 := Z.rep_to (F' := (Z.nt [g])) ph0o hc7
  refine Z.call1 hf rfl (Z.r_call cf62 hf (xs := [.tmp 11, .const (.int .i64 65536)]) rfl) (length_spec g bs p 65536 w6 pA0 pc0 hr13 hb12 (by omega)) ?_; clear hf a
  rintro _ w14 ⟨rfl, hb15, hc16⟩
  have hzhc16 := hc16.size
  refine ⟨_, rfl, ?_⟩; intro a hf
  refine Z.qe [.n, .n, .n, .n, .n] [5, 6] [] [(5, .int .i64 ((Codec.lenR bs p 65536).1)), (6, .int .i64 ((Codec.lenR bs p 65536).2.1))] Z.k0 hf ?_; clear hf a; intro a hf
  refine hn10 _ _ ?_
  refine Z.seq' (Z.Pq.body _ _ _) fun Q17 hp18 hn19 he20 => ?_
  refine Z.qseq [.n, .n] [16] [] [(16, .bool (decide ((Codec.lenR bs p 65536).2.1 ≠ 0)))] Z.k0 hf ?_; clear hf a; intro a hf
  refine Z.condp hf rfl ?_ ?_
  · intro hp21
    refine Z.qseq [.n, .n, .n] [2, 3] [] [(2, .string (ByteArray.mk #[])), (3, .int .i64 ((Codec.lenR bs p 65536).2.1))] Z.k0 hf ?_; clear hf a; intro a hf
    refine Z.ret ?_
    refine he20 _ _ _ (by simp) ?_
    have HT := (hlr.resolve_right (fun h => absurd h.1 (by omega))).2
    replace hf := hf.setv (d := 2) (y := .string ((Codec.takeT (bs.drop p.toNat)).1)) rfl (congrArg Value.string (by first | (rw [HT] <;> first | rfl | (simp; done)) | (rw [HT.1] <;> first | rfl | (simp; done)) | (rw [HT]; simp only []; congr 2; rw [List.drop_take]; congr 1; omega)))
    replace hf := hf.setv (d := 3) (y := .int .i64 ((Codec.takeT (bs.drop p.toNat)).2.2)) rfl (congrArg (Value.int .i64) (by first | (rw [HT] <;> first | rfl | (simp; done)) | (rw [HT.1] <;> first | rfl | (simp; done)) | (rw [HT]; simp only []; congr 2; rw [List.drop_take]; congr 1; omega)))
    have hb22 : Z.Blk w14 g 126 [.bool true, .slice pA0 bs.length pc0, .int .i64 (p + ((Codec.takeT (bs.drop p.toNat)).2.1 : Int))] := Z.Blk.cast (show Z.Blk w14 g 126 [.bool true, .slice pA0 bs.length pc0, .int .i64 ((Codec.lenR bs p 65536).2.2)] from hb15) (by first | rfl | (rw [HT.1, HT.2] <;> first | rfl | (simp; done)) | (rw [HT, if_neg (by omega)] <;> first | rfl | (simp; done)) | (have hh : (Codec.lenR bs p 65536).2.2 + (Codec.lenR bs p 65536).1 = p + ((Codec.takeT (bs.drop p.toNat)).2.1 : Int) := (by rw [HT]; simp only []; omega); rw [← hh]; done))
    have hq23 : Z.Ch [g] w w14 := hc7.then hc16
    refine Z.ret2 hf Try.results50 rfl rfl ?_
    exact ⟨rfl, hb22, hq23⟩
  · intro hp24
    refine Z.skip ?_
    refine hn19 _ _ ?_
    refine Z.seq' (Z.Pq.body _ _ _) fun Q25 hp26 hn27 he28 => ?_
    refine Z.seq' hp26 fun Q29 hp30 hn31 he32 => ?_
    refine Z.dr_reg (S := fun w' => Z.Ch [] w14 w') mixed ?_; intro w33 hc34 hz35
    refine Z.dqr [true, true, true, true, true, true, true, true, true, true, true, true] 0 [(0, .n), (1, .n), (2, .n), (3, .b 0 1), (4, .n), (5, .n), (6, .n), (7, .n), (8, .b 0 2), (9, .n), (10, .n), (11, .n)] [29] [Z.R64 ((bs.length : Int) - ((Codec.lenR bs p 65536).2.2))] [(29, .bool (decide ((bs.length : Int) - ((Codec.lenR bs p 65536).2.2) < (Codec.lenR bs p 65536).1)))] hp30 hc34 (fun w hw => (Z.kb (hb15.ch0 hw) Z.k0)) hf ?_; clear hf a; intro a hf
    refine Z.dr_done (by kernel_rfl) ?_
    refine hn31 _ _ ?_
    refine Z.condp hf rfl ?_ ?_
    · intro hp36
      refine Z.seq' hp26 fun Q37 hp38 hn39 he40 => ?_
      refine Z.reg ?_
      refine Z.qr [.n, .n] [30, 31] [] [(30, .pointer (some ⟨g, 0, none⟩)), (31, .int .i64 p)] Z.k0 hf ?_; clear hf a; intro a hf
      have hb41 := hb15.ch0 hc34
      have hq42 : Z.Ch [g] w w14 := hc7.then hc16
      have hq43 : Z.Ch [g] w w33 := hq42.then hc34
      have hr44 := Z.rep_to (F' := (Z.nt [g])) ph0o hq43
      refine Z.call1 hf rfl (Z.r_call cf63 hf (xs := [.tmp 30, .tmp 31, .const (.int .i64 71)]) rfl) (back_spec g bs ((Codec.lenR bs p 65536).2.2) p 71 w33 pA0 pc0 hr44 hb41 (by omega)) ?_; clear hf a
      rintro _ w45 ⟨rfl, hb46, hc47⟩
      have hzhc47 := hc47.size
      refine ⟨_, rfl, ?_⟩; intro a hf
      refine Z.qe [.n, .n] [2, 3] [] [(2, .string (ByteArray.mk #[])), (3, .int .i64 71)] Z.k0 hf ?_; clear hf a; intro a hf
      refine hn39 _ _ ?_
      refine Z.ret ?_
      refine he28 _ _ _ (by simp) ?_
      obtain ⟨r1, r2, r3, r4, r5, _⟩ := hlr.resolve_left (fun h => absurd h.1 (by omega))
      have HT := (hlr.resolve_left (fun h => absurd h.1 (by omega))).2.2.2.2.2.1 (by omega)
      replace hf := hf.setv (d := 2) (y := .string ((Codec.takeT (bs.drop p.toNat)).1)) rfl (congrArg Value.string (by first | (rw [HT] <;> first | rfl | (simp; done)) | (rw [HT.1] <;> first | rfl | (simp; done)) | (rw [HT]; simp only []; congr 2; rw [List.drop_take]; congr 1; omega)))
      replace hf := hf.setv (d := 3) (y := .int .i64 ((Codec.takeT (bs.drop p.toNat)).2.2)) rfl (congrArg (Value.int .i64) (by first | (rw [HT] <;> first | rfl | (simp; done)) | (rw [HT.1] <;> first | rfl | (simp; done)) | (rw [HT]; simp only []; congr 2; rw [List.drop_take]; congr 1; omega)))
      have hb48 : Z.Blk w45 g 126 [.bool true, .slice pA0 bs.length pc0, .int .i64 (p + ((Codec.takeT (bs.drop p.toNat)).2.1 : Int))] := Z.Blk.cast (show Z.Blk w45 g 126 [.bool true, .slice pA0 bs.length pc0, .int .i64 (if 71 = 0 then ((Codec.lenR bs p 65536).2.2) else p)] from hb46) (by first | rfl | (rw [HT.1, HT.2] <;> first | rfl | (simp; done)) | (rw [HT, if_neg (by omega)] <;> first | rfl | (simp; done)) | (have hh : (Codec.lenR bs p 65536).2.2 + (Codec.lenR bs p 65536).1 = p + ((Codec.takeT (bs.drop p.toNat)).2.1 : Int) := (by rw [HT]; simp only []; omega); rw [← hh]; done))
      have hq49 : Z.Ch [g] w w45 := hq43.then hc47
      refine Z.ret2 hf Try.results50 rfl rfl ?_
      exact ⟨rfl, hb48, hq49⟩
    · intro hp50
      refine Z.skip ?_
      refine hn27 _ _ ?_
      refine Z.seq' (Z.Pq.body _ _ _) fun Q51 hp52 hn53 he54 => ?_
      refine Z.dr_reg (S := fun w' => Z.Ch [] w33 w') mixed ?_; intro w55 hc56 hz57
      have hb58 := hb15.ch0 hc34
      refine Z.dqr [true, true, true, true, true, true, true, true, true, true, true, true, true, true, true, true, true, true, true, true, false, false, false] 3 [(0, .n), (1, .n), (2, .n), (3, .b 0 1), (4, .n), (5, .n), (6, .n), (7, .b 0 2), (8, .n), (9, .n), (10, .n), (11, .b 0 2), (12, .n), (13, .n), (14, .n), (15, .n), (16, .n), (17, .b 0 2), (18, .n), (19, .n)] [36, 40, 46, 52] [Z.R64 ((Codec.lenR bs p 65536).2.2 + (Codec.lenR bs p 65536).1), Z.R64 ((Codec.lenR bs p 65536).2.2 + (Codec.lenR bs p 65536).1)] [(36, .slice pA0 bs.length pc0), (40, .int .i64 ((Codec.lenR bs p 65536).2.2)), (46, .int .i64 ((Codec.lenR bs p 65536).2.2 + (Codec.lenR bs p 65536).1)), (52, .int .i64 ((Codec.lenR bs p 65536).2.2 + (Codec.lenR bs p 65536).1))] hp52 hc56 (fun w hw => (Z.kb (hb58.ch0 hw) Z.k0)) hf ?_; clear hf a; intro a hf
      have hq59 : Z.Ch [g] w w14 := hc7.then hc16
      have hq60 : Z.Ch [g] w w33 := hq59.then hc34
      have hr61 := Z.rep_to (F' := (Z.ol [g] w.heap.size)) ph0o hq60
      have hl62 := Z.rep_slice_len hr61
      have hr63 := Z.rep_cut hr61 ((Codec.lenR bs p 65536).2.2).toNat ((Codec.lenR bs p 65536).2.2 + (Codec.lenR bs p 65536).1).toNat ((Codec.lenR bs p 65536).2.2 + (Codec.lenR bs p 65536).1).toNat (by omega) (by omega) (by omega) (by omega)
      have hn64 : ((bs.take ((Codec.lenR bs p 65536).2.2 + (Codec.lenR bs p 65536).1).toNat).drop ((Codec.lenR bs p 65536).2.2).toNat).length = ((Codec.lenR bs p 65536).2.2 + (Codec.lenR bs p 65536).1).toNat - ((Codec.lenR bs p 65536).2.2).toNat := by first | rfl | omega | (simp only [List.length_take, List.length_drop]; done) | (simp only [List.length_take, List.length_drop]; omega)
      refine Z.dr_val 20 hf rfl rfl (by kernel_rfl) (by kernel_rfl) hp52 hc56 Z.wanted_none (fun _ hw => Z.r_slice_lhm (u := ((Codec.lenR bs p 65536).2.2).toNat) (v := ((Codec.lenR bs p 65536).2.2 + (Codec.lenR bs p 65536).1).toNat) (m := ((Codec.lenR bs p 65536).2.2 + (Codec.lenR bs p 65536).1).toNat) Try.underlying40 Try.sizeOf5 (hf.eval rfl) (hf.eval rfl) (hf.eval rfl) (hf.eval rfl) (by omega) (by omega) (by omega) (by omega) (by omega) (by omega)) ?_; clear hf a; intro a hf
      replace hf := hf.setv (d := 53) (y := .slice (Z.cutA pA0 ((Codec.lenR bs p 65536).2.2 + (Codec.lenR bs p 65536).1).toNat ((Codec.lenR bs p 65536).2.2).toNat 1) (((bs.take ((Codec.lenR bs p 65536).2.2 + (Codec.lenR bs p 65536).1).toNat).drop ((Codec.lenR bs p 65536).2.2).toNat).length) (((Codec.lenR bs p 65536).2.2 + (Codec.lenR bs p 65536).1).toNat - ((Codec.lenR bs p 65536).2.2).toNat)) rfl (Z.slice_n (by first | rfl | omega | (simp only [List.length_take, List.length_drop]; done) | (simp only [List.length_take, List.length_drop]; omega) | (simp; omega)))
      refine Z.dr_one 21 rfl (by kernel_rfl) ?_
      have hr65 := Z.rep_to (F' := (Z.ol [g] w.heap.size)) hr63 hc56
      refine Z.val hf rfl (Z.r_b2s Try.underlying40 Try.underlying5 Try.underlying9 (hf.eval rfl) hr65) ?_; clear hf a; intro a hf
      refine Z.done ?_
      refine And.intro hc56 ?_
      refine Z.dqr [true, true, true, true, true, true, true, true, true, true, true, true, true, true, true, true, true, true, true, true, true, true, true] 0 [(22, .n)] [7] [] [(7, .string (ByteArray.mk ((bs.take ((Codec.lenR bs p 65536).2.2 + (Codec.lenR bs p 65536).1).toNat).drop ((Codec.lenR bs p 65536).2.2).toNat).toArray))] hp52 hc56 (fun w hw => Z.k0) hf ?_; clear hf a; intro a hf
      refine Z.dr_done (by kernel_rfl) ?_
      refine hn53 _ _ ?_
      refine Z.seq' (Z.Pq.body _ _ _) fun Q66 hp67 hn68 he69 => ?_
      refine Z.reg ?_
      have hq70 : Z.Ch [] w14 w55 := hc34.then hc56
      have hb71 := hb15.ch0 hq70
      refine Z.qr [.n, .n, .n, .b 0 2, .n, .n, .n, .n] [60, 62] [Z.R64 ((Codec.lenR bs p 65536).2.2 + (Codec.lenR bs p 65536).1)] [(60, .int .i64 ((Codec.lenR bs p 65536).2.2 + (Codec.lenR bs p 65536).1)), (62, .pointer (some ⟨g, 2, none⟩))] (Z.kb hb71 Z.k0) hf ?_; clear hf a; intro a hf
      refine Z.st_store hf hb71 rfl rfl Try.sizeOf3 rfl rfl rfl (by simp [Value.oneCell']) rfl ?_; clear hf a; intro w72 a hz73 hb74 hc75 hf
      refine Z.done ?_
      refine hn68 _ _ ?_
      refine Z.qseq [.n, .n, .n] [2, 3] [] [(2, .string (ByteArray.mk ((bs.take ((Codec.lenR bs p 65536).2.2 + (Codec.lenR bs p 65536).1).toNat).drop ((Codec.lenR bs p 65536).2.2).toNat).toArray)), (3, .int .i64 0)] Z.k0 hf ?_; clear hf a; intro a hf
      refine Z.ret ?_
      obtain ⟨r1, r2, r3, r4, r5, _⟩ := hlr.resolve_left (fun h => absurd h.1 (by omega))
      have HT := (hlr.resolve_left (fun h => absurd h.1 (by omega))).2.2.2.2.2.2 (by omega)
      replace hf := hf.setv (d := 2) (y := .string ((Codec.takeT (bs.drop p.toNat)).1)) rfl (congrArg Value.string (by first | (rw [HT] <;> first | rfl | (simp; done)) | (rw [HT.1] <;> first | rfl | (simp; done)) | (rw [HT]; simp only []; congr 2; rw [List.drop_take]; congr 1; omega)))
      replace hf := hf.setv (d := 3) (y := .int .i64 ((Codec.takeT (bs.drop p.toNat)).2.2)) rfl (congrArg (Value.int .i64) (by first | (rw [HT] <;> first | rfl | (simp; done)) | (rw [HT.1] <;> first | rfl | (simp; done)) | (rw [HT]; simp only []; congr 2; rw [List.drop_take]; congr 1; omega)))
      have hb76 : Z.Blk w72 g 126 [.bool true, .slice pA0 bs.length pc0, .int .i64 (p + ((Codec.takeT (bs.drop p.toNat)).2.1 : Int))] := Z.Blk.cast (show Z.Blk w72 g 126 [.bool true, .slice pA0 bs.length pc0, .int .i64 ((Codec.lenR bs p 65536).2.2 + (Codec.lenR bs p 65536).1)] from hb74) (by first | rfl | (rw [HT.1, HT.2] <;> first | rfl | (simp; done)) | (rw [HT, if_neg (by omega)] <;> first | rfl | (simp; done)) | (have hh : (Codec.lenR bs p 65536).2.2 + (Codec.lenR bs p 65536).1 = p + ((Codec.takeT (bs.drop p.toNat)).2.1 : Int) := (by rw [HT]; simp only []; omega); rw [← hh]; done))
      have hq77 : Z.Ch [g] w w14 := hc7.then hc16
      have hq78 : Z.Ch [g] w w33 := hq77.then hc34
      have hq79 : Z.Ch [g] w w55 := hq78.then hc56
      have hq80 : Z.Ch [g] w w72 := hq79.then hc75
      refine Z.ret2 hf Try.results50 rfl rfl ?_
      exact ⟨rfl, hb76, hq80⟩

end Go.Proofs.Ytlhpkogdcgebeaa
