/- Walks: frames are read. -/
import Derived.Test.YtlhpkogdcgebeaaW7
import Derived.Test.YtlhpkogdcgebeaaZl
set_option linter.unusedVariables false
set_option linter.unusedSimpArgs false
set_option synthInstance.maxSize 4000
set_option synthInstance.maxHeartbeats 400000
namespace Go.Proofs.Ytlhpkogdcgebeaa
open Go.RowKit
set_option maxHeartbeats 400000 in
set_option maxRecDepth 20000 in
theorem RFrames_spec (bs : List UInt8) (w : World) (pA0 : Option Addr) (pc0 : Nat) (ph0 : (Z.Ty.slice Z.Ty.byte).rep w (Z.nt []) [.slice pA0 bs.length pc0] bs) (hm : bs.length ≤ 1048576) :
    Calls Try.prog 14 #[.slice pA0 bs.length pc0] w fun e w' => ∃ (rA0 : Option Addr) (rc0 : Nat), e = .returned (.slice rA0 (Codec.frames bs).length rc0) ∧ Z.Own (Z.Ty.slice Z.Ty.byte) 40 w.heap.size w' (Z.nt (([] : List Nat) ++ Z.obl rA0)) rA0 rc0 (Codec.frames bs) ∧ Z.Ch [] w w' := by
  refine Z.enter Try.func14 rfl Try.ntmps14 (Nat.le_of_ble_eq_true rfl) fun a hf => ?_
  have hle_pA0 := Z.rep_le ph0
  have ph0o := Z.rep_ol ph0
  refine Z.qseq [.n] [] [] [] Z.k0 hf ?_; clear hf a; intro a hf
  refine Z.qseq [.n] [3] [] [(3, .slice none 0 0)] Z.k0 hf ?_; clear hf a; intro a hf
  refine Z.seq' (Z.Pq.body _ _ _) fun Q1 hp2 hn3 he4 => ?_
  refine Z.block' hp2 fun Q5 hp6 hn7 hx8 he9 => ?_
  refine Z.loop' hp6 (fun m a wl => ∃ (k : Nat), ∃ (out : List (List UInt8)), ∃ (lA0 : Option Addr), ∃ (lc0 : Nat), ∃ (lA2 : Option Addr), ∃ (lc2 : Nat), m = bs.length - k ∧ Z.Ch [] w wl ∧ (Z.Ty.slice Z.Ty.byte).rep wl (Z.ol [] w.heap.size) [.slice lA0 ((bs.drop k).length) lc0] (bs.drop k) ∧ Z.Own (Z.Ty.slice Z.Ty.byte) 40 w.heap.size wl (Z.nt (([] : List Nat) ++ Z.obl lA2)) lA2 lc2 out ∧ (k ≤ bs.length) ∧ (out ++ Codec.frames (bs.drop k) = Codec.frames bs) ∧ (out.length ≤ k) ∧ Z.Fr a 28 [] [(0, .slice lA0 ((bs.drop k).length) lc0), (3, .slice lA2 out.length lc2)]) (bs.length - 0) ?_ ?_
  · have hr10 : (Z.Ty.slice Z.Ty.byte).rep w (Z.ol [] w.heap.size) [.slice pA0 bs.length pc0] bs := Z.rep_as ph0o (by intro b h1 h2; simp only [Z.nt, Z.iv, Z.no, Z.ol, List.mem_cons, List.not_mem_nil, or_false, not_false_eq_true, true_and] at h1 ⊢; omega)
    have hxs11 : bs = (bs.drop 0 : List UInt8) := by first | rfl | (simp; done) | (rw [List.drop_drop]; done) | (rw [← hf, Codec.frames_stop (by omega)]; simp; done) | (rw [← hf, List.drop_of_length_le (by omega), Codec.frames_nil]; simp; done)
    have hr12 := Z.rep_eq hr10 hxs11
    replace hf := hf.setv (d := 0) (y := .slice pA0 ((bs.drop 0).length) pc0) rfl (by rw [← hxs11] <;> first | done | rfl)
    replace hf := hf.setv (d := 3) (y := .slice none (([] : List (List UInt8)).length) 0) rfl (by first | rfl | (congr 1; first | rfl | omega | (simp; done) | (simp; omega)))
    exact ⟨0, ([] : List (List UInt8)), pA0, pc0, none, 0, rfl, (Z.Ch.refl w), hr12, (Z.Own.nil (Z.Ty.slice Z.Ty.byte) 40 w.heap.size w (Z.nt (([] : List Nat) ++ Z.obl none))), (by rw [List.length_drop] at *; omega), (by simp), (by simp), (hf.keep [0, 3])⟩
  · rintro m32 a w14 ⟨k17, out18, A23, c24, A26, c27, hm16, hc15, hr25, ho28, hk29, hf30, hl31, hf⟩ Q19 hp20 hn21 he22
    have hzhc15 := hc15.size
    refine Z.seq' hp20 fun Q33 hp34 hn35 he36 => ?_
    refine Z.qseq [.n, .n, .n] [9] [] [(9, .bool (decide (0 < ((bs.drop k17).length : Int))))] Z.k0 hf ?_; clear hf a; intro a hf
    refine Z.condp hf rfl ?_ ?_
    · intro hp37
      refine Z.skip ?_
      refine hn35 _ _ ?_
      refine Z.block' hp20 fun Q38 hp39 hn40 hx41 he42 => ?_
      refine Z.seq' hp39 fun Q43 hp44 hn45 he46 => ?_
      refine Z.reg ?_
      refine Z.qr [.n] [11] [] [(11, .slice A23 ((bs.drop k17).length) c24)] Z.k0 hf ?_; clear hf a; intro a hf
      have hr47 := Z.rep_to (F' := (Z.nt [])) hr25 (Z.Ch.refl w14)
      refine Z.call1 hf rfl (Z.r_call cf28 hf (xs := [.tmp 11]) rfl) (RTakeText_spec (bs.drop k17) w14 A23 c24 hr47) ?_; clear hf a
      rintro _ w48 ⟨rfl, hc49⟩
      have hzhc49 := hc49.size
      refine ⟨_, rfl, ?_⟩; intro a hf
      have hall := Codec.takeT_all (bs.drop k17)
      rw [List.length_drop] at hall
      refine Z.qe [.n, .n, .n, .n, .n, .n, .n] [4, 5, 6] [] [(4, .string ((Codec.takeT (bs.drop k17)).1)), (5, .int .i64 ((Codec.takeT (bs.drop k17)).2.1 : Int)), (6, .int .i64 ((Codec.takeT (bs.drop k17)).2.2))] Z.k0 hf ?_; clear hf a; intro a hf
      refine hn45 _ _ ?_
      refine Z.seq' hp39 fun Q50 hp51 hn52 he53 => ?_
      refine Z.qseq [.n, .n] [17] [] [(17, .bool (decide ((Codec.takeT (bs.drop k17)).2.2 ≠ 0)))] Z.k0 hf ?_; clear hf a; intro a hf
      refine Z.condp hf rfl ?_ ?_
      · intro hp54
        refine Z.qseq [.n, .n] [2] [] [(2, .slice A26 out18.length c27)] Z.k0 hf ?_; clear hf a; intro a hf
        refine Z.ret ?_
        refine he53 _ _ _ (by simp) ?_
        refine he42 _ _ _ (by simp) (by simp) ?_
        refine he22 _ _ _ (by simp) ?_
        refine he9 _ _ _ (by simp) (by simp) ?_
        refine he4 _ _ _ (by simp) ?_
        have ho55 := ho28.ch0 hc49
        have hxs56 : out18 = (Codec.frames bs : List (List UInt8)) := by rw [← hf30, Codec.frames_stop (by omega)] <;> simp
        have ho57 := hxs56 ▸ ho55
        replace hf := hf.setv (d := 2) (y := .slice A26 ((Codec.frames bs).length) c27) rfl (by rw [← hxs56] <;> first | done | rfl)
        have hq58 : Z.Ch [] w w48 := hc15.then hc49
        refine Z.ret1 hf Try.results14 rfl ?_
        exact ⟨A26, c27, rfl, ho57, hq58⟩
      · intro hp59
        refine Z.skip ?_
        refine hn52 _ _ ?_
        refine Z.seq' hp39 fun Q60 hp61 hn62 he63 => ?_
        refine Z.reg ?_
        refine Z.qr [.n, .n] [19, 20] [] [(19, .slice A26 out18.length c27), (20, .string ((Codec.takeT (bs.drop k17)).1))] Z.k0 hf ?_; clear hf a; intro a hf
        refine Z.st_s2b hf rfl Try.underlying9 Try.underlying40 Try.underlying5 rfl (by rcases hall with h | h; (simp only [maxLen]; omega); (rw [h.2.2]; exact Nat.le_of_ble_eq_true rfl)) ?_; clear hf a; intro g64 c65 w66 a hg67 hz68 hr69 hc70 hf
        refine Z.st_bslice hf rfl Try.underlying46 Try.sizeOf40 Try.zeroValue40 (parts := [(0, .tmp 21)]) (cs := [.slice (some ⟨g64, 0, none⟩) ((((Codec.takeT (bs.drop k17)).1).data.toList).length) c65]) rfl rfl rfl (by kernel_rfl) ?_; clear hf a; intro g71 w72 a hg73 hz74 hb75 hc76 hf
        have hr78 := Z.rep_to (F' := (Z.nt [])) hr69 hc76
        have ho77 : Z.Own (Z.Ty.slice Z.Ty.byte) 40 g71 w72 (Z.nt []) (some ⟨g71, 0, none⟩) 1 ([((Codec.takeT (bs.drop k17)).1).data.toList] : List (List UInt8)) := Z.Own.made (t := (Z.Ty.slice Z.Ty.byte)) (xs := ([((Codec.takeT (bs.drop k17)).1).data.toList] : List (List UInt8))) hb75 (Nat.le_refl _) rfl (by simp [maxLen]) (by simp [Value.oneCell']) (fun i x hi => by match i, hi with | 0, hi => (injection hi with hi; subst hi; exact hr78) | (j + 1), hi => simp at hi)
        have hq79 : Z.Ch [] w14 w66 := hc49.then hc70
        have hq80 : Z.Ch [] w14 w72 := hq79.then hc76
        have ho81 := ho28.ch0 hq80
        have hr82 := Z.rep_to (F' := (Z.iv g64 (g64 + 1))) hr69 hc76
        have hr83 : (Z.Ty.slice Z.Ty.byte).rep w72 (Z.nt (([] : List Nat) ++ Z.obl A26)) [.slice (some ⟨g64, 0, none⟩) ((((Codec.takeT (bs.drop k17)).1).data.toList).length) c65] (((Codec.takeT (bs.drop k17)).1).data.toList) := Z.rep_as hr82 (by intro b h1 h2; (try simp only [Z.nt, Z.iv, Z.no, Z.ol] at h1); intro hm; rcases List.mem_append.1 hm with hm | hm; (simp only [List.mem_cons, List.not_mem_nil, or_false] at hm <;> omega); (have hob := ho28.lt b hm; omega))
        have ho84 : Z.Own (Z.Ty.slice Z.Ty.byte) 40 g71 w72 (Z.nt (([] : List Nat) ++ Z.obl A26)) (some ⟨g71, 0, none⟩) 1 ([((Codec.takeT (bs.drop k17)).1).data.toList] : List (List UInt8)) := Z.Own.made (t := (Z.Ty.slice Z.Ty.byte)) (xs := ([((Codec.takeT (bs.drop k17)).1).data.toList] : List (List UInt8))) hb75 (Nat.le_refl _) rfl (by simp [maxLen]) (by simp [Value.oneCell']) (fun i x hi => by match i, hi with | 0, hi => (injection hi with hi; subst hi; exact hr83) | (j + 1), hi => simp at hi)
        have hr85 := ho84.rep' (F' := (Z.nt (([] : List Nat) ++ Z.obl A26))) (fun _ h => h) (fun b h1 h2 => by intro hm; rcases List.mem_append.1 hm with hm | hm; (simp only [List.mem_cons, List.not_mem_nil, or_false] at hm <;> omega); (have hob := ho28.lt b hm; omega))
        refine Z.st_append_deep (M := []) (t := (Z.Ty.slice Z.Ty.byte)) hf rfl Try.underlying46 inf40.1 inf40.2.1 inf40.2.2.1 inf40.2.2.2.1 inf40.2.2.2.2 (by decide) (by decide)  rfl (by first | rfl | omega) ho81 rfl hr85 (by first | omega | (simp only [List.length_cons, List.length_nil, List.length_append]; omega) | (simp; done)) (fun b h1 _ => h1) (by omega) ?_; clear hf a; intro A86 c87 w88 a ho89 hc90 hcas91 hf
        have hzhc90 := hc90.size
        have hob92 : ∀ k, k ∈ Z.obl A86 → w.heap.size ≤ k ∧ k < w14.heap.size ∨ k = w72.heap.size := fun k hk => by rcases hcas91 k hk with h | h; (have := ho28.lt k h; omega); omega
        refine Z.qe [.n] [3] [] [(3, .slice A86 ((out18 ++ ([((Codec.takeT (bs.drop k17)).1).data.toList] : List (List UInt8))).length) c87)] Z.k0 hf ?_; clear hf a; intro a hf
        refine hn62 _ _ ?_
        refine Z.reg ?_
        refine Z.qr [.n, .n] [24, 25] [] [(24, .slice A23 ((bs.drop k17).length) c24), (25, .int .i64 ((Codec.takeT (bs.drop k17)).2.1 : Int))] Z.k0 hf ?_; clear hf a; intro a hf
        have hq93 : Z.Ch ([] ++ Z.obl A26) w14 w88 := hq80.then hc90 (by simp) (by first | (intro k hk; simp [hk]; done) | (intro k hk; simp at hk; simp [hk]; done) | (intro k hk; simp at hk; rcases hk with hk | hk <;> simp [hk]))
        have hr94 := Z.rep_to (F' := (Z.ol [] w.heap.size)) hr25 hq93 (by intro b h1 h2; (try simp only [Z.nt, Z.iv, Z.no, Z.ol, List.mem_cons, List.not_mem_nil, or_false, not_or, not_false_eq_true] at h1); have hm0 : ¬ b ∈ Z.obl A26 := fun hm => (by have hob := ho28.lt b hm; omega); (try simp only [hm0, Z.nt, Z.iv, Z.no, Z.ol, List.mem_cons, List.mem_append, List.not_mem_nil, or_false, not_or, not_false_eq_true, true_and, and_true]) <;> omega)
        have hl95 := Z.rep_slice_len hr94
        have hr96 := Z.rep_cut0 hr94 ((Codec.takeT (bs.drop k17)).2.1) (by first | omega | (rw [List.length_drop]; omega))
        have hn97 : ((bs.drop k17).drop ((Codec.takeT (bs.drop k17)).2.1)).length = (bs.drop k17).length - ((Codec.takeT (bs.drop k17)).2.1) := by first | rfl | omega | (simp only [List.length_take, List.length_drop]; done) | (simp only [List.length_take, List.length_drop]; omega)
        refine Z.val hf rfl (Z.r_slice_l (u := ((Codec.takeT (bs.drop k17)).2.1)) Try.underlying40 Try.sizeOf5 (hf.eval rfl) (hf.eval rfl) (by omega) (by first | omega | (rw [List.length_drop]; omega))) ?_; clear hf a; intro a hf
        replace hf := hf.setv (d := 26) (y := .slice (Z.cutA A23 c24 ((Codec.takeT (bs.drop k17)).2.1) 1) (((bs.drop k17).drop ((Codec.takeT (bs.drop k17)).2.1)).length) (c24 - ((Codec.takeT (bs.drop k17)).2.1))) rfl (Z.slice_n (by first | rfl | omega | (simp only [List.length_take, List.length_drop]; done) | (simp only [List.length_take, List.length_drop]; omega) | (simp; omega)))
        refine Z.qe [.n] [0] [] [(0, .slice (Z.cutA A23 c24 ((Codec.takeT (bs.drop k17)).2.1) 1) (((bs.drop k17).drop ((Codec.takeT (bs.drop k17)).2.1)).length) (c24 - ((Codec.takeT (bs.drop k17)).2.1)))] Z.k0 hf ?_; clear hf a; intro a hf
        refine hn40 _ _ ?_
        refine hn21 (bs.length - (k17 + (Codec.takeT (bs.drop k17)).2.1)) _ _ ?_ ?_
        rotate_left
        have hr98 : (Z.Ty.slice Z.Ty.byte).rep w88 (Z.ol [] w.heap.size) [.slice (Z.cutA A23 c24 ((Codec.takeT (bs.drop k17)).2.1) 1) (((bs.drop k17).drop ((Codec.takeT (bs.drop k17)).2.1)).length) (c24 - ((Codec.takeT (bs.drop k17)).2.1))] ((bs.drop k17).drop ((Codec.takeT (bs.drop k17)).2.1)) := Z.rep_as hr96 (by intro b h1 h2; simp only [Z.nt, Z.iv, Z.no, Z.ol, List.mem_cons, List.not_mem_nil, or_false, not_false_eq_true, true_and] at h1 ⊢; omega)
        have hxs99 : (bs.drop k17).drop ((Codec.takeT (bs.drop k17)).2.1) = (bs.drop (k17 + (Codec.takeT (bs.drop k17)).2.1 : Nat) : List UInt8) := by first | rfl | (simp; done) | (rw [List.drop_drop]; done) | (rw [← hf, Codec.frames_stop (by omega)]; simp; done) | (rw [← hf, List.drop_of_length_le (by omega), Codec.frames_nil]; simp; done)
        have hr100 := Z.rep_eq hr98 hxs99
        replace hf := hf.setv (d := 0) (y := .slice (Z.cutA A23 c24 ((Codec.takeT (bs.drop k17)).2.1) 1) ((bs.drop (k17 + (Codec.takeT (bs.drop k17)).2.1 : Nat)).length) (c24 - ((Codec.takeT (bs.drop k17)).2.1))) rfl (by rw [← hxs99] <;> first | done | rfl)
        have hxs102 : out18 ++ ([((Codec.takeT (bs.drop k17)).1).data.toList] : List (List UInt8)) = ((out18 ++ [(Codec.takeT (bs.drop k17)).1.data.toList]) : List (List UInt8)) := by first | rfl | (simp; done) | (rw [List.drop_drop]; done) | (rw [← hf, Codec.frames_stop (by omega)]; simp; done) | (rw [← hf, List.drop_of_length_le (by omega), Codec.frames_nil]; simp; done)
        have ho103 := hxs102 ▸ ho89
        replace hf := hf.setv (d := 3) (y := .slice A86 ((out18 ++ [(Codec.takeT (bs.drop k17)).1.data.toList]).length) c87) rfl (by rw [← hxs102] <;> first | done | rfl)
        have hq104 : Z.Ch [] w w48 := hc15.then hc49
        have hq105 : Z.Ch [] w w66 := hq104.then hc70
        have hq106 : Z.Ch [] w w72 := hq105.then hc76
        have hq107 : Z.Ch ([] ++ Z.obl A26) w w88 := hq106.then hc90 (by simp) (by first | (intro k hk; simp [hk]; done) | (intro k hk; simp at hk; simp [hk]; done) | (intro k hk; simp at hk; rcases hk with hk | hk <;> simp [hk]))
        exact ⟨k17 + (Codec.takeT (bs.drop k17)).2.1, out18 ++ [(Codec.takeT (bs.drop k17)).1.data.toList], Z.cutA A23 c24 ((Codec.takeT (bs.drop k17)).2.1) 1, c24 - ((Codec.takeT (bs.drop k17)).2.1), A86, c87, rfl, (hq107.mono (by intro k hk; exact (Classical.em (k ∈ Z.obl A26)).elim (fun hm0 => by have hob := ho28.lt k hm0; (try simp only [List.mem_cons, List.mem_append, List.not_mem_nil, or_false, false_or]) <;> omega) (fun hm0 => by (try simp only [hm0, List.mem_cons, List.mem_append, List.not_mem_nil, or_false, false_or] at hk ⊢) <;> omega))), hr100, ho103, (by rw [List.length_drop] at *; omega), (by rw [← hf30, Codec.frames_go hp59, List.drop_drop]; simp), (by simp only [List.length_append, List.length_cons, List.length_nil]; omega), (hf.keep [0, 3])⟩
        rw [hm16]; omega
    · intro hp108
      refine Z.exit ?_
      refine he36 _ _ _ (by simp) ?_
      refine he22 _ _ _ (by simp) ?_
      refine hx8 _ _ ?_
      refine hn3 _ _ ?_
      refine Z.qseq [.n, .n] [2] [] [(2, .slice A26 out18.length c27)] Z.k0 hf ?_; clear hf a; intro a hf
      refine Z.ret ?_
      have hxs109 : out18 = (Codec.frames bs : List (List UInt8)) := by rw [← hf30, List.drop_of_length_le (by rw [List.length_drop] at *; omega), Codec.frames_nil] <;> simp
      have ho110 := hxs109 ▸ ho28
      replace hf := hf.setv (d := 2) (y := .slice A26 ((Codec.frames bs).length) c27) rfl (by rw [← hxs109] <;> first | done | rfl)
      refine Z.ret1 hf Try.results14 rfl ?_
      exact ⟨A26, c27, rfl, ho110, hc15⟩

set_option maxHeartbeats 400000 in
set_option maxRecDepth 20000 in
theorem frames_spec (bs : List UInt8) (w : World) (pA0 : Option Addr) (pc0 : Nat) (ph0 : (Z.Ty.slice Z.Ty.byte).rep w (Z.nt []) [.slice pA0 bs.length pc0] bs) (hm : bs.length ≤ 1048576) :
    Calls Try.prog 29 #[.slice pA0 bs.length pc0] w fun e w' => ∃ (rA0 : Option Addr) (rc0 : Nat), e = .returned (.slice rA0 (Codec.frames bs).length rc0) ∧ Z.Own (Z.Ty.slice Z.Ty.byte) 40 w.heap.size w' (Z.nt (([] : List Nat) ++ Z.obl rA0)) rA0 rc0 (Codec.frames bs) ∧ Z.Ch [] w w' := by
  refine Z.enter Try.func29 rfl Try.ntmps29 (Nat.le_of_ble_eq_true rfl) fun a hf => ?_
  have hle_pA0 := Z.rep_le ph0
  have ph0o := Z.rep_ol ph0
  refine Z.qseq [.n] [] [] [] Z.k0 hf ?_; clear hf a; intro a hf
  refine Z.qseq [.n] [3] [] [(3, .slice none 0 0)] Z.k0 hf ?_; clear hf a; intro a hf
  refine Z.seq' (Z.Pq.body _ _ _) fun Q1 hp2 hn3 he4 => ?_
  refine Z.reg ?_
  refine Z.qr [.n] [7] [] [(7, .slice pA0 bs.length pc0)] Z.k0 hf ?_; clear hf a; intro a hf
  have hr5 := Z.rep_to (F' := (Z.nt [])) ph0o (Z.Ch.refl w)
  refine Z.call1 hf rfl (Z.r_call cf49 hf (xs := [.tmp 7]) rfl) (New_spec bs w pA0 pc0 hr5 (by omega)) ?_; clear hf a
  rintro _ w6 ⟨g7, A8, c9, rfl, hr10, hg11, hb12, hc13⟩
  have hzhc13 := hc13.size
  refine ⟨_, rfl, ?_⟩; intro a hf
  refine Z.qe [.n] [4] [] [(4, .pointer (some ⟨g7, 0, none⟩))] Z.k0 hf ?_; clear hf a; intro a hf
  refine hn3 _ _ ?_
  refine Z.block' (Z.Pq.body _ _ _) fun Q14 hp15 hn16 hx17 he18 => ?_
  refine Z.loop' hp15 (fun m a wl => ∃ (k : Nat), ∃ (out : List (List UInt8)), ∃ (lA0 : Option Addr), ∃ (lc0 : Nat), ∃ (lA2 : Option Addr), ∃ (lc2 : Nat), m = bs.length - k ∧ Z.Ch [g7] w6 wl ∧ Z.Own (Z.Ty.slice Z.Ty.byte) 40 w6.heap.size wl (Z.nt ([g7] ++ Z.obl lA0)) lA0 lc0 out ∧ (Z.Ty.slice Z.Ty.byte).rep wl (Z.ol [g7] w6.heap.size) [.slice lA2 bs.length lc2] bs ∧ Z.Blk wl g7 126 [.bool true, .slice lA2 bs.length lc2, .int .i64 (k : Int)] ∧ (k ≤ bs.length) ∧ (out ++ Codec.frames (bs.drop ((k : Int)).toNat) = Codec.frames bs) ∧ (out.length ≤ k) ∧ Z.Fr a 22 [] [(3, .slice lA0 out.length lc0), (4, .pointer (some ⟨g7, 0, none⟩))]) (bs.length - 0) ?_ ?_
  · replace hf := hf.setv (d := 3) (y := .slice none (([] : List (List UInt8)).length) 0) rfl (by first | rfl | (congr 1; first | rfl | omega | (simp; done) | (simp; omega)))
    have hr19 : (Z.Ty.slice Z.Ty.byte).rep w6 (Z.ol [g7] w6.heap.size) [.slice A8 ((bs).length) c9] bs := Z.rep_as hr10 (by intro b h1 h2; simp only [Z.nt, Z.iv, Z.no, Z.ol, List.mem_cons, List.not_mem_nil, or_false, not_false_eq_true, true_and] at h1 ⊢; omega)
    exact ⟨0, ([] : List (List UInt8)), none, 0, A8, c9, rfl, (Z.Ch.refl' _ _), (Z.Own.nil (Z.Ty.slice Z.Ty.byte) 40 w6.heap.size w6 (Z.nt ([g7] ++ Z.obl none))), hr19, (Z.Blk.cast (show Z.Blk w6 g7 126 [.bool true, .slice A8 ((bs).length) c9, .int .i64 0] from hb12) (by first | rfl | (simp only [List.length_append]; done) | simp_all)), (by omega), (by simp), (by simp), (hf.keep [3, 4])⟩
  · rintro m39 a w20 ⟨k23, out24, A29, c30, A32, c33, hm22, hc21, ho31, hr34, hb35, hk36, hf37, hl38, hf⟩ Q25 hp26 hn27 he28
    have hzhc21 := hc21.size
    refine Z.block' hp26 fun Q40 hp41 hn42 hx43 he44 => ?_
    refine Z.seq' hp41 fun Q45 hp46 hn47 he48 => ?_
    refine Z.reg ?_
    refine Z.qr [.n] [10] [] [(10, .pointer (some ⟨g7, 0, none⟩))] Z.k0 hf ?_; clear hf a; intro a hf
    have hr49 := Z.rep_to (F' := (Z.nt [g7])) hr34 (Z.Ch.refl w20)
    refine Z.call1 hf rfl (Z.r_call cf50 hf (xs := [.tmp 10]) rfl) (Text2_spec g7 bs (k23 : Int) w20 A32 c33 hr49 hb35 (by omega)) ?_; clear hf a
    rintro _ w50 ⟨rfl, hb51, hc52⟩
    have hzhc52 := hc52.size
    refine ⟨_, rfl, ?_⟩; intro a hf
    have hall := Codec.takeT_all (bs.drop ((k23 : Int)).toNat)
    rw [List.length_drop] at hall
    refine Z.qe [.n, .n, .n, .n, .n] [5, 6] [] [(5, .string ((Codec.takeT (bs.drop (k23 : Int).toNat)).1)), (6, .int .i64 ((Codec.takeT (bs.drop (k23 : Int).toNat)).2.2))] Z.k0 hf ?_; clear hf a; intro a hf
    refine hn47 _ _ ?_
    refine Z.seq' hp41 fun Q53 hp54 hn55 he56 => ?_
    refine Z.qseq [.n, .n] [15] [] [(15, .bool (decide ((Codec.takeT (bs.drop (k23 : Int).toNat)).2.2 ≠ 0)))] Z.k0 hf ?_; clear hf a; intro a hf
    refine Z.condp hf rfl ?_ ?_
    · intro hp57
      refine Z.qseq [.n, .n] [2] [] [(2, .slice A29 out24.length c30)] Z.k0 hf ?_; clear hf a; intro a hf
      refine Z.ret ?_
      refine he56 _ _ _ (by simp) ?_
      refine he44 _ _ _ (by simp) (by simp) ?_
      refine he28 _ _ _ (by simp) ?_
      refine he18 _ _ _ (by simp) (by simp) ?_
      have ho58 := ho31.to (F' := (Z.nt ([g7] ++ Z.obl A29))) hc52 (by intro k hk h1 h2; have hob := ho31.lt k hk; simp only [List.mem_cons, List.not_mem_nil, or_false, not_or]; omega) (fun b h0 h2 => ⟨by have h1 := h0; (try simp only [Z.nt, List.mem_append, List.mem_cons, List.not_mem_nil, or_false, false_or, not_or] at h1); simp only [List.mem_cons, List.not_mem_nil, or_false, not_or, not_false_eq_true] <;> omega, h0⟩)
      have ho59 := (ho58).base (B' := w.heap.size) (by omega)
      have hxs60 : out24 = (Codec.frames bs : List (List UInt8)) := by rw [← hf37, Codec.frames_stop (by omega)] <;> simp
      have ho61 := hxs60 ▸ ho59
      have ho62 := (ho61).more (F' := (Z.nt (([] : List Nat) ++ Z.obl A29))) (fun b hb hm => hb (by simp only [List.nil_append] at hm; simp [hm]))
      replace hf := hf.setv (d := 2) (y := .slice A29 ((Codec.frames bs).length) c30) rfl (by rw [← hxs60] <;> first | done | rfl)
      have hq63 : Z.Ch [g7] w w20 := hc13.then hc21
      have hq64 : Z.Ch [g7] w w50 := hq63.then hc52
      refine Z.ret1 hf Try.results29 rfl ?_
      exact ⟨A29, c30, rfl, ho62, (Z.Ch.mono hq64 (by intro k hk; (try simp only [List.mem_cons, List.mem_append, List.not_mem_nil, or_false, false_or] at hk ⊢) <;> omega))⟩
    · intro hp65
      refine Z.skip ?_
      refine hn55 _ _ ?_
      refine Z.reg ?_
      refine Z.qr [.n, .n] [17, 18] [] [(17, .slice A29 out24.length c30), (18, .string ((Codec.takeT (bs.drop (k23 : Int).toNat)).1))] Z.k0 hf ?_; clear hf a; intro a hf
      refine Z.st_s2b hf rfl Try.underlying9 Try.underlying40 Try.underlying5 rfl (by rcases hall with h | h; (simp only [maxLen]; omega); (rw [h.2.2]; exact Nat.le_of_ble_eq_true rfl)) ?_; clear hf a; intro g66 c67 w68 a hg69 hz70 hr71 hc72 hf
      refine Z.st_bslice hf rfl Try.underlying46 Try.sizeOf40 Try.zeroValue40 (parts := [(0, .tmp 19)]) (cs := [.slice (some ⟨g66, 0, none⟩) ((((Codec.takeT (bs.drop (k23 : Int).toNat)).1).data.toList).length) c67]) rfl rfl rfl (by kernel_rfl) ?_; clear hf a; intro g73 w74 a hg75 hz76 hb77 hc78 hf
      have hr80 := Z.rep_to (F' := (Z.nt [])) hr71 hc78
      have ho79 : Z.Own (Z.Ty.slice Z.Ty.byte) 40 g73 w74 (Z.nt []) (some ⟨g73, 0, none⟩) 1 ([((Codec.takeT (bs.drop (k23 : Int).toNat)).1).data.toList] : List (List UInt8)) := Z.Own.made (t := (Z.Ty.slice Z.Ty.byte)) (xs := ([((Codec.takeT (bs.drop (k23 : Int).toNat)).1).data.toList] : List (List UInt8))) hb77 (Nat.le_refl _) rfl (by simp [maxLen]) (by simp [Value.oneCell']) (fun i x hi => by match i, hi with | 0, hi => (injection hi with hi; subst hi; exact hr80) | (j + 1), hi => simp at hi)
      have hq81 : Z.Ch [g7] w20 w68 := hc52.then hc72
      have hq82 : Z.Ch [g7] w20 w74 := hq81.then hc78
      have ho83 := ho31.to (F' := (Z.nt ([g7] ++ Z.obl A29))) hq82 (by intro k hk h1 h2; have hob := ho31.lt k hk; simp only [List.mem_cons, List.not_mem_nil, or_false, not_or]; omega) (fun b h0 h2 => ⟨by have h1 := h0; (try simp only [Z.nt, List.mem_append, List.mem_cons, List.not_mem_nil, or_false, false_or, not_or] at h1); simp only [List.mem_cons, List.not_mem_nil, or_false, not_or, not_false_eq_true] <;> omega, h0⟩)
      have hr84 := Z.rep_to (F' := (Z.iv g66 (g66 + 1))) hr71 hc78
      have hr85 : (Z.Ty.slice Z.Ty.byte).rep w74 (Z.nt ([g7] ++ Z.obl A29)) [.slice (some ⟨g66, 0, none⟩) ((((Codec.takeT (bs.drop (k23 : Int).toNat)).1).data.toList).length) c67] (((Codec.takeT (bs.drop (k23 : Int).toNat)).1).data.toList) := Z.rep_as hr84 (by intro b h1 h2; (try simp only [Z.nt, Z.iv, Z.no, Z.ol] at h1); intro hm; rcases List.mem_append.1 hm with hm | hm; (simp only [List.mem_cons, List.not_mem_nil, or_false] at hm <;> omega); (have hob := ho31.lt b hm; omega))
      have ho86 : Z.Own (Z.Ty.slice Z.Ty.byte) 40 g73 w74 (Z.nt ([g7] ++ Z.obl A29)) (some ⟨g73, 0, none⟩) 1 ([((Codec.takeT (bs.drop (k23 : Int).toNat)).1).data.toList] : List (List UInt8)) := Z.Own.made (t := (Z.Ty.slice Z.Ty.byte)) (xs := ([((Codec.takeT (bs.drop (k23 : Int).toNat)).1).data.toList] : List (List UInt8))) hb77 (Nat.le_refl _) rfl (by simp [maxLen]) (by simp [Value.oneCell']) (fun i x hi => by match i, hi with | 0, hi => (injection hi with hi; subst hi; exact hr85) | (j + 1), hi => simp at hi)
      have hr87 := ho86.rep' (F' := (Z.nt ([g7] ++ Z.obl A29))) (fun _ h => h) (fun b h1 h2 => by intro hm; rcases List.mem_append.1 hm with hm | hm; (simp only [List.mem_cons, List.not_mem_nil, or_false] at hm <;> omega); (have hob := ho31.lt b hm; omega))
      refine Z.st_append_deep (M := [g7]) (t := (Z.Ty.slice Z.Ty.byte)) hf rfl Try.underlying46 inf40.1 inf40.2.1 inf40.2.2.1 inf40.2.2.2.1 inf40.2.2.2.2 (by decide) (by decide)  rfl (by first | rfl | omega) ho83 rfl hr87 (by first | omega | (simp only [List.length_cons, List.length_nil, List.length_append]; omega) | (simp; done)) (fun b h1 _ => h1) (by omega) ?_; clear hf a; intro A88 c89 w90 a ho91 hc92 hcas93 hf
      have hzhc92 := hc92.size
      have hob94 : ∀ k, k ∈ Z.obl A88 → ((w.heap.size ≤ k ∧ k < w20.heap.size) ∧ k ≠ g7) ∨ k = w74.heap.size := fun k hk => by rcases hcas93 k hk with h | h; (have := ho31.lt k h; omega); omega
      refine Z.qe [.n] [3] [] [(3, .slice A88 ((out24 ++ ([((Codec.takeT (bs.drop (k23 : Int).toNat)).1).data.toList] : List (List UInt8))).length) c89)] Z.k0 hf ?_; clear hf a; intro a hf
      refine hn42 _ _ ?_
      refine hn27 (bs.length - (k23 + (Codec.takeT (bs.drop ((k23 : Int)).toNat)).2.1)) _ _ ?_ ?_
      rotate_left
      have hxs95 : out24 ++ ([((Codec.takeT (bs.drop (k23 : Int).toNat)).1).data.toList] : List (List UInt8)) = ((out24 ++ [(Codec.takeT (bs.drop ((k23 : Int)).toNat)).1.data.toList]) : List (List UInt8)) := by first | rfl | (simp; done)
      have ho96 := hxs95 ▸ ho91
      replace hf := hf.setv (d := 3) (y := .slice A88 ((out24 ++ [(Codec.takeT (bs.drop ((k23 : Int)).toNat)).1.data.toList]).length) c89) rfl (by rw [← hxs95] <;> first | done | rfl)
      have hq97 : Z.Ch [] w50 w74 := hc72.then hc78
      have hq98 : Z.Ch ([] ++ Z.obl A29) w50 w90 := hq97.then hc92 (by simp) (by first | (intro k hk; simp [hk]; done) | (intro k hk; simp at hk; simp [hk]; done) | (intro k hk; simp at hk; rcases hk with hk | hk <;> simp [hk]))
      have hb99 := hb51.ch hq98 (by have hm0 : ¬ g7 ∈ Z.obl A29 := fun hm => (by have hob := ho31.lt g7 hm; omega); simp only [hm0, List.mem_cons, List.mem_append, List.not_mem_nil, or_false, not_or, not_false_eq_true, and_true] <;> omega)
      have hq100 : Z.Ch ([g7] ++ Z.obl A29) w20 w90 := hq82.then hc92 (by simp) (by first | (intro k hk; simp [hk]; done) | (intro k hk; simp at hk; simp [hk]; done) | (intro k hk; simp at hk; rcases hk with hk | hk <;> simp [hk]))
      have hr101 := Z.rep_to (F' := (Z.ol [g7] w6.heap.size)) hr34 hq100 (by intro b h1 h2; (try simp only [Z.nt, Z.iv, Z.no, Z.ol, List.mem_cons, List.not_mem_nil, or_false, not_or, not_false_eq_true] at h1); have hm0 : ¬ b ∈ Z.obl A29 := fun hm => (by have hob := ho31.lt b hm; omega); (try simp only [hm0, Z.nt, Z.iv, Z.no, Z.ol, List.mem_cons, List.mem_append, List.not_mem_nil, or_false, not_or, not_false_eq_true, true_and, and_true]) <;> omega)
      have hr102 : (Z.Ty.slice Z.Ty.byte).rep w90 (Z.ol [g7] w6.heap.size) [.slice A32 bs.length c33] bs := Z.rep_as hr101 (by intro b h1 h2; simp only [Z.nt, Z.iv, Z.no, Z.ol, List.mem_cons, List.not_mem_nil, or_false, not_false_eq_true, true_and] at h1 ⊢; omega)
      have hq103 : Z.Ch [g7] w6 w50 := hc21.then hc52
      have hq104 : Z.Ch [g7] w6 w68 := hq103.then hc72
      have hq105 : Z.Ch [g7] w6 w74 := hq104.then hc78
      have hq106 : Z.Ch ([g7] ++ Z.obl A29) w6 w90 := hq105.then hc92 (by simp) (by first | (intro k hk; simp [hk]; done) | (intro k hk; simp at hk; simp [hk]; done) | (intro k hk; simp at hk; rcases hk with hk | hk <;> simp [hk]))
      exact ⟨k23 + (Codec.takeT (bs.drop ((k23 : Int)).toNat)).2.1, out24 ++ [(Codec.takeT (bs.drop ((k23 : Int)).toNat)).1.data.toList], A88, c89, A32, c33, rfl, (hq106.mono (by intro k hk; exact (Classical.em (k ∈ Z.obl A29)).elim (fun hm0 => by have hob := ho31.lt k hm0; (try simp only [List.mem_cons, List.mem_append, List.not_mem_nil, or_false, false_or]) <;> omega) (fun hm0 => by (try simp only [hm0, List.mem_cons, List.mem_append, List.not_mem_nil, or_false, false_or] at hk ⊢) <;> omega))), ho96, hr102, (Z.Blk.cast (show Z.Blk w90 g7 126 [.bool true, .slice A32 bs.length c33, .int .i64 ((k23 : Int) + ((Codec.takeT (bs.drop (k23 : Int).toNat)).2.1 : Int))] from hb99) (by first | rfl | (simp only [List.length_append]; done) | simp_all)), (by omega), (by rw [← hf37, Codec.frames_go hp65, List.drop_drop]; simp only [Int.toNat_natCast]; simp), (by simp only [List.length_append, List.length_cons, List.length_nil]; omega), (hf.keep [3, 4])⟩
      rw [hm22]; omega

end Go.Proofs.Ytlhpkogdcgebeaa
