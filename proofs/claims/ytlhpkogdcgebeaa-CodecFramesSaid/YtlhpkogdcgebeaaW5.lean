/- Walks: numbers are read. -/
import Derived.Test.YtlhpkogdcgebeaaW1
import Derived.Test.YtlhpkogdcgebeaaZj
import Derived.Test.YtlhpkogdcgebeaaEs
set_option linter.unusedVariables false
set_option linter.unusedSimpArgs false
set_option synthInstance.maxSize 4000
set_option synthInstance.maxHeartbeats 400000
namespace Go.Proofs.Ytlhpkogdcgebeaa
open Go.RowKit
set_option maxHeartbeats 400000 in
set_option maxRecDepth 20000 in
theorem RInt_spec (n : Int) (w : World)   (hn : Codec.okInt n) :
    Calls Try.prog 27 #[.int .i64 n] w fun e w' => ∃ (rA0 : Option Addr) (rc0 : Nat), e = .returned (.slice rA0 (Codec.encInt n).length rc0) ∧ Z.Own Z.Ty.byte 5 w.heap.size w' Z.no rA0 rc0 (Codec.encInt n) ∧ Z.Ch [] w w' := by
  refine Z.enter Try.func27 rfl Try.ntmps27 (Nat.le_of_ble_eq_true rfl) fun a hf => ?_
  have hn' := hn; unfold Codec.okInt at hn'
  refine Z.qseq [.n] [] [] [] Z.k0 hf ?_; clear hf a; intro a hf
  refine Z.seq' (Z.Pq.body _ _ _) fun Q1 hp2 hn3 he4 => ?_
  refine Z.seq' hp2 fun Q5 hp6 hn7 he8 => ?_
  refine Z.reg ?_
  refine Z.qr [.n, .n, .n] [10] [] [(10, .bool (decide (0 ≤ n)))] Z.k0 hf ?_; clear hf a; intro a hf
  by_cases hdec : 0 ≤ n <;> revert hdec
  · intro hp9
    replace hf := hf.setb (d := 10) (b' := true) rfl (decide_eq_true hp9)
    refine Z.qe [(.on .n), (.on .n), .n] [13] [] [(13, .bool (decide (n < 100)))] Z.k0 hf ?_; clear hf a; intro a hf
    refine hn7 _ _ ?_
    refine Z.condp hf rfl ?_ ?_
    · intro hp10
      refine Z.seq' hp2 fun Q11 hp12 hn13 he14 => ?_
      refine Z.reg ?_
      refine Z.qr [.n, .n] [15] [Z.R64 (100 + n)] [(15, .int .i64 (100 + n))] Z.k0 hf ?_; clear hf a; intro a hf
      refine Z.val hf rfl (Z.r_convb (u := (100 + n).toNat) Try.underlying2 Try.underlying5 (hf.eval rfl) (by omega)) ?_; clear hf a; intro a hf
      refine Z.st_bslice hf rfl Try.underlying40 Try.sizeOf5 Try.zeroValue5 (parts := [(0, .tmp 16)]) (cs := [.int .u8 ((UInt8.ofNat (100 + n).toNat).toNat : Int)]) rfl rfl rfl (by kernel_rfl) ?_; clear hf a; intro g15 w16 a hg17 hz18 hb19 hc20 hf
      have ho21 : Z.Own Z.Ty.byte 5 g15 w16 Z.no (some ⟨g15, 0, none⟩) 1 ([(UInt8.ofNat (100 + n).toNat)] : List UInt8) := Z.Own.made (t := Z.Ty.byte) (xs := ([(UInt8.ofNat (100 + n).toNat)] : List UInt8)) hb19 (Nat.le_refl _) rfl (by simp [maxLen]) (by simp [Value.oneCell']) (fun i x hi => by match i, hi with | 0, hi => (injection hi with hi; subst hi; exact (show _ = _ from rfl)) | (j + 1), hi => simp at hi)
      refine Z.qe [.n] [2] [] [(2, .slice (some ⟨g15, 0, none⟩) 1 1)] Z.k0 hf ?_; clear hf a; intro a hf
      refine hn13 _ _ ?_
      refine Z.ret ?_
      refine he4 _ _ _ (by simp) ?_
      have ho22 := (ho21).base (B' := w.heap.size) (by omega)
      have hxs23 : ([(UInt8.ofNat (100 + n).toNat)] : List UInt8) = (Codec.encInt n : List UInt8) := by exact (Codec.enc_one n (by omega) (by omega)).symm
      have ho24 := hxs23 ▸ ho22
      replace hf := hf.setv (d := 2) (y := .slice (some ⟨g15, 0, none⟩) ((Codec.encInt n).length) 1) rfl (by rw [← hxs23] <;> first | done | rfl)
      refine Z.ret1 hf Try.results27 rfl ?_
      exact ⟨some ⟨g15, 0, none⟩, 1, rfl, ho24, hc20⟩
    · intro hp25
      refine Z.skip ?_
      refine hn3 _ _ ?_
      refine Z.seq' (Z.Pq.body _ _ _) fun Q26 hp27 hn28 he29 => ?_
      refine Z.seq' hp27 fun Q30 hp31 hn32 he33 => ?_
      refine Z.reg ?_
      refine Z.qr [.n, .n, .n] [20] [] [(20, .bool (decide (n < 0)))] Z.k0 hf ?_; clear hf a; intro a hf
      by_cases hdec : n < 0 <;> revert hdec
      · intro hp34
        exfalso; omega
      · intro hp35
        replace hf := hf.setb (d := 20) (b' := false) rfl (decide_eq_false hp35)
        refine Z.qe [.off, .off, .n] [23] [] [(23, .bool false)] Z.k0 hf ?_; clear hf a; intro a hf
        refine hn32 _ _ ?_
        refine Z.condf hf rfl ?_
        refine Z.skip ?_
        refine hn28 _ _ ?_
        refine Z.seq' (Z.Pq.body _ _ _) fun Q36 hp37 hn38 he39 => ?_
        refine Z.reg ?_
        refine Z.qr [.n] [28] [] [(28, .int .i64 n)] Z.k0 hf ?_; clear hf a; intro a hf
        refine Z.val hf rfl (Z.r_conv Try.underlying2 Try.underlying104 (hf.eval rfl)) ?_; clear hf a; intro a hf
        refine Z.qe [.n] [3] [] [(3, .int .u64 (IntKind.u64.wrap n))] Z.k0 hf ?_; clear hf a; intro a hf
        refine hn38 _ _ ?_
        refine Z.qseq [.n] [4] [] [(4, .int .i64 199)] Z.k0 hf ?_; clear hf a; intro a hf
        refine Z.seq' (Z.Pq.body _ _ _) fun Q40 hp41 hn42 he43 => ?_
        refine Z.qseq [.n, .n] [31] [] [(31, .bool (decide (n < 0)))] Z.k0 hf ?_; clear hf a; intro a hf
        refine Z.condp hf rfl ?_ ?_
        · intro hp44
          exfalso; omega
        · intro hp45
          refine Z.skip ?_
          refine hn42 _ _ ?_
          refine Z.qseq [.n] [5] [] [(5, .slice none 0 0)] Z.k0 hf ?_; clear hf a; intro a hf
          refine Z.seq' (Z.Pq.body _ _ _) fun Q46 hp47 hn48 he49 => ?_
          refine Z.block' hp47 fun Q50 hp51 hn52 hx53 he54 => ?_
          refine Z.loop' hp51 (fun m a wl => ∃ (f : Nat), ∃ (u : Nat), ∃ (bs : List UInt8), ∃ (lA0 : Option Addr), ∃ (lc0 : Nat), m = u ∧ Z.Ch [] w wl ∧ Z.Own Z.Ty.byte 5 w.heap.size wl Z.no lA0 lc0 bs ∧ (Codec.be 8 n.toNat = Codec.be f u ++ bs) ∧ (u < 256 ^ f) ∧ (bs.length + f = 8) ∧ (u < 18446744073709551616) ∧ Z.Fr a 57 [] [(3, .int .u64 (u : Int)), (4, .int .i64 199), (5, .slice lA0 bs.length lc0)]) (n.toNat) ?_ ?_
          · replace hf := hf.setv (d := 3) (y := .int .u64 (n.toNat : Int)) rfl (congrArg (Value.int .u64) (by first | rfl | omega | (rw [Z.u64_in _ (by omega)]; omega) | (simp; done) | (simp; omega)))
            have hxs55 : ([] : List UInt8) = ([] : List UInt8) := by first | rfl | (simp [Codec.u8_mod]; done)
            have ho56 := hxs55 ▸ (Z.Own.nil Z.Ty.byte 5 w.heap.size w Z.no)
            replace hf := hf.setv (d := 5) (y := .slice none ([].length) 0) rfl (by rw [← hxs55] <;> first | done | rfl)
            exact ⟨8, n.toNat, [], none, 0, rfl, (Z.Ch.refl w), ho56, (by simp), (by have : (256 : Nat) ^ 8 = 18446744073709551616 := (by decide); omega), (by simp), (by omega), (hf.keep [3, 4, 5])⟩
          · rintro m74 a w57 ⟨f60, u61, bs62, A67, c68, hm59, hc58, ho69, hN70, hu71, hl72, hb73, hf⟩ Q63 hp64 hn65 he66
            have hzhc58 := hc58.size
            refine Z.seq' hp64 fun Q75 hp76 hn77 he78 => ?_
            refine Z.qseq [.n, .n] [36] [] [(36, .bool (decide (0 < (u61 : Int))))] Z.k0 hf ?_; clear hf a; intro a hf
            refine Z.condp hf rfl ?_ ?_
            · intro hp79
              refine Z.skip ?_
              refine hn77 _ _ ?_
              refine Z.block' hp64 fun Q80 hp81 hn82 hx83 he84 => ?_
              refine Z.qseq [.n] [6] [] [(6, .slice none 0 0)] Z.k0 hf ?_; clear hf a; intro a hf
              refine Z.seq' hp81 fun Q85 hp86 hn87 he88 => ?_
              refine Z.reg ?_
              refine Z.qr [.n, .n] [37, 38] [] [(37, .slice none 0 0), (38, .int .u64 (u61 : Int))] Z.k0 hf ?_; clear hf a; intro a hf
              refine Z.val hf rfl (Z.r_remn (u := u61) (v := 256) (hf.eval rfl) (hf.eval rfl) rfl rfl (by decide) (by omega)) ?_; clear hf a; intro a hf
              refine Z.val hf rfl (Z.r_convb (u := (u61 % 256 : Nat)) Try.underlying104 Try.underlying5 (hf.eval rfl) (by omega)) ?_; clear hf a; intro a hf
              refine Z.st_bslice hf rfl Try.underlying40 Try.sizeOf5 Try.zeroValue5 (parts := [(0, .tmp 40)]) (cs := [.int .u8 ((UInt8.ofNat (u61 % 256 : Nat)).toNat : Int)]) rfl rfl rfl (by kernel_rfl) ?_; clear hf a; intro g89 w90 a hg91 hz92 hb93 hc94 hf
              have ho95 : Z.Own Z.Ty.byte 5 g89 w90 Z.no (some ⟨g89, 0, none⟩) 1 ([(UInt8.ofNat (u61 % 256 : Nat))] : List UInt8) := Z.Own.made (t := Z.Ty.byte) (xs := ([(UInt8.ofNat (u61 % 256 : Nat))] : List UInt8)) hb93 (Nat.le_refl _) rfl (by simp [maxLen]) (by simp [Value.oneCell']) (fun i x hi => by match i, hi with | 0, hi => (injection hi with hi; subst hi; exact (show _ = _ from rfl)) | (j + 1), hi => simp at hi)
              have hr96 := ho95.riv
              refine Z.st_append_flat (t := Z.Ty.byte) hf rfl Try.underlying40 inf5.1 inf5.2.1 inf5.2.2.1 inf5.2.2.2.1 inf5.2.2.2.2 (by decide) (by decide) rfl rfl (by first | rfl | omega) (Z.Own.nil Z.Ty.byte 5 w.heap.size w90 Z.no) rfl hr96 (by first | omega | (simp only [List.length_cons, List.length_nil, List.length_append]; omega) | (simp; done))  (by omega) ?_; clear hf a; intro A97 c98 w99 a ho100 hc101 hcas102 hf
              replace hc101 : Z.Ch [] w90 w99 := hc101
              have hzhc101 := hc101.size
              have hob103 : ∀ k, k ∈ Z.obl A97 → k = w90.heap.size := fun k hk => by rcases hcas102 k hk with h | h; cases h; exact h
              refine Z.qr [.n] [43] [] [(43, .slice A67 bs62.length c68)] Z.k0 hf ?_; clear hf a; intro a hf
              have hr105 := ho69.riv
              have hq106 : Z.Ch [] w57 w99 := hc94.then hc101
              have hr107 := Z.rep_to (F' := (Z.iv (w.heap.size) w57.heap.size)) hr105 hq106
              refine Z.st_append_flat (t := Z.Ty.byte) hf rfl Try.underlying40 inf5.1 inf5.2.1 inf5.2.2.1 inf5.2.2.2.1 inf5.2.2.2.2 (by decide) (by decide) rfl rfl (by first | rfl | omega) ho100 rfl hr107 (by first | omega | (simp only [List.length_cons, List.length_nil, List.length_append]; omega) | (simp; done))  (by omega) ?_; clear hf a; intro A108 c109 w110 a ho111 hc112 hcas113 hf
              have hzhc112 := hc112.size
              have hob114 : ∀ k, k ∈ Z.obl A108 → k = w90.heap.size ∨ k = w99.heap.size := fun k hk => by rcases hcas113 k hk with h | h; (have := hob103 k h; omega); omega
              refine Z.qe [.n] [5] [] [(5, .slice A108 (((([] : List UInt8) ++ ([(UInt8.ofNat (u61 % 256 : Nat))] : List UInt8)) ++ bs62).length) c109)] Z.k0 hf ?_; clear hf a; intro a hf
              refine hn87 _ _ ?_
              refine Z.reg ?_
              refine Z.qr [.n] [45] [] [(45, .int .u64 (u61 : Int))] Z.k0 hf ?_; clear hf a; intro a hf
              refine Z.val hf rfl (Z.r_quon (u := u61) (v := 256) (hf.eval rfl) (hf.eval rfl) rfl rfl (by decide) (by omega)) ?_; clear hf a; intro a hf
              refine Z.qe [.n] [3] [] [(3, .int .u64 ((u61 / 256 : Nat) : Int))] Z.k0 hf ?_; clear hf a; intro a hf
              refine hn82 _ _ ?_
              obtain ⟨f', rfl⟩ : ∃ f', f60 = f' + 1 := ⟨f60 - 1, by rcases f60 with _ | f60; (simp at hu71; omega); omega⟩
              refine hn65 ((u61 / 256)) _ _ ?_ ?_
              rotate_left
              have hxs116 : (([] : List UInt8) ++ ([(UInt8.ofNat (u61 % 256 : Nat))] : List UInt8)) ++ bs62 = ((UInt8.ofNat u61 :: bs62) : List UInt8) := by first | rfl | (simp [Codec.u8_mod]; done)
              have ho117 := hxs116 ▸ ho111
              replace hf := hf.setv (d := 5) (y := .slice A108 ((UInt8.ofNat u61 :: bs62).length) c109) rfl (by rw [← hxs116] <;> first | done | rfl)
              have hq118 : Z.Ch [] w w90 := hc58.then hc94
              have hq119 : Z.Ch [] w w99 := hq118.then hc101
              have hq120 : Z.Ch ([] ++ Z.obl A97) w w110 := hq119.then hc112 (by simp) (by first | (intro k hk; simp [hk]; done) | (intro k hk; simp at hk; simp [hk]; done) | (intro k hk; simp at hk; rcases hk with hk | hk <;> simp [hk]))
              exact ⟨f', u61 / 256, UInt8.ofNat u61 :: bs62, A108, c109, rfl, (hq120.mono (by intro k hk; exact (Classical.em (k ∈ Z.obl A97)).elim (fun hm0 => by have hob := hob103 k hm0; (try simp only [List.mem_cons, List.mem_append, List.not_mem_nil, or_false, false_or]) <;> omega) (fun hm0 => by (try simp only [hm0, List.mem_cons, List.mem_append, List.not_mem_nil, or_false, false_or] at hk ⊢) <;> omega))), ho117, (by rw [hN70, Codec.be_step _ _ (by omega)]; simp), (by rw [Nat.pow_succ] at hu71; omega), (by simp only [List.length_cons]; omega), (by omega), (hf.keep [3, 4, 5])⟩
              rw [hm59]; omega
            · intro hp121
              refine Z.exit ?_
              refine he78 _ _ _ (by simp) ?_
              refine he66 _ _ _ (by simp) ?_
              refine hx53 _ _ ?_
              refine hn48 _ _ ?_
              refine Z.qseq [.n] [7] [] [(7, .slice none 0 0)] Z.k0 hf ?_; clear hf a; intro a hf
              refine Z.seq' (Z.Pq.body _ _ _) fun Q122 hp123 hn124 he125 => ?_
              refine Z.reg ?_
              refine Z.qr [.n, .n, .n, .n, .n] [47, 51] [Z.R64 (199 + (bs62.length : Int))] [(47, .slice none 0 0), (51, .int .i64 (199 + (bs62.length : Int)))] Z.k0 hf ?_; clear hf a; intro a hf
              refine Z.val hf rfl (Z.r_convb (u := (199 + bs62.length)) Try.underlying3 Try.underlying5 (hf.eval rfl) (by omega)) ?_; clear hf a; intro a hf
              refine Z.st_bslice hf rfl Try.underlying40 Try.sizeOf5 Try.zeroValue5 (parts := [(0, .tmp 52)]) (cs := [.int .u8 ((UInt8.ofNat (199 + bs62.length)).toNat : Int)]) rfl rfl rfl (by kernel_rfl) ?_; clear hf a; intro g126 w127 a hg128 hz129 hb130 hc131 hf
              have ho132 : Z.Own Z.Ty.byte 5 g126 w127 Z.no (some ⟨g126, 0, none⟩) 1 ([(UInt8.ofNat (199 + bs62.length))] : List UInt8) := Z.Own.made (t := Z.Ty.byte) (xs := ([(UInt8.ofNat (199 + bs62.length))] : List UInt8)) hb130 (Nat.le_refl _) rfl (by simp [maxLen]) (by simp [Value.oneCell']) (fun i x hi => by match i, hi with | 0, hi => (injection hi with hi; subst hi; exact (show _ = _ from rfl)) | (j + 1), hi => simp at hi)
              have hr133 := ho132.riv
              refine Z.st_append_flat (t := Z.Ty.byte) hf rfl Try.underlying40 inf5.1 inf5.2.1 inf5.2.2.1 inf5.2.2.2.1 inf5.2.2.2.2 (by decide) (by decide) rfl rfl (by first | rfl | omega) (Z.Own.nil Z.Ty.byte 5 w.heap.size w127 Z.no) rfl hr133 (by first | omega | (simp only [List.length_cons, List.length_nil, List.length_append]; omega) | (simp; done))  (by omega) ?_; clear hf a; intro A134 c135 w136 a ho137 hc138 hcas139 hf
              replace hc138 : Z.Ch [] w127 w136 := hc138
              have hzhc138 := hc138.size
              have hob140 : ∀ k, k ∈ Z.obl A134 → k = w127.heap.size := fun k hk => by rcases hcas139 k hk with h | h; cases h; exact h
              refine Z.qr [.n] [55] [] [(55, .slice A67 bs62.length c68)] Z.k0 hf ?_; clear hf a; intro a hf
              have hr142 := ho69.riv
              have hq143 : Z.Ch [] w57 w136 := hc131.then hc138
              have hr144 := Z.rep_to (F' := (Z.iv (w.heap.size) w57.heap.size)) hr142 hq143
              refine Z.st_append_flat (t := Z.Ty.byte) hf rfl Try.underlying40 inf5.1 inf5.2.1 inf5.2.2.1 inf5.2.2.2.1 inf5.2.2.2.2 (by decide) (by decide) rfl rfl (by first | rfl | omega) ho137 rfl hr144 (by first | omega | (simp only [List.length_cons, List.length_nil, List.length_append]; omega) | (simp; done))  (by omega) ?_; clear hf a; intro A145 c146 w147 a ho148 hc149 hcas150 hf
              have hzhc149 := hc149.size
              have hob151 : ∀ k, k ∈ Z.obl A145 → k = w127.heap.size ∨ k = w136.heap.size := fun k hk => by rcases hcas150 k hk with h | h; (have := hob140 k h; omega); omega
              refine Z.qe [.n] [2] [] [(2, .slice A145 (((([] : List UInt8) ++ ([(UInt8.ofNat (199 + bs62.length))] : List UInt8)) ++ bs62).length) c146)] Z.k0 hf ?_; clear hf a; intro a hf
              refine hn124 _ _ ?_
              refine Z.ret ?_
              have hxs153 : (([] : List UInt8) ++ ([(UInt8.ofNat (199 + bs62.length))] : List UInt8)) ++ bs62 = (Codec.encInt n : List UInt8) := by have hz : u61 = 0 := (by omega); rw [hz, Codec.be_zero] at hN70; first | exact Codec.enc_up' n (by omega) _ (by simpa using hN70) | (simp; exact Codec.enc_up' n (by omega) _ (by simpa using hN70))
              have ho154 := hxs153 ▸ ho148
              replace hf := hf.setv (d := 2) (y := .slice A145 ((Codec.encInt n).length) c146) rfl (by rw [← hxs153] <;> first | done | rfl)
              have hq155 : Z.Ch [] w w127 := hc58.then hc131
              have hq156 : Z.Ch [] w w136 := hq155.then hc138
              have hq157 : Z.Ch ([] ++ Z.obl A134) w w147 := hq156.then hc149 (by simp) (by first | (intro k hk; simp [hk]; done) | (intro k hk; simp at hk; simp [hk]; done) | (intro k hk; simp at hk; rcases hk with hk | hk <;> simp [hk]))
              refine Z.ret1 hf Try.results27 rfl ?_
              exact ⟨A145, c146, rfl, ho154, (Z.Ch.mono hq157 (by intro k hk; exact (Classical.em (k ∈ Z.obl A134)).elim (fun hm0 => by have hob := hob140 k hm0; (try simp only [List.mem_cons, List.mem_append, List.not_mem_nil, or_false, false_or]) <;> omega) (fun hm0 => by (try simp only [hm0, List.mem_cons, List.mem_append, List.not_mem_nil, or_false, false_or] at hk ⊢) <;> omega)))⟩
  · intro hp158
    replace hf := hf.setb (d := 10) (b' := false) rfl (decide_eq_false hp158)
    refine Z.qe [.off, .off, .n] [13] [] [(13, .bool false)] Z.k0 hf ?_; clear hf a; intro a hf
    refine hn7 _ _ ?_
    refine Z.condf hf rfl ?_
    refine Z.skip ?_
    refine hn3 _ _ ?_
    refine Z.seq' (Z.Pq.body _ _ _) fun Q159 hp160 hn161 he162 => ?_
    refine Z.seq' hp160 fun Q163 hp164 hn165 he166 => ?_
    refine Z.reg ?_
    refine Z.qr [.n, .n, .n] [20] [] [(20, .bool (decide (n < 0)))] Z.k0 hf ?_; clear hf a; intro a hf
    by_cases hdec : n < 0 <;> revert hdec
    · intro hp167
      replace hf := hf.setb (d := 20) (b' := true) rfl (decide_eq_true hp167)
      refine Z.qe [(.on .n), (.on .n), .n] [23] [] [(23, .bool (decide (-50 ≤ n)))] Z.k0 hf ?_; clear hf a; intro a hf
      refine hn165 _ _ ?_
      refine Z.condp hf rfl ?_ ?_
      · intro hp168
        refine Z.seq' hp160 fun Q169 hp170 hn171 he172 => ?_
        refine Z.reg ?_
        refine Z.qr [.n, .n] [25] [Z.R64 (50 + n)] [(25, .int .i64 (50 + n))] Z.k0 hf ?_; clear hf a; intro a hf
        refine Z.val hf rfl (Z.r_convb (u := (50 + n).toNat) Try.underlying2 Try.underlying5 (hf.eval rfl) (by omega)) ?_; clear hf a; intro a hf
        refine Z.st_bslice hf rfl Try.underlying40 Try.sizeOf5 Try.zeroValue5 (parts := [(0, .tmp 26)]) (cs := [.int .u8 ((UInt8.ofNat (50 + n).toNat).toNat : Int)]) rfl rfl rfl (by kernel_rfl) ?_; clear hf a; intro g173 w174 a hg175 hz176 hb177 hc178 hf
        have ho179 : Z.Own Z.Ty.byte 5 g173 w174 Z.no (some ⟨g173, 0, none⟩) 1 ([(UInt8.ofNat (50 + n).toNat)] : List UInt8) := Z.Own.made (t := Z.Ty.byte) (xs := ([(UInt8.ofNat (50 + n).toNat)] : List UInt8)) hb177 (Nat.le_refl _) rfl (by simp [maxLen]) (by simp [Value.oneCell']) (fun i x hi => by match i, hi with | 0, hi => (injection hi with hi; subst hi; exact (show _ = _ from rfl)) | (j + 1), hi => simp at hi)
        refine Z.qe [.n] [2] [] [(2, .slice (some ⟨g173, 0, none⟩) 1 1)] Z.k0 hf ?_; clear hf a; intro a hf
        refine hn171 _ _ ?_
        refine Z.ret ?_
        refine he162 _ _ _ (by simp) ?_
        have ho180 := (ho179).base (B' := w.heap.size) (by omega)
        have hxs181 : ([(UInt8.ofNat (50 + n).toNat)] : List UInt8) = (Codec.encInt n : List UInt8) := by exact (Codec.enc_low n (by omega) (by omega)).symm
        have ho182 := hxs181 ▸ ho180
        replace hf := hf.setv (d := 2) (y := .slice (some ⟨g173, 0, none⟩) ((Codec.encInt n).length) 1) rfl (by rw [← hxs181] <;> first | done | rfl)
        refine Z.ret1 hf Try.results27 rfl ?_
        exact ⟨some ⟨g173, 0, none⟩, 1, rfl, ho182, hc178⟩
      · intro hp183
        refine Z.skip ?_
        refine hn161 _ _ ?_
        refine Z.seq' (Z.Pq.body _ _ _) fun Q184 hp185 hn186 he187 => ?_
        refine Z.reg ?_
        refine Z.qr [.n] [28] [] [(28, .int .i64 n)] Z.k0 hf ?_; clear hf a; intro a hf
        refine Z.val hf rfl (Z.r_conv Try.underlying2 Try.underlying104 (hf.eval rfl)) ?_; clear hf a; intro a hf
        refine Z.qe [.n] [3] [] [(3, .int .u64 (IntKind.u64.wrap n))] Z.k0 hf ?_; clear hf a; intro a hf
        refine hn186 _ _ ?_
        refine Z.qseq [.n] [4] [] [(4, .int .i64 199)] Z.k0 hf ?_; clear hf a; intro a hf
        refine Z.seq' (Z.Pq.body _ _ _) fun Q188 hp189 hn190 he191 => ?_
        refine Z.qseq [.n, .n] [31] [] [(31, .bool (decide (n < 0)))] Z.k0 hf ?_; clear hf a; intro a hf
        refine Z.condp hf rfl ?_ ?_
        · intro hp192
          refine Z.seq' hp189 fun Q193 hp194 hn195 he196 => ?_
          refine Z.reg ?_
          refine Z.qr [.n, .n] [33] [Z.R64 (-1 - n)] [(33, .int .i64 (-1 - n))] Z.k0 hf ?_; clear hf a; intro a hf
          refine Z.val hf rfl (Z.r_convw Try.underlying2 Try.underlying104 (hf.eval rfl) (Z.u64_in _ (by omega))) ?_; clear hf a; intro a hf
          refine Z.qe [.n] [3] [] [(3, .int .u64 (-1 - n))] Z.k0 hf ?_; clear hf a; intro a hf
          refine hn195 _ _ ?_
          refine Z.qreg [.n] [4] [] [(4, .int .i64 207)] Z.k0 hf ?_; clear hf a; intro a hf
          refine hn190 _ _ ?_
          refine Z.qseq [.n] [5] [] [(5, .slice none 0 0)] Z.k0 hf ?_; clear hf a; intro a hf
          refine Z.seq' (Z.Pq.body _ _ _) fun Q197 hp198 hn199 he200 => ?_
          refine Z.block' hp198 fun Q201 hp202 hn203 hx204 he205 => ?_
          refine Z.loop' hp202 (fun m a wl => ∃ (f : Nat), ∃ (u : Nat), ∃ (bs : List UInt8), ∃ (lA0 : Option Addr), ∃ (lc0 : Nat), m = u ∧ Z.Ch [] w wl ∧ Z.Own Z.Ty.byte 5 w.heap.size wl Z.no lA0 lc0 bs ∧ (Codec.be 8 (-1 - n).toNat = Codec.be f u ++ bs) ∧ (u < 256 ^ f) ∧ (bs.length + f = 8) ∧ (u < 18446744073709551616) ∧ Z.Fr a 57 [] [(3, .int .u64 (u : Int)), (4, .int .i64 207), (5, .slice lA0 bs.length lc0)]) (((-1 - n).toNat)) ?_ ?_
          · replace hf := hf.setv (d := 3) (y := .int .u64 (((-1 - n).toNat : Nat) : Int)) rfl (congrArg (Value.int .u64) (by first | rfl | omega | (rw [Z.u64_in _ (by omega)]; omega) | (simp; done) | (simp; omega)))
            have hxs206 : ([] : List UInt8) = ([] : List UInt8) := by first | rfl | (simp [Codec.u8_mod]; done)
            have ho207 := hxs206 ▸ (Z.Own.nil Z.Ty.byte 5 w.heap.size w Z.no)
            replace hf := hf.setv (d := 5) (y := .slice none ([].length) 0) rfl (by rw [← hxs206] <;> first | done | rfl)
            exact ⟨8, (-1 - n).toNat, [], none, 0, rfl, (Z.Ch.refl w), ho207, (by simp), (by have : (256 : Nat) ^ 8 = 18446744073709551616 := (by decide); omega), (by simp), (by omega), (hf.keep [3, 4, 5])⟩
          · rintro m225 a w208 ⟨f211, u212, bs213, A218, c219, hm210, hc209, ho220, hN221, hu222, hl223, hb224, hf⟩ Q214 hp215 hn216 he217
            have hzhc209 := hc209.size
            refine Z.seq' hp215 fun Q226 hp227 hn228 he229 => ?_
            refine Z.qseq [.n, .n] [36] [] [(36, .bool (decide (0 < (u212 : Int))))] Z.k0 hf ?_; clear hf a; intro a hf
            refine Z.condp hf rfl ?_ ?_
            · intro hp230
              refine Z.skip ?_
              refine hn228 _ _ ?_
              refine Z.block' hp215 fun Q231 hp232 hn233 hx234 he235 => ?_
              refine Z.qseq [.n] [6] [] [(6, .slice none 0 0)] Z.k0 hf ?_; clear hf a; intro a hf
              refine Z.seq' hp232 fun Q236 hp237 hn238 he239 => ?_
              refine Z.reg ?_
              refine Z.qr [.n, .n] [37, 38] [] [(37, .slice none 0 0), (38, .int .u64 (u212 : Int))] Z.k0 hf ?_; clear hf a; intro a hf
              refine Z.val hf rfl (Z.r_remn (u := u212) (v := 256) (hf.eval rfl) (hf.eval rfl) rfl rfl (by decide) (by omega)) ?_; clear hf a; intro a hf
              refine Z.val hf rfl (Z.r_convb (u := (u212 % 256 : Nat)) Try.underlying104 Try.underlying5 (hf.eval rfl) (by omega)) ?_; clear hf a; intro a hf
              refine Z.st_bslice hf rfl Try.underlying40 Try.sizeOf5 Try.zeroValue5 (parts := [(0, .tmp 40)]) (cs := [.int .u8 ((UInt8.ofNat (u212 % 256 : Nat)).toNat : Int)]) rfl rfl rfl (by kernel_rfl) ?_; clear hf a; intro g240 w241 a hg242 hz243 hb244 hc245 hf
              have ho246 : Z.Own Z.Ty.byte 5 g240 w241 Z.no (some ⟨g240, 0, none⟩) 1 ([(UInt8.ofNat (u212 % 256 : Nat))] : List UInt8) := Z.Own.made (t := Z.Ty.byte) (xs := ([(UInt8.ofNat (u212 % 256 : Nat))] : List UInt8)) hb244 (Nat.le_refl _) rfl (by simp [maxLen]) (by simp [Value.oneCell']) (fun i x hi => by match i, hi with | 0, hi => (injection hi with hi; subst hi; exact (show _ = _ from rfl)) | (j + 1), hi => simp at hi)
              have hr247 := ho246.riv
              refine Z.st_append_flat (t := Z.Ty.byte) hf rfl Try.underlying40 inf5.1 inf5.2.1 inf5.2.2.1 inf5.2.2.2.1 inf5.2.2.2.2 (by decide) (by decide) rfl rfl (by first | rfl | omega) (Z.Own.nil Z.Ty.byte 5 w.heap.size w241 Z.no) rfl hr247 (by first | omega | (simp only [List.length_cons, List.length_nil, List.length_append]; omega) | (simp; done))  (by omega) ?_; clear hf a; intro A248 c249 w250 a ho251 hc252 hcas253 hf
              replace hc252 : Z.Ch [] w241 w250 := hc252
              have hzhc252 := hc252.size
              have hob254 : ∀ k, k ∈ Z.obl A248 → k = w241.heap.size := fun k hk => by rcases hcas253 k hk with h | h; cases h; exact h
              refine Z.qr [.n] [43] [] [(43, .slice A218 bs213.length c219)] Z.k0 hf ?_; clear hf a; intro a hf
              have hr256 := ho220.riv
              have hq257 : Z.Ch [] w208 w250 := hc245.then hc252
              have hr258 := Z.rep_to (F' := (Z.iv (w.heap.size) w208.heap.size)) hr256 hq257
              refine Z.st_append_flat (t := Z.Ty.byte) hf rfl Try.underlying40 inf5.1 inf5.2.1 inf5.2.2.1 inf5.2.2.2.1 inf5.2.2.2.2 (by decide) (by decide) rfl rfl (by first | rfl | omega) ho251 rfl hr258 (by first | omega | (simp only [List.length_cons, List.length_nil, List.length_append]; omega) | (simp; done))  (by omega) ?_; clear hf a; intro A259 c260 w261 a ho262 hc263 hcas264 hf
              have hzhc263 := hc263.size
              have hob265 : ∀ k, k ∈ Z.obl A259 → k = w241.heap.size ∨ k = w250.heap.size := fun k hk => by rcases hcas264 k hk with h | h; (have := hob254 k h; omega); omega
              refine Z.qe [.n] [5] [] [(5, .slice A259 (((([] : List UInt8) ++ ([(UInt8.ofNat (u212 % 256 : Nat))] : List UInt8)) ++ bs213).length) c260)] Z.k0 hf ?_; clear hf a; intro a hf
              refine hn238 _ _ ?_
              refine Z.reg ?_
              refine Z.qr [.n] [45] [] [(45, .int .u64 (u212 : Int))] Z.k0 hf ?_; clear hf a; intro a hf
              refine Z.val hf rfl (Z.r_quon (u := u212) (v := 256) (hf.eval rfl) (hf.eval rfl) rfl rfl (by decide) (by omega)) ?_; clear hf a; intro a hf
              refine Z.qe [.n] [3] [] [(3, .int .u64 ((u212 / 256 : Nat) : Int))] Z.k0 hf ?_; clear hf a; intro a hf
              refine hn233 _ _ ?_
              obtain ⟨f', rfl⟩ : ∃ f', f211 = f' + 1 := ⟨f211 - 1, by rcases f211 with _ | f211; (simp at hu222; omega); omega⟩
              refine hn216 ((u212 / 256)) _ _ ?_ ?_
              rotate_left
              have hxs267 : (([] : List UInt8) ++ ([(UInt8.ofNat (u212 % 256 : Nat))] : List UInt8)) ++ bs213 = ((UInt8.ofNat u212 :: bs213) : List UInt8) := by first | rfl | (simp [Codec.u8_mod]; done)
              have ho268 := hxs267 ▸ ho262
              replace hf := hf.setv (d := 5) (y := .slice A259 ((UInt8.ofNat u212 :: bs213).length) c260) rfl (by rw [← hxs267] <;> first | done | rfl)
              have hq269 : Z.Ch [] w w241 := hc209.then hc245
              have hq270 : Z.Ch [] w w250 := hq269.then hc252
              have hq271 : Z.Ch ([] ++ Z.obl A248) w w261 := hq270.then hc263 (by simp) (by first | (intro k hk; simp [hk]; done) | (intro k hk; simp at hk; simp [hk]; done) | (intro k hk; simp at hk; rcases hk with hk | hk <;> simp [hk]))
              exact ⟨f', u212 / 256, UInt8.ofNat u212 :: bs213, A259, c260, rfl, (hq271.mono (by intro k hk; exact (Classical.em (k ∈ Z.obl A248)).elim (fun hm0 => by have hob := hob254 k hm0; (try simp only [List.mem_cons, List.mem_append, List.not_mem_nil, or_false, false_or]) <;> omega) (fun hm0 => by (try simp only [hm0, List.mem_cons, List.mem_append, List.not_mem_nil, or_false, false_or] at hk ⊢) <;> omega))), ho268, (by rw [hN221, Codec.be_step _ _ (by omega)]; simp), (by rw [Nat.pow_succ] at hu222; omega), (by simp only [List.length_cons]; omega), (by omega), (hf.keep [3, 4, 5])⟩
              rw [hm210]; omega
            · intro hp272
              refine Z.exit ?_
              refine he229 _ _ _ (by simp) ?_
              refine he217 _ _ _ (by simp) ?_
              refine hx204 _ _ ?_
              refine hn199 _ _ ?_
              refine Z.qseq [.n] [7] [] [(7, .slice none 0 0)] Z.k0 hf ?_; clear hf a; intro a hf
              refine Z.seq' (Z.Pq.body _ _ _) fun Q273 hp274 hn275 he276 => ?_
              refine Z.reg ?_
              refine Z.qr [.n, .n, .n, .n, .n] [47, 51] [Z.R64 (207 + (bs213.length : Int))] [(47, .slice none 0 0), (51, .int .i64 (207 + (bs213.length : Int)))] Z.k0 hf ?_; clear hf a; intro a hf
              refine Z.val hf rfl (Z.r_convb (u := (207 + bs213.length)) Try.underlying3 Try.underlying5 (hf.eval rfl) (by omega)) ?_; clear hf a; intro a hf
              refine Z.st_bslice hf rfl Try.underlying40 Try.sizeOf5 Try.zeroValue5 (parts := [(0, .tmp 52)]) (cs := [.int .u8 ((UInt8.ofNat (207 + bs213.length)).toNat : Int)]) rfl rfl rfl (by kernel_rfl) ?_; clear hf a; intro g277 w278 a hg279 hz280 hb281 hc282 hf
              have ho283 : Z.Own Z.Ty.byte 5 g277 w278 Z.no (some ⟨g277, 0, none⟩) 1 ([(UInt8.ofNat (207 + bs213.length))] : List UInt8) := Z.Own.made (t := Z.Ty.byte) (xs := ([(UInt8.ofNat (207 + bs213.length))] : List UInt8)) hb281 (Nat.le_refl _) rfl (by simp [maxLen]) (by simp [Value.oneCell']) (fun i x hi => by match i, hi with | 0, hi => (injection hi with hi; subst hi; exact (show _ = _ from rfl)) | (j + 1), hi => simp at hi)
              have hr284 := ho283.riv
              refine Z.st_append_flat (t := Z.Ty.byte) hf rfl Try.underlying40 inf5.1 inf5.2.1 inf5.2.2.1 inf5.2.2.2.1 inf5.2.2.2.2 (by decide) (by decide) rfl rfl (by first | rfl | omega) (Z.Own.nil Z.Ty.byte 5 w.heap.size w278 Z.no) rfl hr284 (by first | omega | (simp only [List.length_cons, List.length_nil, List.length_append]; omega) | (simp; done))  (by omega) ?_; clear hf a; intro A285 c286 w287 a ho288 hc289 hcas290 hf
              replace hc289 : Z.Ch [] w278 w287 := hc289
              have hzhc289 := hc289.size
              have hob291 : ∀ k, k ∈ Z.obl A285 → k = w278.heap.size := fun k hk => by rcases hcas290 k hk with h | h; cases h; exact h
              refine Z.qr [.n] [55] [] [(55, .slice A218 bs213.length c219)] Z.k0 hf ?_; clear hf a; intro a hf
              have hr293 := ho220.riv
              have hq294 : Z.Ch [] w208 w287 := hc282.then hc289
              have hr295 := Z.rep_to (F' := (Z.iv (w.heap.size) w208.heap.size)) hr293 hq294
              refine Z.st_append_flat (t := Z.Ty.byte) hf rfl Try.underlying40 inf5.1 inf5.2.1 inf5.2.2.1 inf5.2.2.2.1 inf5.2.2.2.2 (by decide) (by decide) rfl rfl (by first | rfl | omega) ho288 rfl hr295 (by first | omega | (simp only [List.length_cons, List.length_nil, List.length_append]; omega) | (simp; done))  (by omega) ?_; clear hf a; intro A296 c297 w298 a ho299 hc300 hcas301 hf
              have hzhc300 := hc300.size
              have hob302 : ∀ k, k ∈ Z.obl A296 → k = w278.heap.size ∨ k = w287.heap.size := fun k hk => by rcases hcas301 k hk with h | h; (have := hob291 k h; omega); omega
              refine Z.qe [.n] [2] [] [(2, .slice A296 (((([] : List UInt8) ++ ([(UInt8.ofNat (207 + bs213.length))] : List UInt8)) ++ bs213).length) c297)] Z.k0 hf ?_; clear hf a; intro a hf
              refine hn275 _ _ ?_
              refine Z.ret ?_
              have hxs304 : (([] : List UInt8) ++ ([(UInt8.ofNat (207 + bs213.length))] : List UInt8)) ++ bs213 = (Codec.encInt n : List UInt8) := by have hz : u212 = 0 := (by omega); rw [hz, Codec.be_zero] at hN221; first | exact Codec.enc_dn' n (by omega) _ (by simpa using hN221) | (simp; exact Codec.enc_dn' n (by omega) _ (by simpa using hN221))
              have ho305 := hxs304 ▸ ho299
              replace hf := hf.setv (d := 2) (y := .slice A296 ((Codec.encInt n).length) c297) rfl (by rw [← hxs304] <;> first | done | rfl)
              have hq306 : Z.Ch [] w w278 := hc209.then hc282
              have hq307 : Z.Ch [] w w287 := hq306.then hc289
              have hq308 : Z.Ch ([] ++ Z.obl A285) w w298 := hq307.then hc300 (by simp) (by first | (intro k hk; simp [hk]; done) | (intro k hk; simp at hk; simp [hk]; done) | (intro k hk; simp at hk; rcases hk with hk | hk <;> simp [hk]))
              refine Z.ret1 hf Try.results27 rfl ?_
              exact ⟨A296, c297, rfl, ho305, (Z.Ch.mono hq308 (by intro k hk; exact (Classical.em (k ∈ Z.obl A285)).elim (fun hm0 => by have hob := hob291 k hm0; (try simp only [List.mem_cons, List.mem_append, List.not_mem_nil, or_false, false_or]) <;> omega) (fun hm0 => by (try simp only [hm0, List.mem_cons, List.mem_append, List.not_mem_nil, or_false, false_or] at hk ⊢) <;> omega)))⟩
        · intro hp309
          exfalso; omega
    · intro hp310
      exfalso; omega

set_option maxHeartbeats 1000000 in
set_option maxRecDepth 20000 in
theorem take_spec (bs : List UInt8) (w : World) (pA0 : Option Addr) (pc0 : Nat) (ph0 : (Z.Ty.slice Z.Ty.byte).rep w (Z.nt []) [.slice pA0 bs.length pc0] bs)  :
    Calls Try.prog 68 #[.slice pA0 bs.length pc0] w fun e w' => e = .returned (.tuple #[.int .i64 ((Codec.takeI bs).1), .int .i64 ((Codec.takeI bs).2.1 : Int), .int .i64 ((Codec.takeI bs).2.2)]) ∧ Z.Ch [] w w' := by
  refine Z.enter Try.func68 rfl Try.ntmps68 (Nat.le_of_ble_eq_true rfl) fun a hf => ?_
  have hle_pA0 := Z.rep_le ph0
  have ph0o := Z.rep_ol ph0
  refine Z.qseq [.n, .n, .n] [] [] [] Z.k0 hf ?_; clear hf a; intro a hf
  refine Z.seq' (Z.Pq.body _ _ _) fun Q1 hp2 hn3 he4 => ?_
  refine Z.qseq [.n, .n, .n] [13] [] [(13, .bool (decide ((bs.length : Int) = 0)))] Z.k0 hf ?_; clear hf a; intro a hf
  refine Z.condp hf rfl ?_ ?_
  · intro hp5
    refine Z.qseq [.n, .n, .n] [2, 3, 4] [] [(2, .int .i64 0), (3, .int .i64 0), (4, .int .i64 71)] Z.k0 hf ?_; clear hf a; intro a hf
    refine Z.ret ?_
    refine he4 _ _ _ (by simp) ?_
    have HT : Codec.takeI bs = (0, 0, 71) := by first | exact Codec.takeI_nil (by omega) | exact Codec.takeI_low h0 (by omega) | exact Codec.takeI_gap h0 (by omega) (by omega) | exact Codec.takeI_mid h0 (by omega) (by omega) | exact Codec.takeI_high h0 (by omega) | (rw [Codec.takeI_pos h0 (by omega) (by omega)]; exact Codec.body_short (by omega)) | (rw [Codec.takeI_neg h0 (by omega) (by omega)]; exact Codec.body_short (by omega))
    replace hf := hf.setv (d := 2) (y := .int .i64 ((Codec.takeI bs).1)) rfl (congrArg (Value.int .i64) (by rw [HT] <;> first | rfl | (simp; done) | (simp; omega) | omega))
    replace hf := hf.setv (d := 3) (y := .int .i64 ((Codec.takeI bs).2.1 : Int)) rfl (congrArg (Value.int .i64) (by rw [HT] <;> first | rfl | (simp; done) | (simp; omega) | omega))
    replace hf := hf.setv (d := 4) (y := .int .i64 ((Codec.takeI bs).2.2)) rfl (congrArg (Value.int .i64) (by rw [HT] <;> first | rfl | (simp; done) | (simp; omega) | omega))
    refine Z.ret3 hf Try.results68 rfl rfl rfl ?_
    exact ⟨rfl, (Z.Ch.refl w)⟩
  · intro hp6
    refine Z.skip ?_
    refine hn3 _ _ ?_
    refine Z.seq' (Z.Pq.body _ _ _) fun Q7 hp8 hn9 he10 => ?_
    refine Z.reg ?_
    refine Z.qr [.n] [14] [] [(14, .slice pA0 bs.length pc0)] Z.k0 hf ?_; clear hf a; intro a hf
    have hkx13 : 0 < (bs).length := (by omega)
    obtain ⟨ad11, es12, x13, hA14, hF15, hl16, hx17, hc18, hr19⟩ := Z.rep_el ph0o hkx13
    have hok20 := Z.rep_ok _ hr19
    have he21 : _ = _ := hr19
    have he22 : es12 = [.int .u8 (x13.toNat : Int)] := by simp only [he21, List.cons_append, List.nil_append]
    rw [he22] at hc18
    have h0 := hx17
    have hb0 := x13.toNat_lt
    refine Z.val hf rfl (Z.r_indexAddrE Try.underlying40 Try.sizeOf5 (hf.eval rfl) hA14 (hf.eval rfl) (k := 0) (by first | rfl | omega) (by omega)) ?_; clear hf a; intro a hf
    refine Z.qe [.e 0 0, .n] [5] [] [(5, .int .u8 (x13.toNat : Int))] (Z.ke hc18 Z.k0) hf ?_; clear hf a; intro a hf
    refine hn9 _ _ ?_
    refine Z.seq' (Z.Pq.body _ _ _) fun Q23 hp24 hn25 he26 => ?_
    refine Z.block' hp24 fun Q27 hp28 hn29 hx30 he31 => ?_
    refine Z.qseq [.n, .n, .n] [17] [] [(17, .bool (decide ((x13.toNat : Int) < 50)))] Z.k0 hf ?_; clear hf a; intro a hf
    refine Z.condp hf rfl ?_ ?_
    · intro hp32
      refine Z.qseq [.n, .n, .n, .n, .n, .n] [2, 3, 4] [Z.R64 ((x13.toNat : Int)), Z.R64 ((x13.toNat : Int) - 50)] [(2, .int .i64 ((x13.toNat : Int) - 50)), (3, .int .i64 1), (4, .int .i64 0)] Z.k0 hf ?_; clear hf a; intro a hf
      refine Z.ret ?_
      refine he31 _ _ _ (by simp) (by simp) ?_
      refine he26 _ _ _ (by simp) ?_
      have HT : Codec.takeI bs = ((x13.toNat : Int) - 50, 1, 0) := by first | exact Codec.takeI_nil (by omega) | exact Codec.takeI_low h0 (by omega) | exact Codec.takeI_gap h0 (by omega) (by omega) | exact Codec.takeI_mid h0 (by omega) (by omega) | exact Codec.takeI_high h0 (by omega) | (rw [Codec.takeI_pos h0 (by omega) (by omega)]; exact Codec.body_short (by omega)) | (rw [Codec.takeI_neg h0 (by omega) (by omega)]; exact Codec.body_short (by omega))
      replace hf := hf.setv (d := 2) (y := .int .i64 ((Codec.takeI bs).1)) rfl (congrArg (Value.int .i64) (by rw [HT] <;> first | rfl | (simp; done) | (simp; omega) | omega))
      replace hf := hf.setv (d := 3) (y := .int .i64 ((Codec.takeI bs).2.1 : Int)) rfl (congrArg (Value.int .i64) (by rw [HT] <;> first | rfl | (simp; done) | (simp; omega) | omega))
      replace hf := hf.setv (d := 4) (y := .int .i64 ((Codec.takeI bs).2.2)) rfl (congrArg (Value.int .i64) (by rw [HT] <;> first | rfl | (simp; done) | (simp; omega) | omega))
      refine Z.ret3 hf Try.results68 rfl rfl rfl ?_
      exact ⟨rfl, (Z.Ch.refl w)⟩
    · intro hp33
      refine Z.qseq [.n, .n, .n] [23] [] [(23, .bool (decide ((x13.toNat : Int) < 100)))] Z.k0 hf ?_; clear hf a; intro a hf
      refine Z.condp hf rfl ?_ ?_
      · intro hp34
        refine Z.qseq [.n, .n, .n] [2, 3, 4] [] [(2, .int .i64 0), (3, .int .i64 0), (4, .int .i64 70)] Z.k0 hf ?_; clear hf a; intro a hf
        refine Z.ret ?_
        refine he31 _ _ _ (by simp) (by simp) ?_
        refine he26 _ _ _ (by simp) ?_
        have HT : Codec.takeI bs = (0, 0, 70) := by first | exact Codec.takeI_nil (by omega) | exact Codec.takeI_low h0 (by omega) | exact Codec.takeI_gap h0 (by omega) (by omega) | exact Codec.takeI_mid h0 (by omega) (by omega) | exact Codec.takeI_high h0 (by omega) | (rw [Codec.takeI_pos h0 (by omega) (by omega)]; exact Codec.body_short (by omega)) | (rw [Codec.takeI_neg h0 (by omega) (by omega)]; exact Codec.body_short (by omega))
        replace hf := hf.setv (d := 2) (y := .int .i64 ((Codec.takeI bs).1)) rfl (congrArg (Value.int .i64) (by rw [HT] <;> first | rfl | (simp; done) | (simp; omega) | omega))
        replace hf := hf.setv (d := 3) (y := .int .i64 ((Codec.takeI bs).2.1 : Int)) rfl (congrArg (Value.int .i64) (by rw [HT] <;> first | rfl | (simp; done) | (simp; omega) | omega))
        replace hf := hf.setv (d := 4) (y := .int .i64 ((Codec.takeI bs).2.2)) rfl (congrArg (Value.int .i64) (by rw [HT] <;> first | rfl | (simp; done) | (simp; omega) | omega))
        refine Z.ret3 hf Try.results68 rfl rfl rfl ?_
        exact ⟨rfl, (Z.Ch.refl w)⟩
      · intro hp35
        refine Z.qseq [.n, .n, .n] [26] [] [(26, .bool (decide ((x13.toNat : Int) ≤ 199)))] Z.k0 hf ?_; clear hf a; intro a hf
        refine Z.condp hf rfl ?_ ?_
        · intro hp36
          refine Z.qseq [.n, .n, .n, .n, .n, .n] [2, 3, 4] [Z.R64 ((x13.toNat : Int)), Z.R64 ((x13.toNat : Int) - 100)] [(2, .int .i64 ((x13.toNat : Int) - 100)), (3, .int .i64 1), (4, .int .i64 0)] Z.k0 hf ?_; clear hf a; intro a hf
          refine Z.ret ?_
          refine he31 _ _ _ (by simp) (by simp) ?_
          refine he26 _ _ _ (by simp) ?_
          have HT : Codec.takeI bs = ((x13.toNat : Int) - 100, 1, 0) := by first | exact Codec.takeI_nil (by omega) | exact Codec.takeI_low h0 (by omega) | exact Codec.takeI_gap h0 (by omega) (by omega) | exact Codec.takeI_mid h0 (by omega) (by omega) | exact Codec.takeI_high h0 (by omega) | (rw [Codec.takeI_pos h0 (by omega) (by omega)]; exact Codec.body_short (by omega)) | (rw [Codec.takeI_neg h0 (by omega) (by omega)]; exact Codec.body_short (by omega))
          replace hf := hf.setv (d := 2) (y := .int .i64 ((Codec.takeI bs).1)) rfl (congrArg (Value.int .i64) (by rw [HT] <;> first | rfl | (simp; done) | (simp; omega) | omega))
          replace hf := hf.setv (d := 3) (y := .int .i64 ((Codec.takeI bs).2.1 : Int)) rfl (congrArg (Value.int .i64) (by rw [HT] <;> first | rfl | (simp; done) | (simp; omega) | omega))
          replace hf := hf.setv (d := 4) (y := .int .i64 ((Codec.takeI bs).2.2)) rfl (congrArg (Value.int .i64) (by rw [HT] <;> first | rfl | (simp; done) | (simp; omega) | omega))
          refine Z.ret3 hf Try.results68 rfl rfl rfl ?_
          exact ⟨rfl, (Z.Ch.refl w)⟩
        · intro hp37
          refine Z.qseq [.n, .n, .n] [32] [] [(32, .bool (decide (215 < (x13.toNat : Int))))] Z.k0 hf ?_; clear hf a; intro a hf
          refine Z.condp hf rfl ?_ ?_
          · intro hp38
            refine Z.qseq [.n, .n, .n] [2, 3, 4] [] [(2, .int .i64 0), (3, .int .i64 0), (4, .int .i64 70)] Z.k0 hf ?_; clear hf a; intro a hf
            refine Z.ret ?_
            refine he31 _ _ _ (by simp) (by simp) ?_
            refine he26 _ _ _ (by simp) ?_
            have HT : Codec.takeI bs = (0, 0, 70) := by first | exact Codec.takeI_nil (by omega) | exact Codec.takeI_low h0 (by omega) | exact Codec.takeI_gap h0 (by omega) (by omega) | exact Codec.takeI_mid h0 (by omega) (by omega) | exact Codec.takeI_high h0 (by omega) | (rw [Codec.takeI_pos h0 (by omega) (by omega)]; exact Codec.body_short (by omega)) | (rw [Codec.takeI_neg h0 (by omega) (by omega)]; exact Codec.body_short (by omega))
            replace hf := hf.setv (d := 2) (y := .int .i64 ((Codec.takeI bs).1)) rfl (congrArg (Value.int .i64) (by rw [HT] <;> first | rfl | (simp; done) | (simp; omega) | omega))
            replace hf := hf.setv (d := 3) (y := .int .i64 ((Codec.takeI bs).2.1 : Int)) rfl (congrArg (Value.int .i64) (by rw [HT] <;> first | rfl | (simp; done) | (simp; omega) | omega))
            replace hf := hf.setv (d := 4) (y := .int .i64 ((Codec.takeI bs).2.2)) rfl (congrArg (Value.int .i64) (by rw [HT] <;> first | rfl | (simp; done) | (simp; omega) | omega))
            refine Z.ret3 hf Try.results68 rfl rfl rfl ?_
            exact ⟨rfl, (Z.Ch.refl w)⟩
          · intro hp39
            refine Z.skip ?_
            refine hn29 _ _ ?_
            refine hn25 _ _ ?_
            refine Z.qseq [.n, .n, .n, .n] [6] [Z.R64 ((x13.toNat : Int)), Z.R64 ((x13.toNat : Int) - 199)] [(6, .int .i64 ((x13.toNat : Int) - 199))] Z.k0 hf ?_; clear hf a; intro a hf
            refine Z.seq' (Z.Pq.body _ _ _) fun Q40 hp41 hn42 he43 => ?_
            refine Z.qseq [.n, .n] [39] [] [(39, .bool (decide (207 < (x13.toNat : Int))))] Z.k0 hf ?_; clear hf a; intro a hf
            refine Z.condp hf rfl ?_ ?_
            · intro hp44
              refine Z.qreg [.n, .n, .n, .n] [6] [Z.R64 ((x13.toNat : Int)), Z.R64 ((x13.toNat : Int) - 207)] [(6, .int .i64 ((x13.toNat : Int) - 207))] Z.k0 hf ?_; clear hf a; intro a hf
              refine hn42 _ _ ?_
              refine Z.seq' (Z.Pq.body _ _ _) fun Q45 hp46 hn47 he48 => ?_
              refine Z.qseq [.n, .n, .n, .n] [46] [] [(46, .bool (decide ((bs.length : Int) ≤ (x13.toNat : Int) - 207)))] Z.k0 hf ?_; clear hf a; intro a hf
              refine Z.condp hf rfl ?_ ?_
              · intro hp49
                refine Z.qseq [.n, .n, .n] [2, 3, 4] [] [(2, .int .i64 0), (3, .int .i64 0), (4, .int .i64 71)] Z.k0 hf ?_; clear hf a; intro a hf
                refine Z.ret ?_
                refine he48 _ _ _ (by simp) ?_
                have HT : Codec.takeI bs = (0, 0, 71) := by first | exact Codec.takeI_nil (by omega) | exact Codec.takeI_low h0 (by omega) | exact Codec.takeI_gap h0 (by omega) (by omega) | exact Codec.takeI_mid h0 (by omega) (by omega) | exact Codec.takeI_high h0 (by omega) | (rw [Codec.takeI_pos h0 (by omega) (by omega)]; exact Codec.body_short (by omega)) | (rw [Codec.takeI_neg h0 (by omega) (by omega)]; exact Codec.body_short (by omega))
                replace hf := hf.setv (d := 2) (y := .int .i64 ((Codec.takeI bs).1)) rfl (congrArg (Value.int .i64) (by rw [HT] <;> first | rfl | (simp; done) | (simp; omega) | omega))
                replace hf := hf.setv (d := 3) (y := .int .i64 ((Codec.takeI bs).2.1 : Int)) rfl (congrArg (Value.int .i64) (by rw [HT] <;> first | rfl | (simp; done) | (simp; omega) | omega))
                replace hf := hf.setv (d := 4) (y := .int .i64 ((Codec.takeI bs).2.2)) rfl (congrArg (Value.int .i64) (by rw [HT] <;> first | rfl | (simp; done) | (simp; omega) | omega))
                refine Z.ret3 hf Try.results68 rfl rfl rfl ?_
                exact ⟨rfl, (Z.Ch.refl w)⟩
              · intro hp50
                refine Z.skip ?_
                refine hn47 _ _ ?_
                refine Z.qseq [.n] [7] [] [(7, .int .u64 0)] Z.k0 hf ?_; clear hf a; intro a hf
                refine Z.seq' (Z.Pq.body _ _ _) fun Q51 hp52 hn53 he54 => ?_
                refine Z.seq' hp52 fun Q55 hp56 hn57 he58 => ?_
                refine Z.reg ?_
                refine Z.qr [.n, .n, .n, .n, .n] [47, 49, 51] [Z.R64 ((x13.toNat : Int) - 207 + 1), Z.R64 ((x13.toNat : Int) - 207 + 1)] [(47, .slice pA0 bs.length pc0), (49, .int .i64 ((x13.toNat : Int) - 207 + 1)), (51, .int .i64 ((x13.toNat : Int) - 207 + 1))] Z.k0 hf ?_; clear hf a; intro a hf
                have hl59 := Z.rep_slice_len ph0o
                have hr60 := Z.rep_cut ph0o 1 ((x13.toNat : Int) - 207 + 1).toNat ((x13.toNat : Int) - 207 + 1).toNat (by omega) (by omega) (by omega) (by omega)
                have hn61 : ((bs.take ((x13.toNat : Int) - 207 + 1).toNat).drop 1).length = ((x13.toNat : Int) - 207 + 1).toNat - 1 := by first | rfl | omega | (simp only [List.length_take, List.length_drop]; done) | (simp only [List.length_take, List.length_drop]; omega)
                refine Z.val hf rfl (Z.r_slice_lhm (u := 1) (v := ((x13.toNat : Int) - 207 + 1).toNat) (m := ((x13.toNat : Int) - 207 + 1).toNat) Try.underlying40 Try.sizeOf5 (hf.eval rfl) (hf.eval rfl) (hf.eval rfl) (hf.eval rfl) (by omega) (by omega) (by omega) (by omega) (by omega) (by omega)) ?_; clear hf a; intro a hf
                replace hf := hf.setv (d := 52) (y := .slice (Z.cutA pA0 ((x13.toNat : Int) - 207 + 1).toNat 1 1) (((bs.take ((x13.toNat : Int) - 207 + 1).toNat).drop 1).length) (((x13.toNat : Int) - 207 + 1).toNat - 1)) rfl (Z.slice_n (by first | rfl | omega | (simp only [List.length_take, List.length_drop]; done) | (simp only [List.length_take, List.length_drop]; omega) | (simp; omega)))
                refine Z.qe [.n, .n] [53, 54] [] [(53, .int .i64 (((bs.take ((x13.toNat : Int) - 207 + 1).toNat).drop 1).length : Int)), (54, .int .i64 0)] Z.k0 hf ?_; clear hf a; intro a hf
                refine hn57 _ _ ?_
                refine Z.block' hp52 fun Q62 hp63 hn64 hx65 he66 => ?_
                refine Z.loop' hp63 (fun m a wl => ∃ (k : Nat), ∃ (u : Nat), m = ((bs.take ((x13.toNat : Int) - 207 + 1).toNat).drop 1).length - k ∧ Z.Ch [] w wl ∧ (k ≤ ((bs.take ((x13.toNat : Int) - 207 + 1).toNat).drop 1).length) ∧ (u = Codec.val (((bs.take ((x13.toNat : Int) - 207 + 1).toNat).drop 1).take k)) ∧ Z.Fr a 86 [] [(0, .slice pA0 bs.length pc0), (5, .int .u8 (x13.toNat : Int)), (6, .int .i64 ((x13.toNat : Int) - 207)), (7, .int .u64 (u : Int)), (52, .slice (Z.cutA pA0 ((x13.toNat : Int) - 207 + 1).toNat 1 1) (((bs.take ((x13.toNat : Int) - 207 + 1).toNat).drop 1).length) (((x13.toNat : Int) - 207 + 1).toNat - 1)), (53, .int .i64 (((bs.take ((x13.toNat : Int) - 207 + 1).toNat).drop 1).length : Int)), (54, .int .i64 (k : Int))]) (((bs.take ((x13.toNat : Int) - 207 + 1).toNat).drop 1).length - 0) ?_ ?_
                · replace hf := hf.setv (d := 7) (y := .int .u64 (0 : Int)) rfl (congrArg (Value.int .u64) (by first | rfl | omega | (simp; done) | (simp; omega)))
                  replace hf := hf.setv (d := 54) (y := .int .i64 (0 : Int)) rfl (congrArg (Value.int .i64) (by first | rfl | omega | (simp; done) | (simp; omega)))
                  exact ⟨0, 0, rfl, (Z.Ch.refl w), (by omega), (by simp [Codec.val]), (hf.keep [0, 5, 6, 7, 52, 53, 54])⟩
                · rintro m78 a w67 ⟨k70, u71, hm69, hc68, hk76, hu77, hf⟩ Q72 hp73 hn74 he75
                  have hzhc68 := hc68.size
                  refine Z.qseq [.n] [55] [] [(55, .bool (decide ((k70 : Int) < (((bs.take ((x13.toNat : Int) - 207 + 1).toNat).drop 1).length : Int))))] Z.k0 hf ?_; clear hf a; intro a hf
                  refine Z.seq' hp73 fun Q79 hp80 hn81 he82 => ?_
                  refine Z.condp hf rfl ?_ ?_
                  · intro hp83
                    refine Z.skip ?_
                    refine hn81 _ _ ?_
                    refine Z.seq' hp73 fun Q84 hp85 hn86 he87 => ?_
                    refine Z.block' hp85 fun Q88 hp89 hn90 hx91 he92 => ?_
                    refine Z.seq' hp89 fun Q93 hp94 hn95 he96 => ?_
                    refine Z.reg ?_
                    have hr97 := Z.rep_to (F' := (Z.ol [] w.heap.size)) hr60 hc68
                    have hkx100 : k70 < ((bs.take ((x13.toNat : Int) - 207 + 1).toNat).drop 1).length := (by omega)
                    obtain ⟨ad98, es99, x100, hA101, hF102, hl103, hx104, hc105, hr106⟩ := Z.rep_el hr97 hkx100
                    have hok107 := Z.rep_ok _ hr106
                    have he108 : _ = _ := hr106
                    have he109 : es99 = [.int .u8 (x100.toNat : Int)] := by simp only [he108, List.cons_append, List.nil_append]
                    rw [he109] at hc105
                    have hea := hx104
                    have hxl := x100.toNat_lt
                    have hsm := Codec.val_lt7 (l := ((bs.take ((x13.toNat : Int) - 207 + 1).toNat).drop 1).take k70) (by rw [List.length_take]; omega)
                    rw [← hu77] at hsm
                    refine Z.val hf rfl (Z.r_indexAddrE Try.underlying40 Try.sizeOf5 (hf.eval rfl) hA101 (hf.eval rfl) (k := k70) (by first | rfl | omega) (by omega)) ?_; clear hf a; intro a hf
                    refine Z.qe [.e 0 0, .n] [9] [] [(9, .int .u8 (x100.toNat : Int))] (Z.ke hc105 Z.k0) hf ?_; clear hf a; intro a hf
                    refine hn95 _ _ ?_
                    refine Z.reg ?_
                    refine Z.qr [.n] [58] [] [(58, .int .u64 (u71 : Int))] Z.k0 hf ?_; clear hf a; intro a hf
                    refine Z.val hf rfl (Z.r_shl8 (hf.eval rfl) (hf.eval rfl) rfl (Z.u64_in _ (by omega))) ?_; clear hf a; intro a hf
                    refine Z.qr [.n] [60] [] [(60, .int .u8 (x100.toNat : Int))] Z.k0 hf ?_; clear hf a; intro a hf
                    refine Z.val hf rfl (Z.r_convw Try.underlying5 Try.underlying104 (hf.eval rfl) (Z.u64_in _ (by omega))) ?_; clear hf a; intro a hf
                    refine Z.val hf rfl (Z.r_orb (u := u71) (b := x100.toNat) (hf.eval rfl) (hf.eval rfl) (by omega) (by omega) (by omega) (by omega)) ?_; clear hf a; intro a hf
                    refine Z.qe [.n] [7] [] [(7, .int .u64 ((u71 * 256 + x100.toNat : Nat) : Int))] Z.k0 hf ?_; clear hf a; intro a hf
                    refine hn90 _ _ ?_
                    refine hn86 _ _ ?_
                    refine Z.qreg [.n, .n] [54] [Z.R64 ((k70 : Int) + 1)] [(54, .int .i64 ((k70 : Int) + 1))] Z.k0 hf ?_; clear hf a; intro a hf
                    refine hn74 (((bs.take ((x13.toNat : Int) - 207 + 1).toNat).drop 1).length - (k70 + 1)) _ _ ?_ ?_
                    rotate_left
                    replace hf := hf.setv (d := 7) (y := .int .u64 (((u71 * 256 + x100.toNat) : Nat) : Int)) rfl (congrArg (Value.int .u64) (by first | rfl | omega | (simp; done) | (simp; omega)))
                    replace hf := hf.setv (d := 54) (y := .int .i64 ((k70 + 1 : Nat) : Int)) rfl (congrArg (Value.int .i64) (by first | rfl | omega | (simp; done) | (simp; omega)))
                    exact ⟨k70 + 1, (u71 * 256 + x100.toNat), rfl, hc68, (by omega), (by rw [Codec.val_take hea, ← hu77]), (hf.keep [0, 5, 6, 7, 52, 53, 54])⟩
                    rw [hm69]; omega
                  · intro hp110
                    refine Z.exit ?_
                    refine he82 _ _ _ (by simp) ?_
                    refine he75 _ _ _ (by simp) ?_
                    refine hx65 _ _ ?_
                    refine hn53 _ _ ?_
                    have hU : Codec.val ((bs.drop 1).take (x13.toNat - 207)) = u71 := by exact (congrArg Codec.val (Codec.cutv (n := (x13.toNat - 207)) (by omega)).symm).trans ((congrArg Codec.val (List.take_of_length_le (by omega)).symm).trans hu77.symm)
                    have hlt := Codec.val_lt8 (l := (bs.drop 1).take (x13.toNat - 207)) (by rw [List.length_take]; omega)
                    rw [hU] at hlt
                    have hwr := Z.wrap_i64 hlt
                    refine Z.seq' (Z.Pq.body _ _ _) fun Q111 hp112 hn113 he114 => ?_
                    have hU : Codec.val ((bs.drop 1).take (x13.toNat - 207)) = u71 := by exact (congrArg Codec.val (Codec.cutv (n := (x13.toNat - 207)) (by omega)).symm).trans ((congrArg Codec.val (List.take_of_length_le (by omega)).symm).trans hu77.symm)
                    have hlt := Codec.val_lt8 (l := (bs.drop 1).take (x13.toNat - 207)) (by rw [List.length_take]; omega)
                    rw [hU] at hlt
                    have hwr := Z.wrap_i64 hlt
                    refine Z.reg ?_
                    refine Z.qr [.n] [64] [] [(64, .int .u64 (u71 : Int))] Z.k0 hf ?_; clear hf a; intro a hf
                    refine Z.val hf rfl (Z.r_conv Try.underlying104 Try.underlying2 (hf.eval rfl)) ?_; clear hf a; intro a hf
                    refine Z.qe [.n] [10] [] [(10, .int .i64 (IntKind.i64.wrap (u71 : Int)))] Z.k0 hf ?_; clear hf a; intro a hf
                    refine hn113 _ _ ?_
                    refine Z.seq' (Z.Pq.body _ _ _) fun Q115 hp116 hn117 he118 => ?_
                    refine Z.qseq [.n, .n] [67] [] [(67, .bool (decide (207 < (x13.toNat : Int))))] Z.k0 hf ?_; clear hf a; intro a hf
                    refine Z.condp hf rfl ?_ ?_
                    · intro hp119
                      refine Z.qreg [.n, .n, .n] [10] [Z.R64 (-1 - (IntKind.i64.wrap (u71 : Int)))] [(10, .int .i64 (-1 - (IntKind.i64.wrap (u71 : Int))))] Z.k0 hf ?_; clear hf a; intro a hf
                      refine hn117 _ _ ?_
                      refine Z.seq' (Z.Pq.body _ _ _) fun Q120 hp121 hn122 he123 => ?_
                      refine Z.seq' hp121 fun Q124 hp125 hn126 he127 => ?_
                      
                      refine Z.dr_reg (S := fun w' => Z.Ch [] w67 w') mixed ?_; intro w128 hc129 hz130
                      refine Z.dqr [true, false, false, false, false, false, false, false, false, false, false, false, false] 12 [(0, .n)] [70] [] [(70, .int .u64 (u71 : Int))] hp125 hc129 (fun w hw => Z.k0) hf ?_; clear hf a; intro a hf
                      refine Z.dr_val 1 hf rfl rfl (by kernel_rfl) (by kernel_rfl) hp125 hc129 Z.wanted_none (fun _ hw => Z.r_conv Try.underlying104 Try.underlying2 (hf.eval rfl)) ?_; clear hf a; intro a hf
                      refine Z.dqr [true, true, true, true, false, false, false, false, false, false, false, false, false] 9 [(2, .n), (3, .n)] [73] [] [(73, .bool (decide (IntKind.i64.wrap (u71 : Int) < 0)))] hp125 hc129 (fun w hw => Z.k0) hf ?_; clear hf a; intro a hf
                      by_cases hdec : IntKind.i64.wrap (u71 : Int) < 0 <;> revert hdec
                      · intro hp131
                        replace hf := hf.setb (d := 73) (b' := true) rfl (decide_eq_true hp131)
                        refine Z.dqr [true, true, true, true, true, true, true, true, true, true, true, true, true] 0 [(4, .off), (5, .off), (6, .off), (7, .off), (8, .off), (9, .off), (10, .off), (11, .off), (12, .n)] [82] [] [(82, .bool true)] hp125 hc129 (fun w hw => Z.k0) hf ?_; clear hf a; intro a hf
                        refine Z.dr_done (by kernel_rfl) ?_
                        refine hn126 _ _ ?_
                        refine Z.condt hf rfl ?_
                        refine Z.qseq [.n, .n, .n] [2, 3, 4] [] [(2, .int .i64 0), (3, .int .i64 0), (4, .int .i64 70)] Z.k0 hf ?_; clear hf a; intro a hf
                        refine Z.ret ?_
                        refine he123 _ _ _ (by simp) ?_
                        have HT : Codec.takeI bs = (0, 0, 70) := by first | exact Codec.takeI_nil (by omega) | exact Codec.takeI_low h0 (by omega) | exact Codec.takeI_gap h0 (by omega) (by omega) | exact Codec.takeI_mid h0 (by omega) (by omega) | exact Codec.takeI_high h0 (by omega) | (rw [Codec.takeI_pos h0 (by omega) (by omega)]; exact Codec.body_short (by omega)) | (rw [Codec.takeI_neg h0 (by omega) (by omega)]; exact Codec.body_short (by omega)) | (rw [Codec.takeI_neg h0 (by omega) (by omega)]; exact Codec.body_big (by omega) (by rw [hU]; omega)) | (rw [Codec.takeI_neg h0 (by omega) (by omega)]; exact Codec.body_bad (v := -1 - (IntKind.i64.wrap (u71 : Int))) (by omega) (by rw [hU]; simp only [if_true, if_false, Bool.false_eq_true]; omega) (by have h := hp131; simp only [Bool.not_eq_true', decide_eq_false_iff_not] at h; intro h2; apply h; rw [h2]; congr 1; omega)) | (rw [Codec.takeI_neg h0 (by omega) (by omega)]; exact Codec.body_ok (v := -1 - (IntKind.i64.wrap (u71 : Int))) (by omega) (by rw [hU]; omega) (by rw [hU]; simp only [if_true, if_false, Bool.false_eq_true]; omega) (by have h := hp131; simp only [Bool.not_eq_false', decide_eq_true_eq] at h; rw [h]; congr 1; omega))
                        replace hf := hf.setv (d := 2) (y := .int .i64 ((Codec.takeI bs).1)) rfl (congrArg (Value.int .i64) (by rw [HT] <;> first | rfl | (simp; done) | (simp; omega) | omega))
                        replace hf := hf.setv (d := 3) (y := .int .i64 ((Codec.takeI bs).2.1 : Int)) rfl (congrArg (Value.int .i64) (by rw [HT] <;> first | rfl | (simp; done) | (simp; omega) | omega))
                        replace hf := hf.setv (d := 4) (y := .int .i64 ((Codec.takeI bs).2.2)) rfl (congrArg (Value.int .i64) (by rw [HT] <;> first | rfl | (simp; done) | (simp; omega) | omega))
                        have hq132 : Z.Ch [] w w128 := hc68.then hc129
                        refine Z.ret3 hf Try.results68 rfl rfl rfl ?_
                        exact ⟨rfl, hq132⟩
                      · intro hp133
                        replace hf := hf.setb (d := 73) (b' := false) rfl (decide_eq_false hp133)
                        refine Z.dqr [true, true, true, true, true, false, true, true, true, false, false, false, false] 5 [(4, (.on .n)), (6, (.on .n)), (7, (.on .n)), (8, (.on .n))] [74, 76, 78] [Z.R64 ((x13.toNat : Int) - 207 + 1)] [(74, .int .i64 (-1 - (IntKind.i64.wrap (u71 : Int)))), (76, .slice pA0 bs.length pc0), (78, .int .i64 ((x13.toNat : Int) - 207 + 1))] hp125 hc129 (fun w hw => Z.k0) hf ?_; clear hf a; intro a hf
                        have hr134 := Z.rep_to (F' := (Z.ol [] w.heap.size)) ph0o hc68
                        have hl135 := Z.rep_slice_len hr134
                        have hr136 := Z.rep_cuth hr134 ((x13.toNat : Int) - 207 + 1).toNat (by omega)
                        have hn137 : (bs.take ((x13.toNat : Int) - 207 + 1).toNat).length = ((x13.toNat : Int) - 207 + 1).toNat := by first | rfl | omega | (simp only [List.length_take, List.length_drop]; done) | (simp only [List.length_take, List.length_drop]; omega)
                        refine Z.dr_val 9 hf rfl rfl (by kernel_rfl) (by kernel_rfl) hp125 hc129 (Z.wanted_on hf rfl rfl) (fun _ hw => Z.r_slice_h (u := ((x13.toNat : Int) - 207 + 1).toNat) Try.underlying40 Try.sizeOf5 (hf.eval rfl) (hf.eval rfl) (by omega) (by omega)) ?_; clear hf a; intro a hf
                        replace hf := hf.setv (d := 79) (y := .slice pA0 ((bs.take ((x13.toNat : Int) - 207 + 1).toNat).length) pc0) rfl (Z.slice_n (by first | rfl | omega | (simp only [List.length_take, List.length_drop]; done) | (simp only [List.length_take, List.length_drop]; omega) | (simp; omega)))
                        refine Z.dr_one 5 rfl (by kernel_rfl) ?_
                        refine Z.on hf rfl rfl ?_
                        refine Z.call1 hf rfl (Z.r_call cf26 hf (xs := [.tmp 74]) rfl) (Int_spec (-1 - (IntKind.i64.wrap (u71 : Int))) w128  (by unfold Codec.okInt; omega)) ?_; clear hf a
                        rintro _ w138 ⟨A139, c140, rfl, ho141, hc143⟩
                        have hzhc143 := hc143.size
                        refine ⟨_, rfl, ?_⟩; intro a hf
                        refine Z.done ?_
                        have hq144 : Z.Ch [] w67 w138 := hc129.then hc143
                        refine And.intro hq144 ?_
                        refine Z.dr_one 10 rfl (by kernel_rfl) ?_
                        refine Z.on hf rfl rfl ?_
                        have hr145 := ho141.riv
                        have hr146 := Z.rep_to (F' := (Z.nt [])) hr145 (Z.Ch.refl w138)
                        have hr147 := Z.rep_to (F' := (Z.nt [])) hr136 hq144
                        refine Z.call1 hf rfl (Z.r_call cf10 hf (xs := [.tmp 75, .tmp 79]) rfl) (Equal_spec (Codec.encInt (-1 - (IntKind.i64.wrap (u71 : Int)))) (bs.take ((x13.toNat : Int) - 207 + 1).toNat) w138 A139 c140 pA0 pc0 hr146 hr147) ?_; clear hf a
                        rintro _ w148 ⟨rfl, hc149⟩
                        have hzhc149 := hc149.size
                        refine ⟨_, rfl, ?_⟩; intro a hf
                        refine Z.done ?_
                        have hq150 : Z.Ch [] w67 w148 := hq144.then hc149
                        refine And.intro hq150 ?_
                        refine Z.dqr [true, true, true, true, true, true, true, true, true, true, true, true, true] 0 [(11, (.on .n)), (12, .n)] [82] [] [(82, .bool (!(decide ((Codec.encInt (-1 - (IntKind.i64.wrap (u71 : Int)))) = (bs.take ((x13.toNat : Int) - 207 + 1).toNat)))))] hp125 hq150 (fun w hw => Z.k0) hf ?_; clear hf a; intro a hf
                        refine Z.dr_done (by kernel_rfl) ?_
                        refine hn126 _ _ ?_
                        refine Z.cond hf rfl ?_ ?_
                        · intro hp151
                          refine Z.qseq [.n, .n, .n] [2, 3, 4] [] [(2, .int .i64 0), (3, .int .i64 0), (4, .int .i64 70)] Z.k0 hf ?_; clear hf a; intro a hf
                          refine Z.ret ?_
                          refine he123 _ _ _ (by simp) ?_
                          have HT : Codec.takeI bs = (0, 0, 70) := by first | exact Codec.takeI_nil (by omega) | exact Codec.takeI_low h0 (by omega) | exact Codec.takeI_gap h0 (by omega) (by omega) | exact Codec.takeI_mid h0 (by omega) (by omega) | exact Codec.takeI_high h0 (by omega) | (rw [Codec.takeI_pos h0 (by omega) (by omega)]; exact Codec.body_short (by omega)) | (rw [Codec.takeI_neg h0 (by omega) (by omega)]; exact Codec.body_short (by omega)) | (rw [Codec.takeI_neg h0 (by omega) (by omega)]; exact Codec.body_big (by omega) (by rw [hU]; omega)) | (rw [Codec.takeI_neg h0 (by omega) (by omega)]; exact Codec.body_bad (v := -1 - (IntKind.i64.wrap (u71 : Int))) (by omega) (by rw [hU]; simp only [if_true, if_false, Bool.false_eq_true]; omega) (by have h := hp151; simp only [Bool.not_eq_true', decide_eq_false_iff_not] at h; intro h2; apply h; rw [h2]; congr 1; omega)) | (rw [Codec.takeI_neg h0 (by omega) (by omega)]; exact Codec.body_ok (v := -1 - (IntKind.i64.wrap (u71 : Int))) (by omega) (by rw [hU]; omega) (by rw [hU]; simp only [if_true, if_false, Bool.false_eq_true]; omega) (by have h := hp151; simp only [Bool.not_eq_false', decide_eq_true_eq] at h; rw [h]; congr 1; omega))
                          replace hf := hf.setv (d := 2) (y := .int .i64 ((Codec.takeI bs).1)) rfl (congrArg (Value.int .i64) (by rw [HT] <;> first | rfl | (simp; done) | (simp; omega) | omega))
                          replace hf := hf.setv (d := 3) (y := .int .i64 ((Codec.takeI bs).2.1 : Int)) rfl (congrArg (Value.int .i64) (by rw [HT] <;> first | rfl | (simp; done) | (simp; omega) | omega))
                          replace hf := hf.setv (d := 4) (y := .int .i64 ((Codec.takeI bs).2.2)) rfl (congrArg (Value.int .i64) (by rw [HT] <;> first | rfl | (simp; done) | (simp; omega) | omega))
                          have hq152 : Z.Ch [] w w128 := hc68.then hc129
                          have hq153 : Z.Ch [] w w138 := hq152.then hc143
                          have hq154 : Z.Ch [] w w148 := hq153.then hc149
                          refine Z.ret3 hf Try.results68 rfl rfl rfl ?_
                          exact ⟨rfl, hq154⟩
                        · intro hp155
                          refine Z.skip ?_
                          refine hn122 _ _ ?_
                          refine Z.qseq [.n, .n, .n, .n, .n, .n] [2, 3, 4] [Z.R64 ((x13.toNat : Int) - 207 + 1)] [(2, .int .i64 (-1 - (IntKind.i64.wrap (u71 : Int)))), (3, .int .i64 ((x13.toNat : Int) - 207 + 1)), (4, .int .i64 0)] Z.k0 hf ?_; clear hf a; intro a hf
                          refine Z.ret ?_
                          have HT : Codec.takeI bs = (-1 - (IntKind.i64.wrap (u71 : Int)), (x13.toNat - 207) + 1, 0) := by first | exact Codec.takeI_nil (by omega) | exact Codec.takeI_low h0 (by omega) | exact Codec.takeI_gap h0 (by omega) (by omega) | exact Codec.takeI_mid h0 (by omega) (by omega) | exact Codec.takeI_high h0 (by omega) | (rw [Codec.takeI_pos h0 (by omega) (by omega)]; exact Codec.body_short (by omega)) | (rw [Codec.takeI_neg h0 (by omega) (by omega)]; exact Codec.body_short (by omega)) | (rw [Codec.takeI_neg h0 (by omega) (by omega)]; exact Codec.body_big (by omega) (by rw [hU]; omega)) | (rw [Codec.takeI_neg h0 (by omega) (by omega)]; exact Codec.body_bad (v := -1 - (IntKind.i64.wrap (u71 : Int))) (by omega) (by rw [hU]; simp only [if_true, if_false, Bool.false_eq_true]; omega) (by have h := hp155; simp only [Bool.not_eq_true', decide_eq_false_iff_not] at h; intro h2; apply h; rw [h2]; congr 1; omega)) | (rw [Codec.takeI_neg h0 (by omega) (by omega)]; exact Codec.body_ok (v := -1 - (IntKind.i64.wrap (u71 : Int))) (by omega) (by rw [hU]; omega) (by rw [hU]; simp only [if_true, if_false, Bool.false_eq_true]; omega) (by have h := hp155; simp only [Bool.not_eq_false', decide_eq_true_eq] at h; rw [h]; congr 1; omega))
                          replace hf := hf.setv (d := 2) (y := .int .i64 ((Codec.takeI bs).1)) rfl (congrArg (Value.int .i64) (by rw [HT] <;> first | rfl | (simp; done) | (simp; omega) | omega))
                          replace hf := hf.setv (d := 3) (y := .int .i64 ((Codec.takeI bs).2.1 : Int)) rfl (congrArg (Value.int .i64) (by rw [HT] <;> first | rfl | (simp; done) | (simp; omega) | omega))
                          replace hf := hf.setv (d := 4) (y := .int .i64 ((Codec.takeI bs).2.2)) rfl (congrArg (Value.int .i64) (by rw [HT] <;> first | rfl | (simp; done) | (simp; omega) | omega))
                          have hq156 : Z.Ch [] w w128 := hc68.then hc129
                          have hq157 : Z.Ch [] w w138 := hq156.then hc143
                          have hq158 : Z.Ch [] w w148 := hq157.then hc149
                          refine Z.ret3 hf Try.results68 rfl rfl rfl ?_
                          exact ⟨rfl, hq158⟩
                    · intro hp159
                      exfalso; omega
            · intro hp160
              refine Z.skip ?_
              refine hn42 _ _ ?_
              refine Z.seq' (Z.Pq.body _ _ _) fun Q161 hp162 hn163 he164 => ?_
              refine Z.qseq [.n, .n, .n, .n] [46] [] [(46, .bool (decide ((bs.length : Int) ≤ (x13.toNat : Int) - 199)))] Z.k0 hf ?_; clear hf a; intro a hf
              refine Z.condp hf rfl ?_ ?_
              · intro hp165
                refine Z.qseq [.n, .n, .n] [2, 3, 4] [] [(2, .int .i64 0), (3, .int .i64 0), (4, .int .i64 71)] Z.k0 hf ?_; clear hf a; intro a hf
                refine Z.ret ?_
                refine he164 _ _ _ (by simp) ?_
                have HT : Codec.takeI bs = (0, 0, 71) := by first | exact Codec.takeI_nil (by omega) | exact Codec.takeI_low h0 (by omega) | exact Codec.takeI_gap h0 (by omega) (by omega) | exact Codec.takeI_mid h0 (by omega) (by omega) | exact Codec.takeI_high h0 (by omega) | (rw [Codec.takeI_pos h0 (by omega) (by omega)]; exact Codec.body_short (by omega)) | (rw [Codec.takeI_neg h0 (by omega) (by omega)]; exact Codec.body_short (by omega)) | (rw [Codec.takeI_neg h0 (by omega) (by omega)]; exact Codec.body_big (by omega) (by rw [hU]; omega)) | (rw [Codec.takeI_neg h0 (by omega) (by omega)]; exact Codec.body_bad (v := -1 - (IntKind.i64.wrap (u71 : Int))) (by omega) (by rw [hU]; simp only [if_true, if_false, Bool.false_eq_true]; omega) (by have h := hp165; simp only [Bool.not_eq_true', decide_eq_false_iff_not] at h; intro h2; apply h; rw [h2]; congr 1; omega)) | (rw [Codec.takeI_neg h0 (by omega) (by omega)]; exact Codec.body_ok (v := -1 - (IntKind.i64.wrap (u71 : Int))) (by omega) (by rw [hU]; omega) (by rw [hU]; simp only [if_true, if_false, Bool.false_eq_true]; omega) (by have h := hp165; simp only [Bool.not_eq_false', decide_eq_true_eq] at h; rw [h]; congr 1; omega))
                replace hf := hf.setv (d := 2) (y := .int .i64 ((Codec.takeI bs).1)) rfl (congrArg (Value.int .i64) (by rw [HT] <;> first | rfl | (simp; done) | (simp; omega) | omega))
                replace hf := hf.setv (d := 3) (y := .int .i64 ((Codec.takeI bs).2.1 : Int)) rfl (congrArg (Value.int .i64) (by rw [HT] <;> first | rfl | (simp; done) | (simp; omega) | omega))
                replace hf := hf.setv (d := 4) (y := .int .i64 ((Codec.takeI bs).2.2)) rfl (congrArg (Value.int .i64) (by rw [HT] <;> first | rfl | (simp; done) | (simp; omega) | omega))
                refine Z.ret3 hf Try.results68 rfl rfl rfl ?_
                exact ⟨rfl, (Z.Ch.refl w)⟩
              · intro hp166
                refine Z.skip ?_
                refine hn163 _ _ ?_
                refine Z.qseq [.n] [7] [] [(7, .int .u64 0)] Z.k0 hf ?_; clear hf a; intro a hf
                refine Z.seq' (Z.Pq.body _ _ _) fun Q167 hp168 hn169 he170 => ?_
                refine Z.seq' hp168 fun Q171 hp172 hn173 he174 => ?_
                refine Z.reg ?_
                refine Z.qr [.n, .n, .n, .n, .n] [47, 49, 51] [Z.R64 ((x13.toNat : Int) - 199 + 1), Z.R64 ((x13.toNat : Int) - 199 + 1)] [(47, .slice pA0 bs.length pc0), (49, .int .i64 ((x13.toNat : Int) - 199 + 1)), (51, .int .i64 ((x13.toNat : Int) - 199 + 1))] Z.k0 hf ?_; clear hf a; intro a hf
                have hl175 := Z.rep_slice_len ph0o
                have hr176 := Z.rep_cut ph0o 1 ((x13.toNat : Int) - 199 + 1).toNat ((x13.toNat : Int) - 199 + 1).toNat (by omega) (by omega) (by omega) (by omega)
                have hn177 : ((bs.take ((x13.toNat : Int) - 199 + 1).toNat).drop 1).length = ((x13.toNat : Int) - 199 + 1).toNat - 1 := by first | rfl | omega | (simp only [List.length_take, List.length_drop]; done) | (simp only [List.length_take, List.length_drop]; omega)
                refine Z.val hf rfl (Z.r_slice_lhm (u := 1) (v := ((x13.toNat : Int) - 199 + 1).toNat) (m := ((x13.toNat : Int) - 199 + 1).toNat) Try.underlying40 Try.sizeOf5 (hf.eval rfl) (hf.eval rfl) (hf.eval rfl) (hf.eval rfl) (by omega) (by omega) (by omega) (by omega) (by omega) (by omega)) ?_; clear hf a; intro a hf
                replace hf := hf.setv (d := 52) (y := .slice (Z.cutA pA0 ((x13.toNat : Int) - 199 + 1).toNat 1 1) (((bs.take ((x13.toNat : Int) - 199 + 1).toNat).drop 1).length) (((x13.toNat : Int) - 199 + 1).toNat - 1)) rfl (Z.slice_n (by first | rfl | omega | (simp only [List.length_take, List.length_drop]; done) | (simp only [List.length_take, List.length_drop]; omega) | (simp; omega)))
                refine Z.qe [.n, .n] [53, 54] [] [(53, .int .i64 (((bs.take ((x13.toNat : Int) - 199 + 1).toNat).drop 1).length : Int)), (54, .int .i64 0)] Z.k0 hf ?_; clear hf a; intro a hf
                refine hn173 _ _ ?_
                refine Z.block' hp168 fun Q178 hp179 hn180 hx181 he182 => ?_
                refine Z.loop' hp179 (fun m a wl => ∃ (k : Nat), ∃ (u : Nat), m = ((bs.take ((x13.toNat : Int) - 199 + 1).toNat).drop 1).length - k ∧ Z.Ch [] w wl ∧ (k ≤ ((bs.take ((x13.toNat : Int) - 199 + 1).toNat).drop 1).length) ∧ (u = Codec.val (((bs.take ((x13.toNat : Int) - 199 + 1).toNat).drop 1).take k)) ∧ Z.Fr a 86 [] [(0, .slice pA0 bs.length pc0), (5, .int .u8 (x13.toNat : Int)), (6, .int .i64 ((x13.toNat : Int) - 199)), (7, .int .u64 (u : Int)), (52, .slice (Z.cutA pA0 ((x13.toNat : Int) - 199 + 1).toNat 1 1) (((bs.take ((x13.toNat : Int) - 199 + 1).toNat).drop 1).length) (((x13.toNat : Int) - 199 + 1).toNat - 1)), (53, .int .i64 (((bs.take ((x13.toNat : Int) - 199 + 1).toNat).drop 1).length : Int)), (54, .int .i64 (k : Int))]) (((bs.take ((x13.toNat : Int) - 199 + 1).toNat).drop 1).length - 0) ?_ ?_
                · replace hf := hf.setv (d := 7) (y := .int .u64 (0 : Int)) rfl (congrArg (Value.int .u64) (by first | rfl | omega | (simp; done) | (simp; omega)))
                  replace hf := hf.setv (d := 54) (y := .int .i64 (0 : Int)) rfl (congrArg (Value.int .i64) (by first | rfl | omega | (simp; done) | (simp; omega)))
                  exact ⟨0, 0, rfl, (Z.Ch.refl w), (by omega), (by simp [Codec.val]), (hf.keep [0, 5, 6, 7, 52, 53, 54])⟩
                · rintro m194 a w183 ⟨k186, u187, hm185, hc184, hk192, hu193, hf⟩ Q188 hp189 hn190 he191
                  have hzhc184 := hc184.size
                  refine Z.qseq [.n] [55] [] [(55, .bool (decide ((k186 : Int) < (((bs.take ((x13.toNat : Int) - 199 + 1).toNat).drop 1).length : Int))))] Z.k0 hf ?_; clear hf a; intro a hf
                  refine Z.seq' hp189 fun Q195 hp196 hn197 he198 => ?_
                  refine Z.condp hf rfl ?_ ?_
                  · intro hp199
                    refine Z.skip ?_
                    refine hn197 _ _ ?_
                    refine Z.seq' hp189 fun Q200 hp201 hn202 he203 => ?_
                    refine Z.block' hp201 fun Q204 hp205 hn206 hx207 he208 => ?_
                    refine Z.seq' hp205 fun Q209 hp210 hn211 he212 => ?_
                    refine Z.reg ?_
                    have hr213 := Z.rep_to (F' := (Z.ol [] w.heap.size)) hr176 hc184
                    have hkx216 : k186 < ((bs.take ((x13.toNat : Int) - 199 + 1).toNat).drop 1).length := (by omega)
                    obtain ⟨ad214, es215, x216, hA217, hF218, hl219, hx220, hc221, hr222⟩ := Z.rep_el hr213 hkx216
                    have hok223 := Z.rep_ok _ hr222
                    have he224 : _ = _ := hr222
                    have he225 : es215 = [.int .u8 (x216.toNat : Int)] := by simp only [he224, List.cons_append, List.nil_append]
                    rw [he225] at hc221
                    have hea := hx220
                    have hxl := x216.toNat_lt
                    have hsm := Codec.val_lt7 (l := ((bs.take ((x13.toNat : Int) - 199 + 1).toNat).drop 1).take k186) (by rw [List.length_take]; omega)
                    rw [← hu193] at hsm
                    refine Z.val hf rfl (Z.r_indexAddrE Try.underlying40 Try.sizeOf5 (hf.eval rfl) hA217 (hf.eval rfl) (k := k186) (by first | rfl | omega) (by omega)) ?_; clear hf a; intro a hf
                    refine Z.qe [.e 0 0, .n] [9] [] [(9, .int .u8 (x216.toNat : Int))] (Z.ke hc221 Z.k0) hf ?_; clear hf a; intro a hf
                    refine hn211 _ _ ?_
                    refine Z.reg ?_
                    refine Z.qr [.n] [58] [] [(58, .int .u64 (u187 : Int))] Z.k0 hf ?_; clear hf a; intro a hf
                    refine Z.val hf rfl (Z.r_shl8 (hf.eval rfl) (hf.eval rfl) rfl (Z.u64_in _ (by omega))) ?_; clear hf a; intro a hf
                    refine Z.qr [.n] [60] [] [(60, .int .u8 (x216.toNat : Int))] Z.k0 hf ?_; clear hf a; intro a hf
                    refine Z.val hf rfl (Z.r_convw Try.underlying5 Try.underlying104 (hf.eval rfl) (Z.u64_in _ (by omega))) ?_; clear hf a; intro a hf
                    refine Z.val hf rfl (Z.r_orb (u := u187) (b := x216.toNat) (hf.eval rfl) (hf.eval rfl) (by omega) (by omega) (by omega) (by omega)) ?_; clear hf a; intro a hf
                    refine Z.qe [.n] [7] [] [(7, .int .u64 ((u187 * 256 + x216.toNat : Nat) : Int))] Z.k0 hf ?_; clear hf a; intro a hf
                    refine hn206 _ _ ?_
                    refine hn202 _ _ ?_
                    refine Z.qreg [.n, .n] [54] [Z.R64 ((k186 : Int) + 1)] [(54, .int .i64 ((k186 : Int) + 1))] Z.k0 hf ?_; clear hf a; intro a hf
                    refine hn190 (((bs.take ((x13.toNat : Int) - 199 + 1).toNat).drop 1).length - (k186 + 1)) _ _ ?_ ?_
                    rotate_left
                    replace hf := hf.setv (d := 7) (y := .int .u64 (((u187 * 256 + x216.toNat) : Nat) : Int)) rfl (congrArg (Value.int .u64) (by first | rfl | omega | (simp; done) | (simp; omega)))
                    replace hf := hf.setv (d := 54) (y := .int .i64 ((k186 + 1 : Nat) : Int)) rfl (congrArg (Value.int .i64) (by first | rfl | omega | (simp; done) | (simp; omega)))
                    exact ⟨k186 + 1, (u187 * 256 + x216.toNat), rfl, hc184, (by omega), (by rw [Codec.val_take hea, ← hu193]), (hf.keep [0, 5, 6, 7, 52, 53, 54])⟩
                    rw [hm185]; omega
                  · intro hp226
                    refine Z.exit ?_
                    refine he198 _ _ _ (by simp) ?_
                    refine he191 _ _ _ (by simp) ?_
                    refine hx181 _ _ ?_
                    refine hn169 _ _ ?_
                    have hU : Codec.val ((bs.drop 1).take (x13.toNat - 199)) = u187 := by exact (congrArg Codec.val (Codec.cutv (n := (x13.toNat - 199)) (by omega)).symm).trans ((congrArg Codec.val (List.take_of_length_le (by omega)).symm).trans hu193.symm)
                    have hlt := Codec.val_lt8 (l := (bs.drop 1).take (x13.toNat - 199)) (by rw [List.length_take]; omega)
                    rw [hU] at hlt
                    have hwr := Z.wrap_i64 hlt
                    refine Z.seq' (Z.Pq.body _ _ _) fun Q227 hp228 hn229 he230 => ?_
                    have hU : Codec.val ((bs.drop 1).take (x13.toNat - 199)) = u187 := by exact (congrArg Codec.val (Codec.cutv (n := (x13.toNat - 199)) (by omega)).symm).trans ((congrArg Codec.val (List.take_of_length_le (by omega)).symm).trans hu193.symm)
                    have hlt := Codec.val_lt8 (l := (bs.drop 1).take (x13.toNat - 199)) (by rw [List.length_take]; omega)
                    rw [hU] at hlt
                    have hwr := Z.wrap_i64 hlt
                    refine Z.reg ?_
                    refine Z.qr [.n] [64] [] [(64, .int .u64 (u187 : Int))] Z.k0 hf ?_; clear hf a; intro a hf
                    refine Z.val hf rfl (Z.r_conv Try.underlying104 Try.underlying2 (hf.eval rfl)) ?_; clear hf a; intro a hf
                    refine Z.qe [.n] [10] [] [(10, .int .i64 (IntKind.i64.wrap (u187 : Int)))] Z.k0 hf ?_; clear hf a; intro a hf
                    refine hn229 _ _ ?_
                    refine Z.seq' (Z.Pq.body _ _ _) fun Q231 hp232 hn233 he234 => ?_
                    refine Z.qseq [.n, .n] [67] [] [(67, .bool (decide (207 < (x13.toNat : Int))))] Z.k0 hf ?_; clear hf a; intro a hf
                    refine Z.condp hf rfl ?_ ?_
                    · intro hp235
                      exfalso; omega
                    · intro hp236
                      refine Z.skip ?_
                      refine hn233 _ _ ?_
                      refine Z.seq' (Z.Pq.body _ _ _) fun Q237 hp238 hn239 he240 => ?_
                      refine Z.seq' hp238 fun Q241 hp242 hn243 he244 => ?_
                      
                      refine Z.dr_reg (S := fun w' => Z.Ch [] w183 w') mixed ?_; intro w245 hc246 hz247
                      refine Z.dqr [true, false, false, false, false, false, false, false, false, false, false, false, false] 12 [(0, .n)] [70] [] [(70, .int .u64 (u187 : Int))] hp242 hc246 (fun w hw => Z.k0) hf ?_; clear hf a; intro a hf
                      refine Z.dr_val 1 hf rfl rfl (by kernel_rfl) (by kernel_rfl) hp242 hc246 Z.wanted_none (fun _ hw => Z.r_conv Try.underlying104 Try.underlying2 (hf.eval rfl)) ?_; clear hf a; intro a hf
                      refine Z.dqr [true, true, true, true, false, false, false, false, false, false, false, false, false] 9 [(2, .n), (3, .n)] [73] [] [(73, .bool (decide (IntKind.i64.wrap (u187 : Int) < 0)))] hp242 hc246 (fun w hw => Z.k0) hf ?_; clear hf a; intro a hf
                      by_cases hdec : IntKind.i64.wrap (u187 : Int) < 0 <;> revert hdec
                      · intro hp248
                        replace hf := hf.setb (d := 73) (b' := true) rfl (decide_eq_true hp248)
                        refine Z.dqr [true, true, true, true, true, true, true, true, true, true, true, true, true] 0 [(4, .off), (5, .off), (6, .off), (7, .off), (8, .off), (9, .off), (10, .off), (11, .off), (12, .n)] [82] [] [(82, .bool true)] hp242 hc246 (fun w hw => Z.k0) hf ?_; clear hf a; intro a hf
                        refine Z.dr_done (by kernel_rfl) ?_
                        refine hn243 _ _ ?_
                        refine Z.condt hf rfl ?_
                        refine Z.qseq [.n, .n, .n] [2, 3, 4] [] [(2, .int .i64 0), (3, .int .i64 0), (4, .int .i64 70)] Z.k0 hf ?_; clear hf a; intro a hf
                        refine Z.ret ?_
                        refine he240 _ _ _ (by simp) ?_
                        have HT : Codec.takeI bs = (0, 0, 70) := by first | exact Codec.takeI_nil (by omega) | exact Codec.takeI_low h0 (by omega) | exact Codec.takeI_gap h0 (by omega) (by omega) | exact Codec.takeI_mid h0 (by omega) (by omega) | exact Codec.takeI_high h0 (by omega) | (rw [Codec.takeI_pos h0 (by omega) (by omega)]; exact Codec.body_short (by omega)) | (rw [Codec.takeI_neg h0 (by omega) (by omega)]; exact Codec.body_short (by omega)) | (rw [Codec.takeI_pos h0 (by omega) (by omega)]; exact Codec.body_big (by omega) (by rw [hU]; omega)) | (rw [Codec.takeI_pos h0 (by omega) (by omega)]; exact Codec.body_bad (v := IntKind.i64.wrap (u187 : Int)) (by omega) (by rw [hU]; simp only [if_true, if_false, Bool.false_eq_true]; omega) (by have h := hp248; simp only [Bool.not_eq_true', decide_eq_false_iff_not] at h; intro h2; apply h; rw [h2]; congr 1; omega)) | (rw [Codec.takeI_pos h0 (by omega) (by omega)]; exact Codec.body_ok (v := IntKind.i64.wrap (u187 : Int)) (by omega) (by rw [hU]; omega) (by rw [hU]; simp only [if_true, if_false, Bool.false_eq_true]; omega) (by have h := hp248; simp only [Bool.not_eq_false', decide_eq_true_eq] at h; rw [h]; congr 1; omega))
                        replace hf := hf.setv (d := 2) (y := .int .i64 ((Codec.takeI bs).1)) rfl (congrArg (Value.int .i64) (by rw [HT] <;> first | rfl | (simp; done) | (simp; omega) | omega))
                        replace hf := hf.setv (d := 3) (y := .int .i64 ((Codec.takeI bs).2.1 : Int)) rfl (congrArg (Value.int .i64) (by rw [HT] <;> first | rfl | (simp; done) | (simp; omega) | omega))
                        replace hf := hf.setv (d := 4) (y := .int .i64 ((Codec.takeI bs).2.2)) rfl (congrArg (Value.int .i64) (by rw [HT] <;> first | rfl | (simp; done) | (simp; omega) | omega))
                        have hq249 : Z.Ch [] w w245 := hc184.then hc246
                        refine Z.ret3 hf Try.results68 rfl rfl rfl ?_
                        exact ⟨rfl, hq249⟩
                      · intro hp250
                        replace hf := hf.setb (d := 73) (b' := false) rfl (decide_eq_false hp250)
                        refine Z.dqr [true, true, true, true, true, false, true, true, true, false, false, false, false] 5 [(4, (.on .n)), (6, (.on .n)), (7, (.on .n)), (8, (.on .n))] [74, 76, 78] [Z.R64 ((x13.toNat : Int) - 199 + 1)] [(74, .int .i64 (IntKind.i64.wrap (u187 : Int))), (76, .slice pA0 bs.length pc0), (78, .int .i64 ((x13.toNat : Int) - 199 + 1))] hp242 hc246 (fun w hw => Z.k0) hf ?_; clear hf a; intro a hf
                        have hr251 := Z.rep_to (F' := (Z.ol [] w.heap.size)) ph0o hc184
                        have hl252 := Z.rep_slice_len hr251
                        have hr253 := Z.rep_cuth hr251 ((x13.toNat : Int) - 199 + 1).toNat (by omega)
                        have hn254 : (bs.take ((x13.toNat : Int) - 199 + 1).toNat).length = ((x13.toNat : Int) - 199 + 1).toNat := by first | rfl | omega | (simp only [List.length_take, List.length_drop]; done) | (simp only [List.length_take, List.length_drop]; omega)
                        refine Z.dr_val 9 hf rfl rfl (by kernel_rfl) (by kernel_rfl) hp242 hc246 (Z.wanted_on hf rfl rfl) (fun _ hw => Z.r_slice_h (u := ((x13.toNat : Int) - 199 + 1).toNat) Try.underlying40 Try.sizeOf5 (hf.eval rfl) (hf.eval rfl) (by omega) (by omega)) ?_; clear hf a; intro a hf
                        replace hf := hf.setv (d := 79) (y := .slice pA0 ((bs.take ((x13.toNat : Int) - 199 + 1).toNat).length) pc0) rfl (Z.slice_n (by first | rfl | omega | (simp only [List.length_take, List.length_drop]; done) | (simp only [List.length_take, List.length_drop]; omega) | (simp; omega)))
                        refine Z.dr_one 5 rfl (by kernel_rfl) ?_
                        refine Z.on hf rfl rfl ?_
                        refine Z.call1 hf rfl (Z.r_call cf26 hf (xs := [.tmp 74]) rfl) (Int_spec (IntKind.i64.wrap (u187 : Int)) w245  (by unfold Codec.okInt; omega)) ?_; clear hf a
                        rintro _ w255 ⟨A256, c257, rfl, ho258, hc260⟩
                        have hzhc260 := hc260.size
                        refine ⟨_, rfl, ?_⟩; intro a hf
                        refine Z.done ?_
                        have hq261 : Z.Ch [] w183 w255 := hc246.then hc260
                        refine And.intro hq261 ?_
                        refine Z.dr_one 10 rfl (by kernel_rfl) ?_
                        refine Z.on hf rfl rfl ?_
                        have hr262 := ho258.riv
                        have hr263 := Z.rep_to (F' := (Z.nt [])) hr262 (Z.Ch.refl w255)
                        have hr264 := Z.rep_to (F' := (Z.nt [])) hr253 hq261
                        refine Z.call1 hf rfl (Z.r_call cf10 hf (xs := [.tmp 75, .tmp 79]) rfl) (Equal_spec (Codec.encInt (IntKind.i64.wrap (u187 : Int))) (bs.take ((x13.toNat : Int) - 199 + 1).toNat) w255 A256 c257 pA0 pc0 hr263 hr264) ?_; clear hf a
                        rintro _ w265 ⟨rfl, hc266⟩
                        have hzhc266 := hc266.size
                        refine ⟨_, rfl, ?_⟩; intro a hf
                        refine Z.done ?_
                        have hq267 : Z.Ch [] w183 w265 := hq261.then hc266
                        refine And.intro hq267 ?_
                        refine Z.dqr [true, true, true, true, true, true, true, true, true, true, true, true, true] 0 [(11, (.on .n)), (12, .n)] [82] [] [(82, .bool (!(decide ((Codec.encInt (IntKind.i64.wrap (u187 : Int))) = (bs.take ((x13.toNat : Int) - 199 + 1).toNat)))))] hp242 hq267 (fun w hw => Z.k0) hf ?_; clear hf a; intro a hf
                        refine Z.dr_done (by kernel_rfl) ?_
                        refine hn243 _ _ ?_
                        refine Z.cond hf rfl ?_ ?_
                        · intro hp268
                          refine Z.qseq [.n, .n, .n] [2, 3, 4] [] [(2, .int .i64 0), (3, .int .i64 0), (4, .int .i64 70)] Z.k0 hf ?_; clear hf a; intro a hf
                          refine Z.ret ?_
                          refine he240 _ _ _ (by simp) ?_
                          have HT : Codec.takeI bs = (0, 0, 70) := by first | exact Codec.takeI_nil (by omega) | exact Codec.takeI_low h0 (by omega) | exact Codec.takeI_gap h0 (by omega) (by omega) | exact Codec.takeI_mid h0 (by omega) (by omega) | exact Codec.takeI_high h0 (by omega) | (rw [Codec.takeI_pos h0 (by omega) (by omega)]; exact Codec.body_short (by omega)) | (rw [Codec.takeI_neg h0 (by omega) (by omega)]; exact Codec.body_short (by omega)) | (rw [Codec.takeI_pos h0 (by omega) (by omega)]; exact Codec.body_big (by omega) (by rw [hU]; omega)) | (rw [Codec.takeI_pos h0 (by omega) (by omega)]; exact Codec.body_bad (v := IntKind.i64.wrap (u187 : Int)) (by omega) (by rw [hU]; simp only [if_true, if_false, Bool.false_eq_true]; omega) (by have h := hp268; simp only [Bool.not_eq_true', decide_eq_false_iff_not] at h; intro h2; apply h; rw [h2]; congr 1; omega)) | (rw [Codec.takeI_pos h0 (by omega) (by omega)]; exact Codec.body_ok (v := IntKind.i64.wrap (u187 : Int)) (by omega) (by rw [hU]; omega) (by rw [hU]; simp only [if_true, if_false, Bool.false_eq_true]; omega) (by have h := hp268; simp only [Bool.not_eq_false', decide_eq_true_eq] at h; rw [h]; congr 1; omega))
                          replace hf := hf.setv (d := 2) (y := .int .i64 ((Codec.takeI bs).1)) rfl (congrArg (Value.int .i64) (by rw [HT] <;> first | rfl | (simp; done) | (simp; omega) | omega))
                          replace hf := hf.setv (d := 3) (y := .int .i64 ((Codec.takeI bs).2.1 : Int)) rfl (congrArg (Value.int .i64) (by rw [HT] <;> first | rfl | (simp; done) | (simp; omega) | omega))
                          replace hf := hf.setv (d := 4) (y := .int .i64 ((Codec.takeI bs).2.2)) rfl (congrArg (Value.int .i64) (by rw [HT] <;> first | rfl | (simp; done) | (simp; omega) | omega))
                          have hq269 : Z.Ch [] w w245 := hc184.then hc246
                          have hq270 : Z.Ch [] w w255 := hq269.then hc260
                          have hq271 : Z.Ch [] w w265 := hq270.then hc266
                          refine Z.ret3 hf Try.results68 rfl rfl rfl ?_
                          exact ⟨rfl, hq271⟩
                        · intro hp272
                          refine Z.skip ?_
                          refine hn239 _ _ ?_
                          refine Z.qseq [.n, .n, .n, .n, .n, .n] [2, 3, 4] [Z.R64 ((x13.toNat : Int) - 199 + 1)] [(2, .int .i64 (IntKind.i64.wrap (u187 : Int))), (3, .int .i64 ((x13.toNat : Int) - 199 + 1)), (4, .int .i64 0)] Z.k0 hf ?_; clear hf a; intro a hf
                          refine Z.ret ?_
                          have HT : Codec.takeI bs = (IntKind.i64.wrap (u187 : Int), (x13.toNat - 199) + 1, 0) := by first | exact Codec.takeI_nil (by omega) | exact Codec.takeI_low h0 (by omega) | exact Codec.takeI_gap h0 (by omega) (by omega) | exact Codec.takeI_mid h0 (by omega) (by omega) | exact Codec.takeI_high h0 (by omega) | (rw [Codec.takeI_pos h0 (by omega) (by omega)]; exact Codec.body_short (by omega)) | (rw [Codec.takeI_neg h0 (by omega) (by omega)]; exact Codec.body_short (by omega)) | (rw [Codec.takeI_pos h0 (by omega) (by omega)]; exact Codec.body_big (by omega) (by rw [hU]; omega)) | (rw [Codec.takeI_pos h0 (by omega) (by omega)]; exact Codec.body_bad (v := IntKind.i64.wrap (u187 : Int)) (by omega) (by rw [hU]; simp only [if_true, if_false, Bool.false_eq_true]; omega) (by have h := hp272; simp only [Bool.not_eq_true', decide_eq_false_iff_not] at h; intro h2; apply h; rw [h2]; congr 1; omega)) | (rw [Codec.takeI_pos h0 (by omega) (by omega)]; exact Codec.body_ok (v := IntKind.i64.wrap (u187 : Int)) (by omega) (by rw [hU]; omega) (by rw [hU]; simp only [if_true, if_false, Bool.false_eq_true]; omega) (by have h := hp272; simp only [Bool.not_eq_false', decide_eq_true_eq] at h; rw [h]; congr 1; omega))
                          replace hf := hf.setv (d := 2) (y := .int .i64 ((Codec.takeI bs).1)) rfl (congrArg (Value.int .i64) (by rw [HT] <;> first | rfl | (simp; done) | (simp; omega) | omega))
                          replace hf := hf.setv (d := 3) (y := .int .i64 ((Codec.takeI bs).2.1 : Int)) rfl (congrArg (Value.int .i64) (by rw [HT] <;> first | rfl | (simp; done) | (simp; omega) | omega))
                          replace hf := hf.setv (d := 4) (y := .int .i64 ((Codec.takeI bs).2.2)) rfl (congrArg (Value.int .i64) (by rw [HT] <;> first | rfl | (simp; done) | (simp; omega) | omega))
                          have hq273 : Z.Ch [] w w245 := hc184.then hc246
                          have hq274 : Z.Ch [] w w255 := hq273.then hc260
                          have hq275 : Z.Ch [] w w265 := hq274.then hc266
                          refine Z.ret3 hf Try.results68 rfl rfl rfl ?_
                          exact ⟨rfl, hq275⟩

set_option maxHeartbeats 1000000 in
set_option maxRecDepth 20000 in
theorem RTakeInt_spec (bs : List UInt8) (w : World) (pA0 : Option Addr) (pc0 : Nat) (ph0 : (Z.Ty.slice Z.Ty.byte).rep w (Z.nt []) [.slice pA0 bs.length pc0] bs)  :
    Calls Try.prog 48 #[.slice pA0 bs.length pc0] w fun e w' => e = .returned (.tuple #[.int .i64 ((Codec.takeI bs).1), .int .i64 ((Codec.takeI bs).2.1 : Int), .int .i64 ((Codec.takeI bs).2.2)]) ∧ Z.Ch [] w w' := by
  refine Z.enter Try.func48 rfl Try.ntmps48 (Nat.le_of_ble_eq_true rfl) fun a hf => ?_
  have hle_pA0 := Z.rep_le ph0
  have ph0o := Z.rep_ol ph0
  refine Z.qseq [.n, .n, .n] [] [] [] Z.k0 hf ?_; clear hf a; intro a hf
  refine Z.seq' (Z.Pq.body _ _ _) fun Q1 hp2 hn3 he4 => ?_
  refine Z.qseq [.n, .n, .n] [12] [] [(12, .bool (decide ((bs.length : Int) = 0)))] Z.k0 hf ?_; clear hf a; intro a hf
  refine Z.condp hf rfl ?_ ?_
  · intro hp5
    refine Z.qseq [.n, .n, .n] [2, 3, 4] [] [(2, .int .i64 0), (3, .int .i64 0), (4, .int .i64 71)] Z.k0 hf ?_; clear hf a; intro a hf
    refine Z.ret ?_
    refine he4 _ _ _ (by simp) ?_
    have HT : Codec.takeI bs = (0, 0, 71) := by first | exact Codec.takeI_nil (by omega) | exact Codec.takeI_low h0 (by omega) | exact Codec.takeI_gap h0 (by omega) (by omega) | exact Codec.takeI_mid h0 (by omega) (by omega) | exact Codec.takeI_high h0 (by omega) | (rw [Codec.takeI_pos h0 (by omega) (by omega)]; exact Codec.body_short (by omega)) | (rw [Codec.takeI_neg h0 (by omega) (by omega)]; exact Codec.body_short (by omega))
    replace hf := hf.setv (d := 2) (y := .int .i64 ((Codec.takeI bs).1)) rfl (congrArg (Value.int .i64) (by rw [HT] <;> first | rfl | (simp; done) | (simp; omega) | omega))
    replace hf := hf.setv (d := 3) (y := .int .i64 ((Codec.takeI bs).2.1 : Int)) rfl (congrArg (Value.int .i64) (by rw [HT] <;> first | rfl | (simp; done) | (simp; omega) | omega))
    replace hf := hf.setv (d := 4) (y := .int .i64 ((Codec.takeI bs).2.2)) rfl (congrArg (Value.int .i64) (by rw [HT] <;> first | rfl | (simp; done) | (simp; omega) | omega))
    refine Z.ret3 hf Try.results48 rfl rfl rfl ?_
    exact ⟨rfl, (Z.Ch.refl w)⟩
  · intro hp6
    refine Z.skip ?_
    refine hn3 _ _ ?_
    refine Z.seq' (Z.Pq.body _ _ _) fun Q7 hp8 hn9 he10 => ?_
    refine Z.reg ?_
    refine Z.qr [.n] [13] [] [(13, .slice pA0 bs.length pc0)] Z.k0 hf ?_; clear hf a; intro a hf
    have hkx13 : 0 < (bs).length := (by omega)
    obtain ⟨ad11, es12, x13, hA14, hF15, hl16, hx17, hc18, hr19⟩ := Z.rep_el ph0o hkx13
    have hok20 := Z.rep_ok _ hr19
    have he21 : _ = _ := hr19
    have he22 : es12 = [.int .u8 (x13.toNat : Int)] := by simp only [he21, List.cons_append, List.nil_append]
    rw [he22] at hc18
    have h0 := hx17
    have hb0 := x13.toNat_lt
    refine Z.val hf rfl (Z.r_indexAddrE Try.underlying40 Try.sizeOf5 (hf.eval rfl) hA14 (hf.eval rfl) (k := 0) (by first | rfl | omega) (by omega)) ?_; clear hf a; intro a hf
    refine Z.qe [.e 0 0, .n, .n] [5] [Z.R64 ((x13.toNat : Int))] [(5, .int .i64 (x13.toNat : Int))] (Z.ke hc18 Z.k0) hf ?_; clear hf a; intro a hf
    refine hn9 _ _ ?_
    refine Z.seq' (Z.Pq.body _ _ _) fun Q23 hp24 hn25 he26 => ?_
    refine Z.block' hp24 fun Q27 hp28 hn29 hx30 he31 => ?_
    refine Z.qseq [.n, .n, .n] [17] [] [(17, .bool (decide ((x13.toNat : Int) < 50)))] Z.k0 hf ?_; clear hf a; intro a hf
    refine Z.condp hf rfl ?_ ?_
    · intro hp32
      refine Z.qseq [.n, .n, .n, .n, .n] [2, 3, 4] [Z.R64 ((x13.toNat : Int) - 50)] [(2, .int .i64 ((x13.toNat : Int) - 50)), (3, .int .i64 1), (4, .int .i64 0)] Z.k0 hf ?_; clear hf a; intro a hf
      refine Z.ret ?_
      refine he31 _ _ _ (by simp) (by simp) ?_
      refine he26 _ _ _ (by simp) ?_
      have HT : Codec.takeI bs = ((x13.toNat : Int) - 50, 1, 0) := by first | exact Codec.takeI_nil (by omega) | exact Codec.takeI_low h0 (by omega) | exact Codec.takeI_gap h0 (by omega) (by omega) | exact Codec.takeI_mid h0 (by omega) (by omega) | exact Codec.takeI_high h0 (by omega) | (rw [Codec.takeI_pos h0 (by omega) (by omega)]; exact Codec.body_short (by omega)) | (rw [Codec.takeI_neg h0 (by omega) (by omega)]; exact Codec.body_short (by omega))
      replace hf := hf.setv (d := 2) (y := .int .i64 ((Codec.takeI bs).1)) rfl (congrArg (Value.int .i64) (by rw [HT] <;> first | rfl | (simp; done) | (simp; omega) | omega))
      replace hf := hf.setv (d := 3) (y := .int .i64 ((Codec.takeI bs).2.1 : Int)) rfl (congrArg (Value.int .i64) (by rw [HT] <;> first | rfl | (simp; done) | (simp; omega) | omega))
      replace hf := hf.setv (d := 4) (y := .int .i64 ((Codec.takeI bs).2.2)) rfl (congrArg (Value.int .i64) (by rw [HT] <;> first | rfl | (simp; done) | (simp; omega) | omega))
      refine Z.ret3 hf Try.results48 rfl rfl rfl ?_
      exact ⟨rfl, (Z.Ch.refl w)⟩
    · intro hp33
      refine Z.seq' hp28 fun Q34 hp35 hn36 he37 => ?_
      refine Z.reg ?_
      refine Z.qr [.n, .n, .n] [25] [] [(25, .bool (decide ((x13.toNat : Int) < 100)))] Z.k0 hf ?_; clear hf a; intro a hf
      by_cases hdec : (x13.toNat : Int) < 100 <;> revert hdec
      · intro hp38
        replace hf := hf.setb (d := 25) (b' := true) rfl (decide_eq_true hp38)
        refine Z.qe [.off, .off, .n, .n] [22] [] [(22, .bool true)] Z.k0 hf ?_; clear hf a; intro a hf
        refine hn36 _ _ ?_
        refine Z.condt hf rfl ?_
        refine Z.qseq [.n, .n, .n] [2, 3, 4] [] [(2, .int .i64 0), (3, .int .i64 0), (4, .int .i64 70)] Z.k0 hf ?_; clear hf a; intro a hf
        refine Z.ret ?_
        refine he31 _ _ _ (by simp) (by simp) ?_
        refine he26 _ _ _ (by simp) ?_
        have HT : Codec.takeI bs = (0, 0, 70) := by first | exact Codec.takeI_nil (by omega) | exact Codec.takeI_low h0 (by omega) | exact Codec.takeI_gap h0 (by omega) (by omega) | exact Codec.takeI_mid h0 (by omega) (by omega) | exact Codec.takeI_high h0 (by omega) | (rw [Codec.takeI_pos h0 (by omega) (by omega)]; exact Codec.body_short (by omega)) | (rw [Codec.takeI_neg h0 (by omega) (by omega)]; exact Codec.body_short (by omega))
        replace hf := hf.setv (d := 2) (y := .int .i64 ((Codec.takeI bs).1)) rfl (congrArg (Value.int .i64) (by rw [HT] <;> first | rfl | (simp; done) | (simp; omega) | omega))
        replace hf := hf.setv (d := 3) (y := .int .i64 ((Codec.takeI bs).2.1 : Int)) rfl (congrArg (Value.int .i64) (by rw [HT] <;> first | rfl | (simp; done) | (simp; omega) | omega))
        replace hf := hf.setv (d := 4) (y := .int .i64 ((Codec.takeI bs).2.2)) rfl (congrArg (Value.int .i64) (by rw [HT] <;> first | rfl | (simp; done) | (simp; omega) | omega))
        refine Z.ret3 hf Try.results48 rfl rfl rfl ?_
        exact ⟨rfl, (Z.Ch.refl w)⟩
      · intro hp39
        replace hf := hf.setb (d := 25) (b' := false) rfl (decide_eq_false hp39)
        refine Z.qe [(.on .n), (.on .n), .n, .n] [22] [] [(22, .bool (decide (215 < (x13.toNat : Int))))] Z.k0 hf ?_; clear hf a; intro a hf
        refine hn36 _ _ ?_
        refine Z.condp hf rfl ?_ ?_
        · intro hp40
          refine Z.qseq [.n, .n, .n] [2, 3, 4] [] [(2, .int .i64 0), (3, .int .i64 0), (4, .int .i64 70)] Z.k0 hf ?_; clear hf a; intro a hf
          refine Z.ret ?_
          refine he31 _ _ _ (by simp) (by simp) ?_
          refine he26 _ _ _ (by simp) ?_
          have HT : Codec.takeI bs = (0, 0, 70) := by first | exact Codec.takeI_nil (by omega) | exact Codec.takeI_low h0 (by omega) | exact Codec.takeI_gap h0 (by omega) (by omega) | exact Codec.takeI_mid h0 (by omega) (by omega) | exact Codec.takeI_high h0 (by omega) | (rw [Codec.takeI_pos h0 (by omega) (by omega)]; exact Codec.body_short (by omega)) | (rw [Codec.takeI_neg h0 (by omega) (by omega)]; exact Codec.body_short (by omega))
          replace hf := hf.setv (d := 2) (y := .int .i64 ((Codec.takeI bs).1)) rfl (congrArg (Value.int .i64) (by rw [HT] <;> first | rfl | (simp; done) | (simp; omega) | omega))
          replace hf := hf.setv (d := 3) (y := .int .i64 ((Codec.takeI bs).2.1 : Int)) rfl (congrArg (Value.int .i64) (by rw [HT] <;> first | rfl | (simp; done) | (simp; omega) | omega))
          replace hf := hf.setv (d := 4) (y := .int .i64 ((Codec.takeI bs).2.2)) rfl (congrArg (Value.int .i64) (by rw [HT] <;> first | rfl | (simp; done) | (simp; omega) | omega))
          refine Z.ret3 hf Try.results48 rfl rfl rfl ?_
          exact ⟨rfl, (Z.Ch.refl w)⟩
        · intro hp41
          refine Z.qseq [.n, .n, .n] [29] [] [(29, .bool (decide ((x13.toNat : Int) < 200)))] Z.k0 hf ?_; clear hf a; intro a hf
          refine Z.condp hf rfl ?_ ?_
          · intro hp42
            refine Z.qseq [.n, .n, .n, .n, .n] [2, 3, 4] [Z.R64 ((x13.toNat : Int) - 100)] [(2, .int .i64 ((x13.toNat : Int) - 100)), (3, .int .i64 1), (4, .int .i64 0)] Z.k0 hf ?_; clear hf a; intro a hf
            refine Z.ret ?_
            refine he31 _ _ _ (by simp) (by simp) ?_
            refine he26 _ _ _ (by simp) ?_
            have HT : Codec.takeI bs = ((x13.toNat : Int) - 100, 1, 0) := by first | exact Codec.takeI_nil (by omega) | exact Codec.takeI_low h0 (by omega) | exact Codec.takeI_gap h0 (by omega) (by omega) | exact Codec.takeI_mid h0 (by omega) (by omega) | exact Codec.takeI_high h0 (by omega) | (rw [Codec.takeI_pos h0 (by omega) (by omega)]; exact Codec.body_short (by omega)) | (rw [Codec.takeI_neg h0 (by omega) (by omega)]; exact Codec.body_short (by omega))
            replace hf := hf.setv (d := 2) (y := .int .i64 ((Codec.takeI bs).1)) rfl (congrArg (Value.int .i64) (by rw [HT] <;> first | rfl | (simp; done) | (simp; omega) | omega))
            replace hf := hf.setv (d := 3) (y := .int .i64 ((Codec.takeI bs).2.1 : Int)) rfl (congrArg (Value.int .i64) (by rw [HT] <;> first | rfl | (simp; done) | (simp; omega) | omega))
            replace hf := hf.setv (d := 4) (y := .int .i64 ((Codec.takeI bs).2.2)) rfl (congrArg (Value.int .i64) (by rw [HT] <;> first | rfl | (simp; done) | (simp; omega) | omega))
            refine Z.ret3 hf Try.results48 rfl rfl rfl ?_
            exact ⟨rfl, (Z.Ch.refl w)⟩
          · intro hp43
            refine Z.skip ?_
            refine hn29 _ _ ?_
            refine hn25 _ _ ?_
            refine Z.qseq [.n, .n, .n] [6] [Z.R64 ((x13.toNat : Int) - 199)] [(6, .int .i64 ((x13.toNat : Int) - 199))] Z.k0 hf ?_; clear hf a; intro a hf
            refine Z.seq' (Z.Pq.body _ _ _) fun Q44 hp45 hn46 he47 => ?_
            refine Z.qseq [.n, .n] [37] [] [(37, .bool (decide (207 < (x13.toNat : Int))))] Z.k0 hf ?_; clear hf a; intro a hf
            refine Z.condp hf rfl ?_ ?_
            · intro hp48
              refine Z.qreg [.n, .n, .n] [6] [Z.R64 ((x13.toNat : Int) - 207)] [(6, .int .i64 ((x13.toNat : Int) - 207))] Z.k0 hf ?_; clear hf a; intro a hf
              refine hn46 _ _ ?_
              refine Z.seq' (Z.Pq.body _ _ _) fun Q49 hp50 hn51 he52 => ?_
              refine Z.qseq [.n, .n, .n, .n, .n] [44] [Z.R64 ((x13.toNat : Int) - 207 + 1)] [(44, .bool (decide ((bs.length : Int) < (x13.toNat : Int) - 207 + 1)))] Z.k0 hf ?_; clear hf a; intro a hf
              refine Z.condp hf rfl ?_ ?_
              · intro hp53
                refine Z.qseq [.n, .n, .n] [2, 3, 4] [] [(2, .int .i64 0), (3, .int .i64 0), (4, .int .i64 71)] Z.k0 hf ?_; clear hf a; intro a hf
                refine Z.ret ?_
                refine he52 _ _ _ (by simp) ?_
                have HT : Codec.takeI bs = (0, 0, 71) := by first | exact Codec.takeI_nil (by omega) | exact Codec.takeI_low h0 (by omega) | exact Codec.takeI_gap h0 (by omega) (by omega) | exact Codec.takeI_mid h0 (by omega) (by omega) | exact Codec.takeI_high h0 (by omega) | (rw [Codec.takeI_pos h0 (by omega) (by omega)]; exact Codec.body_short (by omega)) | (rw [Codec.takeI_neg h0 (by omega) (by omega)]; exact Codec.body_short (by omega))
                replace hf := hf.setv (d := 2) (y := .int .i64 ((Codec.takeI bs).1)) rfl (congrArg (Value.int .i64) (by rw [HT] <;> first | rfl | (simp; done) | (simp; omega) | omega))
                replace hf := hf.setv (d := 3) (y := .int .i64 ((Codec.takeI bs).2.1 : Int)) rfl (congrArg (Value.int .i64) (by rw [HT] <;> first | rfl | (simp; done) | (simp; omega) | omega))
                replace hf := hf.setv (d := 4) (y := .int .i64 ((Codec.takeI bs).2.2)) rfl (congrArg (Value.int .i64) (by rw [HT] <;> first | rfl | (simp; done) | (simp; omega) | omega))
                refine Z.ret3 hf Try.results48 rfl rfl rfl ?_
                exact ⟨rfl, (Z.Ch.refl w)⟩
              · intro hp54
                refine Z.skip ?_
                refine hn51 _ _ ?_
                refine Z.qseq [.n] [7] [] [(7, .int .u64 0)] Z.k0 hf ?_; clear hf a; intro a hf
                refine Z.seq' (Z.Pq.body _ _ _) fun Q55 hp56 hn57 he58 => ?_
                refine Z.qseq [.n] [8] [] [(8, .int .i64 1)] Z.k0 hf ?_; clear hf a; intro a hf
                refine Z.block' hp56 fun Q59 hp60 hn61 hx62 he63 => ?_
                refine Z.loop' hp60 (fun m a wl => ∃ (k : Nat), ∃ (u : Nat), m = (x13.toNat - 207) - k ∧ Z.Ch [] w wl ∧ (k ≤ (x13.toNat - 207)) ∧ (u = Codec.val ((bs.drop 1).take k)) ∧ Z.Fr a 80 [] [(0, .slice pA0 bs.length pc0), (5, .int .i64 (x13.toNat : Int)), (6, .int .i64 ((x13.toNat : Int) - 207)), (7, .int .u64 (u : Int)), (8, .int .i64 ((k + 1 : Nat) : Int))]) ((x13.toNat - 207) - 0) ?_ ?_
                · replace hf := hf.setv (d := 7) (y := .int .u64 (0 : Int)) rfl (congrArg (Value.int .u64) (by first | rfl | omega | (simp; done) | (simp; omega)))
                  replace hf := hf.setv (d := 8) (y := .int .i64 ((0 + 1 : Nat) : Int)) rfl (congrArg (Value.int .i64) (by first | rfl | omega | (simp; done) | (simp; omega)))
                  exact ⟨0, 0, rfl, (Z.Ch.refl w), (by omega), (by simp [Codec.val]), (hf.keep [0, 5, 6, 7, 8])⟩
                · rintro m75 a w64 ⟨k67, u68, hm66, hc65, hk73, hu74, hf⟩ Q69 hp70 hn71 he72
                  have hzhc65 := hc65.size
                  refine Z.seq' hp70 fun Q76 hp77 hn78 he79 => ?_
                  refine Z.qseq [.n, .n, .n] [47] [] [(47, .bool (decide (((k67 + 1 : Nat) : Int) ≤ (x13.toNat : Int) - 207)))] Z.k0 hf ?_; clear hf a; intro a hf
                  refine Z.condp hf rfl ?_ ?_
                  · intro hp80
                    refine Z.skip ?_
                    refine hn78 _ _ ?_
                    refine Z.seq' hp70 fun Q81 hp82 hn83 he84 => ?_
                    refine Z.block' hp82 fun Q85 hp86 hn87 hx88 he89 => ?_
                    have hsm := Codec.val_lt7 (l := (bs.drop 1).take k67) (by rw [List.length_take]; omega)
                    rw [← hu74] at hsm
                    refine Z.reg ?_
                    refine Z.qr [.n] [50] [] [(50, .int .u64 (u68 : Int))] Z.k0 hf ?_; clear hf a; intro a hf
                    refine Z.val hf rfl (Z.r_mulw (hf.eval rfl) (hf.eval rfl) (Z.u64_in _ (by omega))) ?_; clear hf a; intro a hf
                    refine Z.qr [.n, .n] [52, 53] [] [(52, .slice pA0 bs.length pc0), (53, .int .i64 ((k67 + 1 : Nat) : Int))] Z.k0 hf ?_; clear hf a; intro a hf
                    have hr90 := Z.rep_to (F' := (Z.ol [] w.heap.size)) ph0o hc65
                    have hkx93 : (k67 + 1 : Nat) < (bs).length := (by omega)
                    obtain ⟨ad91, es92, x93, hA94, hF95, hl96, hx97, hc98, hr99⟩ := Z.rep_el hr90 hkx93
                    have hok100 := Z.rep_ok _ hr99
                    have he101 : _ = _ := hr99
                    have he102 : es92 = [.int .u8 (x93.toNat : Int)] := by simp only [he101, List.cons_append, List.nil_append]
                    rw [he102] at hc98
                    have hea := hx97
                    have hxl := x93.toNat_lt
                    have heb : (bs.drop 1)[k67]? = some x93 := by rw [List.getElem?_drop, Nat.add_comm]; exact hea
                    refine Z.val hf rfl (Z.r_indexAddrE Try.underlying40 Try.sizeOf5 (hf.eval rfl) hA94 (hf.eval rfl) (k := (k67 + 1 : Nat)) (by first | rfl | omega) (by omega)) ?_; clear hf a; intro a hf
                    refine Z.qr [.e 0 0] [55] [] [(55, .int .u8 (x93.toNat : Int))] (Z.ke hc98 Z.k0) hf ?_; clear hf a; intro a hf
                    refine Z.val hf rfl (Z.r_convw Try.underlying5 Try.underlying104 (hf.eval rfl) (Z.u64_in _ (by omega))) ?_; clear hf a; intro a hf
                    refine Z.val hf rfl (Z.r_addw (hf.eval rfl) (hf.eval rfl) (Z.u64_in _ (by omega))) ?_; clear hf a; intro a hf
                    refine Z.qe [.n] [7] [] [(7, .int .u64 ((u68 : Int) * 256 + (x93.toNat : Int)))] Z.k0 hf ?_; clear hf a; intro a hf
                    refine hn87 _ _ ?_
                    refine hn83 _ _ ?_
                    refine Z.qreg [.n, .n, .n] [8] [Z.R64 (((k67 + 1 : Nat) : Int) + 1)] [(8, .int .i64 (((k67 + 1 : Nat) : Int) + 1))] Z.k0 hf ?_; clear hf a; intro a hf
                    refine hn71 ((x13.toNat - 207) - (k67 + 1)) _ _ ?_ ?_
                    rotate_left
                    replace hf := hf.setv (d := 7) (y := .int .u64 (((u68 * 256 + x93.toNat) : Nat) : Int)) rfl (congrArg (Value.int .u64) (by first | rfl | omega | (simp; done) | (simp; omega)))
                    replace hf := hf.setv (d := 8) (y := .int .i64 (((k67 + 1 : Nat) + 1 : Nat) : Int)) rfl (congrArg (Value.int .i64) (by first | rfl | omega | (simp; done) | (simp; omega)))
                    exact ⟨k67 + 1, (u68 * 256 + x93.toNat), rfl, hc65, (by omega), (by rw [Codec.val_take heb, ← hu74]), (hf.keep [0, 5, 6, 7, 8])⟩
                    rw [hm66]; omega
                  · intro hp103
                    refine Z.exit ?_
                    refine he79 _ _ _ (by simp) ?_
                    refine he72 _ _ _ (by simp) ?_
                    refine hx62 _ _ ?_
                    refine hn57 _ _ ?_
                    have hU : Codec.val ((bs.drop 1).take (x13.toNat - 207)) = u68 := by rw [hu74]; congr 2; omega
                    have hlt := Codec.val_lt8 (l := (bs.drop 1).take (x13.toNat - 207)) (by rw [List.length_take]; omega)
                    rw [hU] at hlt
                    have hwr := Z.wrap_i64 hlt
                    refine Z.seq' (Z.Pq.body _ _ _) fun Q104 hp105 hn106 he107 => ?_
                    have hU : Codec.val ((bs.drop 1).take (x13.toNat - 207)) = u68 := by rw [hu74]; congr 2; omega
                    have hlt := Codec.val_lt8 (l := (bs.drop 1).take (x13.toNat - 207)) (by rw [List.length_take]; omega)
                    rw [hU] at hlt
                    have hwr := Z.wrap_i64 hlt
                    refine Z.reg ?_
                    refine Z.qr [.n] [58] [] [(58, .int .u64 (u68 : Int))] Z.k0 hf ?_; clear hf a; intro a hf
                    refine Z.val hf rfl (Z.r_conv Try.underlying104 Try.underlying2 (hf.eval rfl)) ?_; clear hf a; intro a hf
                    refine Z.qe [.n] [9] [] [(9, .int .i64 (IntKind.i64.wrap (u68 : Int)))] Z.k0 hf ?_; clear hf a; intro a hf
                    refine hn106 _ _ ?_
                    refine Z.seq' (Z.Pq.body _ _ _) fun Q108 hp109 hn110 he111 => ?_
                    refine Z.qseq [.n, .n] [61] [] [(61, .bool (decide (207 < (x13.toNat : Int))))] Z.k0 hf ?_; clear hf a; intro a hf
                    refine Z.condp hf rfl ?_ ?_
                    · intro hp112
                      refine Z.qreg [.n, .n, .n] [9] [Z.R64 (-1 - (IntKind.i64.wrap (u68 : Int)))] [(9, .int .i64 (-1 - (IntKind.i64.wrap (u68 : Int))))] Z.k0 hf ?_; clear hf a; intro a hf
                      refine hn110 _ _ ?_
                      refine Z.seq' (Z.Pq.body _ _ _) fun Q113 hp114 hn115 he116 => ?_
                      refine Z.seq' hp114 fun Q117 hp118 hn119 he120 => ?_
                      
                      refine Z.dr_reg (S := fun w' => Z.Ch [] w64 w') mixed ?_; intro w121 hc122 hz123
                      refine Z.dqr [true, true, true, false, false, false, false, false, false, false, false, false, false] 10 [(0, .n), (1, .n), (2, .n)] [66] [] [(66, .bool (decide (9223372036854775808 ≤ (u68 : Int))))] hp118 hc122 (fun w hw => Z.k0) hf ?_; clear hf a; intro a hf
                      by_cases hdec : 9223372036854775808 ≤ (u68 : Int) <;> revert hdec
                      · intro hp124
                        replace hf := hf.setb (d := 66) (b' := true) rfl (decide_eq_true hp124)
                        refine Z.dqr [true, true, true, true, true, true, true, true, true, true, true, true, true] 0 [(3, .off), (4, .off), (5, .off), (6, .off), (7, .off), (8, .off), (9, .off), (10, .off), (11, .off), (12, .n)] [76] [] [(76, .bool true)] hp118 hc122 (fun w hw => Z.k0) hf ?_; clear hf a; intro a hf
                        refine Z.dr_done (by kernel_rfl) ?_
                        refine hn119 _ _ ?_
                        refine Z.condt hf rfl ?_
                        refine Z.qseq [.n, .n, .n] [2, 3, 4] [] [(2, .int .i64 0), (3, .int .i64 0), (4, .int .i64 70)] Z.k0 hf ?_; clear hf a; intro a hf
                        refine Z.ret ?_
                        refine he116 _ _ _ (by simp) ?_
                        have HT : Codec.takeI bs = (0, 0, 70) := by first | exact Codec.takeI_nil (by omega) | exact Codec.takeI_low h0 (by omega) | exact Codec.takeI_gap h0 (by omega) (by omega) | exact Codec.takeI_mid h0 (by omega) (by omega) | exact Codec.takeI_high h0 (by omega) | (rw [Codec.takeI_pos h0 (by omega) (by omega)]; exact Codec.body_short (by omega)) | (rw [Codec.takeI_neg h0 (by omega) (by omega)]; exact Codec.body_short (by omega)) | (rw [Codec.takeI_neg h0 (by omega) (by omega)]; exact Codec.body_big (by omega) (by rw [hU]; omega)) | (rw [Codec.takeI_neg h0 (by omega) (by omega)]; exact Codec.body_bad (v := -1 - (IntKind.i64.wrap (u68 : Int))) (by omega) (by rw [hU]; simp only [if_true, if_false, Bool.false_eq_true]; omega) (by have h := hp124; intro h2; apply h; rw [h2]; congr 3; omega)) | (rw [Codec.takeI_neg h0 (by omega) (by omega)]; exact Codec.body_ok (v := -1 - (IntKind.i64.wrap (u68 : Int))) (by omega) (by rw [hU]; omega) (by rw [hU]; simp only [if_true, if_false, Bool.false_eq_true]; omega) (by have h := Codec.ba_mk (Codec.not_ne hp124); rw [h]; congr 1; omega))
                        replace hf := hf.setv (d := 2) (y := .int .i64 ((Codec.takeI bs).1)) rfl (congrArg (Value.int .i64) (by rw [HT] <;> first | rfl | (simp; done) | (simp; omega) | omega))
                        replace hf := hf.setv (d := 3) (y := .int .i64 ((Codec.takeI bs).2.1 : Int)) rfl (congrArg (Value.int .i64) (by rw [HT] <;> first | rfl | (simp; done) | (simp; omega) | omega))
                        replace hf := hf.setv (d := 4) (y := .int .i64 ((Codec.takeI bs).2.2)) rfl (congrArg (Value.int .i64) (by rw [HT] <;> first | rfl | (simp; done) | (simp; omega) | omega))
                        have hq125 : Z.Ch [] w w121 := hc65.then hc122
                        refine Z.ret3 hf Try.results48 rfl rfl rfl ?_
                        exact ⟨rfl, hq125⟩
                      · intro hp126
                        replace hf := hf.setb (d := 66) (b' := false) rfl (decide_eq_false hp126)
                        refine Z.dqr [true, true, true, true, false, false, true, true, true, false, false, false, false] 6 [(3, (.on .n)), (6, (.on .n)), (7, (.on .n)), (8, (.on .n))] [67, 70, 72] [Z.R64 ((x13.toNat : Int) - 207 + 1)] [(67, .int .i64 (-1 - (IntKind.i64.wrap (u68 : Int)))), (70, .slice pA0 bs.length pc0), (72, .int .i64 ((x13.toNat : Int) - 207 + 1))] hp118 hc122 (fun w hw => Z.k0) hf ?_; clear hf a; intro a hf
                        have hr127 := Z.rep_to (F' := (Z.ol [] w.heap.size)) ph0o hc65
                        have hl128 := Z.rep_slice_len hr127
                        have hr129 := Z.rep_cuth hr127 ((x13.toNat : Int) - 207 + 1).toNat (by omega)
                        have hn130 : (bs.take ((x13.toNat : Int) - 207 + 1).toNat).length = ((x13.toNat : Int) - 207 + 1).toNat := by first | rfl | omega | (simp only [List.length_take, List.length_drop]; done) | (simp only [List.length_take, List.length_drop]; omega)
                        refine Z.dr_val 9 hf rfl rfl (by kernel_rfl) (by kernel_rfl) hp118 hc122 (Z.wanted_on hf rfl rfl) (fun _ hw => Z.r_slice_h (u := ((x13.toNat : Int) - 207 + 1).toNat) Try.underlying40 Try.sizeOf5 (hf.eval rfl) (hf.eval rfl) (by omega) (by omega)) ?_; clear hf a; intro a hf
                        replace hf := hf.setv (d := 73) (y := .slice pA0 ((bs.take ((x13.toNat : Int) - 207 + 1).toNat).length) pc0) rfl (Z.slice_n (by first | rfl | omega | (simp only [List.length_take, List.length_drop]; done) | (simp only [List.length_take, List.length_drop]; omega) | (simp; omega)))
                        refine Z.dr_two 4 10 rfl rfl (by kernel_rfl) ?_ ?_
                        · refine Z.on hf rfl rfl ?_
                          refine Z.call1 hf rfl (Z.r_call cf27 hf (xs := [.tmp 67]) rfl) (RInt_spec (-1 - (IntKind.i64.wrap (u68 : Int))) w121  (by unfold Codec.okInt; omega)) ?_; clear hf a
                          rintro _ w131 ⟨A132, c133, rfl, ho134, hc136⟩
                          have hzhc136 := hc136.size
                          refine ⟨_, rfl, ?_⟩; intro a hf
                          refine Z.done ?_
                          have hq137 : Z.Ch [] w64 w131 := hc122.then hc136
                          refine And.intro hq137 ?_
                          refine Z.dr_two 5 10 rfl rfl (by kernel_rfl) ?_ ?_
                          · refine Z.on hf rfl rfl ?_
                            have hr138 := ho134.riv
                            refine Z.val hf rfl (Z.r_b2s Try.underlying40 Try.underlying5 Try.underlying9 (hf.eval rfl) hr138) ?_; clear hf a; intro a hf
                            refine Z.done ?_
                            refine And.intro hq137 ?_
                            refine Z.dr_one 10 rfl (by kernel_rfl) ?_
                            refine Z.on hf rfl rfl ?_
                            have hr139 := Z.rep_to (F' := (Z.ol [] w.heap.size)) hr129 hq137
                            refine Z.val hf rfl (Z.r_b2s Try.underlying40 Try.underlying5 Try.underlying9 (hf.eval rfl) hr139) ?_; clear hf a; intro a hf
                            refine Z.done ?_
                            refine And.intro hq137 ?_
                            refine Z.dqr [true, true, true, true, true, true, true, true, true, true, true, true, true] 0 [(11, (.on .n)), (12, .n)] [76] [] [(76, .bool (decide (ByteArray.mk (Codec.encInt (-1 - (IntKind.i64.wrap (u68 : Int)))).toArray ≠ ByteArray.mk (bs.take ((x13.toNat : Int) - 207 + 1).toNat).toArray)))] hp118 hq137 (fun w hw => Z.k0) hf ?_; clear hf a; intro a hf
                            refine Z.dr_done (by kernel_rfl) ?_
                            refine hn119 _ _ ?_
                            refine Z.condp hf rfl ?_ ?_
                            · intro hp140
                              refine Z.qseq [.n, .n, .n] [2, 3, 4] [] [(2, .int .i64 0), (3, .int .i64 0), (4, .int .i64 70)] Z.k0 hf ?_; clear hf a; intro a hf
                              refine Z.ret ?_
                              refine he116 _ _ _ (by simp) ?_
                              have HT : Codec.takeI bs = (0, 0, 70) := by first | exact Codec.takeI_nil (by omega) | exact Codec.takeI_low h0 (by omega) | exact Codec.takeI_gap h0 (by omega) (by omega) | exact Codec.takeI_mid h0 (by omega) (by omega) | exact Codec.takeI_high h0 (by omega) | (rw [Codec.takeI_pos h0 (by omega) (by omega)]; exact Codec.body_short (by omega)) | (rw [Codec.takeI_neg h0 (by omega) (by omega)]; exact Codec.body_short (by omega)) | (rw [Codec.takeI_neg h0 (by omega) (by omega)]; exact Codec.body_big (by omega) (by rw [hU]; omega)) | (rw [Codec.takeI_neg h0 (by omega) (by omega)]; exact Codec.body_bad (v := -1 - (IntKind.i64.wrap (u68 : Int))) (by omega) (by rw [hU]; simp only [if_true, if_false, Bool.false_eq_true]; omega) (by have h := hp140; intro h2; apply h; rw [h2]; congr 3; omega)) | (rw [Codec.takeI_neg h0 (by omega) (by omega)]; exact Codec.body_ok (v := -1 - (IntKind.i64.wrap (u68 : Int))) (by omega) (by rw [hU]; omega) (by rw [hU]; simp only [if_true, if_false, Bool.false_eq_true]; omega) (by have h := Codec.ba_mk (Codec.not_ne hp140); rw [h]; congr 1; omega))
                              replace hf := hf.setv (d := 2) (y := .int .i64 ((Codec.takeI bs).1)) rfl (congrArg (Value.int .i64) (by rw [HT] <;> first | rfl | (simp; done) | (simp; omega) | omega))
                              replace hf := hf.setv (d := 3) (y := .int .i64 ((Codec.takeI bs).2.1 : Int)) rfl (congrArg (Value.int .i64) (by rw [HT] <;> first | rfl | (simp; done) | (simp; omega) | omega))
                              replace hf := hf.setv (d := 4) (y := .int .i64 ((Codec.takeI bs).2.2)) rfl (congrArg (Value.int .i64) (by rw [HT] <;> first | rfl | (simp; done) | (simp; omega) | omega))
                              have hq141 : Z.Ch [] w w121 := hc65.then hc122
                              have hq142 : Z.Ch [] w w131 := hq141.then hc136
                              refine Z.ret3 hf Try.results48 rfl rfl rfl ?_
                              exact ⟨rfl, hq142⟩
                            · intro hp143
                              refine Z.skip ?_
                              refine hn115 _ _ ?_
                              refine Z.qseq [.n, .n, .n, .n, .n, .n] [2, 3, 4] [Z.R64 ((x13.toNat : Int) - 207 + 1)] [(2, .int .i64 (-1 - (IntKind.i64.wrap (u68 : Int)))), (3, .int .i64 ((x13.toNat : Int) - 207 + 1)), (4, .int .i64 0)] Z.k0 hf ?_; clear hf a; intro a hf
                              refine Z.ret ?_
                              have HT : Codec.takeI bs = (-1 - (IntKind.i64.wrap (u68 : Int)), (x13.toNat - 207) + 1, 0) := by first | exact Codec.takeI_nil (by omega) | exact Codec.takeI_low h0 (by omega) | exact Codec.takeI_gap h0 (by omega) (by omega) | exact Codec.takeI_mid h0 (by omega) (by omega) | exact Codec.takeI_high h0 (by omega) | (rw [Codec.takeI_pos h0 (by omega) (by omega)]; exact Codec.body_short (by omega)) | (rw [Codec.takeI_neg h0 (by omega) (by omega)]; exact Codec.body_short (by omega)) | (rw [Codec.takeI_neg h0 (by omega) (by omega)]; exact Codec.body_big (by omega) (by rw [hU]; omega)) | (rw [Codec.takeI_neg h0 (by omega) (by omega)]; exact Codec.body_bad (v := -1 - (IntKind.i64.wrap (u68 : Int))) (by omega) (by rw [hU]; simp only [if_true, if_false, Bool.false_eq_true]; omega) (by have h := hp143; intro h2; apply h; rw [h2]; congr 3; omega)) | (rw [Codec.takeI_neg h0 (by omega) (by omega)]; exact Codec.body_ok (v := -1 - (IntKind.i64.wrap (u68 : Int))) (by omega) (by rw [hU]; omega) (by rw [hU]; simp only [if_true, if_false, Bool.false_eq_true]; omega) (by have h := Codec.ba_mk (Codec.not_ne hp143); rw [h]; congr 1; omega))
                              replace hf := hf.setv (d := 2) (y := .int .i64 ((Codec.takeI bs).1)) rfl (congrArg (Value.int .i64) (by rw [HT] <;> first | rfl | (simp; done) | (simp; omega) | omega))
                              replace hf := hf.setv (d := 3) (y := .int .i64 ((Codec.takeI bs).2.1 : Int)) rfl (congrArg (Value.int .i64) (by rw [HT] <;> first | rfl | (simp; done) | (simp; omega) | omega))
                              replace hf := hf.setv (d := 4) (y := .int .i64 ((Codec.takeI bs).2.2)) rfl (congrArg (Value.int .i64) (by rw [HT] <;> first | rfl | (simp; done) | (simp; omega) | omega))
                              have hq144 : Z.Ch [] w w121 := hc65.then hc122
                              have hq145 : Z.Ch [] w w131 := hq144.then hc136
                              refine Z.ret3 hf Try.results48 rfl rfl rfl ?_
                              exact ⟨rfl, hq145⟩
                          · refine Z.on hf rfl rfl ?_
                            have hr146 := Z.rep_to (F' := (Z.ol [] w.heap.size)) hr129 hq137
                            refine Z.val hf rfl (Z.r_b2s Try.underlying40 Try.underlying5 Try.underlying9 (hf.eval rfl) hr146) ?_; clear hf a; intro a hf
                            refine Z.done ?_
                            refine And.intro hq137 ?_
                            refine Z.dr_one 5 rfl (by kernel_rfl) ?_
                            refine Z.on hf rfl rfl ?_
                            have hr147 := ho134.riv
                            refine Z.val hf rfl (Z.r_b2s Try.underlying40 Try.underlying5 Try.underlying9 (hf.eval rfl) hr147) ?_; clear hf a; intro a hf
                            refine Z.done ?_
                            refine And.intro hq137 ?_
                            refine Z.dqr [true, true, true, true, true, true, true, true, true, true, true, true, true] 0 [(11, (.on .n)), (12, .n)] [76] [] [(76, .bool (decide (ByteArray.mk (Codec.encInt (-1 - (IntKind.i64.wrap (u68 : Int)))).toArray ≠ ByteArray.mk (bs.take ((x13.toNat : Int) - 207 + 1).toNat).toArray)))] hp118 hq137 (fun w hw => Z.k0) hf ?_; clear hf a; intro a hf
                            refine Z.dr_done (by kernel_rfl) ?_
                            refine hn119 _ _ ?_
                            refine Z.condp hf rfl ?_ ?_
                            · intro hp148
                              refine Z.qseq [.n, .n, .n] [2, 3, 4] [] [(2, .int .i64 0), (3, .int .i64 0), (4, .int .i64 70)] Z.k0 hf ?_; clear hf a; intro a hf
                              refine Z.ret ?_
                              refine he116 _ _ _ (by simp) ?_
                              have HT : Codec.takeI bs = (0, 0, 70) := by first | exact Codec.takeI_nil (by omega) | exact Codec.takeI_low h0 (by omega) | exact Codec.takeI_gap h0 (by omega) (by omega) | exact Codec.takeI_mid h0 (by omega) (by omega) | exact Codec.takeI_high h0 (by omega) | (rw [Codec.takeI_pos h0 (by omega) (by omega)]; exact Codec.body_short (by omega)) | (rw [Codec.takeI_neg h0 (by omega) (by omega)]; exact Codec.body_short (by omega)) | (rw [Codec.takeI_neg h0 (by omega) (by omega)]; exact Codec.body_big (by omega) (by rw [hU]; omega)) | (rw [Codec.takeI_neg h0 (by omega) (by omega)]; exact Codec.body_bad (v := -1 - (IntKind.i64.wrap (u68 : Int))) (by omega) (by rw [hU]; simp only [if_true, if_false, Bool.false_eq_true]; omega) (by have h := hp148; intro h2; apply h; rw [h2]; congr 3; omega)) | (rw [Codec.takeI_neg h0 (by omega) (by omega)]; exact Codec.body_ok (v := -1 - (IntKind.i64.wrap (u68 : Int))) (by omega) (by rw [hU]; omega) (by rw [hU]; simp only [if_true, if_false, Bool.false_eq_true]; omega) (by have h := Codec.ba_mk (Codec.not_ne hp148); rw [h]; congr 1; omega))
                              replace hf := hf.setv (d := 2) (y := .int .i64 ((Codec.takeI bs).1)) rfl (congrArg (Value.int .i64) (by rw [HT] <;> first | rfl | (simp; done) | (simp; omega) | omega))
                              replace hf := hf.setv (d := 3) (y := .int .i64 ((Codec.takeI bs).2.1 : Int)) rfl (congrArg (Value.int .i64) (by rw [HT] <;> first | rfl | (simp; done) | (simp; omega) | omega))
                              replace hf := hf.setv (d := 4) (y := .int .i64 ((Codec.takeI bs).2.2)) rfl (congrArg (Value.int .i64) (by rw [HT] <;> first | rfl | (simp; done) | (simp; omega) | omega))
                              have hq149 : Z.Ch [] w w121 := hc65.then hc122
                              have hq150 : Z.Ch [] w w131 := hq149.then hc136
                              refine Z.ret3 hf Try.results48 rfl rfl rfl ?_
                              exact ⟨rfl, hq150⟩
                            · intro hp151
                              refine Z.skip ?_
                              refine hn115 _ _ ?_
                              refine Z.qseq [.n, .n, .n, .n, .n, .n] [2, 3, 4] [Z.R64 ((x13.toNat : Int) - 207 + 1)] [(2, .int .i64 (-1 - (IntKind.i64.wrap (u68 : Int)))), (3, .int .i64 ((x13.toNat : Int) - 207 + 1)), (4, .int .i64 0)] Z.k0 hf ?_; clear hf a; intro a hf
                              refine Z.ret ?_
                              have HT : Codec.takeI bs = (-1 - (IntKind.i64.wrap (u68 : Int)), (x13.toNat - 207) + 1, 0) := by first | exact Codec.takeI_nil (by omega) | exact Codec.takeI_low h0 (by omega) | exact Codec.takeI_gap h0 (by omega) (by omega) | exact Codec.takeI_mid h0 (by omega) (by omega) | exact Codec.takeI_high h0 (by omega) | (rw [Codec.takeI_pos h0 (by omega) (by omega)]; exact Codec.body_short (by omega)) | (rw [Codec.takeI_neg h0 (by omega) (by omega)]; exact Codec.body_short (by omega)) | (rw [Codec.takeI_neg h0 (by omega) (by omega)]; exact Codec.body_big (by omega) (by rw [hU]; omega)) | (rw [Codec.takeI_neg h0 (by omega) (by omega)]; exact Codec.body_bad (v := -1 - (IntKind.i64.wrap (u68 : Int))) (by omega) (by rw [hU]; simp only [if_true, if_false, Bool.false_eq_true]; omega) (by have h := hp151; intro h2; apply h; rw [h2]; congr 3; omega)) | (rw [Codec.takeI_neg h0 (by omega) (by omega)]; exact Codec.body_ok (v := -1 - (IntKind.i64.wrap (u68 : Int))) (by omega) (by rw [hU]; omega) (by rw [hU]; simp only [if_true, if_false, Bool.false_eq_true]; omega) (by have h := Codec.ba_mk (Codec.not_ne hp151); rw [h]; congr 1; omega))
                              replace hf := hf.setv (d := 2) (y := .int .i64 ((Codec.takeI bs).1)) rfl (congrArg (Value.int .i64) (by rw [HT] <;> first | rfl | (simp; done) | (simp; omega) | omega))
                              replace hf := hf.setv (d := 3) (y := .int .i64 ((Codec.takeI bs).2.1 : Int)) rfl (congrArg (Value.int .i64) (by rw [HT] <;> first | rfl | (simp; done) | (simp; omega) | omega))
                              replace hf := hf.setv (d := 4) (y := .int .i64 ((Codec.takeI bs).2.2)) rfl (congrArg (Value.int .i64) (by rw [HT] <;> first | rfl | (simp; done) | (simp; omega) | omega))
                              have hq152 : Z.Ch [] w w121 := hc65.then hc122
                              have hq153 : Z.Ch [] w w131 := hq152.then hc136
                              refine Z.ret3 hf Try.results48 rfl rfl rfl ?_
                              exact ⟨rfl, hq153⟩
                        · refine Z.on hf rfl rfl ?_
                          have hr154 := Z.rep_to (F' := (Z.ol [] w.heap.size)) hr129 hc122
                          refine Z.val hf rfl (Z.r_b2s Try.underlying40 Try.underlying5 Try.underlying9 (hf.eval rfl) hr154) ?_; clear hf a; intro a hf
                          refine Z.done ?_
                          refine And.intro hc122 ?_
                          refine Z.dr_one 4 rfl (by kernel_rfl) ?_
                          refine Z.on hf rfl rfl ?_
                          refine Z.call1 hf rfl (Z.r_call cf27 hf (xs := [.tmp 67]) rfl) (RInt_spec (-1 - (IntKind.i64.wrap (u68 : Int))) w121  (by unfold Codec.okInt; omega)) ?_; clear hf a
                          rintro _ w155 ⟨A156, c157, rfl, ho158, hc160⟩
                          have hzhc160 := hc160.size
                          refine ⟨_, rfl, ?_⟩; intro a hf
                          refine Z.done ?_
                          have hq161 : Z.Ch [] w64 w155 := hc122.then hc160
                          refine And.intro hq161 ?_
                          refine Z.dr_one 5 rfl (by kernel_rfl) ?_
                          refine Z.on hf rfl rfl ?_
                          have hr162 := ho158.riv
                          refine Z.val hf rfl (Z.r_b2s Try.underlying40 Try.underlying5 Try.underlying9 (hf.eval rfl) hr162) ?_; clear hf a; intro a hf
                          refine Z.done ?_
                          refine And.intro hq161 ?_
                          refine Z.dqr [true, true, true, true, true, true, true, true, true, true, true, true, true] 0 [(11, (.on .n)), (12, .n)] [76] [] [(76, .bool (decide (ByteArray.mk (Codec.encInt (-1 - (IntKind.i64.wrap (u68 : Int)))).toArray ≠ ByteArray.mk (bs.take ((x13.toNat : Int) - 207 + 1).toNat).toArray)))] hp118 hq161 (fun w hw => Z.k0) hf ?_; clear hf a; intro a hf
                          refine Z.dr_done (by kernel_rfl) ?_
                          refine hn119 _ _ ?_
                          refine Z.condp hf rfl ?_ ?_
                          · intro hp163
                            refine Z.qseq [.n, .n, .n] [2, 3, 4] [] [(2, .int .i64 0), (3, .int .i64 0), (4, .int .i64 70)] Z.k0 hf ?_; clear hf a; intro a hf
                            refine Z.ret ?_
                            refine he116 _ _ _ (by simp) ?_
                            have HT : Codec.takeI bs = (0, 0, 70) := by first | exact Codec.takeI_nil (by omega) | exact Codec.takeI_low h0 (by omega) | exact Codec.takeI_gap h0 (by omega) (by omega) | exact Codec.takeI_mid h0 (by omega) (by omega) | exact Codec.takeI_high h0 (by omega) | (rw [Codec.takeI_pos h0 (by omega) (by omega)]; exact Codec.body_short (by omega)) | (rw [Codec.takeI_neg h0 (by omega) (by omega)]; exact Codec.body_short (by omega)) | (rw [Codec.takeI_neg h0 (by omega) (by omega)]; exact Codec.body_big (by omega) (by rw [hU]; omega)) | (rw [Codec.takeI_neg h0 (by omega) (by omega)]; exact Codec.body_bad (v := -1 - (IntKind.i64.wrap (u68 : Int))) (by omega) (by rw [hU]; simp only [if_true, if_false, Bool.false_eq_true]; omega) (by have h := hp163; intro h2; apply h; rw [h2]; congr 3; omega)) | (rw [Codec.takeI_neg h0 (by omega) (by omega)]; exact Codec.body_ok (v := -1 - (IntKind.i64.wrap (u68 : Int))) (by omega) (by rw [hU]; omega) (by rw [hU]; simp only [if_true, if_false, Bool.false_eq_true]; omega) (by have h := Codec.ba_mk (Codec.not_ne hp163); rw [h]; congr 1; omega))
                            replace hf := hf.setv (d := 2) (y := .int .i64 ((Codec.takeI bs).1)) rfl (congrArg (Value.int .i64) (by rw [HT] <;> first | rfl | (simp; done) | (simp; omega) | omega))
                            replace hf := hf.setv (d := 3) (y := .int .i64 ((Codec.takeI bs).2.1 : Int)) rfl (congrArg (Value.int .i64) (by rw [HT] <;> first | rfl | (simp; done) | (simp; omega) | omega))
                            replace hf := hf.setv (d := 4) (y := .int .i64 ((Codec.takeI bs).2.2)) rfl (congrArg (Value.int .i64) (by rw [HT] <;> first | rfl | (simp; done) | (simp; omega) | omega))
                            have hq164 : Z.Ch [] w w121 := hc65.then hc122
                            have hq165 : Z.Ch [] w w155 := hq164.then hc160
                            refine Z.ret3 hf Try.results48 rfl rfl rfl ?_
                            exact ⟨rfl, hq165⟩
                          · intro hp166
                            refine Z.skip ?_
                            refine hn115 _ _ ?_
                            refine Z.qseq [.n, .n, .n, .n, .n, .n] [2, 3, 4] [Z.R64 ((x13.toNat : Int) - 207 + 1)] [(2, .int .i64 (-1 - (IntKind.i64.wrap (u68 : Int)))), (3, .int .i64 ((x13.toNat : Int) - 207 + 1)), (4, .int .i64 0)] Z.k0 hf ?_; clear hf a; intro a hf
                            refine Z.ret ?_
                            have HT : Codec.takeI bs = (-1 - (IntKind.i64.wrap (u68 : Int)), (x13.toNat - 207) + 1, 0) := by first | exact Codec.takeI_nil (by omega) | exact Codec.takeI_low h0 (by omega) | exact Codec.takeI_gap h0 (by omega) (by omega) | exact Codec.takeI_mid h0 (by omega) (by omega) | exact Codec.takeI_high h0 (by omega) | (rw [Codec.takeI_pos h0 (by omega) (by omega)]; exact Codec.body_short (by omega)) | (rw [Codec.takeI_neg h0 (by omega) (by omega)]; exact Codec.body_short (by omega)) | (rw [Codec.takeI_neg h0 (by omega) (by omega)]; exact Codec.body_big (by omega) (by rw [hU]; omega)) | (rw [Codec.takeI_neg h0 (by omega) (by omega)]; exact Codec.body_bad (v := -1 - (IntKind.i64.wrap (u68 : Int))) (by omega) (by rw [hU]; simp only [if_true, if_false, Bool.false_eq_true]; omega) (by have h := hp166; intro h2; apply h; rw [h2]; congr 3; omega)) | (rw [Codec.takeI_neg h0 (by omega) (by omega)]; exact Codec.body_ok (v := -1 - (IntKind.i64.wrap (u68 : Int))) (by omega) (by rw [hU]; omega) (by rw [hU]; simp only [if_true, if_false, Bool.false_eq_true]; omega) (by have h := Codec.ba_mk (Codec.not_ne hp166); rw [h]; congr 1; omega))
                            replace hf := hf.setv (d := 2) (y := .int .i64 ((Codec.takeI bs).1)) rfl (congrArg (Value.int .i64) (by rw [HT] <;> first | rfl | (simp; done) | (simp; omega) | omega))
                            replace hf := hf.setv (d := 3) (y := .int .i64 ((Codec.takeI bs).2.1 : Int)) rfl (congrArg (Value.int .i64) (by rw [HT] <;> first | rfl | (simp; done) | (simp; omega) | omega))
                            replace hf := hf.setv (d := 4) (y := .int .i64 ((Codec.takeI bs).2.2)) rfl (congrArg (Value.int .i64) (by rw [HT] <;> first | rfl | (simp; done) | (simp; omega) | omega))
                            have hq167 : Z.Ch [] w w121 := hc65.then hc122
                            have hq168 : Z.Ch [] w w155 := hq167.then hc160
                            refine Z.ret3 hf Try.results48 rfl rfl rfl ?_
                            exact ⟨rfl, hq168⟩
                    · intro hp169
                      exfalso; omega
            · intro hp170
              refine Z.skip ?_
              refine hn46 _ _ ?_
              refine Z.seq' (Z.Pq.body _ _ _) fun Q171 hp172 hn173 he174 => ?_
              refine Z.qseq [.n, .n, .n, .n, .n] [44] [Z.R64 ((x13.toNat : Int) - 199 + 1)] [(44, .bool (decide ((bs.length : Int) < (x13.toNat : Int) - 199 + 1)))] Z.k0 hf ?_; clear hf a; intro a hf
              refine Z.condp hf rfl ?_ ?_
              · intro hp175
                refine Z.qseq [.n, .n, .n] [2, 3, 4] [] [(2, .int .i64 0), (3, .int .i64 0), (4, .int .i64 71)] Z.k0 hf ?_; clear hf a; intro a hf
                refine Z.ret ?_
                refine he174 _ _ _ (by simp) ?_
                have HT : Codec.takeI bs = (0, 0, 71) := by first | exact Codec.takeI_nil (by omega) | exact Codec.takeI_low h0 (by omega) | exact Codec.takeI_gap h0 (by omega) (by omega) | exact Codec.takeI_mid h0 (by omega) (by omega) | exact Codec.takeI_high h0 (by omega) | (rw [Codec.takeI_pos h0 (by omega) (by omega)]; exact Codec.body_short (by omega)) | (rw [Codec.takeI_neg h0 (by omega) (by omega)]; exact Codec.body_short (by omega)) | (rw [Codec.takeI_neg h0 (by omega) (by omega)]; exact Codec.body_big (by omega) (by rw [hU]; omega)) | (rw [Codec.takeI_neg h0 (by omega) (by omega)]; exact Codec.body_bad (v := -1 - (IntKind.i64.wrap (u68 : Int))) (by omega) (by rw [hU]; simp only [if_true, if_false, Bool.false_eq_true]; omega) (by have h := hp175; intro h2; apply h; rw [h2]; congr 3; omega)) | (rw [Codec.takeI_neg h0 (by omega) (by omega)]; exact Codec.body_ok (v := -1 - (IntKind.i64.wrap (u68 : Int))) (by omega) (by rw [hU]; omega) (by rw [hU]; simp only [if_true, if_false, Bool.false_eq_true]; omega) (by have h := Codec.ba_mk (Codec.not_ne hp175); rw [h]; congr 1; omega))
                replace hf := hf.setv (d := 2) (y := .int .i64 ((Codec.takeI bs).1)) rfl (congrArg (Value.int .i64) (by rw [HT] <;> first | rfl | (simp; done) | (simp; omega) | omega))
                replace hf := hf.setv (d := 3) (y := .int .i64 ((Codec.takeI bs).2.1 : Int)) rfl (congrArg (Value.int .i64) (by rw [HT] <;> first | rfl | (simp; done) | (simp; omega) | omega))
                replace hf := hf.setv (d := 4) (y := .int .i64 ((Codec.takeI bs).2.2)) rfl (congrArg (Value.int .i64) (by rw [HT] <;> first | rfl | (simp; done) | (simp; omega) | omega))
                refine Z.ret3 hf Try.results48 rfl rfl rfl ?_
                exact ⟨rfl, (Z.Ch.refl w)⟩
              · intro hp176
                refine Z.skip ?_
                refine hn173 _ _ ?_
                refine Z.qseq [.n] [7] [] [(7, .int .u64 0)] Z.k0 hf ?_; clear hf a; intro a hf
                refine Z.seq' (Z.Pq.body _ _ _) fun Q177 hp178 hn179 he180 => ?_
                refine Z.qseq [.n] [8] [] [(8, .int .i64 1)] Z.k0 hf ?_; clear hf a; intro a hf
                refine Z.block' hp178 fun Q181 hp182 hn183 hx184 he185 => ?_
                refine Z.loop' hp182 (fun m a wl => ∃ (k : Nat), ∃ (u : Nat), m = (x13.toNat - 199) - k ∧ Z.Ch [] w wl ∧ (k ≤ (x13.toNat - 199)) ∧ (u = Codec.val ((bs.drop 1).take k)) ∧ Z.Fr a 80 [] [(0, .slice pA0 bs.length pc0), (5, .int .i64 (x13.toNat : Int)), (6, .int .i64 ((x13.toNat : Int) - 199)), (7, .int .u64 (u : Int)), (8, .int .i64 ((k + 1 : Nat) : Int))]) ((x13.toNat - 199) - 0) ?_ ?_
                · replace hf := hf.setv (d := 7) (y := .int .u64 (0 : Int)) rfl (congrArg (Value.int .u64) (by first | rfl | omega | (simp; done) | (simp; omega)))
                  replace hf := hf.setv (d := 8) (y := .int .i64 ((0 + 1 : Nat) : Int)) rfl (congrArg (Value.int .i64) (by first | rfl | omega | (simp; done) | (simp; omega)))
                  exact ⟨0, 0, rfl, (Z.Ch.refl w), (by omega), (by simp [Codec.val]), (hf.keep [0, 5, 6, 7, 8])⟩
                · rintro m197 a w186 ⟨k189, u190, hm188, hc187, hk195, hu196, hf⟩ Q191 hp192 hn193 he194
                  have hzhc187 := hc187.size
                  refine Z.seq' hp192 fun Q198 hp199 hn200 he201 => ?_
                  refine Z.qseq [.n, .n, .n] [47] [] [(47, .bool (decide (((k189 + 1 : Nat) : Int) ≤ (x13.toNat : Int) - 199)))] Z.k0 hf ?_; clear hf a; intro a hf
                  refine Z.condp hf rfl ?_ ?_
                  · intro hp202
                    refine Z.skip ?_
                    refine hn200 _ _ ?_
                    refine Z.seq' hp192 fun Q203 hp204 hn205 he206 => ?_
                    refine Z.block' hp204 fun Q207 hp208 hn209 hx210 he211 => ?_
                    have hsm := Codec.val_lt7 (l := (bs.drop 1).take k189) (by rw [List.length_take]; omega)
                    rw [← hu196] at hsm
                    refine Z.reg ?_
                    refine Z.qr [.n] [50] [] [(50, .int .u64 (u190 : Int))] Z.k0 hf ?_; clear hf a; intro a hf
                    refine Z.val hf rfl (Z.r_mulw (hf.eval rfl) (hf.eval rfl) (Z.u64_in _ (by omega))) ?_; clear hf a; intro a hf
                    refine Z.qr [.n, .n] [52, 53] [] [(52, .slice pA0 bs.length pc0), (53, .int .i64 ((k189 + 1 : Nat) : Int))] Z.k0 hf ?_; clear hf a; intro a hf
                    have hr212 := Z.rep_to (F' := (Z.ol [] w.heap.size)) ph0o hc187
                    have hkx215 : (k189 + 1 : Nat) < (bs).length := (by omega)
                    obtain ⟨ad213, es214, x215, hA216, hF217, hl218, hx219, hc220, hr221⟩ := Z.rep_el hr212 hkx215
                    have hok222 := Z.rep_ok _ hr221
                    have he223 : _ = _ := hr221
                    have he224 : es214 = [.int .u8 (x215.toNat : Int)] := by simp only [he223, List.cons_append, List.nil_append]
                    rw [he224] at hc220
                    have hea := hx219
                    have hxl := x215.toNat_lt
                    have heb : (bs.drop 1)[k189]? = some x215 := by rw [List.getElem?_drop, Nat.add_comm]; exact hea
                    refine Z.val hf rfl (Z.r_indexAddrE Try.underlying40 Try.sizeOf5 (hf.eval rfl) hA216 (hf.eval rfl) (k := (k189 + 1 : Nat)) (by first | rfl | omega) (by omega)) ?_; clear hf a; intro a hf
                    refine Z.qr [.e 0 0] [55] [] [(55, .int .u8 (x215.toNat : Int))] (Z.ke hc220 Z.k0) hf ?_; clear hf a; intro a hf
                    refine Z.val hf rfl (Z.r_convw Try.underlying5 Try.underlying104 (hf.eval rfl) (Z.u64_in _ (by omega))) ?_; clear hf a; intro a hf
                    refine Z.val hf rfl (Z.r_addw (hf.eval rfl) (hf.eval rfl) (Z.u64_in _ (by omega))) ?_; clear hf a; intro a hf
                    refine Z.qe [.n] [7] [] [(7, .int .u64 ((u190 : Int) * 256 + (x215.toNat : Int)))] Z.k0 hf ?_; clear hf a; intro a hf
                    refine hn209 _ _ ?_
                    refine hn205 _ _ ?_
                    refine Z.qreg [.n, .n, .n] [8] [Z.R64 (((k189 + 1 : Nat) : Int) + 1)] [(8, .int .i64 (((k189 + 1 : Nat) : Int) + 1))] Z.k0 hf ?_; clear hf a; intro a hf
                    refine hn193 ((x13.toNat - 199) - (k189 + 1)) _ _ ?_ ?_
                    rotate_left
                    replace hf := hf.setv (d := 7) (y := .int .u64 (((u190 * 256 + x215.toNat) : Nat) : Int)) rfl (congrArg (Value.int .u64) (by first | rfl | omega | (simp; done) | (simp; omega)))
                    replace hf := hf.setv (d := 8) (y := .int .i64 (((k189 + 1 : Nat) + 1 : Nat) : Int)) rfl (congrArg (Value.int .i64) (by first | rfl | omega | (simp; done) | (simp; omega)))
                    exact ⟨k189 + 1, (u190 * 256 + x215.toNat), rfl, hc187, (by omega), (by rw [Codec.val_take heb, ← hu196]), (hf.keep [0, 5, 6, 7, 8])⟩
                    rw [hm188]; omega
                  · intro hp225
                    refine Z.exit ?_
                    refine he201 _ _ _ (by simp) ?_
                    refine he194 _ _ _ (by simp) ?_
                    refine hx184 _ _ ?_
                    refine hn179 _ _ ?_
                    have hU : Codec.val ((bs.drop 1).take (x13.toNat - 199)) = u190 := by rw [hu196]; congr 2; omega
                    have hlt := Codec.val_lt8 (l := (bs.drop 1).take (x13.toNat - 199)) (by rw [List.length_take]; omega)
                    rw [hU] at hlt
                    have hwr := Z.wrap_i64 hlt
                    refine Z.seq' (Z.Pq.body _ _ _) fun Q226 hp227 hn228 he229 => ?_
                    have hU : Codec.val ((bs.drop 1).take (x13.toNat - 199)) = u190 := by rw [hu196]; congr 2; omega
                    have hlt := Codec.val_lt8 (l := (bs.drop 1).take (x13.toNat - 199)) (by rw [List.length_take]; omega)
                    rw [hU] at hlt
                    have hwr := Z.wrap_i64 hlt
                    refine Z.reg ?_
                    refine Z.qr [.n] [58] [] [(58, .int .u64 (u190 : Int))] Z.k0 hf ?_; clear hf a; intro a hf
                    refine Z.val hf rfl (Z.r_conv Try.underlying104 Try.underlying2 (hf.eval rfl)) ?_; clear hf a; intro a hf
                    refine Z.qe [.n] [9] [] [(9, .int .i64 (IntKind.i64.wrap (u190 : Int)))] Z.k0 hf ?_; clear hf a; intro a hf
                    refine hn228 _ _ ?_
                    refine Z.seq' (Z.Pq.body _ _ _) fun Q230 hp231 hn232 he233 => ?_
                    refine Z.qseq [.n, .n] [61] [] [(61, .bool (decide (207 < (x13.toNat : Int))))] Z.k0 hf ?_; clear hf a; intro a hf
                    refine Z.condp hf rfl ?_ ?_
                    · intro hp234
                      exfalso; omega
                    · intro hp235
                      refine Z.skip ?_
                      refine hn232 _ _ ?_
                      refine Z.seq' (Z.Pq.body _ _ _) fun Q236 hp237 hn238 he239 => ?_
                      refine Z.seq' hp237 fun Q240 hp241 hn242 he243 => ?_
                      
                      refine Z.dr_reg (S := fun w' => Z.Ch [] w186 w') mixed ?_; intro w244 hc245 hz246
                      refine Z.dqr [true, true, true, false, false, false, false, false, false, false, false, false, false] 10 [(0, .n), (1, .n), (2, .n)] [66] [] [(66, .bool (decide (9223372036854775808 ≤ (u190 : Int))))] hp241 hc245 (fun w hw => Z.k0) hf ?_; clear hf a; intro a hf
                      by_cases hdec : 9223372036854775808 ≤ (u190 : Int) <;> revert hdec
                      · intro hp247
                        replace hf := hf.setb (d := 66) (b' := true) rfl (decide_eq_true hp247)
                        refine Z.dqr [true, true, true, true, true, true, true, true, true, true, true, true, true] 0 [(3, .off), (4, .off), (5, .off), (6, .off), (7, .off), (8, .off), (9, .off), (10, .off), (11, .off), (12, .n)] [76] [] [(76, .bool true)] hp241 hc245 (fun w hw => Z.k0) hf ?_; clear hf a; intro a hf
                        refine Z.dr_done (by kernel_rfl) ?_
                        refine hn242 _ _ ?_
                        refine Z.condt hf rfl ?_
                        refine Z.qseq [.n, .n, .n] [2, 3, 4] [] [(2, .int .i64 0), (3, .int .i64 0), (4, .int .i64 70)] Z.k0 hf ?_; clear hf a; intro a hf
                        refine Z.ret ?_
                        refine he239 _ _ _ (by simp) ?_
                        have HT : Codec.takeI bs = (0, 0, 70) := by first | exact Codec.takeI_nil (by omega) | exact Codec.takeI_low h0 (by omega) | exact Codec.takeI_gap h0 (by omega) (by omega) | exact Codec.takeI_mid h0 (by omega) (by omega) | exact Codec.takeI_high h0 (by omega) | (rw [Codec.takeI_pos h0 (by omega) (by omega)]; exact Codec.body_short (by omega)) | (rw [Codec.takeI_neg h0 (by omega) (by omega)]; exact Codec.body_short (by omega)) | (rw [Codec.takeI_pos h0 (by omega) (by omega)]; exact Codec.body_big (by omega) (by rw [hU]; omega)) | (rw [Codec.takeI_pos h0 (by omega) (by omega)]; exact Codec.body_bad (v := IntKind.i64.wrap (u190 : Int)) (by omega) (by rw [hU]; simp only [if_true, if_false, Bool.false_eq_true]; omega) (by have h := hp247; intro h2; apply h; rw [h2]; congr 3; omega)) | (rw [Codec.takeI_pos h0 (by omega) (by omega)]; exact Codec.body_ok (v := IntKind.i64.wrap (u190 : Int)) (by omega) (by rw [hU]; omega) (by rw [hU]; simp only [if_true, if_false, Bool.false_eq_true]; omega) (by have h := Codec.ba_mk (Codec.not_ne hp247); rw [h]; congr 1; omega))
                        replace hf := hf.setv (d := 2) (y := .int .i64 ((Codec.takeI bs).1)) rfl (congrArg (Value.int .i64) (by rw [HT] <;> first | rfl | (simp; done) | (simp; omega) | omega))
                        replace hf := hf.setv (d := 3) (y := .int .i64 ((Codec.takeI bs).2.1 : Int)) rfl (congrArg (Value.int .i64) (by rw [HT] <;> first | rfl | (simp; done) | (simp; omega) | omega))
                        replace hf := hf.setv (d := 4) (y := .int .i64 ((Codec.takeI bs).2.2)) rfl (congrArg (Value.int .i64) (by rw [HT] <;> first | rfl | (simp; done) | (simp; omega) | omega))
                        have hq248 : Z.Ch [] w w244 := hc187.then hc245
                        refine Z.ret3 hf Try.results48 rfl rfl rfl ?_
                        exact ⟨rfl, hq248⟩
                      · intro hp249
                        replace hf := hf.setb (d := 66) (b' := false) rfl (decide_eq_false hp249)
                        refine Z.dqr [true, true, true, true, false, false, true, true, true, false, false, false, false] 6 [(3, (.on .n)), (6, (.on .n)), (7, (.on .n)), (8, (.on .n))] [67, 70, 72] [Z.R64 ((x13.toNat : Int) - 199 + 1)] [(67, .int .i64 (IntKind.i64.wrap (u190 : Int))), (70, .slice pA0 bs.length pc0), (72, .int .i64 ((x13.toNat : Int) - 199 + 1))] hp241 hc245 (fun w hw => Z.k0) hf ?_; clear hf a; intro a hf
                        have hr250 := Z.rep_to (F' := (Z.ol [] w.heap.size)) ph0o hc187
                        have hl251 := Z.rep_slice_len hr250
                        have hr252 := Z.rep_cuth hr250 ((x13.toNat : Int) - 199 + 1).toNat (by omega)
                        have hn253 : (bs.take ((x13.toNat : Int) - 199 + 1).toNat).length = ((x13.toNat : Int) - 199 + 1).toNat := by first | rfl | omega | (simp only [List.length_take, List.length_drop]; done) | (simp only [List.length_take, List.length_drop]; omega)
                        refine Z.dr_val 9 hf rfl rfl (by kernel_rfl) (by kernel_rfl) hp241 hc245 (Z.wanted_on hf rfl rfl) (fun _ hw => Z.r_slice_h (u := ((x13.toNat : Int) - 199 + 1).toNat) Try.underlying40 Try.sizeOf5 (hf.eval rfl) (hf.eval rfl) (by omega) (by omega)) ?_; clear hf a; intro a hf
                        replace hf := hf.setv (d := 73) (y := .slice pA0 ((bs.take ((x13.toNat : Int) - 199 + 1).toNat).length) pc0) rfl (Z.slice_n (by first | rfl | omega | (simp only [List.length_take, List.length_drop]; done) | (simp only [List.length_take, List.length_drop]; omega) | (simp; omega)))
                        refine Z.dr_two 4 10 rfl rfl (by kernel_rfl) ?_ ?_
                        · refine Z.on hf rfl rfl ?_
                          refine Z.call1 hf rfl (Z.r_call cf27 hf (xs := [.tmp 67]) rfl) (RInt_spec (IntKind.i64.wrap (u190 : Int)) w244  (by unfold Codec.okInt; omega)) ?_; clear hf a
                          rintro _ w254 ⟨A255, c256, rfl, ho257, hc259⟩
                          have hzhc259 := hc259.size
                          refine ⟨_, rfl, ?_⟩; intro a hf
                          refine Z.done ?_
                          have hq260 : Z.Ch [] w186 w254 := hc245.then hc259
                          refine And.intro hq260 ?_
                          refine Z.dr_two 5 10 rfl rfl (by kernel_rfl) ?_ ?_
                          · refine Z.on hf rfl rfl ?_
                            have hr261 := ho257.riv
                            refine Z.val hf rfl (Z.r_b2s Try.underlying40 Try.underlying5 Try.underlying9 (hf.eval rfl) hr261) ?_; clear hf a; intro a hf
                            refine Z.done ?_
                            refine And.intro hq260 ?_
                            refine Z.dr_one 10 rfl (by kernel_rfl) ?_
                            refine Z.on hf rfl rfl ?_
                            have hr262 := Z.rep_to (F' := (Z.ol [] w.heap.size)) hr252 hq260
                            refine Z.val hf rfl (Z.r_b2s Try.underlying40 Try.underlying5 Try.underlying9 (hf.eval rfl) hr262) ?_; clear hf a; intro a hf
                            refine Z.done ?_
                            refine And.intro hq260 ?_
                            refine Z.dqr [true, true, true, true, true, true, true, true, true, true, true, true, true] 0 [(11, (.on .n)), (12, .n)] [76] [] [(76, .bool (decide (ByteArray.mk (Codec.encInt (IntKind.i64.wrap (u190 : Int))).toArray ≠ ByteArray.mk (bs.take ((x13.toNat : Int) - 199 + 1).toNat).toArray)))] hp241 hq260 (fun w hw => Z.k0) hf ?_; clear hf a; intro a hf
                            refine Z.dr_done (by kernel_rfl) ?_
                            refine hn242 _ _ ?_
                            refine Z.condp hf rfl ?_ ?_
                            · intro hp263
                              refine Z.qseq [.n, .n, .n] [2, 3, 4] [] [(2, .int .i64 0), (3, .int .i64 0), (4, .int .i64 70)] Z.k0 hf ?_; clear hf a; intro a hf
                              refine Z.ret ?_
                              refine he239 _ _ _ (by simp) ?_
                              have HT : Codec.takeI bs = (0, 0, 70) := by first | exact Codec.takeI_nil (by omega) | exact Codec.takeI_low h0 (by omega) | exact Codec.takeI_gap h0 (by omega) (by omega) | exact Codec.takeI_mid h0 (by omega) (by omega) | exact Codec.takeI_high h0 (by omega) | (rw [Codec.takeI_pos h0 (by omega) (by omega)]; exact Codec.body_short (by omega)) | (rw [Codec.takeI_neg h0 (by omega) (by omega)]; exact Codec.body_short (by omega)) | (rw [Codec.takeI_pos h0 (by omega) (by omega)]; exact Codec.body_big (by omega) (by rw [hU]; omega)) | (rw [Codec.takeI_pos h0 (by omega) (by omega)]; exact Codec.body_bad (v := IntKind.i64.wrap (u190 : Int)) (by omega) (by rw [hU]; simp only [if_true, if_false, Bool.false_eq_true]; omega) (by have h := hp263; intro h2; apply h; rw [h2]; congr 3; omega)) | (rw [Codec.takeI_pos h0 (by omega) (by omega)]; exact Codec.body_ok (v := IntKind.i64.wrap (u190 : Int)) (by omega) (by rw [hU]; omega) (by rw [hU]; simp only [if_true, if_false, Bool.false_eq_true]; omega) (by have h := Codec.ba_mk (Codec.not_ne hp263); rw [h]; congr 1; omega))
                              replace hf := hf.setv (d := 2) (y := .int .i64 ((Codec.takeI bs).1)) rfl (congrArg (Value.int .i64) (by rw [HT] <;> first | rfl | (simp; done) | (simp; omega) | omega))
                              replace hf := hf.setv (d := 3) (y := .int .i64 ((Codec.takeI bs).2.1 : Int)) rfl (congrArg (Value.int .i64) (by rw [HT] <;> first | rfl | (simp; done) | (simp; omega) | omega))
                              replace hf := hf.setv (d := 4) (y := .int .i64 ((Codec.takeI bs).2.2)) rfl (congrArg (Value.int .i64) (by rw [HT] <;> first | rfl | (simp; done) | (simp; omega) | omega))
                              have hq264 : Z.Ch [] w w244 := hc187.then hc245
                              have hq265 : Z.Ch [] w w254 := hq264.then hc259
                              refine Z.ret3 hf Try.results48 rfl rfl rfl ?_
                              exact ⟨rfl, hq265⟩
                            · intro hp266
                              refine Z.skip ?_
                              refine hn238 _ _ ?_
                              refine Z.qseq [.n, .n, .n, .n, .n, .n] [2, 3, 4] [Z.R64 ((x13.toNat : Int) - 199 + 1)] [(2, .int .i64 (IntKind.i64.wrap (u190 : Int))), (3, .int .i64 ((x13.toNat : Int) - 199 + 1)), (4, .int .i64 0)] Z.k0 hf ?_; clear hf a; intro a hf
                              refine Z.ret ?_
                              have HT : Codec.takeI bs = (IntKind.i64.wrap (u190 : Int), (x13.toNat - 199) + 1, 0) := by first | exact Codec.takeI_nil (by omega) | exact Codec.takeI_low h0 (by omega) | exact Codec.takeI_gap h0 (by omega) (by omega) | exact Codec.takeI_mid h0 (by omega) (by omega) | exact Codec.takeI_high h0 (by omega) | (rw [Codec.takeI_pos h0 (by omega) (by omega)]; exact Codec.body_short (by omega)) | (rw [Codec.takeI_neg h0 (by omega) (by omega)]; exact Codec.body_short (by omega)) | (rw [Codec.takeI_pos h0 (by omega) (by omega)]; exact Codec.body_big (by omega) (by rw [hU]; omega)) | (rw [Codec.takeI_pos h0 (by omega) (by omega)]; exact Codec.body_bad (v := IntKind.i64.wrap (u190 : Int)) (by omega) (by rw [hU]; simp only [if_true, if_false, Bool.false_eq_true]; omega) (by have h := hp266; intro h2; apply h; rw [h2]; congr 3; omega)) | (rw [Codec.takeI_pos h0 (by omega) (by omega)]; exact Codec.body_ok (v := IntKind.i64.wrap (u190 : Int)) (by omega) (by rw [hU]; omega) (by rw [hU]; simp only [if_true, if_false, Bool.false_eq_true]; omega) (by have h := Codec.ba_mk (Codec.not_ne hp266); rw [h]; congr 1; omega))
                              replace hf := hf.setv (d := 2) (y := .int .i64 ((Codec.takeI bs).1)) rfl (congrArg (Value.int .i64) (by rw [HT] <;> first | rfl | (simp; done) | (simp; omega) | omega))
                              replace hf := hf.setv (d := 3) (y := .int .i64 ((Codec.takeI bs).2.1 : Int)) rfl (congrArg (Value.int .i64) (by rw [HT] <;> first | rfl | (simp; done) | (simp; omega) | omega))
                              replace hf := hf.setv (d := 4) (y := .int .i64 ((Codec.takeI bs).2.2)) rfl (congrArg (Value.int .i64) (by rw [HT] <;> first | rfl | (simp; done) | (simp; omega) | omega))
                              have hq267 : Z.Ch [] w w244 := hc187.then hc245
                              have hq268 : Z.Ch [] w w254 := hq267.then hc259
                              refine Z.ret3 hf Try.results48 rfl rfl rfl ?_
                              exact ⟨rfl, hq268⟩
                          · refine Z.on hf rfl rfl ?_
                            have hr269 := Z.rep_to (F' := (Z.ol [] w.heap.size)) hr252 hq260
                            refine Z.val hf rfl (Z.r_b2s Try.underlying40 Try.underlying5 Try.underlying9 (hf.eval rfl) hr269) ?_; clear hf a; intro a hf
                            refine Z.done ?_
                            refine And.intro hq260 ?_
                            refine Z.dr_one 5 rfl (by kernel_rfl) ?_
                            refine Z.on hf rfl rfl ?_
                            have hr270 := ho257.riv
                            refine Z.val hf rfl (Z.r_b2s Try.underlying40 Try.underlying5 Try.underlying9 (hf.eval rfl) hr270) ?_; clear hf a; intro a hf
                            refine Z.done ?_
                            refine And.intro hq260 ?_
                            refine Z.dqr [true, true, true, true, true, true, true, true, true, true, true, true, true] 0 [(11, (.on .n)), (12, .n)] [76] [] [(76, .bool (decide (ByteArray.mk (Codec.encInt (IntKind.i64.wrap (u190 : Int))).toArray ≠ ByteArray.mk (bs.take ((x13.toNat : Int) - 199 + 1).toNat).toArray)))] hp241 hq260 (fun w hw => Z.k0) hf ?_; clear hf a; intro a hf
                            refine Z.dr_done (by kernel_rfl) ?_
                            refine hn242 _ _ ?_
                            refine Z.condp hf rfl ?_ ?_
                            · intro hp271
                              refine Z.qseq [.n, .n, .n] [2, 3, 4] [] [(2, .int .i64 0), (3, .int .i64 0), (4, .int .i64 70)] Z.k0 hf ?_; clear hf a; intro a hf
                              refine Z.ret ?_
                              refine he239 _ _ _ (by simp) ?_
                              have HT : Codec.takeI bs = (0, 0, 70) := by first | exact Codec.takeI_nil (by omega) | exact Codec.takeI_low h0 (by omega) | exact Codec.takeI_gap h0 (by omega) (by omega) | exact Codec.takeI_mid h0 (by omega) (by omega) | exact Codec.takeI_high h0 (by omega) | (rw [Codec.takeI_pos h0 (by omega) (by omega)]; exact Codec.body_short (by omega)) | (rw [Codec.takeI_neg h0 (by omega) (by omega)]; exact Codec.body_short (by omega)) | (rw [Codec.takeI_pos h0 (by omega) (by omega)]; exact Codec.body_big (by omega) (by rw [hU]; omega)) | (rw [Codec.takeI_pos h0 (by omega) (by omega)]; exact Codec.body_bad (v := IntKind.i64.wrap (u190 : Int)) (by omega) (by rw [hU]; simp only [if_true, if_false, Bool.false_eq_true]; omega) (by have h := hp271; intro h2; apply h; rw [h2]; congr 3; omega)) | (rw [Codec.takeI_pos h0 (by omega) (by omega)]; exact Codec.body_ok (v := IntKind.i64.wrap (u190 : Int)) (by omega) (by rw [hU]; omega) (by rw [hU]; simp only [if_true, if_false, Bool.false_eq_true]; omega) (by have h := Codec.ba_mk (Codec.not_ne hp271); rw [h]; congr 1; omega))
                              replace hf := hf.setv (d := 2) (y := .int .i64 ((Codec.takeI bs).1)) rfl (congrArg (Value.int .i64) (by rw [HT] <;> first | rfl | (simp; done) | (simp; omega) | omega))
                              replace hf := hf.setv (d := 3) (y := .int .i64 ((Codec.takeI bs).2.1 : Int)) rfl (congrArg (Value.int .i64) (by rw [HT] <;> first | rfl | (simp; done) | (simp; omega) | omega))
                              replace hf := hf.setv (d := 4) (y := .int .i64 ((Codec.takeI bs).2.2)) rfl (congrArg (Value.int .i64) (by rw [HT] <;> first | rfl | (simp; done) | (simp; omega) | omega))
                              have hq272 : Z.Ch [] w w244 := hc187.then hc245
                              have hq273 : Z.Ch [] w w254 := hq272.then hc259
                              refine Z.ret3 hf Try.results48 rfl rfl rfl ?_
                              exact ⟨rfl, hq273⟩
                            · intro hp274
                              refine Z.skip ?_
                              refine hn238 _ _ ?_
                              refine Z.qseq [.n, .n, .n, .n, .n, .n] [2, 3, 4] [Z.R64 ((x13.toNat : Int) - 199 + 1)] [(2, .int .i64 (IntKind.i64.wrap (u190 : Int))), (3, .int .i64 ((x13.toNat : Int) - 199 + 1)), (4, .int .i64 0)] Z.k0 hf ?_; clear hf a; intro a hf
                              refine Z.ret ?_
                              have HT : Codec.takeI bs = (IntKind.i64.wrap (u190 : Int), (x13.toNat - 199) + 1, 0) := by first | exact Codec.takeI_nil (by omega) | exact Codec.takeI_low h0 (by omega) | exact Codec.takeI_gap h0 (by omega) (by omega) | exact Codec.takeI_mid h0 (by omega) (by omega) | exact Codec.takeI_high h0 (by omega) | (rw [Codec.takeI_pos h0 (by omega) (by omega)]; exact Codec.body_short (by omega)) | (rw [Codec.takeI_neg h0 (by omega) (by omega)]; exact Codec.body_short (by omega)) | (rw [Codec.takeI_pos h0 (by omega) (by omega)]; exact Codec.body_big (by omega) (by rw [hU]; omega)) | (rw [Codec.takeI_pos h0 (by omega) (by omega)]; exact Codec.body_bad (v := IntKind.i64.wrap (u190 : Int)) (by omega) (by rw [hU]; simp only [if_true, if_false, Bool.false_eq_true]; omega) (by have h := hp274; intro h2; apply h; rw [h2]; congr 3; omega)) | (rw [Codec.takeI_pos h0 (by omega) (by omega)]; exact Codec.body_ok (v := IntKind.i64.wrap (u190 : Int)) (by omega) (by rw [hU]; omega) (by rw [hU]; simp only [if_true, if_false, Bool.false_eq_true]; omega) (by have h := Codec.ba_mk (Codec.not_ne hp274); rw [h]; congr 1; omega))
                              replace hf := hf.setv (d := 2) (y := .int .i64 ((Codec.takeI bs).1)) rfl (congrArg (Value.int .i64) (by rw [HT] <;> first | rfl | (simp; done) | (simp; omega) | omega))
                              replace hf := hf.setv (d := 3) (y := .int .i64 ((Codec.takeI bs).2.1 : Int)) rfl (congrArg (Value.int .i64) (by rw [HT] <;> first | rfl | (simp; done) | (simp; omega) | omega))
                              replace hf := hf.setv (d := 4) (y := .int .i64 ((Codec.takeI bs).2.2)) rfl (congrArg (Value.int .i64) (by rw [HT] <;> first | rfl | (simp; done) | (simp; omega) | omega))
                              have hq275 : Z.Ch [] w w244 := hc187.then hc245
                              have hq276 : Z.Ch [] w w254 := hq275.then hc259
                              refine Z.ret3 hf Try.results48 rfl rfl rfl ?_
                              exact ⟨rfl, hq276⟩
                        · refine Z.on hf rfl rfl ?_
                          have hr277 := Z.rep_to (F' := (Z.ol [] w.heap.size)) hr252 hc245
                          refine Z.val hf rfl (Z.r_b2s Try.underlying40 Try.underlying5 Try.underlying9 (hf.eval rfl) hr277) ?_; clear hf a; intro a hf
                          refine Z.done ?_
                          refine And.intro hc245 ?_
                          refine Z.dr_one 4 rfl (by kernel_rfl) ?_
                          refine Z.on hf rfl rfl ?_
                          refine Z.call1 hf rfl (Z.r_call cf27 hf (xs := [.tmp 67]) rfl) (RInt_spec (IntKind.i64.wrap (u190 : Int)) w244  (by unfold Codec.okInt; omega)) ?_; clear hf a
                          rintro _ w278 ⟨A279, c280, rfl, ho281, hc283⟩
                          have hzhc283 := hc283.size
                          refine ⟨_, rfl, ?_⟩; intro a hf
                          refine Z.done ?_
                          have hq284 : Z.Ch [] w186 w278 := hc245.then hc283
                          refine And.intro hq284 ?_
                          refine Z.dr_one 5 rfl (by kernel_rfl) ?_
                          refine Z.on hf rfl rfl ?_
                          have hr285 := ho281.riv
                          refine Z.val hf rfl (Z.r_b2s Try.underlying40 Try.underlying5 Try.underlying9 (hf.eval rfl) hr285) ?_; clear hf a; intro a hf
                          refine Z.done ?_
                          refine And.intro hq284 ?_
                          refine Z.dqr [true, true, true, true, true, true, true, true, true, true, true, true, true] 0 [(11, (.on .n)), (12, .n)] [76] [] [(76, .bool (decide (ByteArray.mk (Codec.encInt (IntKind.i64.wrap (u190 : Int))).toArray ≠ ByteArray.mk (bs.take ((x13.toNat : Int) - 199 + 1).toNat).toArray)))] hp241 hq284 (fun w hw => Z.k0) hf ?_; clear hf a; intro a hf
                          refine Z.dr_done (by kernel_rfl) ?_
                          refine hn242 _ _ ?_
                          refine Z.condp hf rfl ?_ ?_
                          · intro hp286
                            refine Z.qseq [.n, .n, .n] [2, 3, 4] [] [(2, .int .i64 0), (3, .int .i64 0), (4, .int .i64 70)] Z.k0 hf ?_; clear hf a; intro a hf
                            refine Z.ret ?_
                            refine he239 _ _ _ (by simp) ?_
                            have HT : Codec.takeI bs = (0, 0, 70) := by first | exact Codec.takeI_nil (by omega) | exact Codec.takeI_low h0 (by omega) | exact Codec.takeI_gap h0 (by omega) (by omega) | exact Codec.takeI_mid h0 (by omega) (by omega) | exact Codec.takeI_high h0 (by omega) | (rw [Codec.takeI_pos h0 (by omega) (by omega)]; exact Codec.body_short (by omega)) | (rw [Codec.takeI_neg h0 (by omega) (by omega)]; exact Codec.body_short (by omega)) | (rw [Codec.takeI_pos h0 (by omega) (by omega)]; exact Codec.body_big (by omega) (by rw [hU]; omega)) | (rw [Codec.takeI_pos h0 (by omega) (by omega)]; exact Codec.body_bad (v := IntKind.i64.wrap (u190 : Int)) (by omega) (by rw [hU]; simp only [if_true, if_false, Bool.false_eq_true]; omega) (by have h := hp286; intro h2; apply h; rw [h2]; congr 3; omega)) | (rw [Codec.takeI_pos h0 (by omega) (by omega)]; exact Codec.body_ok (v := IntKind.i64.wrap (u190 : Int)) (by omega) (by rw [hU]; omega) (by rw [hU]; simp only [if_true, if_false, Bool.false_eq_true]; omega) (by have h := Codec.ba_mk (Codec.not_ne hp286); rw [h]; congr 1; omega))
                            replace hf := hf.setv (d := 2) (y := .int .i64 ((Codec.takeI bs).1)) rfl (congrArg (Value.int .i64) (by rw [HT] <;> first | rfl | (simp; done) | (simp; omega) | omega))
                            replace hf := hf.setv (d := 3) (y := .int .i64 ((Codec.takeI bs).2.1 : Int)) rfl (congrArg (Value.int .i64) (by rw [HT] <;> first | rfl | (simp; done) | (simp; omega) | omega))
                            replace hf := hf.setv (d := 4) (y := .int .i64 ((Codec.takeI bs).2.2)) rfl (congrArg (Value.int .i64) (by rw [HT] <;> first | rfl | (simp; done) | (simp; omega) | omega))
                            have hq287 : Z.Ch [] w w244 := hc187.then hc245
                            have hq288 : Z.Ch [] w w278 := hq287.then hc283
                            refine Z.ret3 hf Try.results48 rfl rfl rfl ?_
                            exact ⟨rfl, hq288⟩
                          · intro hp289
                            refine Z.skip ?_
                            refine hn238 _ _ ?_
                            refine Z.qseq [.n, .n, .n, .n, .n, .n] [2, 3, 4] [Z.R64 ((x13.toNat : Int) - 199 + 1)] [(2, .int .i64 (IntKind.i64.wrap (u190 : Int))), (3, .int .i64 ((x13.toNat : Int) - 199 + 1)), (4, .int .i64 0)] Z.k0 hf ?_; clear hf a; intro a hf
                            refine Z.ret ?_
                            have HT : Codec.takeI bs = (IntKind.i64.wrap (u190 : Int), (x13.toNat - 199) + 1, 0) := by first | exact Codec.takeI_nil (by omega) | exact Codec.takeI_low h0 (by omega) | exact Codec.takeI_gap h0 (by omega) (by omega) | exact Codec.takeI_mid h0 (by omega) (by omega) | exact Codec.takeI_high h0 (by omega) | (rw [Codec.takeI_pos h0 (by omega) (by omega)]; exact Codec.body_short (by omega)) | (rw [Codec.takeI_neg h0 (by omega) (by omega)]; exact Codec.body_short (by omega)) | (rw [Codec.takeI_pos h0 (by omega) (by omega)]; exact Codec.body_big (by omega) (by rw [hU]; omega)) | (rw [Codec.takeI_pos h0 (by omega) (by omega)]; exact Codec.body_bad (v := IntKind.i64.wrap (u190 : Int)) (by omega) (by rw [hU]; simp only [if_true, if_false, Bool.false_eq_true]; omega) (by have h := hp289; intro h2; apply h; rw [h2]; congr 3; omega)) | (rw [Codec.takeI_pos h0 (by omega) (by omega)]; exact Codec.body_ok (v := IntKind.i64.wrap (u190 : Int)) (by omega) (by rw [hU]; omega) (by rw [hU]; simp only [if_true, if_false, Bool.false_eq_true]; omega) (by have h := Codec.ba_mk (Codec.not_ne hp289); rw [h]; congr 1; omega))
                            replace hf := hf.setv (d := 2) (y := .int .i64 ((Codec.takeI bs).1)) rfl (congrArg (Value.int .i64) (by rw [HT] <;> first | rfl | (simp; done) | (simp; omega) | omega))
                            replace hf := hf.setv (d := 3) (y := .int .i64 ((Codec.takeI bs).2.1 : Int)) rfl (congrArg (Value.int .i64) (by rw [HT] <;> first | rfl | (simp; done) | (simp; omega) | omega))
                            replace hf := hf.setv (d := 4) (y := .int .i64 ((Codec.takeI bs).2.2)) rfl (congrArg (Value.int .i64) (by rw [HT] <;> first | rfl | (simp; done) | (simp; omega) | omega))
                            have hq290 : Z.Ch [] w w244 := hc187.then hc245
                            have hq291 : Z.Ch [] w w278 := hq290.then hc283
                            refine Z.ret3 hf Try.results48 rfl rfl rfl ?_
                            exact ⟨rfl, hq291⟩

end Go.Proofs.Ytlhpkogdcgebeaa
