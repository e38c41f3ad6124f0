/- Walks. -/
import Derived.Test.YtlhpkogdcgebeaaFn
set_option linter.unusedVariables false
set_option linter.unusedSimpArgs false
set_option synthInstance.maxSize 4000
set_option synthInstance.maxHeartbeats 400000
namespace Go.Proofs.Ytlhpkogdcgebeaa
open Go.RowKit
set_option maxHeartbeats 400000 in
set_option maxRecDepth 20000 in
theorem Equal_spec (xs : List UInt8) (ys : List UInt8) (w : World) (pA0 : Option Addr) (pc0 : Nat) (pA1 : Option Addr) (pc1 : Nat) (ph0 : (Z.Ty.slice Z.Ty.byte).rep w (Z.nt []) [.slice pA0 xs.length pc0] xs) (ph1 : (Z.Ty.slice Z.Ty.byte).rep w (Z.nt []) [.slice pA1 ys.length pc1] ys)  :
    Calls Try.prog 10 #[.slice pA0 xs.length pc0, .slice pA1 ys.length pc1] w fun e w' => e = .returned (.bool (decide (xs = ys))) ∧ Z.Ch [] w w' := by
  refine Z.enter Try.func10 rfl Try.ntmps10 (Nat.le_of_ble_eq_true rfl) fun a hf => ?_
  have hle_pA0 := Z.rep_le ph0
  have ph0o := Z.rep_ol ph0
  have hle_pA1 := Z.rep_le ph1
  have ph1o := Z.rep_ol ph1
  refine Z.qseq [.n] [] [] [] Z.k0 hf ?_; clear hf a; intro a hf
  refine Z.seq' (Z.Pq.body _ _ _) fun Q1 hp2 hn3 he4 => ?_
  refine Z.reg ?_
  refine Z.qr [.n] [5] [] [(5, .slice pA0 xs.length pc0)] Z.k0 hf ?_; clear hf a; intro a hf
  refine Z.val hf rfl (Z.r_b2s Try.underlying40 Try.underlying5 Try.underlying9 (hf.eval rfl) ph0o) ?_; clear hf a; intro a hf
  refine Z.qr [.n] [7] [] [(7, .slice pA1 ys.length pc1)] Z.k0 hf ?_; clear hf a; intro a hf
  refine Z.val hf rfl (Z.r_b2s Try.underlying40 Try.underlying5 Try.underlying9 (hf.eval rfl) ph1o) ?_; clear hf a; intro a hf
  refine Z.qe [.n, .n] [4] [] [(4, .bool (decide (ByteArray.mk (xs).toArray = ByteArray.mk (ys).toArray)))] Z.k0 hf ?_; clear hf a; intro a hf
  refine hn3 _ _ ?_
  refine Z.ret ?_
  replace hf := hf.setv (d := 4) (y := .bool (decide (xs = ys))) rfl (congrArg Value.bool (by first | rfl | (apply decide_eq_decide.2; simp [ByteArray.ext_iff])))
  refine Z.ret1 hf Try.results10 rfl ?_
  exact ⟨rfl, (Z.Ch.refl w)⟩

set_option maxHeartbeats 400000 in
set_option maxRecDepth 20000 in
theorem HasPrefix_spec (xs : List UInt8) (ys : List UInt8) (w : World) (pA0 : Option Addr) (pc0 : Nat) (pA1 : Option Addr) (pc1 : Nat) (ph0 : (Z.Ty.slice Z.Ty.byte).rep w (Z.nt []) [.slice pA0 xs.length pc0] xs) (ph1 : (Z.Ty.slice Z.Ty.byte).rep w (Z.nt []) [.slice pA1 ys.length pc1] ys)  :
    Calls Try.prog 11 #[.slice pA0 xs.length pc0, .slice pA1 ys.length pc1] w fun e w' => e = .returned (.bool (decide (ys <+: xs))) ∧ Z.Ch [] w w' := by
  refine Z.enter Try.func11 rfl Try.ntmps11 (Nat.le_of_ble_eq_true rfl) fun a hf => ?_
  have hle_pA0 := Z.rep_le ph0
  have ph0o := Z.rep_ol ph0
  have hle_pA1 := Z.rep_le ph1
  have ph1o := Z.rep_ol ph1
  refine Z.qseq [.n] [] [] [] Z.k0 hf ?_; clear hf a; intro a hf
  refine Z.seq' (Z.Pq.body _ _ _) fun Q1 hp2 hn3 he4 => ?_
  refine Z.reg ?_
  refine Z.qr [.n, .n, .n, .n, .n, .n] [10] [] [(10, .bool (decide ((ys.length : Int) ≤ (xs.length : Int))))] Z.k0 hf ?_; clear hf a; intro a hf
  by_cases hdec : (ys.length : Int) ≤ (xs.length : Int) <;> revert hdec
  · intro hp5
    replace hf := hf.setb (d := 10) (b' := true) rfl (decide_eq_true hp5)
    refine Z.qr [(.on .n), (.on .n), (.on .n)] [11, 13] [] [(11, .slice pA0 xs.length pc0), (13, .int .i64 (ys.length : Int))] Z.k0 hf ?_; clear hf a; intro a hf
    refine Z.on hf rfl rfl ?_
    have hl6 := Z.rep_slice_len ph0o
    have hr7 := Z.rep_cuth ph0o ys.length (by omega)
    have hn8 : (xs.take ys.length).length = ys.length := by first | rfl | omega | (simp only [List.length_take, List.length_drop]; done) | (simp only [List.length_take, List.length_drop]; omega)
    refine Z.val hf rfl (Z.r_slice_h (u := ys.length) Try.underlying40 Try.sizeOf5 (hf.eval rfl) (hf.eval rfl) (by omega) (by omega)) ?_; clear hf a; intro a hf
    replace hf := hf.setv (d := 14) (y := .slice pA0 ((xs.take ys.length).length) pc0) rfl (Z.slice_n (by first | rfl | omega | (simp only [List.length_take, List.length_drop]; done) | (simp only [List.length_take, List.length_drop]; omega) | (simp; omega)))
    refine Z.qr [(.on .n)] [15] [] [(15, .slice pA1 ys.length pc1)] Z.k0 hf ?_; clear hf a; intro a hf
    refine Z.on hf rfl rfl ?_
    have hr9 := Z.rep_to (F' := (Z.nt [])) hr7 (Z.Ch.refl w)
    have hr10 := Z.rep_to (F' := (Z.nt [])) ph1o (Z.Ch.refl w)
    refine Z.call1 hf rfl (Z.r_call cf10 hf (xs := [.tmp 14, .tmp 15]) rfl) (Equal_spec (xs.take ys.length) ys w pA0 pc0 pA1 pc1 hr9 hr10) ?_; clear hf a
    rintro _ w11 ⟨rfl, hc12⟩
    have hzhc12 := hc12.size
    refine ⟨_, rfl, ?_⟩; intro a hf
    refine Z.qe [.n, .n] [4] [] [(4, .bool (decide ((xs.take ys.length) = ys)))] Z.k0 hf ?_; clear hf a; intro a hf
    refine hn3 _ _ ?_
    refine Z.ret ?_
    replace hf := hf.setv (d := 4) (y := .bool (decide (ys <+: xs))) rfl (congrArg Value.bool (by apply decide_eq_decide.2; rw [List.prefix_iff_eq_take]; exact eq_comm))
    refine Z.ret1 hf Try.results11 rfl ?_
    exact ⟨rfl, hc12⟩
  · intro hp13
    replace hf := hf.setb (d := 10) (b' := false) rfl (decide_eq_false hp13)
    refine Z.qe [.off, .off, .off, .off, .off, .off, .n, .n] [4] [] [(4, .bool false)] Z.k0 hf ?_; clear hf a; intro a hf
    refine hn3 _ _ ?_
    refine Z.ret ?_
    replace hf := hf.setv (d := 4) (y := .bool (decide (ys <+: xs))) rfl (congrArg Value.bool (by symm; apply decide_eq_false; intro h; have := h.length_le; omega))
    refine Z.ret1 hf Try.results11 rfl ?_
    exact ⟨rfl, (Z.Ch.refl w)⟩

set_option maxHeartbeats 400000 in
set_option maxRecDepth 20000 in
theorem Int_spec (n : Int) (w : World)   (hn : Codec.okInt n) :
    Calls Try.prog 26 #[.int .i64 n] w fun e w' => ∃ (rA0 : Option Addr) (rc0 : Nat), e = .returned (.slice rA0 (Codec.encInt n).length rc0) ∧ Z.Own Z.Ty.byte 5 w.heap.size w' Z.no rA0 rc0 (Codec.encInt n) ∧ Z.Ch [] w w' := by
  refine Z.enter Try.func26 rfl Try.ntmps26 (Nat.le_of_ble_eq_true rfl) fun a hf => ?_
  have hn' := hn; unfold Codec.okInt at hn'
  refine Z.qseq [.n] [] [] [] Z.k0 hf ?_; clear hf a; intro a hf
  refine Z.seq' (Z.Pq.body _ _ _) fun Q1 hp2 hn3 he4 => ?_
  refine Z.block' hp2 fun Q5 hp6 hn7 hx8 he9 => ?_
  refine Z.seq' hp6 fun Q10 hp11 hn12 he13 => ?_
  refine Z.reg ?_
  refine Z.qr [.n, .n, .n] [9] [] [(9, .bool (decide (0 ≤ n)))] Z.k0 hf ?_; clear hf a; intro a hf
  by_cases hdec : 0 ≤ n <;> revert hdec
  · intro hp14
    replace hf := hf.setb (d := 9) (b' := true) rfl (decide_eq_true hp14)
    refine Z.qe [(.on .n), (.on .n), .n, .n] [6] [] [(6, .bool (decide (n < 100)))] Z.k0 hf ?_; clear hf a; intro a hf
    refine hn12 _ _ ?_
    refine Z.condp hf rfl ?_ ?_
    · intro hp15
      refine Z.seq' hp6 fun Q16 hp17 hn18 he19 => ?_
      refine Z.reg ?_
      refine Z.qr [.n, .n] [14] [Z.R64 (100 + n)] [(14, .int .i64 (100 + n))] Z.k0 hf ?_; clear hf a; intro a hf
      refine Z.val hf rfl (Z.r_convb (u := (100 + n).toNat) Try.underlying2 Try.underlying5 (hf.eval rfl) (by omega)) ?_; clear hf a; intro a hf
      refine Z.st_bslice hf rfl Try.underlying40 Try.sizeOf5 Try.zeroValue5 (parts := [(0, .tmp 15)]) (cs := [.int .u8 ((UInt8.ofNat (100 + n).toNat).toNat : Int)]) rfl rfl rfl (by kernel_rfl) ?_; clear hf a; intro g20 w21 a hg22 hz23 hb24 hc25 hf
      have ho26 : Z.Own Z.Ty.byte 5 g20 w21 Z.no (some ⟨g20, 0, none⟩) 1 ([(UInt8.ofNat (100 + n).toNat)] : List UInt8) := Z.Own.made (t := Z.Ty.byte) (xs := ([(UInt8.ofNat (100 + n).toNat)] : List UInt8)) hb24 (Nat.le_refl _) rfl (by simp [maxLen]) (by simp [Value.oneCell']) (fun i x hi => by match i, hi with | 0, hi => (injection hi with hi; subst hi; exact (show _ = _ from rfl)) | (j + 1), hi => simp at hi)
      refine Z.qe [.n] [2] [] [(2, .slice (some ⟨g20, 0, none⟩) 1 1)] Z.k0 hf ?_; clear hf a; intro a hf
      refine hn18 _ _ ?_
      refine Z.ret ?_
      refine he9 _ _ _ (by simp) (by simp) ?_
      refine he4 _ _ _ (by simp) ?_
      have ho27 := (ho26).base (B' := w.heap.size) (by omega)
      have hxs28 : ([(UInt8.ofNat (100 + n).toNat)] : List UInt8) = (Codec.encInt n : List UInt8) := by exact (Codec.enc_one n (by omega) (by omega)).symm
      have ho29 := hxs28 ▸ ho27
      replace hf := hf.setv (d := 2) (y := .slice (some ⟨g20, 0, none⟩) ((Codec.encInt n).length) 1) rfl (by rw [← hxs28] <;> first | done | rfl)
      refine Z.ret1 hf Try.results26 rfl ?_
      exact ⟨some ⟨g20, 0, none⟩, 1, rfl, ho29, hc25⟩
    · intro hp30
      refine Z.seq' hp6 fun Q31 hp32 hn33 he34 => ?_
      refine Z.reg ?_
      refine Z.qr [.n, .n, .n] [20] [] [(20, .bool (decide (n < 0)))] Z.k0 hf ?_; clear hf a; intro a hf
      by_cases hdec : n < 0 <;> revert hdec
      · intro hp35
        exfalso; omega
      · intro hp36
        replace hf := hf.setb (d := 20) (b' := false) rfl (decide_eq_false hp36)
        refine Z.qe [.off, .off, .n, .n] [17] [] [(17, .bool false)] Z.k0 hf ?_; clear hf a; intro a hf
        refine hn33 _ _ ?_
        refine Z.condf hf rfl ?_
        refine Z.skip ?_
        refine hn7 _ _ ?_
        refine hn3 _ _ ?_
        refine Z.seq' (Z.Pq.body _ _ _) fun Q37 hp38 hn39 he40 => ?_
        refine Z.reg ?_
        refine Z.qr [.n] [28] [] [(28, .int .i64 n)] Z.k0 hf ?_; clear hf a; intro a hf
        refine Z.val hf rfl (Z.r_conv Try.underlying2 Try.underlying104 (hf.eval rfl)) ?_; clear hf a; intro a hf
        refine Z.qe [.n, .n] [3, 4] [] [(3, .int .u8 199), (4, .int .u64 (IntKind.u64.wrap n))] Z.k0 hf ?_; clear hf a; intro a hf
        refine hn39 _ _ ?_
        refine Z.seq' (Z.Pq.body _ _ _) fun Q41 hp42 hn43 he44 => ?_
        refine Z.qseq [.n, .n] [31] [] [(31, .bool (decide (n < 0)))] Z.k0 hf ?_; clear hf a; intro a hf
        refine Z.condp hf rfl ?_ ?_
        · intro hp45
          exfalso; omega
        · intro hp46
          refine Z.skip ?_
          refine hn43 _ _ ?_
          refine Z.qseq [.n] [5] [] [(5, .slice none 0 0)] Z.k0 hf ?_; clear hf a; intro a hf
          refine Z.seq' (Z.Pq.body _ _ _) fun Q47 hp48 hn49 he50 => ?_
          refine Z.block' hp48 fun Q51 hp52 hn53 hx54 he55 => ?_
          refine Z.loop' hp52 (fun m a wl => ∃ (f : Nat), ∃ (u : Nat), ∃ (bs : List UInt8), ∃ (lA0 : Option Addr), ∃ (lc0 : Nat), m = u ∧ Z.Ch [] w wl ∧ Z.Own Z.Ty.byte 5 w.heap.size wl Z.no lA0 lc0 bs ∧ (Codec.be 8 n.toNat = Codec.be f u ++ bs) ∧ (u < 256 ^ f) ∧ (bs.length + f = 8) ∧ Z.Fr a 52 [] [(3, .int .u8 199), (4, .int .u64 (u : Int)), (5, .slice lA0 bs.length lc0)]) (n.toNat) ?_ ?_
          · replace hf := hf.setv (d := 4) (y := .int .u64 (n.toNat : Int)) rfl (congrArg (Value.int .u64) (by first | rfl | omega | (rw [Z.u64_in _ (by omega)]; omega) | (simp; done) | (simp; omega)))
            have hxs56 : ([] : List UInt8) = ([] : List UInt8) := by first | rfl | simp
            have ho57 := hxs56 ▸ (Z.Own.nil Z.Ty.byte 5 w.heap.size w Z.no)
            replace hf := hf.setv (d := 5) (y := .slice none ([].length) 0) rfl (by rw [← hxs56] <;> first | done | rfl)
            exact ⟨8, n.toNat, [], none, 0, rfl, (Z.Ch.refl w), ho57, (by simp), (by unfold Codec.okInt at hn; have : (256 : Nat) ^ 8 = 18446744073709551616 := (by decide); omega), (by simp), (hf.keep [3, 4, 5])⟩
          · rintro m74 a w58 ⟨f61, u62, bs63, A68, c69, hm60, hc59, ho70, hN71, hu72, hl73, hf⟩ Q64 hp65 hn66 he67
            have hzhc59 := hc59.size
            refine Z.seq' hp65 fun Q75 hp76 hn77 he78 => ?_
            refine Z.qseq [.n, .n] [36] [] [(36, .bool (decide (0 < (u62 : Int))))] Z.k0 hf ?_; clear hf a; intro a hf
            refine Z.condp hf rfl ?_ ?_
            · intro hp79
              refine Z.skip ?_
              refine hn77 _ _ ?_
              refine Z.seq' hp65 fun Q80 hp81 hn82 he83 => ?_
              refine Z.block' hp81 fun Q84 hp85 hn86 hx87 he88 => ?_
              refine Z.reg ?_
              refine Z.qr [.n] [39] [] [(39, .int .u64 (u62 : Int))] Z.k0 hf ?_; clear hf a; intro a hf
              refine Z.val hf rfl (Z.r_convb (u := u62) Try.underlying104 Try.underlying5 (hf.eval rfl) (by omega)) ?_; clear hf a; intro a hf
              refine Z.st_bslice hf rfl Try.underlying40 Try.sizeOf5 Try.zeroValue5 (parts := [(0, .tmp 40)]) (cs := [.int .u8 ((UInt8.ofNat u62).toNat : Int)]) rfl rfl rfl (by kernel_rfl) ?_; clear hf a; intro g89 w90 a hg91 hz92 hb93 hc94 hf
              have ho95 : Z.Own Z.Ty.byte 5 g89 w90 Z.no (some ⟨g89, 0, none⟩) 1 ([(UInt8.ofNat u62)] : List UInt8) := Z.Own.made (t := Z.Ty.byte) (xs := ([(UInt8.ofNat u62)] : List UInt8)) hb93 (Nat.le_refl _) rfl (by simp [maxLen]) (by simp [Value.oneCell']) (fun i x hi => by match i, hi with | 0, hi => (injection hi with hi; subst hi; exact (show _ = _ from rfl)) | (j + 1), hi => simp at hi)
              refine Z.qr [.n] [42] [] [(42, .slice A68 bs63.length c69)] Z.k0 hf ?_; clear hf a; intro a hf
              have hr96 := ho70.riv
              have hr97 := Z.rep_to (F' := (Z.iv (w.heap.size) w58.heap.size)) hr96 hc94
              refine Z.st_append_flat (t := Z.Ty.byte) hf rfl Try.underlying40 inf5.1 inf5.2.1 inf5.2.2.1 inf5.2.2.2.1 inf5.2.2.2.2 (by decide) (by decide) rfl rfl (by first | rfl | omega) ho95 rfl hr97 (by first | omega | (simp only [List.length_cons, List.length_nil, List.length_append]; omega) | (simp; done))  (by omega) ?_; clear hf a; intro A98 c99 w100 a ho101 hc102 hcas103 hf
              replace hc102 : Z.Ch [g89] w90 w100 := hc102
              have hzhc102 := hc102.size
              have hob104 : ∀ k, k ∈ Z.obl A98 → k = g89 ∨ k = w90.heap.size := fun k hk => by rcases hcas103 k hk with h | h; (left; simpa [Z.obl] using h); (right; exact h)
              refine Z.qe [.n] [5] [] [(5, .slice A98 ((([(UInt8.ofNat u62)] : List UInt8) ++ bs63).length) c99)] Z.k0 hf ?_; clear hf a; intro a hf
              refine hn86 _ _ ?_
              refine hn82 _ _ ?_
              refine Z.reg ?_
              refine Z.qr [.n] [37] [] [(37, .int .u64 (u62 : Int))] Z.k0 hf ?_; clear hf a; intro a hf
              refine Z.val hf rfl (Z.r_shr (hf.eval rfl) (hf.eval rfl) (by omega) (by omega)) ?_; clear hf a; intro a hf
              refine Z.qe [.n] [4] [] [(4, .int .u64 ((u62 : Int) / 2 ^ (8 : Int).toNat))] Z.k0 hf ?_; clear hf a; intro a hf
              obtain ⟨f', rfl⟩ : ∃ f', f61 = f' + 1 := ⟨f61 - 1, by rcases f61 with _ | f61; (simp at hu72; omega); omega⟩
              refine hn66 ((u62 / 256)) _ _ ?_ ?_
              rotate_left
              replace hf := hf.setv (d := 4) (y := .int .u64 ((u62 / 256 : Nat) : Int)) rfl (congrArg (Value.int .u64) (by first | rfl | omega | (rw [Z.u64_in _ (by omega)]; omega) | (simp; done) | (simp; omega)))
              have ho106 := (ho101).base (B' := w.heap.size) (by omega)
              have hxs107 : ([(UInt8.ofNat u62)] : List UInt8) ++ bs63 = ((UInt8.ofNat u62 :: bs63) : List UInt8) := by first | rfl | simp
              have ho108 := hxs107 ▸ ho106
              replace hf := hf.setv (d := 5) (y := .slice A98 ((UInt8.ofNat u62 :: bs63).length) c99) rfl (by rw [← hxs107] <;> first | done | rfl)
              have hq109 : Z.Ch [] w w90 := hc59.then hc94
              have hq110 : Z.Ch [g89] w w100 := hq109.then hc102
              exact ⟨f', u62 / 256, UInt8.ofNat u62 :: bs63, A98, c99, rfl, (hq110.mono (by intro k hk; (try simp only [List.mem_cons, List.mem_append, List.not_mem_nil, or_false, false_or] at hk ⊢) <;> omega)), ho108, (by rw [hN71, Codec.be_step _ _ (by omega)]; simp), (by rw [Nat.pow_succ] at hu72; omega), (by simp only [List.length_cons]; omega), (hf.keep [3, 4, 5])⟩
              rw [hm60]; omega
            · intro hp111
              refine Z.exit ?_
              refine he78 _ _ _ (by simp) ?_
              refine he67 _ _ _ (by simp) ?_
              refine hx54 _ _ ?_
              refine hn49 _ _ ?_
              refine Z.seq' (Z.Pq.body _ _ _) fun Q112 hp113 hn114 he115 => ?_
              refine Z.reg ?_
              refine Z.qr [.n, .n, .n] [44, 46] [] [(44, .int .u8 199), (46, .int .i64 (bs63.length : Int))] Z.k0 hf ?_; clear hf a; intro a hf
              refine Z.val hf rfl (Z.r_convb (u := bs63.length) Try.underlying3 Try.underlying5 (hf.eval rfl) (by omega)) ?_; clear hf a; intro a hf
              refine Z.val hf rfl (Z.r_addb (u := (199 + ((UInt8.ofNat bs63.length).toNat))) (hf.eval rfl) (hf.eval rfl) (by first | rfl | omega)) ?_; clear hf a; intro a hf
              refine Z.st_bslice hf rfl Try.underlying40 Try.sizeOf5 Try.zeroValue5 (parts := [(0, .tmp 48)]) (cs := [.int .u8 ((UInt8.ofNat (199 + ((UInt8.ofNat bs63.length).toNat))).toNat : Int)]) rfl rfl rfl (by kernel_rfl) ?_; clear hf a; intro g116 w117 a hg118 hz119 hb120 hc121 hf
              have ho122 : Z.Own Z.Ty.byte 5 g116 w117 Z.no (some ⟨g116, 0, none⟩) 1 ([(UInt8.ofNat (199 + ((UInt8.ofNat bs63.length).toNat)))] : List UInt8) := Z.Own.made (t := Z.Ty.byte) (xs := ([(UInt8.ofNat (199 + ((UInt8.ofNat bs63.length).toNat)))] : List UInt8)) hb120 (Nat.le_refl _) rfl (by simp [maxLen]) (by simp [Value.oneCell']) (fun i x hi => by match i, hi with | 0, hi => (injection hi with hi; subst hi; exact (show _ = _ from rfl)) | (j + 1), hi => simp at hi)
              refine Z.qr [.n] [50] [] [(50, .slice A68 bs63.length c69)] Z.k0 hf ?_; clear hf a; intro a hf
              have hr123 := ho70.riv
              have hr124 := Z.rep_to (F' := (Z.iv (w.heap.size) w58.heap.size)) hr123 hc121
              refine Z.st_append_flat (t := Z.Ty.byte) hf rfl Try.underlying40 inf5.1 inf5.2.1 inf5.2.2.1 inf5.2.2.2.1 inf5.2.2.2.2 (by decide) (by decide) rfl rfl (by first | rfl | omega) ho122 rfl hr124 (by first | omega | (simp only [List.length_cons, List.length_nil, List.length_append]; omega) | (simp; done))  (by omega) ?_; clear hf a; intro A125 c126 w127 a ho128 hc129 hcas130 hf
              replace hc129 : Z.Ch [g116] w117 w127 := hc129
              have hzhc129 := hc129.size
              have hob131 : ∀ k, k ∈ Z.obl A125 → k = g116 ∨ k = w117.heap.size := fun k hk => by rcases hcas130 k hk with h | h; (left; simpa [Z.obl] using h); (right; exact h)
              refine Z.qe [.n] [2] [] [(2, .slice A125 ((([(UInt8.ofNat (199 + ((UInt8.ofNat bs63.length).toNat)))] : List UInt8) ++ bs63).length) c126)] Z.k0 hf ?_; clear hf a; intro a hf
              refine hn114 _ _ ?_
              refine Z.ret ?_
              have ho133 := (ho128).base (B' := w.heap.size) (by omega)
              have hxs134 : ([(UInt8.ofNat (199 + ((UInt8.ofNat bs63.length).toNat)))] : List UInt8) ++ bs63 = (Codec.encInt n : List UInt8) := by have hz : u62 = 0 := (by omega); rw [hz, Codec.be_zero] at hN71; exact Codec.enc_up n (by omega) _ hN71 (by omega)
              have ho135 := hxs134 ▸ ho133
              replace hf := hf.setv (d := 2) (y := .slice A125 ((Codec.encInt n).length) c126) rfl (by rw [← hxs134] <;> first | done | rfl)
              have hq136 : Z.Ch [] w w117 := hc59.then hc121
              have hq137 : Z.Ch [g116] w w127 := hq136.then hc129
              refine Z.ret1 hf Try.results26 rfl ?_
              exact ⟨A125, c126, rfl, ho135, (Z.Ch.mono hq137 (by intro k hk; (try simp only [List.mem_cons, List.mem_append, List.not_mem_nil, or_false, false_or] at hk ⊢) <;> omega))⟩
  · intro hp138
    replace hf := hf.setb (d := 9) (b' := false) rfl (decide_eq_false hp138)
    refine Z.qe [.off, .off, .n, .n] [6] [] [(6, .bool false)] Z.k0 hf ?_; clear hf a; intro a hf
    refine hn12 _ _ ?_
    refine Z.condf hf rfl ?_
    refine Z.seq' hp6 fun Q139 hp140 hn141 he142 => ?_
    refine Z.reg ?_
    refine Z.qr [.n, .n, .n] [20] [] [(20, .bool (decide (n < 0)))] Z.k0 hf ?_; clear hf a; intro a hf
    by_cases hdec : n < 0 <;> revert hdec
    · intro hp143
      replace hf := hf.setb (d := 20) (b' := true) rfl (decide_eq_true hp143)
      refine Z.qe [(.on .n), (.on .n), .n, .n] [17] [] [(17, .bool (decide (-50 ≤ n)))] Z.k0 hf ?_; clear hf a; intro a hf
      refine hn141 _ _ ?_
      refine Z.condp hf rfl ?_ ?_
      · intro hp144
        refine Z.seq' hp6 fun Q145 hp146 hn147 he148 => ?_
        refine Z.reg ?_
        refine Z.qr [.n, .n] [25] [Z.R64 (50 + n)] [(25, .int .i64 (50 + n))] Z.k0 hf ?_; clear hf a; intro a hf
        refine Z.val hf rfl (Z.r_convb (u := (50 + n).toNat) Try.underlying2 Try.underlying5 (hf.eval rfl) (by omega)) ?_; clear hf a; intro a hf
        refine Z.st_bslice hf rfl Try.underlying40 Try.sizeOf5 Try.zeroValue5 (parts := [(0, .tmp 26)]) (cs := [.int .u8 ((UInt8.ofNat (50 + n).toNat).toNat : Int)]) rfl rfl rfl (by kernel_rfl) ?_; clear hf a; intro g149 w150 a hg151 hz152 hb153 hc154 hf
        have ho155 : Z.Own Z.Ty.byte 5 g149 w150 Z.no (some ⟨g149, 0, none⟩) 1 ([(UInt8.ofNat (50 + n).toNat)] : List UInt8) := Z.Own.made (t := Z.Ty.byte) (xs := ([(UInt8.ofNat (50 + n).toNat)] : List UInt8)) hb153 (Nat.le_refl _) rfl (by simp [maxLen]) (by simp [Value.oneCell']) (fun i x hi => by match i, hi with | 0, hi => (injection hi with hi; subst hi; exact (show _ = _ from rfl)) | (j + 1), hi => simp at hi)
        refine Z.qe [.n] [2] [] [(2, .slice (some ⟨g149, 0, none⟩) 1 1)] Z.k0 hf ?_; clear hf a; intro a hf
        refine hn147 _ _ ?_
        refine Z.ret ?_
        refine he9 _ _ _ (by simp) (by simp) ?_
        refine he4 _ _ _ (by simp) ?_
        have ho156 := (ho155).base (B' := w.heap.size) (by omega)
        have hxs157 : ([(UInt8.ofNat (50 + n).toNat)] : List UInt8) = (Codec.encInt n : List UInt8) := by exact (Codec.enc_low n (by omega) (by omega)).symm
        have ho158 := hxs157 ▸ ho156
        replace hf := hf.setv (d := 2) (y := .slice (some ⟨g149, 0, none⟩) ((Codec.encInt n).length) 1) rfl (by rw [← hxs157] <;> first | done | rfl)
        refine Z.ret1 hf Try.results26 rfl ?_
        exact ⟨some ⟨g149, 0, none⟩, 1, rfl, ho158, hc154⟩
      · intro hp159
        refine Z.skip ?_
        refine hn7 _ _ ?_
        refine hn3 _ _ ?_
        refine Z.seq' (Z.Pq.body _ _ _) fun Q160 hp161 hn162 he163 => ?_
        refine Z.reg ?_
        refine Z.qr [.n] [28] [] [(28, .int .i64 n)] Z.k0 hf ?_; clear hf a; intro a hf
        refine Z.val hf rfl (Z.r_conv Try.underlying2 Try.underlying104 (hf.eval rfl)) ?_; clear hf a; intro a hf
        refine Z.qe [.n, .n] [3, 4] [] [(3, .int .u8 199), (4, .int .u64 (IntKind.u64.wrap n))] Z.k0 hf ?_; clear hf a; intro a hf
        refine hn162 _ _ ?_
        refine Z.seq' (Z.Pq.body _ _ _) fun Q164 hp165 hn166 he167 => ?_
        refine Z.qseq [.n, .n] [31] [] [(31, .bool (decide (n < 0)))] Z.k0 hf ?_; clear hf a; intro a hf
        refine Z.condp hf rfl ?_ ?_
        · intro hp168
          refine Z.reg ?_
          refine Z.qr [.n, .n] [33] [Z.R64 (-1 - n)] [(33, .int .i64 (-1 - n))] Z.k0 hf ?_; clear hf a; intro a hf
          refine Z.val hf rfl (Z.r_convw Try.underlying2 Try.underlying104 (hf.eval rfl) (Z.u64_in _ (by omega))) ?_; clear hf a; intro a hf
          refine Z.qe [.n, .n] [3, 4] [] [(3, .int .u8 207), (4, .int .u64 (-1 - n))] Z.k0 hf ?_; clear hf a; intro a hf
          refine hn166 _ _ ?_
          refine Z.qseq [.n] [5] [] [(5, .slice none 0 0)] Z.k0 hf ?_; clear hf a; intro a hf
          refine Z.seq' (Z.Pq.body _ _ _) fun Q169 hp170 hn171 he172 => ?_
          refine Z.block' hp170 fun Q173 hp174 hn175 hx176 he177 => ?_
          refine Z.loop' hp174 (fun m a wl => ∃ (f : Nat), ∃ (u : Nat), ∃ (bs : List UInt8), ∃ (lA0 : Option Addr), ∃ (lc0 : Nat), m = u ∧ Z.Ch [] w wl ∧ Z.Own Z.Ty.byte 5 w.heap.size wl Z.no lA0 lc0 bs ∧ (Codec.be 8 (-1 - n).toNat = Codec.be f u ++ bs) ∧ (u < 256 ^ f) ∧ (bs.length + f = 8) ∧ Z.Fr a 52 [] [(3, .int .u8 207), (4, .int .u64 (u : Int)), (5, .slice lA0 bs.length lc0)]) (((-1 - n).toNat)) ?_ ?_
          · replace hf := hf.setv (d := 4) (y := .int .u64 (((-1 - n).toNat : Nat) : Int)) rfl (congrArg (Value.int .u64) (by first | rfl | omega | (rw [Z.u64_in _ (by omega)]; omega) | (simp; done) | (simp; omega)))
            have hxs178 : ([] : List UInt8) = ([] : List UInt8) := by first | rfl | simp
            have ho179 := hxs178 ▸ (Z.Own.nil Z.Ty.byte 5 w.heap.size w Z.no)
            replace hf := hf.setv (d := 5) (y := .slice none ([].length) 0) rfl (by rw [← hxs178] <;> first | done | rfl)
            exact ⟨8, (-1 - n).toNat, [], none, 0, rfl, (Z.Ch.refl w), ho179, (by simp), (by unfold Codec.okInt at hn; have : (256 : Nat) ^ 8 = 18446744073709551616 := (by decide); omega), (by simp), (hf.keep [3, 4, 5])⟩
          · rintro m196 a w180 ⟨f183, u184, bs185, A190, c191, hm182, hc181, ho192, hN193, hu194, hl195, hf⟩ Q186 hp187 hn188 he189
            have hzhc181 := hc181.size
            refine Z.seq' hp187 fun Q197 hp198 hn199 he200 => ?_
            refine Z.qseq [.n, .n] [36] [] [(36, .bool (decide (0 < (u184 : Int))))] Z.k0 hf ?_; clear hf a; intro a hf
            refine Z.condp hf rfl ?_ ?_
            · intro hp201
              refine Z.skip ?_
              refine hn199 _ _ ?_
              refine Z.seq' hp187 fun Q202 hp203 hn204 he205 => ?_
              refine Z.block' hp203 fun Q206 hp207 hn208 hx209 he210 => ?_
              refine Z.reg ?_
              refine Z.qr [.n] [39] [] [(39, .int .u64 (u184 : Int))] Z.k0 hf ?_; clear hf a; intro a hf
              refine Z.val hf rfl (Z.r_convb (u := u184) Try.underlying104 Try.underlying5 (hf.eval rfl) (by omega)) ?_; clear hf a; intro a hf
              refine Z.st_bslice hf rfl Try.underlying40 Try.sizeOf5 Try.zeroValue5 (parts := [(0, .tmp 40)]) (cs := [.int .u8 ((UInt8.ofNat u184).toNat : Int)]) rfl rfl rfl (by kernel_rfl) ?_; clear hf a; intro g211 w212 a hg213 hz214 hb215 hc216 hf
              have ho217 : Z.Own Z.Ty.byte 5 g211 w212 Z.no (some ⟨g211, 0, none⟩) 1 ([(UInt8.ofNat u184)] : List UInt8) := Z.Own.made (t := Z.Ty.byte) (xs := ([(UInt8.ofNat u184)] : List UInt8)) hb215 (Nat.le_refl _) rfl (by simp [maxLen]) (by simp [Value.oneCell']) (fun i x hi => by match i, hi with | 0, hi => (injection hi with hi; subst hi; exact (show _ = _ from rfl)) | (j + 1), hi => simp at hi)
              refine Z.qr [.n] [42] [] [(42, .slice A190 bs185.length c191)] Z.k0 hf ?_; clear hf a; intro a hf
              have hr218 := ho192.riv
              have hr219 := Z.rep_to (F' := (Z.iv (w.heap.size) w180.heap.size)) hr218 hc216
              refine Z.st_append_flat (t := Z.Ty.byte) hf rfl Try.underlying40 inf5.1 inf5.2.1 inf5.2.2.1 inf5.2.2.2.1 inf5.2.2.2.2 (by decide) (by decide) rfl rfl (by first | rfl | omega) ho217 rfl hr219 (by first | omega | (simp only [List.length_cons, List.length_nil, List.length_append]; omega) | (simp; done))  (by omega) ?_; clear hf a; intro A220 c221 w222 a ho223 hc224 hcas225 hf
              replace hc224 : Z.Ch [g211] w212 w222 := hc224
              have hzhc224 := hc224.size
              have hob226 : ∀ k, k ∈ Z.obl A220 → k = g211 ∨ k = w212.heap.size := fun k hk => by rcases hcas225 k hk with h | h; (left; simpa [Z.obl] using h); (right; exact h)
              refine Z.qe [.n] [5] [] [(5, .slice A220 ((([(UInt8.ofNat u184)] : List UInt8) ++ bs185).length) c221)] Z.k0 hf ?_; clear hf a; intro a hf
              refine hn208 _ _ ?_
              refine hn204 _ _ ?_
              refine Z.reg ?_
              refine Z.qr [.n] [37] [] [(37, .int .u64 (u184 : Int))] Z.k0 hf ?_; clear hf a; intro a hf
              refine Z.val hf rfl (Z.r_shr (hf.eval rfl) (hf.eval rfl) (by omega) (by omega)) ?_; clear hf a; intro a hf
              refine Z.qe [.n] [4] [] [(4, .int .u64 ((u184 : Int) / 2 ^ (8 : Int).toNat))] Z.k0 hf ?_; clear hf a; intro a hf
              obtain ⟨f', rfl⟩ : ∃ f', f183 = f' + 1 := ⟨f183 - 1, by rcases f183 with _ | f183; (simp at hu194; omega); omega⟩
              refine hn188 ((u184 / 256)) _ _ ?_ ?_
              rotate_left
              replace hf := hf.setv (d := 4) (y := .int .u64 ((u184 / 256 : Nat) : Int)) rfl (congrArg (Value.int .u64) (by first | rfl | omega | (rw [Z.u64_in _ (by omega)]; omega) | (simp; done) | (simp; omega)))
              have ho228 := (ho223).base (B' := w.heap.size) (by omega)
              have hxs229 : ([(UInt8.ofNat u184)] : List UInt8) ++ bs185 = ((UInt8.ofNat u184 :: bs185) : List UInt8) := by first | rfl | simp
              have ho230 := hxs229 ▸ ho228
              replace hf := hf.setv (d := 5) (y := .slice A220 ((UInt8.ofNat u184 :: bs185).length) c221) rfl (by rw [← hxs229] <;> first | done | rfl)
              have hq231 : Z.Ch [] w w212 := hc181.then hc216
              have hq232 : Z.Ch [g211] w w222 := hq231.then hc224
              exact ⟨f', u184 / 256, UInt8.ofNat u184 :: bs185, A220, c221, rfl, (hq232.mono (by intro k hk; (try simp only [List.mem_cons, List.mem_append, List.not_mem_nil, or_false, false_or] at hk ⊢) <;> omega)), ho230, (by rw [hN193, Codec.be_step _ _ (by omega)]; simp), (by rw [Nat.pow_succ] at hu194; omega), (by simp only [List.length_cons]; omega), (hf.keep [3, 4, 5])⟩
              rw [hm182]; omega
            · intro hp233
              refine Z.exit ?_
              refine he200 _ _ _ (by simp) ?_
              refine he189 _ _ _ (by simp) ?_
              refine hx176 _ _ ?_
              refine hn171 _ _ ?_
              refine Z.seq' (Z.Pq.body _ _ _) fun Q234 hp235 hn236 he237 => ?_
              refine Z.reg ?_
              refine Z.qr [.n, .n, .n] [44, 46] [] [(44, .int .u8 207), (46, .int .i64 (bs185.length : Int))] Z.k0 hf ?_; clear hf a; intro a hf
              refine Z.val hf rfl (Z.r_convb (u := bs185.length) Try.underlying3 Try.underlying5 (hf.eval rfl) (by omega)) ?_; clear hf a; intro a hf
              refine Z.val hf rfl (Z.r_addb (u := (207 + ((UInt8.ofNat bs185.length).toNat))) (hf.eval rfl) (hf.eval rfl) (by first | rfl | omega)) ?_; clear hf a; intro a hf
              refine Z.st_bslice hf rfl Try.underlying40 Try.sizeOf5 Try.zeroValue5 (parts := [(0, .tmp 48)]) (cs := [.int .u8 ((UInt8.ofNat (207 + ((UInt8.ofNat bs185.length).toNat))).toNat : Int)]) rfl rfl rfl (by kernel_rfl) ?_; clear hf a; intro g238 w239 a hg240 hz241 hb242 hc243 hf
              have ho244 : Z.Own Z.Ty.byte 5 g238 w239 Z.no (some ⟨g238, 0, none⟩) 1 ([(UInt8.ofNat (207 + ((UInt8.ofNat bs185.length).toNat)))] : List UInt8) := Z.Own.made (t := Z.Ty.byte) (xs := ([(UInt8.ofNat (207 + ((UInt8.ofNat bs185.length).toNat)))] : List UInt8)) hb242 (Nat.le_refl _) rfl (by simp [maxLen]) (by simp [Value.oneCell']) (fun i x hi => by match i, hi with | 0, hi => (injection hi with hi; subst hi; exact (show _ = _ from rfl)) | (j + 1), hi => simp at hi)
              refine Z.qr [.n] [50] [] [(50, .slice A190 bs185.length c191)] Z.k0 hf ?_; clear hf a; intro a hf
              have hr245 := ho192.riv
              have hr246 := Z.rep_to (F' := (Z.iv (w.heap.size) w180.heap.size)) hr245 hc243
              refine Z.st_append_flat (t := Z.Ty.byte) hf rfl Try.underlying40 inf5.1 inf5.2.1 inf5.2.2.1 inf5.2.2.2.1 inf5.2.2.2.2 (by decide) (by decide) rfl rfl (by first | rfl | omega) ho244 rfl hr246 (by first | omega | (simp only [List.length_cons, List.length_nil, List.length_append]; omega) | (simp; done))  (by omega) ?_; clear hf a; intro A247 c248 w249 a ho250 hc251 hcas252 hf
              replace hc251 : Z.Ch [g238] w239 w249 := hc251
              have hzhc251 := hc251.size
              have hob253 : ∀ k, k ∈ Z.obl A247 → k = g238 ∨ k = w239.heap.size := fun k hk => by rcases hcas252 k hk with h | h; (left; simpa [Z.obl] using h); (right; exact h)
              refine Z.qe [.n] [2] [] [(2, .slice A247 ((([(UInt8.ofNat (207 + ((UInt8.ofNat bs185.length).toNat)))] : List UInt8) ++ bs185).length) c248)] Z.k0 hf ?_; clear hf a; intro a hf
              refine hn236 _ _ ?_
              refine Z.ret ?_
              have ho255 := (ho250).base (B' := w.heap.size) (by omega)
              have hxs256 : ([(UInt8.ofNat (207 + ((UInt8.ofNat bs185.length).toNat)))] : List UInt8) ++ bs185 = (Codec.encInt n : List UInt8) := by have hz : u184 = 0 := (by omega); rw [hz, Codec.be_zero] at hN193; exact Codec.enc_dn n (by omega) _ hN193 (by omega)
              have ho257 := hxs256 ▸ ho255
              replace hf := hf.setv (d := 2) (y := .slice A247 ((Codec.encInt n).length) c248) rfl (by rw [← hxs256] <;> first | done | rfl)
              have hq258 : Z.Ch [] w w239 := hc181.then hc243
              have hq259 : Z.Ch [g238] w w249 := hq258.then hc251
              refine Z.ret1 hf Try.results26 rfl ?_
              exact ⟨A247, c248, rfl, ho257, (Z.Ch.mono hq259 (by intro k hk; (try simp only [List.mem_cons, List.mem_append, List.not_mem_nil, or_false, false_or] at hk ⊢) <;> omega))⟩
        · intro hp260
          exfalso; omega
    · intro hp261
      exfalso; omega

set_option maxHeartbeats 400000 in
set_option maxRecDepth 20000 in
theorem Join_spec (xss : List (List UInt8)) (w : World) (pA0 : Option Addr) (pc0 : Nat) (ph0 : (Z.Ty.slice (Z.Ty.slice Z.Ty.byte)).rep w (Z.nt []) [.slice pA0 xss.length pc0] xss) (hlen : xss.flatten.length ≤ 70368744177664) :
    Calls Try.prog 47 #[.slice pA0 xss.length pc0, .slice none 0 0] w fun e w' => ∃ (rA0 : Option Addr) (rc0 : Nat), e = .returned (.slice rA0 xss.flatten.length rc0) ∧ (Z.Ty.slice Z.Ty.byte).rep w' (Z.iv w.heap.size w'.heap.size) [.slice rA0 xss.flatten.length rc0] xss.flatten ∧ Z.Ch [] w w' := by
  refine Z.enter Try.func47 rfl Try.ntmps47 (Nat.le_of_ble_eq_true rfl) fun a hf => ?_
  have hle_pA0 := Z.rep_le ph0
  have ph0o := Z.rep_ol ph0
  refine Z.qseq [.n] [] [] [] Z.k0 hf ?_; clear hf a; intro a hf
  refine Z.seq' (Z.Pq.body _ _ _) fun Q1 hp2 hn3 he4 => ?_
  refine Z.qseq [.n, .n, .n] [14] [] [(14, .bool (decide ((xss.length : Int) = 0)))] Z.k0 hf ?_; clear hf a; intro a hf
  refine Z.condp hf rfl ?_ ?_
  · intro hp5
    refine Z.seq' hp2 fun Q6 hp7 hn8 he9 => ?_
    refine Z.reg ?_
    refine Z.st_bslice0 hf rfl Try.underlying40 Try.sizeOf5 ?_; clear hf a; intro g10 w11 a hg12 hz13 hb14 hc15 hf
    have ho16 : Z.Own Z.Ty.byte 5 g10 w11 Z.no (some ⟨g10, 0, none⟩) 0 ([] : List UInt8) := Z.Own.made (t := Z.Ty.byte) (xs := ([] : List UInt8)) hb14 (Nat.le_refl _) rfl (by simp [maxLen]) (by simp [Value.oneCell']) (fun i x hi => by match i, hi with  | (j + 0), hi => simp at hi)
    refine Z.qe [.n] [4] [] [(4, .slice (some ⟨g10, 0, none⟩) 0 0)] Z.k0 hf ?_; clear hf a; intro a hf
    refine hn8 _ _ ?_
    refine Z.ret ?_
    refine he4 _ _ _ (by simp) ?_
    have hr17 := ho16.riv
    have hr18 : (Z.Ty.slice Z.Ty.byte).rep w11 (Z.iv w.heap.size w11.heap.size) [.slice (some ⟨g10, 0, none⟩) 0 0] ([] : List UInt8) := Z.rep_as hr17 (by intro b h1 h2; (try simp only [Z.nt, Z.iv, Z.no, Z.ol] at h1); (try simp only [Z.iv]); omega)
    have hxs19 : ([] : List UInt8) = (xss.flatten : List UInt8) := by have : xss = [] := List.eq_nil_of_length_eq_zero (by omega); rw [this]; simp
    have hr20 := Z.rep_eq hr18 hxs19
    replace hf := hf.setv (d := 4) (y := .slice (some ⟨g10, 0, none⟩) xss.flatten.length 0) rfl (by rw [← hxs19] <;> first | done | rfl)
    refine Z.ret1 hf Try.results47 rfl ?_
    exact ⟨some ⟨g10, 0, none⟩, 0, rfl, hr20, hc15⟩
  · intro hp21
    refine Z.skip ?_
    refine hn3 _ _ ?_
    refine Z.seq' (Z.Pq.body _ _ _) fun Q22 hp23 hn24 he25 => ?_
    refine Z.qseq [.n, .n, .n] [18] [] [(18, .bool (decide ((xss.length : Int) = 1)))] Z.k0 hf ?_; clear hf a; intro a hf
    refine Z.condp hf rfl ?_ ?_
    · intro hp26
      refine Z.seq' hp23 fun Q27 hp28 hn29 he30 => ?_
      refine Z.reg ?_
      refine Z.qr [.n] [19] [] [(19, .slice pA0 xss.length pc0)] Z.k0 hf ?_; clear hf a; intro a hf
      have hkx33 : 0 < (xss).length := (by omega)
      obtain ⟨ad31, es32, x33, hA34, hF35, hl36, hx37, hc38, hr39⟩ := Z.rep_el ph0o hkx33
      have hok40 := Z.rep_ok _ hr39
      obtain ⟨A41, c42, he43, hn44, hn45⟩ := Z.rep_slice hr39
      rw [he43] at hr39
      have hle_A41 := Z.rep_le hr39
      have he46 : es32 = [.slice A41 x33.length c42] := by simp only [he43, List.cons_append, List.nil_append]
      rw [he46] at hc38
      have hfl47 := Codec.flat_take hx37
      refine Z.val hf rfl (Z.r_indexAddrE Try.underlying46 Try.sizeOf40 (hf.eval rfl) hA34 (hf.eval rfl) (k := 0) (by first | rfl | omega) (by omega)) ?_; clear hf a; intro a hf
      refine Z.qr [.e 0 0] [21] [] [(21, .slice A41 x33.length c42)] (Z.ke hc38 Z.k0) hf ?_; clear hf a; intro a hf
      refine Z.st_append_flat (t := Z.Ty.byte) hf rfl Try.underlying40 inf5.1 inf5.2.1 inf5.2.2.1 inf5.2.2.2.1 inf5.2.2.2.2 (by decide) (by decide) rfl rfl (by first | rfl | omega) (Z.Own.nil Z.Ty.byte 5 w.heap.size w Z.no) rfl hr39 (by first | omega | (simp only [List.length_cons, List.length_nil, List.length_append]; omega) | (simp; done))  (by omega) ?_; clear hf a; intro A48 c49 w50 a ho51 hc52 hcas53 hf
      replace hc52 : Z.Ch [] w w50 := hc52
      have hzhc52 := hc52.size
      have hob54 : ∀ k, k ∈ Z.obl A48 → k = w.heap.size := fun k hk => by rcases hcas53 k hk with h | h; cases h; exact h
      refine Z.qe [.n] [4] [] [(4, .slice A48 ((([] : List UInt8) ++ x33).length) c49)] Z.k0 hf ?_; clear hf a; intro a hf
      refine hn29 _ _ ?_
      refine Z.ret ?_
      refine he25 _ _ _ (by simp) ?_
      have hr56 := ho51.riv
      have hr57 : (Z.Ty.slice Z.Ty.byte).rep w50 (Z.iv w.heap.size w50.heap.size) [.slice A48 ((([] : List UInt8) ++ x33).length) c49] (([] : List UInt8) ++ x33) := Z.rep_as hr56 (by intro b h1 h2; (try simp only [Z.nt, Z.iv, Z.no, Z.ol] at h1); (try simp only [Z.iv]); omega)
      have hxs58 : ([] : List UInt8) ++ x33 = (xss.flatten : List UInt8) := by rw [← Codec.flat_all (xs := xss) (k := 1) (by omega)]; simp_all
      have hr59 := Z.rep_eq hr57 hxs58
      replace hf := hf.setv (d := 4) (y := .slice A48 xss.flatten.length c49) rfl (by rw [← hxs58] <;> first | done | rfl)
      refine Z.ret1 hf Try.results47 rfl ?_
      exact ⟨A48, c49, rfl, hr59, hc52⟩
    · intro hp60
      refine Z.skip ?_
      refine hn24 _ _ ?_
      refine Z.qseq [.n] [5] [] [(5, .int .i64 0)] Z.k0 hf ?_; clear hf a; intro a hf
      refine Z.seq' (Z.Pq.body _ _ _) fun Q61 hp62 hn63 he64 => ?_
      refine Z.qseq [.n, .n, .n] [25] [] [(25, .bool (decide (0 < (0 : Int))))] Z.k0 hf ?_; clear hf a; intro a hf
      refine Z.condp hf rfl ?_ ?_
      · intro hp65
        exfalso; omega
      · intro hp66
        refine Z.skip ?_
        refine hn63 _ _ ?_
        refine Z.seq' (Z.Pq.body _ _ _) fun Q67 hp68 hn69 he70 => ?_
        refine Z.qseq [.n, .n, .n] [42, 43, 44] [] [(42, .slice pA0 xss.length pc0), (43, .int .i64 (xss.length : Int)), (44, .int .i64 0)] Z.k0 hf ?_; clear hf a; intro a hf
        refine Z.block' hp68 fun Q71 hp72 hn73 hx74 he75 => ?_
        refine Z.loop' hp72 (fun m a wl => ∃ (k : Nat), m = xss.length - k ∧ Z.Ch [] w wl ∧ (k ≤ xss.length) ∧ ((xss.take k).flatten.length ≤ xss.flatten.length) ∧ Z.Fr a 92 [] [(0, .slice pA0 xss.length pc0), (1, .slice none 0 0), (5, .int .i64 ((xss.take k).flatten.length : Int)), (42, .slice pA0 xss.length pc0), (43, .int .i64 (xss.length : Int)), (44, .int .i64 (k : Int))]) (xss.length - 0) ?_ ?_
        · replace hf := hf.setv (d := 5) (y := .int .i64 ((xss.take 0).flatten.length : Int)) rfl (congrArg (Value.int .i64) (by first | rfl | omega | (simp only [List.length_append, List.length_nil, List.take_zero, List.flatten_nil] at *; omega) | (simp; done) | (simp; omega)))
          replace hf := hf.setv (d := 44) (y := .int .i64 (0 : Int)) rfl (congrArg (Value.int .i64) (by first | rfl | omega | (simp only [List.length_append, List.length_nil, List.take_zero, List.flatten_nil] at *; omega) | (simp; done) | (simp; omega)))
          exact ⟨0, rfl, (Z.Ch.refl w), (by omega), (by exact Codec.flat_le _ _), (hf.keep [0, 1, 5, 42, 43, 44])⟩
        · rintro m86 a w76 ⟨k79, hm78, hc77, hk84, hle85, hf⟩ Q80 hp81 hn82 he83
          have hzhc77 := hc77.size
          refine Z.qseq [.n] [45] [] [(45, .bool (decide ((k79 : Int) < (xss.length : Int))))] Z.k0 hf ?_; clear hf a; intro a hf
          refine Z.seq' hp81 fun Q87 hp88 hn89 he90 => ?_
          refine Z.condp hf rfl ?_ ?_
          · intro hp91
            refine Z.skip ?_
            refine hn89 _ _ ?_
            refine Z.seq' hp81 fun Q92 hp93 hn94 he95 => ?_
            refine Z.block' hp93 fun Q96 hp97 hn98 hx99 he100 => ?_
            refine Z.seq' hp97 fun Q101 hp102 hn103 he104 => ?_
            refine Z.reg ?_
            have hr105 := Z.rep_to (F' := (Z.ol [] w.heap.size)) ph0o hc77
            have hkx108 : k79 < (xss).length := (by omega)
            obtain ⟨ad106, es107, x108, hA109, hF110, hl111, hx112, hc113, hr114⟩ := Z.rep_el hr105 hkx108
            have hok115 := Z.rep_ok _ hr114
            obtain ⟨A116, c117, he118, hn119, hn120⟩ := Z.rep_slice hr114
            rw [he118] at hr114
            have hle_A116 := Z.rep_le hr114
            have he121 : es107 = [.slice A116 x108.length c117] := by simp only [he118, List.cons_append, List.nil_append]
            rw [he121] at hc113
            have hfl122 := Codec.flat_take hx112
            refine Z.val hf rfl (Z.r_indexAddrE Try.underlying46 Try.sizeOf40 (hf.eval rfl) hA109 (hf.eval rfl) (k := k79) (by first | rfl | omega) (by omega)) ?_; clear hf a; intro a hf
            refine Z.qe [.e 0 0, .n] [7] [] [(7, .slice A116 x108.length c117)] (Z.ke hc113 Z.k0) hf ?_; clear hf a; intro a hf
            refine hn103 _ _ ?_
            refine Z.seq' hp97 fun Q123 hp124 hn125 he126 => ?_
            refine Z.qseq [.n, .n, .n, .n, .n] [52] [Z.R64 (9223372036854775807 - ((xss.take k79).flatten.length : Int))] [(52, .bool (decide (9223372036854775807 - ((xss.take k79).flatten.length : Int) < (x108.length : Int))))] Z.k0 hf ?_; clear hf a; intro a hf
            refine Z.condp hf rfl ?_ ?_
            · intro hp127
              exfalso; omega
            · intro hp128
              refine Z.skip ?_
              refine hn125 _ _ ?_
              refine Z.qreg [.n, .n, .n, .n, .n] [5] [Z.R64 (((xss.take k79).flatten.length : Int) + (x108.length : Int))] [(5, .int .i64 (((xss.take k79).flatten.length : Int) + (x108.length : Int)))] Z.k0 hf ?_; clear hf a; intro a hf
              refine hn98 _ _ ?_
              refine hn94 _ _ ?_
              refine Z.qreg [.n, .n] [44] [Z.R64 ((k79 : Int) + 1)] [(44, .int .i64 ((k79 : Int) + 1))] Z.k0 hf ?_; clear hf a; intro a hf
              refine hn82 (xss.length - (k79 + 1)) _ _ ?_ ?_
              rotate_left
              replace hf := hf.setv (d := 5) (y := .int .i64 ((xss.take (k79 + 1 : Nat)).flatten.length : Int)) rfl (congrArg (Value.int .i64) (by first | rfl | omega | (simp only [List.length_append, List.length_nil, List.take_zero, List.flatten_nil] at *; omega) | (simp; done) | (simp; omega)))
              replace hf := hf.setv (d := 44) (y := .int .i64 ((k79 + 1 : Nat) : Int)) rfl (congrArg (Value.int .i64) (by first | rfl | omega | (simp only [List.length_append, List.length_nil, List.take_zero, List.flatten_nil] at *; omega) | (simp; done) | (simp; omega)))
              exact ⟨k79 + 1, rfl, hc77, (by omega), (by exact Codec.flat_le _ _), (hf.keep [0, 1, 5, 42, 43, 44])⟩
              rw [hm78]; omega
          · intro hp129
            refine Z.exit ?_
            refine he90 _ _ _ (by simp) ?_
            refine he83 _ _ _ (by simp) ?_
            refine hx74 _ _ ?_
            refine hn69 _ _ ?_
            refine Z.seq' (Z.Pq.body _ _ _) fun Q130 hp131 hn132 he133 => ?_
            refine Z.reg ?_
            refine Z.qr [.n] [59] [] [(59, .int .i64 ((xss.take k79).flatten.length : Int))] Z.k0 hf ?_; clear hf a; intro a hf
            have htot : (xss.take k79).flatten.length = xss.flatten.length := by rw [Codec.flat_all (by omega)]
            refine Z.st_nozero (u := ((xss.take k79).flatten.length)) nz60 hf rfl Try.underlying40 rfl (by omega) (by omega) ?_; clear hf a; intro g134 w135 a c136 hg137 hz138 hfb139 hc140 hle141 hle142 hf
            refine Z.qr [.n, .n] [61, 62] [] [(61, .int .i64 ((xss.take k79).flatten.length : Int)), (62, .int .i64 ((xss.take k79).flatten.length : Int))] Z.k0 hf ?_; clear hf a; intro a hf
            refine Z.val hf rfl (Z.r_slice_hm (v := ((xss.take k79).flatten.length)) (m := ((xss.take k79).flatten.length)) Try.underlying40 Try.sizeOf5 (hf.eval rfl) (hf.eval rfl) (hf.eval rfl) (by omega) (by omega) (by omega) (by omega)) ?_; clear hf a; intro a hf
            refine Z.qe [.n] [8] [] [(8, .slice (some ⟨g134, 0, none⟩) ((xss.take k79).flatten.length) ((xss.take k79).flatten.length))] Z.k0 hf ?_; clear hf a; intro a hf
            refine hn132 _ _ ?_
            refine Z.seq' (Z.Pq.body _ _ _) fun Q143 hp144 hn145 he146 => ?_
            refine Z.reg ?_
            refine Z.qr [.n, .n] [64, 65] [] [(64, .slice (some ⟨g134, 0, none⟩) ((xss.take k79).flatten.length) ((xss.take k79).flatten.length)), (65, .slice pA0 xss.length pc0)] Z.k0 hf ?_; clear hf a; intro a hf
            have hq147 : Z.Ch [] w w135 := hc77.then hc140
            have hr148 := Z.rep_to (F' := (Z.ol [] w.heap.size)) ph0o hq147
            have hkx151 : 0 < (xss).length := (by omega)
            obtain ⟨ad149, es150, x151, hA152, hF153, hl154, hx155, hc156, hr157⟩ := Z.rep_el hr148 hkx151
            have hok158 := Z.rep_ok _ hr157
            obtain ⟨A159, c160, he161, hn162, hn163⟩ := Z.rep_slice hr157
            rw [he161] at hr157
            have hle_A159 := Z.rep_le hr157
            have he164 : es150 = [.slice A159 x151.length c160] := by simp only [he161, List.cons_append, List.nil_append]
            rw [he164] at hc156
            have hfl165 := Codec.flat_take hx155
            refine Z.val hf rfl (Z.r_indexAddrE Try.underlying46 Try.sizeOf40 (hf.eval rfl) hA152 (hf.eval rfl) (k := 0) (by first | rfl | omega) (by omega)) ?_; clear hf a; intro a hf
            refine Z.qr [.e 0 0] [67] [] [(67, .slice A159 x151.length c160)] (Z.ke hc156 Z.k0) hf ?_; clear hf a; intro a hf
            refine Z.st_copy (g := g134) (u := ((xss.take k79).flatten.length)) (done := ([] : List UInt8)) hf rfl Try.underlying40 inf5.sz rfl (Or.inr rfl) rfl hr157 hfb139 (by first | omega | (simp only [List.length_nil, List.length_append]; omega) | simp) (by first | omega | (simp only [List.length_nil, List.length_append]; omega) | simp) ?_; clear hf a; intro w166 a hfb167 hc168 hz169 hf
            refine Z.qe [.n] [9] [] [(9, .int .i64 ((x151).length : Int))] Z.k0 hf ?_; clear hf a; intro a hf
            refine hn145 _ _ ?_
            refine Z.seq' (Z.Pq.body _ _ _) fun Q170 hp171 hn172 he173 => ?_
            refine Z.seq' hp171 fun Q174 hp175 hn176 he177 => ?_
            refine Z.reg ?_
            refine Z.qr [.n] [69] [] [(69, .slice pA0 xss.length pc0)] Z.k0 hf ?_; clear hf a; intro a hf
            have hq178 : Z.Ch [g134] w w166 := hq147.then hc168
            have hr179 := Z.rep_to (F' := (Z.ol [] w.heap.size)) ph0o hq178
            have hl180 := Z.rep_slice_len hr179
            have hr181 := Z.rep_cut0 hr179 1 (by omega)
            have hn182 : (xss.drop 1).length = (xss).length - 1 := by first | rfl | omega | (simp only [List.length_take, List.length_drop]; done) | (simp only [List.length_take, List.length_drop]; omega)
            refine Z.val hf rfl (Z.r_slice_l (u := 1) Try.underlying46 Try.sizeOf40 (hf.eval rfl) (hf.eval rfl) (by omega) (by omega)) ?_; clear hf a; intro a hf
            replace hf := hf.setv (d := 70) (y := .slice (Z.cutA pA0 pc0 1 1) ((xss.drop 1).length) (pc0 - 1)) rfl (Z.slice_n (by first | rfl | omega | (simp only [List.length_take, List.length_drop]; done) | (simp only [List.length_take, List.length_drop]; omega) | (simp; omega)))
            refine Z.qe [.n, .n] [71, 72] [] [(71, .int .i64 ((xss.drop 1).length : Int)), (72, .int .i64 0)] Z.k0 hf ?_; clear hf a; intro a hf
            refine hn176 _ _ ?_
            refine Z.block' hp171 fun Q183 hp184 hn185 hx186 he187 => ?_
            refine Z.loop' hp184 (fun m a wl => ∃ (k : Nat), m = xss.length - k ∧ Z.Ch [g134] w166 wl ∧ Z.FB wl g134 5 ((xss.take k79).flatten.length) ((xss.take (k + 1)).flatten) ∧ (k + 1 ≤ xss.length) ∧ ((xss.take (k + 1)).flatten.length ≤ xss.flatten.length) ∧ Z.Fr a 92 [] [(1, .slice none 0 0), (8, .slice (some ⟨g134, 0, none⟩) ((xss.take k79).flatten.length) ((xss.take k79).flatten.length)), (9, .int .i64 ((xss.take (k + 1)).flatten.length : Int)), (70, .slice (Z.cutA pA0 pc0 1 1) ((xss.drop 1).length) (pc0 - 1)), (71, .int .i64 ((xss.drop 1).length : Int)), (72, .int .i64 (k : Int))]) (xss.length - 0) ?_ ?_
            · replace hf := hf.setv (d := 9) (y := .int .i64 ((xss.take (0 + 1)).flatten.length : Int)) rfl (congrArg (Value.int .i64) (by first | rfl | omega | (simp only [List.length_append, List.length_nil, List.take_zero, List.flatten_nil] at *; omega) | (simp; done) | (simp; omega)))
              replace hf := hf.setv (d := 72) (y := .int .i64 (0 : Int)) rfl (congrArg (Value.int .i64) (by first | rfl | omega | (simp only [List.length_append, List.length_nil, List.take_zero, List.flatten_nil] at *; omega) | (simp; done) | (simp; omega)))
              exact ⟨0, rfl, (Z.Ch.refl' _ _), ((by rw [hfl165.1]; simp : (([] : List UInt8) ++ x151) = (xss.take (0 + 1)).flatten) ▸ hfb167), (by omega), (by exact Codec.flat_le _ _), (hf.keep [1, 8, 9, 70, 71, 72])⟩
            · rintro m199 a w188 ⟨k191, hm190, hc189, hfb196, hk197, hle198, hf⟩ Q192 hp193 hn194 he195
              have hzhc189 := hc189.size
              refine Z.qseq [.n] [73] [] [(73, .bool (decide ((k191 : Int) < ((xss.drop 1).length : Int))))] Z.k0 hf ?_; clear hf a; intro a hf
              refine Z.seq' hp193 fun Q200 hp201 hn202 he203 => ?_
              refine Z.condp hf rfl ?_ ?_
              · intro hp204
                refine Z.skip ?_
                refine hn202 _ _ ?_
                refine Z.seq' hp193 fun Q205 hp206 hn207 he208 => ?_
                refine Z.block' hp206 fun Q209 hp210 hn211 hx212 he213 => ?_
                refine Z.seq' hp210 fun Q214 hp215 hn216 he217 => ?_
                refine Z.reg ?_
                have hr218 := Z.rep_to (F' := (Z.ol [] w.heap.size)) hr181 hc189
                have hkx221 : k191 < (xss.drop 1).length := (by omega)
                obtain ⟨ad219, es220, x221, hA222, hF223, hl224, hx225, hc226, hr227⟩ := Z.rep_el hr218 hkx221
                have hok228 := Z.rep_ok _ hr227
                obtain ⟨A229, c230, he231, hn232, hn233⟩ := Z.rep_slice hr227
                rw [he231] at hr227
                have hle_A229 := Z.rep_le hr227
                have he234 : es220 = [.slice A229 x221.length c230] := by simp only [he231, List.cons_append, List.nil_append]
                rw [he234] at hc226
                have hfl235 := Codec.flat_take (xs := xss) (k := k191 + 1) (by have h := hx225; rw [List.getElem?_drop, Nat.add_comm] at h; exact h)
                refine Z.val hf rfl (Z.r_indexAddrE Try.underlying46 Try.sizeOf40 (hf.eval rfl) hA222 (hf.eval rfl) (k := k191) (by first | rfl | omega) (by omega)) ?_; clear hf a; intro a hf
                refine Z.qe [.e 0 0, .n] [11] [] [(11, .slice A229 x221.length c230)] (Z.ke hc226 Z.k0) hf ?_; clear hf a; intro a hf
                refine hn216 _ _ ?_
                refine Z.seq' hp210 fun Q236 hp237 hn238 he239 => ?_
                refine Z.reg ?_
                refine Z.qr [.n, .n, .n] [76, 77, 78] [] [(76, .int .i64 ((xss.take (k191 + 1)).flatten.length : Int)), (77, .slice (some ⟨g134, 0, none⟩) ((xss.take k79).flatten.length) ((xss.take k79).flatten.length)), (78, .int .i64 ((xss.take (k191 + 1)).flatten.length : Int))] Z.k0 hf ?_; clear hf a; intro a hf
                refine Z.val hf rfl (Z.r_slice_l (u := ((xss.take (k191 + 1)).flatten.length)) Try.underlying40 Try.sizeOf5 (hf.eval rfl) (hf.eval rfl) (by omega) (by first | omega | (simp only [List.length_nil, List.length_append]; omega) | simp)) ?_; clear hf a; intro a hf
                refine Z.qr [.n] [80] [] [(80, .slice none 0 0)] Z.k0 hf ?_; clear hf a; intro a hf
                have hr240 : (Z.Ty.slice Z.Ty.byte).rep w188 (Z.nt []) [.slice none 0 0] [] := Z.rep_nil _
                refine Z.st_copy (g := g134) (u := ((xss.take k79).flatten.length)) (done := (xss.take (k191 + 1)).flatten) hf rfl Try.underlying40 inf5.sz rfl (by first | exact Or.inl rfl | (left; omega) | (simp only [Z.cutA, Option.map_some, Go.Addr.add_lit]; by_cases hz : ((xss.take k79).flatten.length) = ((xss.take (k191 + 1)).flatten.length); (left; (try simp only [List.length_append, List.length_nil] at *); omega); (right; rw [if_neg hz]; congr 2; (try simp only [List.length_append, List.length_nil] at *); omega))) rfl hr240 hfb196 (by first | omega | (simp only [List.length_nil, List.length_append]; omega) | simp) (by first | omega | (simp only [List.length_nil, List.length_append]; omega) | simp) ?_; clear hf a; intro w241 a hfb242 hc243 hz244 hf
                replace hf := hf.seti (d := 81) (y := 0) rfl rfl
                refine Z.qe [.n, .n] [9] [Z.R64 (((xss.take (k191 + 1)).flatten.length : Int) + 0)] [(9, .int .i64 (((xss.take (k191 + 1)).flatten.length : Int) + 0))] Z.k0 hf ?_; clear hf a; intro a hf
                refine hn238 _ _ ?_
                refine Z.reg ?_
                refine Z.qr [.n, .n, .n] [83, 84, 85] [] [(83, .int .i64 (((xss.take (k191 + 1)).flatten.length : Int) + 0)), (84, .slice (some ⟨g134, 0, none⟩) ((xss.take k79).flatten.length) ((xss.take k79).flatten.length)), (85, .int .i64 (((xss.take (k191 + 1)).flatten.length : Int) + 0))] Z.k0 hf ?_; clear hf a; intro a hf
                refine Z.val hf rfl (Z.r_slice_l (u := (((xss.take (k191 + 1)).flatten.length) + 0)) Try.underlying40 Try.sizeOf5 (hf.eval rfl) (hf.eval rfl) (by omega) (by first | omega | (simp only [List.length_nil, List.length_append]; omega) | simp)) ?_; clear hf a; intro a hf
                refine Z.qr [.n] [87] [] [(87, .slice A229 x221.length c230)] Z.k0 hf ?_; clear hf a; intro a hf
                have hr245 := Z.rep_to (F' := (Z.ol [] w.heap.size)) hr227 hc243
                refine Z.st_copy (g := g134) (u := ((xss.take k79).flatten.length)) (done := ((xss.take (k191 + 1)).flatten ++ ([] : List UInt8))) hf rfl Try.underlying40 inf5.sz rfl (by first | exact Or.inl rfl | (left; omega) | (simp only [Z.cutA, Option.map_some, Go.Addr.add_lit]; by_cases hz : ((xss.take k79).flatten.length) = (((xss.take (k191 + 1)).flatten.length) + 0); (left; (try simp only [List.length_append, List.length_nil] at *); omega); (right; rw [if_neg hz]; congr 2; (try simp only [List.length_append, List.length_nil] at *); omega))) rfl hr245 hfb242 (by first | omega | (simp only [List.length_nil, List.length_append]; omega) | simp) (by first | omega | (simp only [List.length_nil, List.length_append]; omega) | simp) ?_; clear hf a; intro w246 a hfb247 hc248 hz249 hf
                refine Z.qe [.n, .n] [9] [Z.R64 (((xss.take (k191 + 1)).flatten.length : Int) + 0 + ((x221).length : Int))] [(9, .int .i64 (((xss.take (k191 + 1)).flatten.length : Int) + 0 + ((x221).length : Int)))] Z.k0 hf ?_; clear hf a; intro a hf
                refine hn211 _ _ ?_
                refine hn207 _ _ ?_
                refine Z.qreg [.n, .n] [72] [Z.R64 ((k191 : Int) + 1)] [(72, .int .i64 ((k191 : Int) + 1))] Z.k0 hf ?_; clear hf a; intro a hf
                refine hn194 (xss.length - (k191 + 1)) _ _ ?_ ?_
                rotate_left
                replace hf := hf.setv (d := 9) (y := .int .i64 ((xss.take ((k191 + 1 : Nat) + 1)).flatten.length : Int)) rfl (congrArg (Value.int .i64) (by first | rfl | omega | (simp only [List.length_append, List.length_nil, List.take_zero, List.flatten_nil] at *; omega) | (simp; done) | (simp; omega)))
                replace hf := hf.setv (d := 72) (y := .int .i64 ((k191 + 1 : Nat) : Int)) rfl (congrArg (Value.int .i64) (by first | rfl | omega | (simp only [List.length_append, List.length_nil, List.take_zero, List.flatten_nil] at *; omega) | (simp; done) | (simp; omega)))
                have hq250 : Z.Ch [g134] w166 w241 := hc189.then hc243
                have hq251 : Z.Ch [g134] w166 w246 := hq250.then hc248
                exact ⟨k191 + 1, rfl, hq251, ((by rw [hfl235.1]; simp : (((xss.take (k191 + 1)).flatten ++ ([] : List UInt8)) ++ x221) = (xss.take ((k191 + 1 : Nat) + 1)).flatten) ▸ hfb247), (by omega), (by exact Codec.flat_le _ _), (hf.keep [1, 8, 9, 70, 71, 72])⟩
                rw [hm190]; omega
              · intro hp252
                refine Z.exit ?_
                refine he203 _ _ _ (by simp) ?_
                refine he195 _ _ _ (by simp) ?_
                refine hx186 _ _ ?_
                refine hn172 _ _ ?_
                refine Z.qseq [.n, .n] [4] [] [(4, .slice (some ⟨g134, 0, none⟩) ((xss.take k79).flatten.length) ((xss.take k79).flatten.length))] Z.k0 hf ?_; clear hf a; intro a hf
                refine Z.ret ?_
                have hr253 := Z.FB.rep (F := (Z.iv w.heap.size w188.heap.size)) (c := ((xss.take k79).flatten.length)) hfb196 (by rw [Codec.flat_all (by omega)]; omega) ⟨by omega, by omega⟩ (by omega) (by first | omega | (simp only [maxLen]; omega))
                have hxs254 : (xss.take (k191 + 1)).flatten = (xss.flatten : List UInt8) := by exact Codec.flat_all (by omega)
                have hr255 := Z.rep_eq hr253 hxs254
                replace hf := hf.setv (d := 4) (y := .slice (some ⟨g134, 0, none⟩) xss.flatten.length ((xss.take k79).flatten.length)) rfl (Z.slice_n (by first | rfl | omega))
                have hq256 : Z.Ch [g134] w w188 := hq178.then hc189
                refine Z.ret1 hf Try.results47 rfl ?_
                exact ⟨some ⟨g134, 0, none⟩, ((xss.take k79).flatten.length), rfl, hr255, (Z.Ch.mono hq256 (by intro k hk; (try simp only [List.mem_cons, List.mem_append, List.not_mem_nil, or_false, false_or] at hk ⊢) <;> omega))⟩

end Go.Proofs.Ytlhpkogdcgebeaa
