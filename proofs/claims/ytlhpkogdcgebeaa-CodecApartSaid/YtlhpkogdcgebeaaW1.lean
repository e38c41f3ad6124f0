/- Walks. -/
import Derived.Test.YtlhpkogdcgebeaaFn
set_option linter.unusedVariables false
set_option linter.unusedSimpArgs false
namespace Go.Proofs.Ytlhpkogdcgebeaa
open Go.RowKit
set_option maxHeartbeats 400000 in
set_option maxRecDepth 20000 in
theorem Equal_spec (xs : List UInt8) (ys : List UInt8) (w : World) (pA0 : Option Addr) (pc0 : Nat) (pA1 : Option Addr) (pc1 : Nat) (ph0 : (Z.Ty.slice Z.Ty.byte).rep w (Z.nt []) [.slice pA0 xs.length pc0] xs) (ph1 : (Z.Ty.slice Z.Ty.byte).rep w (Z.nt []) [.slice pA1 ys.length pc1] ys)  :
    Calls Try.prog 10 #[.slice pA0 xs.length pc0, .slice pA1 ys.length pc1] w fun e w' => e = .returned (.bool (decide (xs = ys))) ∧ Z.Ch [] w w' := by
  refine Z.enter Try.func10 rfl Try.ntmps10 (Nat.le_of_ble_eq_true rfl) fun a hf => ?_
  replace hf : Z.Fr a 10 [] [(0, .slice pA0 xs.length pc0), (1, .slice pA1 ys.length pc1)] := hf
  have hle_pA0 := Z.rep_le ph0
  have ph0o := Z.rep_ol ph0
  have hle_pA1 := Z.rep_le ph1
  have ph1o := Z.rep_ol ph1
  refine Z.seq' (Z.Pq.body _ _ _) fun Q1 hp2 hn3 he4 => ?_
  refine Z.reg ?_
  refine Z.val hf rfl (Z.r_assign (hf.eval rfl)) ?_; clear hf a; intro a hf
  refine Z.done ?_
  refine hn3 _ _ ?_
  replace hf : Z.Fr a 10 [] [(0, .slice pA0 xs.length pc0), (1, .slice pA1 ys.length pc1)] := hf.keep [0, 1]
  refine Z.seq' (Z.Pq.body _ _ _) fun Q5 hp6 hn7 he8 => ?_
  refine Z.reg ?_
  refine Z.val hf rfl (Z.r_move (hf.eval rfl)) ?_; clear hf a; intro a hf
  refine Z.val hf rfl (Z.r_b2s Try.underlying40 Try.underlying5 Try.underlying9 (hf.eval rfl) ph0o) ?_; clear hf a; intro a hf
  refine Z.val hf rfl (Z.r_move (hf.eval rfl)) ?_; clear hf a; intro a hf
  refine Z.val hf rfl (Z.r_b2s Try.underlying40 Try.underlying5 Try.underlying9 (hf.eval rfl) ph1o) ?_; clear hf a; intro a hf
  refine Z.val hf rfl (Z.r_eqs (hf.eval rfl) (hf.eval rfl)) ?_; clear hf a; intro a hf
  refine Z.val hf rfl (Z.r_assign (hf.eval rfl)) ?_; clear hf a; intro a hf
  refine Z.done ?_
  refine hn7 _ _ ?_
  replace hf : Z.Fr a 10 [] [(4, .bool (decide (ByteArray.mk (xs).toArray = ByteArray.mk (ys).toArray)))] := hf.keep [4]
  refine wp_ret ?_
  replace hf := hf.setv (d := 4) (y := .bool (decide (xs = ys))) rfl (congrArg Value.bool (by first | rfl | (apply decide_eq_decide.2; simp [ByteArray.ext_iff])))
  refine Z.ret1 hf Try.results10 rfl ?_
  exact ⟨rfl, (Z.Ch.refl w)⟩

set_option maxHeartbeats 400000 in
set_option maxRecDepth 20000 in
theorem HasPrefix_spec (xs : List UInt8) (ys : List UInt8) (w : World) (pA0 : Option Addr) (pc0 : Nat) (pA1 : Option Addr) (pc1 : Nat) (ph0 : (Z.Ty.slice Z.Ty.byte).rep w (Z.nt []) [.slice pA0 xs.length pc0] xs) (ph1 : (Z.Ty.slice Z.Ty.byte).rep w (Z.nt []) [.slice pA1 ys.length pc1] ys)  :
    Calls Try.prog 11 #[.slice pA0 xs.length pc0, .slice pA1 ys.length pc1] w fun e w' => e = .returned (.bool (decide (ys <+: xs))) ∧ Z.Ch [] w w' := by
  refine Z.enter Try.func11 rfl Try.ntmps11 (Nat.le_of_ble_eq_true rfl) fun a hf => ?_
  replace hf : Z.Fr a 18 [] [(0, .slice pA0 xs.length pc0), (1, .slice pA1 ys.length pc1)] := hf
  have hle_pA0 := Z.rep_le ph0
  have ph0o := Z.rep_ol ph0
  have hle_pA1 := Z.rep_le ph1
  have ph1o := Z.rep_ol ph1
  refine Z.seq' (Z.Pq.body _ _ _) fun Q1 hp2 hn3 he4 => ?_
  refine Z.reg ?_
  refine Z.val hf rfl (Z.r_assign (hf.eval rfl)) ?_; clear hf a; intro a hf
  refine Z.done ?_
  refine hn3 _ _ ?_
  replace hf : Z.Fr a 18 [] [(0, .slice pA0 xs.length pc0), (1, .slice pA1 ys.length pc1)] := hf.keep [0, 1]
  refine Z.seq' (Z.Pq.body _ _ _) fun Q5 hp6 hn7 he8 => ?_
  refine Z.reg ?_
  refine Z.val hf rfl (Z.r_move (hf.eval rfl)) ?_; clear hf a; intro a hf
  refine Z.val hf rfl (Z.r_len Try.underlying40 (hf.eval rfl)) ?_; clear hf a; intro a hf
  refine Z.val hf rfl (Z.r_move (hf.eval rfl)) ?_; clear hf a; intro a hf
  refine Z.val hf rfl (Z.r_len Try.underlying40 (hf.eval rfl)) ?_; clear hf a; intro a hf
  refine Z.val hf rfl (Z.r_geq (hf.eval rfl) (hf.eval rfl)) ?_; clear hf a; intro a hf
  refine Z.val hf rfl (Z.r_move (hf.eval rfl)) ?_; clear hf a; intro a hf
  by_cases hdec : (ys.length : Int) ≤ (xs.length : Int) <;> revert hdec
  · intro hp9
    replace hf := hf.setb (d := 10) (b' := true) rfl (decide_eq_true hp9)
    refine Z.on hf rfl rfl ?_
    refine Z.val hf rfl (Z.r_move (hf.eval rfl)) ?_; clear hf a; intro a hf
    refine Z.on hf rfl rfl ?_
    refine Z.val hf rfl (Z.r_move (hf.eval rfl)) ?_; clear hf a; intro a hf
    refine Z.on hf rfl rfl ?_
    refine Z.val hf rfl (Z.r_len Try.underlying40 (hf.eval rfl)) ?_; clear hf a; intro a hf
    refine Z.on hf rfl rfl ?_
    have hl10 := Z.rep_slice_len ph0o
    have hr11 := Z.rep_cuth ph0o ys.length (by omega)
    have hn12 : (xs.take ys.length).length = ys.length := by first | rfl | omega | (simp only [List.length_take, List.length_drop]; done) | (simp only [List.length_take, List.length_drop]; omega)
    refine Z.val hf rfl (Z.r_slice_h (u := ys.length) Try.underlying40 Try.sizeOf5 (hf.eval rfl) (hf.eval rfl) (by omega) (by omega)) ?_; clear hf a; intro a hf
    replace hf := hf.setv (d := 14) (y := .slice pA0 ((xs.take ys.length).length) pc0) rfl (Z.slice_n (by first | rfl | omega | (simp only [List.length_take, List.length_drop]; done) | (simp only [List.length_take, List.length_drop]; omega) | (simp; omega)))
    refine Z.on hf rfl rfl ?_
    refine Z.val hf rfl (Z.r_move (hf.eval rfl)) ?_; clear hf a; intro a hf
    refine Z.on hf rfl rfl ?_
    have hr13 : (Z.Ty.slice Z.Ty.byte).rep w (Z.nt []) [.slice pA0 ((xs.take ys.length).length) pc0] (xs.take ys.length) := Z.rep_to hr11 (Z.Ch.refl w) (by intro b h1 h2; (try simp only [Z.nt, Z.iv, Z.no, Z.ol, List.mem_cons, List.not_mem_nil, or_false, not_or, not_false_eq_true] at h1); (try simp only [Z.nt, Z.iv, Z.no, Z.ol, List.mem_cons, List.mem_append, List.not_mem_nil, or_false, not_or, not_false_eq_true, true_and, and_true]) <;> omega)
    have hr14 : (Z.Ty.slice Z.Ty.byte).rep w (Z.nt []) [.slice pA1 ys.length pc1] ys := Z.rep_to ph1o (Z.Ch.refl w) (by intro b h1 h2; (try simp only [Z.nt, Z.iv, Z.no, Z.ol, List.mem_cons, List.not_mem_nil, or_false, not_or, not_false_eq_true] at h1); (try simp only [Z.nt, Z.iv, Z.no, Z.ol, List.mem_cons, List.mem_append, List.not_mem_nil, or_false, not_or, not_false_eq_true, true_and, and_true]) <;> omega)
    have hcall := Equal_spec (xs.take ys.length) (ys) w (pA0) (pc0) (pA1) (pc1) hr13 hr14
    refine Z.call1 hf rfl (Z.r_call cf10 hf (xs := [.tmp 14, .tmp 15]) rfl) hcall ?_; clear hcall hf a
    rintro _ w15 ⟨rfl, hc16⟩
    have hzhc16 := hc16.size
    refine ⟨_, rfl, ?_⟩; intro a hf
    refine Z.val hf rfl (Z.r_pick_t (hf.eval rfl) (hf.eval rfl)) ?_; clear hf a; intro a hf
    refine Z.val hf rfl (Z.r_assign (hf.eval rfl)) ?_; clear hf a; intro a hf
    refine Z.done ?_
    refine hn7 _ _ ?_
    replace hf : Z.Fr a 18 [] [(4, .bool (decide ((xs.take ys.length) = ys)))] := hf.keep [4]
    refine wp_ret ?_
    replace hf := hf.setv (d := 4) (y := .bool (decide (ys <+: xs))) rfl (congrArg Value.bool (by apply decide_eq_decide.2; rw [List.prefix_iff_eq_take]; exact eq_comm))
    refine Z.ret1 hf Try.results11 rfl ?_
    exact ⟨rfl, hc16⟩
  · intro hp17
    replace hf := hf.setb (d := 10) (b' := false) rfl (decide_eq_false hp17)
    refine Z.off hf rfl rfl rfl (by simp) ?_; clear hf a; intro a hf
    refine Z.off hf rfl rfl rfl (by simp) ?_; clear hf a; intro a hf
    refine Z.off hf rfl rfl rfl (by simp) ?_; clear hf a; intro a hf
    refine Z.off hf rfl rfl rfl (by simp) ?_; clear hf a; intro a hf
    refine Z.off hf rfl rfl rfl (by simp) ?_; clear hf a; intro a hf
    refine Z.off hf rfl rfl rfl (by simp) ?_; clear hf a; intro a hf
    refine Z.val hf rfl (Z.r_pick_f (hf.eval rfl) (hf.eval rfl)) ?_; clear hf a; intro a hf
    refine Z.val hf rfl (Z.r_assign (hf.eval rfl)) ?_; clear hf a; intro a hf
    refine Z.done ?_
    refine hn7 _ _ ?_
    replace hf : Z.Fr a 18 [] [(4, .bool false)] := hf.keep [4]
    refine wp_ret ?_
    replace hf := hf.setv (d := 4) (y := .bool (decide (ys <+: xs))) rfl (congrArg Value.bool (by symm; apply decide_eq_false; intro h; have := h.length_le; omega))
    refine Z.ret1 hf Try.results11 rfl ?_
    exact ⟨rfl, (Z.Ch.refl w)⟩

set_option maxHeartbeats 400000 in
set_option maxRecDepth 20000 in
theorem Int_spec (n : Int) (w : World)   (hn : Codec.okInt n) :
    Calls Try.prog 26 #[.int .i64 n] w fun e w' => ∃ (rA0 : Option Addr) (rc0 : Nat), e = .returned (.slice rA0 (Codec.encInt n).length rc0) ∧ Z.Own Z.Ty.byte 5 w.heap.size w' Z.no rA0 rc0 (Codec.encInt n) ∧ Z.Ch [] w w' := by
  refine Z.enter Try.func26 rfl Try.ntmps26 (Nat.le_of_ble_eq_true rfl) fun a hf => ?_
  replace hf : Z.Fr a 52 [] [(0, .int .i64 n)] := hf
  have hn' := hn; unfold Codec.okInt at hn'
  refine Z.seq' (Z.Pq.body _ _ _) fun Q1 hp2 hn3 he4 => ?_
  refine Z.reg ?_
  refine Z.val hf rfl (Z.r_assign (hf.eval rfl)) ?_; clear hf a; intro a hf
  refine Z.done ?_
  refine hn3 _ _ ?_
  replace hf : Z.Fr a 52 [] [(0, .int .i64 n)] := hf.keep [0]
  refine Z.seq' (Z.Pq.body _ _ _) fun Q5 hp6 hn7 he8 => ?_
  refine Z.block' hp6 fun Q9 hp10 hn11 hx12 he13 => ?_
  refine Z.seq' hp10 fun Q14 hp15 hn16 he17 => ?_
  refine Z.reg ?_
  refine Z.val hf rfl (Z.r_move (hf.eval rfl)) ?_; clear hf a; intro a hf
  refine Z.val hf rfl (Z.r_geq (hf.eval rfl) (hf.eval rfl)) ?_; clear hf a; intro a hf
  refine Z.val hf rfl (Z.r_move (hf.eval rfl)) ?_; clear hf a; intro a hf
  by_cases hdec : 0 ≤ n <;> revert hdec
  · intro hp18
    replace hf := hf.setb (d := 9) (b' := true) rfl (decide_eq_true hp18)
    refine Z.on hf rfl rfl ?_
    refine Z.val hf rfl (Z.r_move (hf.eval rfl)) ?_; clear hf a; intro a hf
    refine Z.on hf rfl rfl ?_
    refine Z.val hf rfl (Z.r_lss (hf.eval rfl) (hf.eval rfl)) ?_; clear hf a; intro a hf
    refine Z.val hf rfl (Z.r_pick_t (hf.eval rfl) (hf.eval rfl)) ?_; clear hf a; intro a hf
    refine Z.val hf rfl (Z.r_assign (hf.eval rfl)) ?_; clear hf a; intro a hf
    refine Z.done ?_
    refine hn16 _ _ ?_
    replace hf : Z.Fr a 52 [] [(0, .int .i64 n), (6, .bool (decide (n < 100)))] := hf.keep [0, 6]
    refine Z.condp hf rfl ?_ ?_
    · intro hp19
      refine Z.seq' hp10 fun Q20 hp21 hn22 he23 => ?_
      refine Z.reg ?_
      refine Z.val hf rfl (Z.r_move (hf.eval rfl)) ?_; clear hf a; intro a hf
      refine Z.val hf rfl (Z.r_add64 (hf.eval rfl) (hf.eval rfl) (by omega)) ?_; clear hf a; intro a hf
      refine Z.val hf rfl (Z.r_convb (u := (100 + n).toNat) Try.underlying2 Try.underlying5 (hf.eval rfl) (by omega)) ?_; clear hf a; intro a hf
      refine Z.st_bslice hf rfl Try.underlying40 Try.sizeOf5 Try.zeroValue5 (parts := [(0, .tmp 15)]) (cs := [.int .u8 ((UInt8.ofNat (100 + n).toNat).toNat : Int)]) rfl rfl rfl (by kernel_rfl) ?_; clear hf a; intro g24 w25 a hg26 hz27 hb28 hc29 hf
      have ho30 : Z.Own Z.Ty.byte 5 g24 w25 Z.no (some ⟨g24, 0, none⟩) 1 ([(UInt8.ofNat (100 + n).toNat)] : List UInt8) := Z.Own.made (t := Z.Ty.byte) (xs := ([(UInt8.ofNat (100 + n).toNat)] : List UInt8)) hb28 (Nat.le_refl _) rfl (by simp [maxLen]) (by simp [Value.oneCell']) (fun i x hi => by match i, hi with | 0, hi => (injection hi with hi; subst hi; exact (show _ = _ from rfl)) | (j + 1), hi => simp at hi)
      refine Z.val hf rfl (Z.r_assign (hf.eval rfl)) ?_; clear hf a; intro a hf
      refine Z.done ?_
      refine hn22 _ _ ?_
      replace hf : Z.Fr a 52 [] [(2, .slice (some ⟨g24, 0, none⟩) 1 1)] := hf.keep [2]
      refine wp_ret ?_
      refine he13 _ _ _ (by simp) (by simp) ?_
      refine he8 _ _ _ (by simp) ?_
      have ho31 := (ho30).base (B' := w.heap.size) (by omega)
      have hxs32 : ([(UInt8.ofNat (100 + n).toNat)] : List UInt8) = (Codec.encInt n : List UInt8) := by exact (Codec.enc_one n (by omega) (by omega)).symm
      have ho33 := hxs32 ▸ ho31
      replace hf := hf.setv (d := 2) (y := .slice (some ⟨g24, 0, none⟩) ((Codec.encInt n).length) 1) rfl (by rw [← hxs32] <;> first | done | rfl)
      refine Z.ret1 hf Try.results26 rfl ?_
      exact ⟨some ⟨g24, 0, none⟩, 1, rfl, ho33, hc29⟩
    · intro hp34
      refine Z.seq' hp10 fun Q35 hp36 hn37 he38 => ?_
      refine Z.reg ?_
      refine Z.val hf rfl (Z.r_move (hf.eval rfl)) ?_; clear hf a; intro a hf
      refine Z.val hf rfl (Z.r_lss (hf.eval rfl) (hf.eval rfl)) ?_; clear hf a; intro a hf
      refine Z.val hf rfl (Z.r_move (hf.eval rfl)) ?_; clear hf a; intro a hf
      by_cases hdec : n < 0 <;> revert hdec
      · intro hp39
        exfalso; omega
      · intro hp40
        replace hf := hf.setb (d := 20) (b' := false) rfl (decide_eq_false hp40)
        refine Z.off hf rfl rfl rfl (by simp) ?_; clear hf a; intro a hf
        refine Z.off hf rfl rfl rfl (by simp) ?_; clear hf a; intro a hf
        refine Z.val hf rfl (Z.r_pick_f (hf.eval rfl) (hf.eval rfl)) ?_; clear hf a; intro a hf
        refine Z.val hf rfl (Z.r_assign (hf.eval rfl)) ?_; clear hf a; intro a hf
        refine Z.done ?_
        refine hn37 _ _ ?_
        replace hf : Z.Fr a 52 [] [(0, .int .i64 n), (17, .bool false)] := hf.keep [0, 17]
        refine Z.condf hf rfl ?_
        refine wp_skip ?_
        refine hn11 _ _ ?_
        refine hn7 _ _ ?_
        replace hf : Z.Fr a 52 [] [(0, .int .i64 n)] := hf.keep [0]
        refine Z.seq' (Z.Pq.body _ _ _) fun Q41 hp42 hn43 he44 => ?_
        refine Z.reg ?_
        refine Z.val hf rfl (Z.r_move (hf.eval rfl)) ?_; clear hf a; intro a hf
        refine Z.val hf rfl (Z.r_conv Try.underlying2 Try.underlying104 (hf.eval rfl)) ?_; clear hf a; intro a hf
        refine Z.val hf rfl (Z.r_assign (hf.eval rfl)) ?_; clear hf a; intro a hf
        refine Z.val hf rfl (Z.r_assign (hf.eval rfl)) ?_; clear hf a; intro a hf
        refine Z.done ?_
        refine hn43 _ _ ?_
        replace hf : Z.Fr a 52 [] [(0, .int .i64 n), (3, .int .u8 199), (4, .int .u64 (IntKind.u64.wrap n))] := hf.keep [0, 3, 4]
        refine Z.seq' (Z.Pq.body _ _ _) fun Q45 hp46 hn47 he48 => ?_
        refine Z.seq' hp46 fun Q49 hp50 hn51 he52 => ?_
        refine Z.reg ?_
        refine Z.val hf rfl (Z.r_move (hf.eval rfl)) ?_; clear hf a; intro a hf
        refine Z.val hf rfl (Z.r_lss (hf.eval rfl) (hf.eval rfl)) ?_; clear hf a; intro a hf
        refine Z.done ?_
        refine hn51 _ _ ?_
        replace hf : Z.Fr a 52 [] [(0, .int .i64 n), (3, .int .u8 199), (4, .int .u64 (IntKind.u64.wrap n)), (31, .bool (decide (n < 0)))] := hf.keep [0, 3, 4, 31]
        refine Z.condp hf rfl ?_ ?_
        · intro hp53
          exfalso; omega
        · intro hp54
          refine wp_skip ?_
          refine hn47 _ _ ?_
          replace hf : Z.Fr a 52 [] [(3, .int .u8 199), (4, .int .u64 (IntKind.u64.wrap n))] := hf.keep [3, 4]
          refine Z.seq' (Z.Pq.body _ _ _) fun Q55 hp56 hn57 he58 => ?_
          refine Z.reg ?_
          refine Z.val hf rfl (Z.r_assign (hf.eval rfl)) ?_; clear hf a; intro a hf
          refine Z.done ?_
          refine hn57 _ _ ?_
          replace hf : Z.Fr a 52 [] [(3, .int .u8 199), (4, .int .u64 (IntKind.u64.wrap n)), (5, .slice none 0 0)] := hf.keep [3, 4, 5]
          refine Z.seq' (Z.Pq.body _ _ _) fun Q59 hp60 hn61 he62 => ?_
          refine Z.block' hp60 fun Q63 hp64 hn65 hx66 he67 => ?_
          refine Z.loop' hp64 (fun m a wl => ∃ (f : Nat), ∃ (u : Nat), ∃ (bs : List UInt8), ∃ (lA0 : Option Addr), ∃ (lc0 : Nat), m = u ∧ Z.Ch [] w wl ∧ Z.Own Z.Ty.byte 5 w.heap.size wl Z.no lA0 lc0 bs ∧ Codec.be 8 n.toNat = Codec.be f u ++ bs ∧ u < 256 ^ f ∧ bs.length + f = 8 ∧ Z.Fr a 52 [] [(3, .int .u8 199), (4, .int .u64 (u : Int)), (5, .slice lA0 bs.length lc0)]) (n.toNat) ?_ ?_
          · replace hf := hf.setv (d := 4) (y := .int .u64 (n.toNat : Int)) rfl (congrArg (Value.int .u64) (by first | rfl | omega | (rw [Z.u64_in _ (by omega)]; omega) | (simp; done) | (simp; omega)))
            have hxs68 : ([] : List UInt8) = ([] : List UInt8) := by first | rfl | simp
            have ho69 := hxs68 ▸ (Z.Own.nil Z.Ty.byte 5 w.heap.size w Z.no)
            replace hf := hf.setv (d := 5) (y := .slice none ([].length) 0) rfl (by rw [← hxs68] <;> first | done | rfl)
            replace hf : Z.Fr a 52 [] [(3, .int .u8 199), (4, .int .u64 (n.toNat : Int)), (5, .slice none ([].length) 0)] := hf.keep [3, 4, 5]
            exact ⟨8, n.toNat, [], none, 0, rfl, (Z.Ch.refl w), ho69, (by simp), (by unfold Codec.okInt at hn; have : (256 : Nat) ^ 8 = 18446744073709551616 := (by decide); omega), (by simp), hf⟩
          · rintro m86 a w70 ⟨f73, u74, bs75, A80, c81, hm72, hc71, ho82, hN83, hu84, hl85, hf⟩ Q76 hp77 hn78 he79
            have hzhc71 := hc71.size
            refine Z.seq' hp77 fun Q87 hp88 hn89 he90 => ?_
            refine Z.seq' hp88 fun Q91 hp92 hn93 he94 => ?_
            refine Z.reg ?_
            refine Z.val hf rfl (Z.r_move (hf.eval rfl)) ?_; clear hf a; intro a hf
            refine Z.val hf rfl (Z.r_gtr (hf.eval rfl) (hf.eval rfl)) ?_; clear hf a; intro a hf
            refine Z.done ?_
            refine hn93 _ _ ?_
            replace hf : Z.Fr a 52 [] [(3, .int .u8 199), (4, .int .u64 (u74 : Int)), (5, .slice A80 bs75.length c81), (36, .bool (decide (0 < (u74 : Int))))] := hf.keep [3, 4, 5, 36]
            refine Z.condp hf rfl ?_ ?_
            · intro hp95
              refine wp_skip ?_
              refine hn89 _ _ ?_
              replace hf : Z.Fr a 52 [] [(3, .int .u8 199), (4, .int .u64 (u74 : Int)), (5, .slice A80 bs75.length c81)] := hf.keep [3, 4, 5]
              refine Z.seq' hp77 fun Q96 hp97 hn98 he99 => ?_
              refine Z.block' hp97 fun Q100 hp101 hn102 hx103 he104 => ?_
              refine Z.reg ?_
              refine Z.val hf rfl (Z.r_move (hf.eval rfl)) ?_; clear hf a; intro a hf
              refine Z.val hf rfl (Z.r_convb (u := u74) Try.underlying104 Try.underlying5 (hf.eval rfl) (by omega)) ?_; clear hf a; intro a hf
              refine Z.st_bslice hf rfl Try.underlying40 Try.sizeOf5 Try.zeroValue5 (parts := [(0, .tmp 40)]) (cs := [.int .u8 ((UInt8.ofNat u74).toNat : Int)]) rfl rfl rfl (by kernel_rfl) ?_; clear hf a; intro g105 w106 a hg107 hz108 hb109 hc110 hf
              have ho111 : Z.Own Z.Ty.byte 5 g105 w106 Z.no (some ⟨g105, 0, none⟩) 1 ([(UInt8.ofNat u74)] : List UInt8) := Z.Own.made (t := Z.Ty.byte) (xs := ([(UInt8.ofNat u74)] : List UInt8)) hb109 (Nat.le_refl _) rfl (by simp [maxLen]) (by simp [Value.oneCell']) (fun i x hi => by match i, hi with | 0, hi => (injection hi with hi; subst hi; exact (show _ = _ from rfl)) | (j + 1), hi => simp at hi)
              refine Z.val hf rfl (Z.r_move (hf.eval rfl)) ?_; clear hf a; intro a hf
              have hr112 := ho82.riv
              have hr113 : (Z.Ty.slice Z.Ty.byte).rep w106 (Z.iv (w.heap.size) w70.heap.size) [.slice A80 bs75.length c81] bs75 := Z.rep_to hr112 hc110 (by intro b h1 h2; (try simp only [Z.nt, Z.iv, Z.no, Z.ol, List.mem_cons, List.not_mem_nil, or_false, not_or, not_false_eq_true] at h1); (try simp only [Z.nt, Z.iv, Z.no, Z.ol, List.mem_cons, List.mem_append, List.not_mem_nil, or_false, not_or, not_false_eq_true, true_and, and_true]) <;> omega)
              refine Z.st_append_flat (t := Z.Ty.byte) hf rfl Try.underlying40 inf5.1 inf5.2.1 inf5.2.2.1 inf5.2.2.2.1 inf5.2.2.2.2 (by decide) (by decide) rfl rfl (by first | rfl | omega) ho111 rfl hr113 (by first | omega | (simp only [List.length_cons, List.length_nil, List.length_append]; omega) | (simp; done))  (by omega) ?_; clear hf a; intro A114 c115 w116 a ho117 hc118 hcas119 hf
              replace hc118 : Z.Ch [g105] w106 w116 := hc118
              have hzhc118 := hc118.size
              have hob120 : ∀ k, k ∈ Z.obl A114 → k = g105 ∨ k = w106.heap.size := fun k hk => by rcases hcas119 k hk with h | h; (left; simpa [Z.obl] using h); (right; exact h)
              refine Z.val hf rfl (Z.r_assign (hf.eval rfl)) ?_; clear hf a; intro a hf
              refine Z.done ?_
              refine hn102 _ _ ?_
              refine hn98 _ _ ?_
              replace hf : Z.Fr a 52 [] [(3, .int .u8 199), (4, .int .u64 (u74 : Int)), (5, .slice A114 ((([(UInt8.ofNat u74)] : List UInt8) ++ bs75).length) c115)] := hf.keep [3, 4, 5]
              refine Z.reg ?_
              refine Z.val hf rfl (Z.r_move (hf.eval rfl)) ?_; clear hf a; intro a hf
              refine Z.val hf rfl (Z.r_shr (hf.eval rfl) (hf.eval rfl) (by omega) (by omega)) ?_; clear hf a; intro a hf
              refine Z.val hf rfl (Z.r_assign (hf.eval rfl)) ?_; clear hf a; intro a hf
              refine Z.done ?_
              obtain ⟨f', rfl⟩ : ∃ f', f73 = f' + 1 := ⟨f73 - 1, by rcases f73 with _ | f73; (simp at hu84; omega); omega⟩
              refine hn78 ((u74 / 256)) _ _ ?_ ?_
              rotate_left
              replace hf := hf.setv (d := 4) (y := .int .u64 ((u74 / 256 : Nat) : Int)) rfl (congrArg (Value.int .u64) (by first | rfl | omega | (rw [Z.u64_in _ (by omega)]; omega) | (simp; done) | (simp; omega)))
              have ho122 := (ho117).base (B' := w.heap.size) (by omega)
              have hxs123 : ([(UInt8.ofNat u74)] : List UInt8) ++ bs75 = ((UInt8.ofNat u74 :: bs75) : List UInt8) := by first | rfl | simp
              have ho124 := hxs123 ▸ ho122
              replace hf := hf.setv (d := 5) (y := .slice A114 ((UInt8.ofNat u74 :: bs75).length) c115) rfl (by rw [← hxs123] <;> first | done | rfl)
              have hq125 : Z.Ch [] w w106 := hc71.then hc110 (by simp) (by simp)
              have hq126 : Z.Ch [g105] w w116 := hq125.then hc118 (by simp) (by simp)
              replace hf : Z.Fr a 52 [] [(3, .int .u8 199), (4, .int .u64 ((u74 / 256 : Nat) : Int)), (5, .slice A114 ((UInt8.ofNat u74 :: bs75).length) c115)] := hf.keep [3, 4, 5]
              exact ⟨f', u74 / 256, UInt8.ofNat u74 :: bs75, A114, c115, rfl, (hq126.mono (by simp only [List.mem_cons, List.mem_append, List.not_mem_nil, or_false]; intro k hk; omega)), ho124, (by rw [hN83, Codec.be_step _ _ (by omega)]; simp), (by rw [Nat.pow_succ] at hu84; omega), (by simp only [List.length_cons]; omega), hf⟩
              rw [hm72]; omega
            · intro hp127
              refine wp_exit ?_
              refine he90 _ _ _ (by simp) ?_
              refine he79 _ _ _ (by simp) ?_
              refine hx66 _ _ ?_
              refine hn61 _ _ ?_
              replace hf : Z.Fr a 52 [] [(3, .int .u8 199), (5, .slice A80 bs75.length c81)] := hf.keep [3, 5]
              refine Z.seq' (Z.Pq.body _ _ _) fun Q128 hp129 hn130 he131 => ?_
              refine Z.reg ?_
              refine Z.val hf rfl (Z.r_move (hf.eval rfl)) ?_; clear hf a; intro a hf
              refine Z.val hf rfl (Z.r_move (hf.eval rfl)) ?_; clear hf a; intro a hf
              refine Z.val hf rfl (Z.r_len Try.underlying40 (hf.eval rfl)) ?_; clear hf a; intro a hf
              refine Z.val hf rfl (Z.r_convb (u := bs75.length) Try.underlying3 Try.underlying5 (hf.eval rfl) (by omega)) ?_; clear hf a; intro a hf
              refine Z.val hf rfl (Z.r_addb (u := (199 + ((UInt8.ofNat bs75.length).toNat))) (hf.eval rfl) (hf.eval rfl) (by first | rfl | omega)) ?_; clear hf a; intro a hf
              refine Z.st_bslice hf rfl Try.underlying40 Try.sizeOf5 Try.zeroValue5 (parts := [(0, .tmp 48)]) (cs := [.int .u8 ((UInt8.ofNat (199 + ((UInt8.ofNat bs75.length).toNat))).toNat : Int)]) rfl rfl rfl (by kernel_rfl) ?_; clear hf a; intro g132 w133 a hg134 hz135 hb136 hc137 hf
              have ho138 : Z.Own Z.Ty.byte 5 g132 w133 Z.no (some ⟨g132, 0, none⟩) 1 ([(UInt8.ofNat (199 + ((UInt8.ofNat bs75.length).toNat)))] : List UInt8) := Z.Own.made (t := Z.Ty.byte) (xs := ([(UInt8.ofNat (199 + ((UInt8.ofNat bs75.length).toNat)))] : List UInt8)) hb136 (Nat.le_refl _) rfl (by simp [maxLen]) (by simp [Value.oneCell']) (fun i x hi => by match i, hi with | 0, hi => (injection hi with hi; subst hi; exact (show _ = _ from rfl)) | (j + 1), hi => simp at hi)
              refine Z.val hf rfl (Z.r_move (hf.eval rfl)) ?_; clear hf a; intro a hf
              have hr139 := ho82.riv
              have hr140 : (Z.Ty.slice Z.Ty.byte).rep w133 (Z.iv (w.heap.size) w70.heap.size) [.slice A80 bs75.length c81] bs75 := Z.rep_to hr139 hc137 (by intro b h1 h2; (try simp only [Z.nt, Z.iv, Z.no, Z.ol, List.mem_cons, List.not_mem_nil, or_false, not_or, not_false_eq_true] at h1); (try simp only [Z.nt, Z.iv, Z.no, Z.ol, List.mem_cons, List.mem_append, List.not_mem_nil, or_false, not_or, not_false_eq_true, true_and, and_true]) <;> omega)
              refine Z.st_append_flat (t := Z.Ty.byte) hf rfl Try.underlying40 inf5.1 inf5.2.1 inf5.2.2.1 inf5.2.2.2.1 inf5.2.2.2.2 (by decide) (by decide) rfl rfl (by first | rfl | omega) ho138 rfl hr140 (by first | omega | (simp only [List.length_cons, List.length_nil, List.length_append]; omega) | (simp; done))  (by omega) ?_; clear hf a; intro A141 c142 w143 a ho144 hc145 hcas146 hf
              replace hc145 : Z.Ch [g132] w133 w143 := hc145
              have hzhc145 := hc145.size
              have hob147 : ∀ k, k ∈ Z.obl A141 → k = g132 ∨ k = w133.heap.size := fun k hk => by rcases hcas146 k hk with h | h; (left; simpa [Z.obl] using h); (right; exact h)
              refine Z.val hf rfl (Z.r_assign (hf.eval rfl)) ?_; clear hf a; intro a hf
              refine Z.done ?_
              refine hn130 _ _ ?_
              replace hf : Z.Fr a 52 [] [(2, .slice A141 ((([(UInt8.ofNat (199 + ((UInt8.ofNat bs75.length).toNat)))] : List UInt8) ++ bs75).length) c142)] := hf.keep [2]
              refine wp_ret ?_
              have ho149 := (ho144).base (B' := w.heap.size) (by omega)
              have hxs150 : ([(UInt8.ofNat (199 + ((UInt8.ofNat bs75.length).toNat)))] : List UInt8) ++ bs75 = (Codec.encInt n : List UInt8) := by have hz : u74 = 0 := (by omega); rw [hz, Codec.be_zero] at hN83; exact Codec.enc_up n (by omega) _ hN83 (by omega)
              have ho151 := hxs150 ▸ ho149
              replace hf := hf.setv (d := 2) (y := .slice A141 ((Codec.encInt n).length) c142) rfl (by rw [← hxs150] <;> first | done | rfl)
              have hq152 : Z.Ch [] w w133 := hc71.then hc137 (by simp) (by simp)
              have hq153 : Z.Ch [g132] w w143 := hq152.then hc145 (by simp) (by simp)
              refine Z.ret1 hf Try.results26 rfl ?_
              exact ⟨A141, c142, rfl, ho151, (Z.Ch.mono hq153 (by intro k hk; (try simp only [List.mem_cons, List.mem_append, List.not_mem_nil, or_false] at hk ⊢); omega))⟩
  · intro hp154
    replace hf := hf.setb (d := 9) (b' := false) rfl (decide_eq_false hp154)
    refine Z.off hf rfl rfl rfl (by simp) ?_; clear hf a; intro a hf
    refine Z.off hf rfl rfl rfl (by simp) ?_; clear hf a; intro a hf
    refine Z.val hf rfl (Z.r_pick_f (hf.eval rfl) (hf.eval rfl)) ?_; clear hf a; intro a hf
    refine Z.val hf rfl (Z.r_assign (hf.eval rfl)) ?_; clear hf a; intro a hf
    refine Z.done ?_
    refine hn16 _ _ ?_
    replace hf : Z.Fr a 52 [] [(0, .int .i64 n), (6, .bool false)] := hf.keep [0, 6]
    refine Z.condf hf rfl ?_
    refine Z.seq' hp10 fun Q155 hp156 hn157 he158 => ?_
    refine Z.reg ?_
    refine Z.val hf rfl (Z.r_move (hf.eval rfl)) ?_; clear hf a; intro a hf
    refine Z.val hf rfl (Z.r_lss (hf.eval rfl) (hf.eval rfl)) ?_; clear hf a; intro a hf
    refine Z.val hf rfl (Z.r_move (hf.eval rfl)) ?_; clear hf a; intro a hf
    by_cases hdec : n < 0 <;> revert hdec
    · intro hp159
      replace hf := hf.setb (d := 20) (b' := true) rfl (decide_eq_true hp159)
      refine Z.on hf rfl rfl ?_
      refine Z.val hf rfl (Z.r_move (hf.eval rfl)) ?_; clear hf a; intro a hf
      refine Z.on hf rfl rfl ?_
      refine Z.val hf rfl (Z.r_geq (hf.eval rfl) (hf.eval rfl)) ?_; clear hf a; intro a hf
      refine Z.val hf rfl (Z.r_pick_t (hf.eval rfl) (hf.eval rfl)) ?_; clear hf a; intro a hf
      refine Z.val hf rfl (Z.r_assign (hf.eval rfl)) ?_; clear hf a; intro a hf
      refine Z.done ?_
      refine hn157 _ _ ?_
      replace hf : Z.Fr a 52 [] [(0, .int .i64 n), (17, .bool (decide (-50 ≤ n)))] := hf.keep [0, 17]
      refine Z.condp hf rfl ?_ ?_
      · intro hp160
        refine Z.seq' hp10 fun Q161 hp162 hn163 he164 => ?_
        refine Z.reg ?_
        refine Z.val hf rfl (Z.r_move (hf.eval rfl)) ?_; clear hf a; intro a hf
        refine Z.val hf rfl (Z.r_add64 (hf.eval rfl) (hf.eval rfl) (by omega)) ?_; clear hf a; intro a hf
        refine Z.val hf rfl (Z.r_convb (u := (50 + n).toNat) Try.underlying2 Try.underlying5 (hf.eval rfl) (by omega)) ?_; clear hf a; intro a hf
        refine Z.st_bslice hf rfl Try.underlying40 Try.sizeOf5 Try.zeroValue5 (parts := [(0, .tmp 26)]) (cs := [.int .u8 ((UInt8.ofNat (50 + n).toNat).toNat : Int)]) rfl rfl rfl (by kernel_rfl) ?_; clear hf a; intro g165 w166 a hg167 hz168 hb169 hc170 hf
        have ho171 : Z.Own Z.Ty.byte 5 g165 w166 Z.no (some ⟨g165, 0, none⟩) 1 ([(UInt8.ofNat (50 + n).toNat)] : List UInt8) := Z.Own.made (t := Z.Ty.byte) (xs := ([(UInt8.ofNat (50 + n).toNat)] : List UInt8)) hb169 (Nat.le_refl _) rfl (by simp [maxLen]) (by simp [Value.oneCell']) (fun i x hi => by match i, hi with | 0, hi => (injection hi with hi; subst hi; exact (show _ = _ from rfl)) | (j + 1), hi => simp at hi)
        refine Z.val hf rfl (Z.r_assign (hf.eval rfl)) ?_; clear hf a; intro a hf
        refine Z.done ?_
        refine hn163 _ _ ?_
        replace hf : Z.Fr a 52 [] [(2, .slice (some ⟨g165, 0, none⟩) 1 1)] := hf.keep [2]
        refine wp_ret ?_
        refine he13 _ _ _ (by simp) (by simp) ?_
        refine he8 _ _ _ (by simp) ?_
        have ho172 := (ho171).base (B' := w.heap.size) (by omega)
        have hxs173 : ([(UInt8.ofNat (50 + n).toNat)] : List UInt8) = (Codec.encInt n : List UInt8) := by exact (Codec.enc_low n (by omega) (by omega)).symm
        have ho174 := hxs173 ▸ ho172
        replace hf := hf.setv (d := 2) (y := .slice (some ⟨g165, 0, none⟩) ((Codec.encInt n).length) 1) rfl (by rw [← hxs173] <;> first | done | rfl)
        refine Z.ret1 hf Try.results26 rfl ?_
        exact ⟨some ⟨g165, 0, none⟩, 1, rfl, ho174, hc170⟩
      · intro hp175
        refine wp_skip ?_
        refine hn11 _ _ ?_
        refine hn7 _ _ ?_
        replace hf : Z.Fr a 52 [] [(0, .int .i64 n)] := hf.keep [0]
        refine Z.seq' (Z.Pq.body _ _ _) fun Q176 hp177 hn178 he179 => ?_
        refine Z.reg ?_
        refine Z.val hf rfl (Z.r_move (hf.eval rfl)) ?_; clear hf a; intro a hf
        refine Z.val hf rfl (Z.r_conv Try.underlying2 Try.underlying104 (hf.eval rfl)) ?_; clear hf a; intro a hf
        refine Z.val hf rfl (Z.r_assign (hf.eval rfl)) ?_; clear hf a; intro a hf
        refine Z.val hf rfl (Z.r_assign (hf.eval rfl)) ?_; clear hf a; intro a hf
        refine Z.done ?_
        refine hn178 _ _ ?_
        replace hf : Z.Fr a 52 [] [(0, .int .i64 n), (3, .int .u8 199), (4, .int .u64 (IntKind.u64.wrap n))] := hf.keep [0, 3, 4]
        refine Z.seq' (Z.Pq.body _ _ _) fun Q180 hp181 hn182 he183 => ?_
        refine Z.seq' hp181 fun Q184 hp185 hn186 he187 => ?_
        refine Z.reg ?_
        refine Z.val hf rfl (Z.r_move (hf.eval rfl)) ?_; clear hf a; intro a hf
        refine Z.val hf rfl (Z.r_lss (hf.eval rfl) (hf.eval rfl)) ?_; clear hf a; intro a hf
        refine Z.done ?_
        refine hn186 _ _ ?_
        replace hf : Z.Fr a 52 [] [(0, .int .i64 n), (3, .int .u8 199), (4, .int .u64 (IntKind.u64.wrap n)), (31, .bool (decide (n < 0)))] := hf.keep [0, 3, 4, 31]
        refine Z.condp hf rfl ?_ ?_
        · intro hp188
          refine Z.reg ?_
          refine Z.val hf rfl (Z.r_move (hf.eval rfl)) ?_; clear hf a; intro a hf
          refine Z.val hf rfl (Z.r_sub64 (hf.eval rfl) (hf.eval rfl) (by omega)) ?_; clear hf a; intro a hf
          refine Z.val hf rfl (Z.r_convw Try.underlying2 Try.underlying104 (hf.eval rfl) (Z.u64_in _ (by omega))) ?_; clear hf a; intro a hf
          refine Z.val hf rfl (Z.r_assign (hf.eval rfl)) ?_; clear hf a; intro a hf
          refine Z.val hf rfl (Z.r_assign (hf.eval rfl)) ?_; clear hf a; intro a hf
          refine Z.done ?_
          refine hn182 _ _ ?_
          replace hf : Z.Fr a 52 [] [(3, .int .u8 207), (4, .int .u64 (-1 - n))] := hf.keep [3, 4]
          refine Z.seq' (Z.Pq.body _ _ _) fun Q189 hp190 hn191 he192 => ?_
          refine Z.reg ?_
          refine Z.val hf rfl (Z.r_assign (hf.eval rfl)) ?_; clear hf a; intro a hf
          refine Z.done ?_
          refine hn191 _ _ ?_
          replace hf : Z.Fr a 52 [] [(3, .int .u8 207), (4, .int .u64 (-1 - n)), (5, .slice none 0 0)] := hf.keep [3, 4, 5]
          refine Z.seq' (Z.Pq.body _ _ _) fun Q193 hp194 hn195 he196 => ?_
          refine Z.block' hp194 fun Q197 hp198 hn199 hx200 he201 => ?_
          refine Z.loop' hp198 (fun m a wl => ∃ (f : Nat), ∃ (u : Nat), ∃ (bs : List UInt8), ∃ (lA0 : Option Addr), ∃ (lc0 : Nat), m = u ∧ Z.Ch [] w wl ∧ Z.Own Z.Ty.byte 5 w.heap.size wl Z.no lA0 lc0 bs ∧ Codec.be 8 (-1 - n).toNat = Codec.be f u ++ bs ∧ u < 256 ^ f ∧ bs.length + f = 8 ∧ Z.Fr a 52 [] [(3, .int .u8 207), (4, .int .u64 (u : Int)), (5, .slice lA0 bs.length lc0)]) (((-1 - n).toNat)) ?_ ?_
          · replace hf := hf.setv (d := 4) (y := .int .u64 (((-1 - n).toNat : Nat) : Int)) rfl (congrArg (Value.int .u64) (by first | rfl | omega | (rw [Z.u64_in _ (by omega)]; omega) | (simp; done) | (simp; omega)))
            have hxs202 : ([] : List UInt8) = ([] : List UInt8) := by first | rfl | simp
            have ho203 := hxs202 ▸ (Z.Own.nil Z.Ty.byte 5 w.heap.size w Z.no)
            replace hf := hf.setv (d := 5) (y := .slice none ([].length) 0) rfl (by rw [← hxs202] <;> first | done | rfl)
            replace hf : Z.Fr a 52 [] [(3, .int .u8 207), (4, .int .u64 (((-1 - n).toNat : Nat) : Int)), (5, .slice none ([].length) 0)] := hf.keep [3, 4, 5]
            exact ⟨8, (-1 - n).toNat, [], none, 0, rfl, (Z.Ch.refl w), ho203, (by simp), (by unfold Codec.okInt at hn; have : (256 : Nat) ^ 8 = 18446744073709551616 := (by decide); omega), (by simp), hf⟩
          · rintro m220 a w204 ⟨f207, u208, bs209, A214, c215, hm206, hc205, ho216, hN217, hu218, hl219, hf⟩ Q210 hp211 hn212 he213
            have hzhc205 := hc205.size
            refine Z.seq' hp211 fun Q221 hp222 hn223 he224 => ?_
            refine Z.seq' hp222 fun Q225 hp226 hn227 he228 => ?_
            refine Z.reg ?_
            refine Z.val hf rfl (Z.r_move (hf.eval rfl)) ?_; clear hf a; intro a hf
            refine Z.val hf rfl (Z.r_gtr (hf.eval rfl) (hf.eval rfl)) ?_; clear hf a; intro a hf
            refine Z.done ?_
            refine hn227 _ _ ?_
            replace hf : Z.Fr a 52 [] [(3, .int .u8 207), (4, .int .u64 (u208 : Int)), (5, .slice A214 bs209.length c215), (36, .bool (decide (0 < (u208 : Int))))] := hf.keep [3, 4, 5, 36]
            refine Z.condp hf rfl ?_ ?_
            · intro hp229
              refine wp_skip ?_
              refine hn223 _ _ ?_
              replace hf : Z.Fr a 52 [] [(3, .int .u8 207), (4, .int .u64 (u208 : Int)), (5, .slice A214 bs209.length c215)] := hf.keep [3, 4, 5]
              refine Z.seq' hp211 fun Q230 hp231 hn232 he233 => ?_
              refine Z.block' hp231 fun Q234 hp235 hn236 hx237 he238 => ?_
              refine Z.reg ?_
              refine Z.val hf rfl (Z.r_move (hf.eval rfl)) ?_; clear hf a; intro a hf
              refine Z.val hf rfl (Z.r_convb (u := u208) Try.underlying104 Try.underlying5 (hf.eval rfl) (by omega)) ?_; clear hf a; intro a hf
              refine Z.st_bslice hf rfl Try.underlying40 Try.sizeOf5 Try.zeroValue5 (parts := [(0, .tmp 40)]) (cs := [.int .u8 ((UInt8.ofNat u208).toNat : Int)]) rfl rfl rfl (by kernel_rfl) ?_; clear hf a; intro g239 w240 a hg241 hz242 hb243 hc244 hf
              have ho245 : Z.Own Z.Ty.byte 5 g239 w240 Z.no (some ⟨g239, 0, none⟩) 1 ([(UInt8.ofNat u208)] : List UInt8) := Z.Own.made (t := Z.Ty.byte) (xs := ([(UInt8.ofNat u208)] : List UInt8)) hb243 (Nat.le_refl _) rfl (by simp [maxLen]) (by simp [Value.oneCell']) (fun i x hi => by match i, hi with | 0, hi => (injection hi with hi; subst hi; exact (show _ = _ from rfl)) | (j + 1), hi => simp at hi)
              refine Z.val hf rfl (Z.r_move (hf.eval rfl)) ?_; clear hf a; intro a hf
              have hr246 := ho216.riv
              have hr247 : (Z.Ty.slice Z.Ty.byte).rep w240 (Z.iv (w.heap.size) w204.heap.size) [.slice A214 bs209.length c215] bs209 := Z.rep_to hr246 hc244 (by intro b h1 h2; (try simp only [Z.nt, Z.iv, Z.no, Z.ol, List.mem_cons, List.not_mem_nil, or_false, not_or, not_false_eq_true] at h1); (try simp only [Z.nt, Z.iv, Z.no, Z.ol, List.mem_cons, List.mem_append, List.not_mem_nil, or_false, not_or, not_false_eq_true, true_and, and_true]) <;> omega)
              refine Z.st_append_flat (t := Z.Ty.byte) hf rfl Try.underlying40 inf5.1 inf5.2.1 inf5.2.2.1 inf5.2.2.2.1 inf5.2.2.2.2 (by decide) (by decide) rfl rfl (by first | rfl | omega) ho245 rfl hr247 (by first | omega | (simp only [List.length_cons, List.length_nil, List.length_append]; omega) | (simp; done))  (by omega) ?_; clear hf a; intro A248 c249 w250 a ho251 hc252 hcas253 hf
              replace hc252 : Z.Ch [g239] w240 w250 := hc252
              have hzhc252 := hc252.size
              have hob254 : ∀ k, k ∈ Z.obl A248 → k = g239 ∨ k = w240.heap.size := fun k hk => by rcases hcas253 k hk with h | h; (left; simpa [Z.obl] using h); (right; exact h)
              refine Z.val hf rfl (Z.r_assign (hf.eval rfl)) ?_; clear hf a; intro a hf
              refine Z.done ?_
              refine hn236 _ _ ?_
              refine hn232 _ _ ?_
              replace hf : Z.Fr a 52 [] [(3, .int .u8 207), (4, .int .u64 (u208 : Int)), (5, .slice A248 ((([(UInt8.ofNat u208)] : List UInt8) ++ bs209).length) c249)] := hf.keep [3, 4, 5]
              refine Z.reg ?_
              refine Z.val hf rfl (Z.r_move (hf.eval rfl)) ?_; clear hf a; intro a hf
              refine Z.val hf rfl (Z.r_shr (hf.eval rfl) (hf.eval rfl) (by omega) (by omega)) ?_; clear hf a; intro a hf
              refine Z.val hf rfl (Z.r_assign (hf.eval rfl)) ?_; clear hf a; intro a hf
              refine Z.done ?_
              obtain ⟨f', rfl⟩ : ∃ f', f207 = f' + 1 := ⟨f207 - 1, by rcases f207 with _ | f207; (simp at hu218; omega); omega⟩
              refine hn212 ((u208 / 256)) _ _ ?_ ?_
              rotate_left
              replace hf := hf.setv (d := 4) (y := .int .u64 ((u208 / 256 : Nat) : Int)) rfl (congrArg (Value.int .u64) (by first | rfl | omega | (rw [Z.u64_in _ (by omega)]; omega) | (simp; done) | (simp; omega)))
              have ho256 := (ho251).base (B' := w.heap.size) (by omega)
              have hxs257 : ([(UInt8.ofNat u208)] : List UInt8) ++ bs209 = ((UInt8.ofNat u208 :: bs209) : List UInt8) := by first | rfl | simp
              have ho258 := hxs257 ▸ ho256
              replace hf := hf.setv (d := 5) (y := .slice A248 ((UInt8.ofNat u208 :: bs209).length) c249) rfl (by rw [← hxs257] <;> first | done | rfl)
              have hq259 : Z.Ch [] w w240 := hc205.then hc244 (by simp) (by simp)
              have hq260 : Z.Ch [g239] w w250 := hq259.then hc252 (by simp) (by simp)
              replace hf : Z.Fr a 52 [] [(3, .int .u8 207), (4, .int .u64 ((u208 / 256 : Nat) : Int)), (5, .slice A248 ((UInt8.ofNat u208 :: bs209).length) c249)] := hf.keep [3, 4, 5]
              exact ⟨f', u208 / 256, UInt8.ofNat u208 :: bs209, A248, c249, rfl, (hq260.mono (by simp only [List.mem_cons, List.mem_append, List.not_mem_nil, or_false]; intro k hk; omega)), ho258, (by rw [hN217, Codec.be_step _ _ (by omega)]; simp), (by rw [Nat.pow_succ] at hu218; omega), (by simp only [List.length_cons]; omega), hf⟩
              rw [hm206]; omega
            · intro hp261
              refine wp_exit ?_
              refine he224 _ _ _ (by simp) ?_
              refine he213 _ _ _ (by simp) ?_
              refine hx200 _ _ ?_
              refine hn195 _ _ ?_
              replace hf : Z.Fr a 52 [] [(3, .int .u8 207), (5, .slice A214 bs209.length c215)] := hf.keep [3, 5]
              refine Z.seq' (Z.Pq.body _ _ _) fun Q262 hp263 hn264 he265 => ?_
              refine Z.reg ?_
              refine Z.val hf rfl (Z.r_move (hf.eval rfl)) ?_; clear hf a; intro a hf
              refine Z.val hf rfl (Z.r_move (hf.eval rfl)) ?_; clear hf a; intro a hf
              refine Z.val hf rfl (Z.r_len Try.underlying40 (hf.eval rfl)) ?_; clear hf a; intro a hf
              refine Z.val hf rfl (Z.r_convb (u := bs209.length) Try.underlying3 Try.underlying5 (hf.eval rfl) (by omega)) ?_; clear hf a; intro a hf
              refine Z.val hf rfl (Z.r_addb (u := (207 + ((UInt8.ofNat bs209.length).toNat))) (hf.eval rfl) (hf.eval rfl) (by first | rfl | omega)) ?_; clear hf a; intro a hf
              refine Z.st_bslice hf rfl Try.underlying40 Try.sizeOf5 Try.zeroValue5 (parts := [(0, .tmp 48)]) (cs := [.int .u8 ((UInt8.ofNat (207 + ((UInt8.ofNat bs209.length).toNat))).toNat : Int)]) rfl rfl rfl (by kernel_rfl) ?_; clear hf a; intro g266 w267 a hg268 hz269 hb270 hc271 hf
              have ho272 : Z.Own Z.Ty.byte 5 g266 w267 Z.no (some ⟨g266, 0, none⟩) 1 ([(UInt8.ofNat (207 + ((UInt8.ofNat bs209.length).toNat)))] : List UInt8) := Z.Own.made (t := Z.Ty.byte) (xs := ([(UInt8.ofNat (207 + ((UInt8.ofNat bs209.length).toNat)))] : List UInt8)) hb270 (Nat.le_refl _) rfl (by simp [maxLen]) (by simp [Value.oneCell']) (fun i x hi => by match i, hi with | 0, hi => (injection hi with hi; subst hi; exact (show _ = _ from rfl)) | (j + 1), hi => simp at hi)
              refine Z.val hf rfl (Z.r_move (hf.eval rfl)) ?_; clear hf a; intro a hf
              have hr273 := ho216.riv
              have hr274 : (Z.Ty.slice Z.Ty.byte).rep w267 (Z.iv (w.heap.size) w204.heap.size) [.slice A214 bs209.length c215] bs209 := Z.rep_to hr273 hc271 (by intro b h1 h2; (try simp only [Z.nt, Z.iv, Z.no, Z.ol, List.mem_cons, List.not_mem_nil, or_false, not_or, not_false_eq_true] at h1); (try simp only [Z.nt, Z.iv, Z.no, Z.ol, List.mem_cons, List.mem_append, List.not_mem_nil, or_false, not_or, not_false_eq_true, true_and, and_true]) <;> omega)
              refine Z.st_append_flat (t := Z.Ty.byte) hf rfl Try.underlying40 inf5.1 inf5.2.1 inf5.2.2.1 inf5.2.2.2.1 inf5.2.2.2.2 (by decide) (by decide) rfl rfl (by first | rfl | omega) ho272 rfl hr274 (by first | omega | (simp only [List.length_cons, List.length_nil, List.length_append]; omega) | (simp; done))  (by omega) ?_; clear hf a; intro A275 c276 w277 a ho278 hc279 hcas280 hf
              replace hc279 : Z.Ch [g266] w267 w277 := hc279
              have hzhc279 := hc279.size
              have hob281 : ∀ k, k ∈ Z.obl A275 → k = g266 ∨ k = w267.heap.size := fun k hk => by rcases hcas280 k hk with h | h; (left; simpa [Z.obl] using h); (right; exact h)
              refine Z.val hf rfl (Z.r_assign (hf.eval rfl)) ?_; clear hf a; intro a hf
              refine Z.done ?_
              refine hn264 _ _ ?_
              replace hf : Z.Fr a 52 [] [(2, .slice A275 ((([(UInt8.ofNat (207 + ((UInt8.ofNat bs209.length).toNat)))] : List UInt8) ++ bs209).length) c276)] := hf.keep [2]
              refine wp_ret ?_
              have ho283 := (ho278).base (B' := w.heap.size) (by omega)
              have hxs284 : ([(UInt8.ofNat (207 + ((UInt8.ofNat bs209.length).toNat)))] : List UInt8) ++ bs209 = (Codec.encInt n : List UInt8) := by have hz : u208 = 0 := (by omega); rw [hz, Codec.be_zero] at hN217; exact Codec.enc_dn n (by omega) _ hN217 (by omega)
              have ho285 := hxs284 ▸ ho283
              replace hf := hf.setv (d := 2) (y := .slice A275 ((Codec.encInt n).length) c276) rfl (by rw [← hxs284] <;> first | done | rfl)
              have hq286 : Z.Ch [] w w267 := hc205.then hc271 (by simp) (by simp)
              have hq287 : Z.Ch [g266] w w277 := hq286.then hc279 (by simp) (by simp)
              refine Z.ret1 hf Try.results26 rfl ?_
              exact ⟨A275, c276, rfl, ho285, (Z.Ch.mono hq287 (by intro k hk; (try simp only [List.mem_cons, List.mem_append, List.not_mem_nil, or_false] at hk ⊢); omega))⟩
        · intro hp288
          exfalso; omega
    · intro hp289
      exfalso; omega

set_option maxHeartbeats 400000 in
set_option maxRecDepth 20000 in
theorem Join_spec (xss : List (List UInt8)) (w : World) (pA0 : Option Addr) (pc0 : Nat) (ph0 : (Z.Ty.slice (Z.Ty.slice Z.Ty.byte)).rep w (Z.nt []) [.slice pA0 xss.length pc0] xss) (hlen : xss.flatten.length ≤ 70368744177664) :
    Calls Try.prog 47 #[.slice pA0 xss.length pc0, .slice none 0 0] w fun e w' => ∃ (rA0 : Option Addr) (rc0 : Nat), e = .returned (.slice rA0 xss.flatten.length rc0) ∧ (Z.Ty.slice Z.Ty.byte).rep w' (Z.iv w.heap.size w'.heap.size) [.slice rA0 xss.flatten.length rc0] xss.flatten ∧ Z.Ch [] w w' := by
  refine Z.enter Try.func47 rfl Try.ntmps47 (Nat.le_of_ble_eq_true rfl) fun a hf => ?_
  replace hf : Z.Fr a 92 [] [(0, .slice pA0 xss.length pc0), (1, .slice none 0 0)] := hf
  have hle_pA0 := Z.rep_le ph0
  have ph0o := Z.rep_ol ph0
  refine Z.seq' (Z.Pq.body _ _ _) fun Q1 hp2 hn3 he4 => ?_
  refine Z.reg ?_
  refine Z.val hf rfl (Z.r_assign (hf.eval rfl)) ?_; clear hf a; intro a hf
  refine Z.done ?_
  refine hn3 _ _ ?_
  replace hf : Z.Fr a 92 [] [(0, .slice pA0 xss.length pc0), (1, .slice none 0 0)] := hf.keep [0, 1]
  refine Z.seq' (Z.Pq.body _ _ _) fun Q5 hp6 hn7 he8 => ?_
  refine Z.seq' hp6 fun Q9 hp10 hn11 he12 => ?_
  refine Z.reg ?_
  refine Z.val hf rfl (Z.r_move (hf.eval rfl)) ?_; clear hf a; intro a hf
  refine Z.val hf rfl (Z.r_len Try.underlying46 (hf.eval rfl)) ?_; clear hf a; intro a hf
  refine Z.val hf rfl (Z.r_eql (hf.eval rfl) (hf.eval rfl)) ?_; clear hf a; intro a hf
  refine Z.done ?_
  refine hn11 _ _ ?_
  replace hf : Z.Fr a 92 [] [(0, .slice pA0 xss.length pc0), (1, .slice none 0 0), (14, .bool (decide ((xss.length : Int) = 0)))] := hf.keep [0, 1, 14]
  refine Z.condp hf rfl ?_ ?_
  · intro hp13
    refine Z.seq' hp6 fun Q14 hp15 hn16 he17 => ?_
    refine Z.reg ?_
    refine Z.st_bslice0 hf rfl Try.underlying40 Try.sizeOf5 ?_; clear hf a; intro g18 w19 a hg20 hz21 hb22 hc23 hf
    have ho24 : Z.Own Z.Ty.byte 5 g18 w19 Z.no (some ⟨g18, 0, none⟩) 0 ([] : List UInt8) := Z.Own.made (t := Z.Ty.byte) (xs := ([] : List UInt8)) hb22 (Nat.le_refl _) rfl (by simp [maxLen]) (by simp [Value.oneCell']) (fun i x hi => by match i, hi with  | (j + 0), hi => simp at hi)
    refine Z.val hf rfl (Z.r_assign (hf.eval rfl)) ?_; clear hf a; intro a hf
    refine Z.done ?_
    refine hn16 _ _ ?_
    replace hf : Z.Fr a 92 [] [(4, .slice (some ⟨g18, 0, none⟩) 0 0)] := hf.keep [4]
    refine wp_ret ?_
    refine he8 _ _ _ (by simp) ?_
    have hr25 := ho24.riv
    have hr26 : (Z.Ty.slice Z.Ty.byte).rep w19 (Z.iv w.heap.size w19.heap.size) [.slice (some ⟨g18, 0, none⟩) 0 0] ([] : List UInt8) := Z.rep_as hr25 (by intro b h1 h2; (try simp only [Z.nt, Z.iv, Z.no, Z.ol] at h1); (try simp only [Z.iv]); omega)
    have hxs27 : ([] : List UInt8) = (xss.flatten : List UInt8) := by have : xss = [] := List.eq_nil_of_length_eq_zero (by omega); rw [this]; simp
    have hr28 := Z.rep_eq hr26 hxs27
    replace hf := hf.setv (d := 4) (y := .slice (some ⟨g18, 0, none⟩) xss.flatten.length 0) rfl (by rw [← hxs27] <;> first | done | rfl)
    refine Z.ret1 hf Try.results47 rfl ?_
    exact ⟨some ⟨g18, 0, none⟩, 0, rfl, hr28, hc23⟩
  · intro hp29
    refine wp_skip ?_
    refine hn7 _ _ ?_
    replace hf : Z.Fr a 92 [] [(0, .slice pA0 xss.length pc0), (1, .slice none 0 0)] := hf.keep [0, 1]
    refine Z.seq' (Z.Pq.body _ _ _) fun Q30 hp31 hn32 he33 => ?_
    refine Z.seq' hp31 fun Q34 hp35 hn36 he37 => ?_
    refine Z.reg ?_
    refine Z.val hf rfl (Z.r_move (hf.eval rfl)) ?_; clear hf a; intro a hf
    refine Z.val hf rfl (Z.r_len Try.underlying46 (hf.eval rfl)) ?_; clear hf a; intro a hf
    refine Z.val hf rfl (Z.r_eql (hf.eval rfl) (hf.eval rfl)) ?_; clear hf a; intro a hf
    refine Z.done ?_
    refine hn36 _ _ ?_
    replace hf : Z.Fr a 92 [] [(0, .slice pA0 xss.length pc0), (1, .slice none 0 0), (18, .bool (decide ((xss.length : Int) = 1)))] := hf.keep [0, 1, 18]
    refine Z.condp hf rfl ?_ ?_
    · intro hp38
      refine Z.seq' hp31 fun Q39 hp40 hn41 he42 => ?_
      refine Z.reg ?_
      refine Z.val hf rfl (Z.r_move (hf.eval rfl)) ?_; clear hf a; intro a hf
      have hkx45 : 0 < (xss).length := (by omega)
      obtain ⟨ad43, es44, x45, hA46, hF47, hl48, hx49, hc50, hr51⟩ := Z.rep_el ph0o hkx45
      have hok52 := Z.rep_ok _ hr51
      obtain ⟨A53, c54, he55, hn56, hn57⟩ := Z.rep_slice hr51
      rw [he55] at hr51
      have hle_A53 := Z.rep_le hr51
      have he58 : es44 = [.slice A53 x45.length c54] := by simp only [he55, List.cons_append, List.nil_append]
      rw [he58] at hc50
      have hfl59 := Codec.flat_take hx49
      refine Z.val hf rfl (Z.r_indexAddrE Try.underlying46 Try.sizeOf40 (hf.eval rfl) hA46 (hf.eval rfl) (k := 0) (by first | rfl | omega) (by omega)) ?_; clear hf a; intro a hf
      refine Z.val hf rfl (Z.r_loadE1 Try.isAgg40 (hf.eval rfl) hc50 rfl) ?_; clear hf a; intro a hf
      refine Z.st_append_flat (t := Z.Ty.byte) hf rfl Try.underlying40 inf5.1 inf5.2.1 inf5.2.2.1 inf5.2.2.2.1 inf5.2.2.2.2 (by decide) (by decide) rfl rfl (by first | rfl | omega) (Z.Own.nil Z.Ty.byte 5 w.heap.size w Z.no) rfl hr51 (by first | omega | (simp only [List.length_cons, List.length_nil, List.length_append]; omega) | (simp; done))  (by omega) ?_; clear hf a; intro A60 c61 w62 a ho63 hc64 hcas65 hf
      replace hc64 : Z.Ch [] w w62 := hc64
      have hzhc64 := hc64.size
      have hob66 : ∀ k, k ∈ Z.obl A60 → k = w.heap.size := fun k hk => by rcases hcas65 k hk with h | h; cases h; exact h
      refine Z.val hf rfl (Z.r_assign (hf.eval rfl)) ?_; clear hf a; intro a hf
      refine Z.done ?_
      refine hn41 _ _ ?_
      replace hf : Z.Fr a 92 [] [(4, .slice A60 ((([] : List UInt8) ++ x45).length) c61)] := hf.keep [4]
      refine wp_ret ?_
      refine he33 _ _ _ (by simp) ?_
      have hr68 := ho63.riv
      have hr69 : (Z.Ty.slice Z.Ty.byte).rep w62 (Z.iv w.heap.size w62.heap.size) [.slice A60 ((([] : List UInt8) ++ x45).length) c61] (([] : List UInt8) ++ x45) := Z.rep_as hr68 (by intro b h1 h2; (try simp only [Z.nt, Z.iv, Z.no, Z.ol] at h1); (try simp only [Z.iv]); omega)
      have hxs70 : ([] : List UInt8) ++ x45 = (xss.flatten : List UInt8) := by rw [← Codec.flat_all (xs := xss) (k := 1) (by omega)]; simp_all
      have hr71 := Z.rep_eq hr69 hxs70
      replace hf := hf.setv (d := 4) (y := .slice A60 xss.flatten.length c61) rfl (by rw [← hxs70] <;> first | done | rfl)
      refine Z.ret1 hf Try.results47 rfl ?_
      exact ⟨A60, c61, rfl, hr71, hc64⟩
    · intro hp72
      refine wp_skip ?_
      refine hn32 _ _ ?_
      replace hf : Z.Fr a 92 [] [(0, .slice pA0 xss.length pc0), (1, .slice none 0 0)] := hf.keep [0, 1]
      refine Z.seq' (Z.Pq.body _ _ _) fun Q73 hp74 hn75 he76 => ?_
      refine Z.reg ?_
      refine Z.val hf rfl (Z.r_assign (hf.eval rfl)) ?_; clear hf a; intro a hf
      refine Z.done ?_
      refine hn75 _ _ ?_
      replace hf : Z.Fr a 92 [] [(0, .slice pA0 xss.length pc0), (1, .slice none 0 0), (5, .int .i64 0)] := hf.keep [0, 1, 5]
      refine Z.seq' (Z.Pq.body _ _ _) fun Q77 hp78 hn79 he80 => ?_
      refine Z.seq' hp78 fun Q81 hp82 hn83 he84 => ?_
      refine Z.reg ?_
      refine Z.val hf rfl (Z.r_move (hf.eval rfl)) ?_; clear hf a; intro a hf
      refine Z.val hf rfl (Z.r_len Try.underlying40 (hf.eval rfl)) ?_; clear hf a; intro a hf
      refine Z.val hf rfl (Z.r_gtr (hf.eval rfl) (hf.eval rfl)) ?_; clear hf a; intro a hf
      refine Z.done ?_
      refine hn83 _ _ ?_
      replace hf : Z.Fr a 92 [] [(0, .slice pA0 xss.length pc0), (1, .slice none 0 0), (5, .int .i64 0), (25, .bool (decide (0 < (0 : Int))))] := hf.keep [0, 1, 5, 25]
      refine Z.condp hf rfl ?_ ?_
      · intro hp85
        exfalso; omega
      · intro hp86
        refine wp_skip ?_
        refine hn79 _ _ ?_
        replace hf : Z.Fr a 92 [] [(0, .slice pA0 xss.length pc0), (1, .slice none 0 0), (5, .int .i64 0)] := hf.keep [0, 1, 5]
        refine Z.seq' (Z.Pq.body _ _ _) fun Q87 hp88 hn89 he90 => ?_
        refine Z.seq' hp88 fun Q91 hp92 hn93 he94 => ?_
        refine Z.reg ?_
        refine Z.val hf rfl (Z.r_move (hf.eval rfl)) ?_; clear hf a; intro a hf
        refine Z.val hf rfl (Z.r_len Try.underlying46 (hf.eval rfl)) ?_; clear hf a; intro a hf
        refine Z.val hf rfl (Z.r_move (hf.eval rfl)) ?_; clear hf a; intro a hf
        refine Z.done ?_
        refine hn93 _ _ ?_
        replace hf : Z.Fr a 92 [] [(0, .slice pA0 xss.length pc0), (1, .slice none 0 0), (5, .int .i64 0), (42, .slice pA0 xss.length pc0), (43, .int .i64 (xss.length : Int)), (44, .int .i64 0)] := hf.keep [0, 1, 5, 42, 43, 44]
        refine Z.block' hp88 fun Q95 hp96 hn97 hx98 he99 => ?_
        refine Z.loop' hp96 (fun m a wl => ∃ (k : Nat), m = xss.length - k ∧ Z.Ch [] w wl ∧ k ≤ xss.length ∧ (xss.take k).flatten.length ≤ xss.flatten.length ∧ Z.Fr a 92 [] [(0, .slice pA0 xss.length pc0), (1, .slice none 0 0), (5, .int .i64 ((xss.take k).flatten.length : Int)), (42, .slice pA0 xss.length pc0), (43, .int .i64 (xss.length : Int)), (44, .int .i64 (k : Int))]) (xss.length - 0) ?_ ?_
        · replace hf := hf.setv (d := 5) (y := .int .i64 ((xss.take 0).flatten.length : Int)) rfl (congrArg (Value.int .i64) (by first | rfl | omega | (simp only [List.length_append, List.length_nil, List.take_zero, List.flatten_nil] at *; omega) | (simp; done) | (simp; omega)))
          replace hf := hf.setv (d := 44) (y := .int .i64 (0 : Int)) rfl (congrArg (Value.int .i64) (by first | rfl | omega | (simp only [List.length_append, List.length_nil, List.take_zero, List.flatten_nil] at *; omega) | (simp; done) | (simp; omega)))
          replace hf : Z.Fr a 92 [] [(0, .slice pA0 xss.length pc0), (1, .slice none 0 0), (5, .int .i64 ((xss.take 0).flatten.length : Int)), (42, .slice pA0 xss.length pc0), (43, .int .i64 (xss.length : Int)), (44, .int .i64 (0 : Int))] := hf.keep [0, 1, 5, 42, 43, 44]
          exact ⟨0, rfl, (Z.Ch.refl w), (by omega), (by exact Codec.flat_le _ _), hf⟩
        · rintro m110 a w100 ⟨k103, hm102, hc101, hk108, hle109, hf⟩ Q104 hp105 hn106 he107
          have hzhc101 := hc101.size
          refine Z.seq' hp105 fun Q111 hp112 hn113 he114 => ?_
          refine Z.reg ?_
          refine Z.val hf rfl (Z.r_lss (hf.eval rfl) (hf.eval rfl)) ?_; clear hf a; intro a hf
          refine Z.done ?_
          refine hn113 _ _ ?_
          replace hf : Z.Fr a 92 [] [(0, .slice pA0 xss.length pc0), (1, .slice none 0 0), (5, .int .i64 ((xss.take k103).flatten.length : Int)), (42, .slice pA0 xss.length pc0), (43, .int .i64 (xss.length : Int)), (44, .int .i64 (k103 : Int)), (45, .bool (decide ((k103 : Int) < (xss.length : Int))))] := hf.keep [0, 1, 5, 42, 43, 44, 45]
          refine Z.seq' hp105 fun Q115 hp116 hn117 he118 => ?_
          refine Z.condp hf rfl ?_ ?_
          · intro hp119
            refine wp_skip ?_
            refine hn117 _ _ ?_
            replace hf : Z.Fr a 92 [] [(0, .slice pA0 xss.length pc0), (1, .slice none 0 0), (5, .int .i64 ((xss.take k103).flatten.length : Int)), (42, .slice pA0 xss.length pc0), (43, .int .i64 (xss.length : Int)), (44, .int .i64 (k103 : Int))] := hf.keep [0, 1, 5, 42, 43, 44]
            refine Z.seq' hp105 fun Q120 hp121 hn122 he123 => ?_
            refine Z.block' hp121 fun Q124 hp125 hn126 hx127 he128 => ?_
            refine Z.seq' hp125 fun Q129 hp130 hn131 he132 => ?_
            refine Z.reg ?_
            have hr133 : (Z.Ty.slice (Z.Ty.slice Z.Ty.byte)).rep w100 (Z.ol [] w.heap.size) [.slice pA0 xss.length pc0] xss := Z.rep_to ph0o hc101 (by intro b h1 h2; (try simp only [Z.nt, Z.iv, Z.no, Z.ol, List.mem_cons, List.not_mem_nil, or_false, not_or, not_false_eq_true] at h1); (try simp only [Z.nt, Z.iv, Z.no, Z.ol, List.mem_cons, List.mem_append, List.not_mem_nil, or_false, not_or, not_false_eq_true, true_and, and_true]) <;> omega)
            have hkx136 : k103 < (xss).length := (by omega)
            obtain ⟨ad134, es135, x136, hA137, hF138, hl139, hx140, hc141, hr142⟩ := Z.rep_el hr133 hkx136
            have hok143 := Z.rep_ok _ hr142
            obtain ⟨A144, c145, he146, hn147, hn148⟩ := Z.rep_slice hr142
            rw [he146] at hr142
            have hle_A144 := Z.rep_le hr142
            have he149 : es135 = [.slice A144 x136.length c145] := by simp only [he146, List.cons_append, List.nil_append]
            rw [he149] at hc141
            have hfl150 := Codec.flat_take hx140
            refine Z.val hf rfl (Z.r_indexAddrE Try.underlying46 Try.sizeOf40 (hf.eval rfl) hA137 (hf.eval rfl) (k := k103) (by first | rfl | omega) (by omega)) ?_; clear hf a; intro a hf
            refine Z.val hf rfl (Z.r_loadE1 Try.isAgg40 (hf.eval rfl) hc141 rfl) ?_; clear hf a; intro a hf
            refine Z.val hf rfl (Z.r_assign (hf.eval rfl)) ?_; clear hf a; intro a hf
            refine Z.done ?_
            refine hn131 _ _ ?_
            replace hf : Z.Fr a 92 [] [(0, .slice pA0 xss.length pc0), (1, .slice none 0 0), (5, .int .i64 ((xss.take k103).flatten.length : Int)), (7, .slice A144 x136.length c145), (42, .slice pA0 xss.length pc0), (43, .int .i64 (xss.length : Int)), (44, .int .i64 (k103 : Int))] := hf.keep [0, 1, 5, 7, 42, 43, 44]
            refine Z.seq' hp125 fun Q151 hp152 hn153 he154 => ?_
            refine Z.seq' hp152 fun Q155 hp156 hn157 he158 => ?_
            refine Z.reg ?_
            refine Z.val hf rfl (Z.r_move (hf.eval rfl)) ?_; clear hf a; intro a hf
            refine Z.val hf rfl (Z.r_len Try.underlying40 (hf.eval rfl)) ?_; clear hf a; intro a hf
            refine Z.val hf rfl (Z.r_move (hf.eval rfl)) ?_; clear hf a; intro a hf
            refine Z.val hf rfl (Z.r_sub64 (hf.eval rfl) (hf.eval rfl) (by omega)) ?_; clear hf a; intro a hf
            refine Z.val hf rfl (Z.r_gtr (hf.eval rfl) (hf.eval rfl)) ?_; clear hf a; intro a hf
            refine Z.done ?_
            refine hn157 _ _ ?_
            replace hf : Z.Fr a 92 [] [(0, .slice pA0 xss.length pc0), (1, .slice none 0 0), (5, .int .i64 ((xss.take k103).flatten.length : Int)), (7, .slice A144 x136.length c145), (42, .slice pA0 xss.length pc0), (43, .int .i64 (xss.length : Int)), (44, .int .i64 (k103 : Int)), (52, .bool (decide (9223372036854775807 - ((xss.take k103).flatten.length : Int) < (x136.length : Int))))] := hf.keep [0, 1, 5, 7, 42, 43, 44, 52]
            refine Z.condp hf rfl ?_ ?_
            · intro hp159
              exfalso; omega
            · intro hp160
              refine wp_skip ?_
              refine hn153 _ _ ?_
              replace hf : Z.Fr a 92 [] [(0, .slice pA0 xss.length pc0), (1, .slice none 0 0), (5, .int .i64 ((xss.take k103).flatten.length : Int)), (7, .slice A144 x136.length c145), (42, .slice pA0 xss.length pc0), (43, .int .i64 (xss.length : Int)), (44, .int .i64 (k103 : Int))] := hf.keep [0, 1, 5, 7, 42, 43, 44]
              refine Z.reg ?_
              refine Z.val hf rfl (Z.r_move (hf.eval rfl)) ?_; clear hf a; intro a hf
              refine Z.val hf rfl (Z.r_move (hf.eval rfl)) ?_; clear hf a; intro a hf
              refine Z.val hf rfl (Z.r_len Try.underlying40 (hf.eval rfl)) ?_; clear hf a; intro a hf
              refine Z.val hf rfl (Z.r_add64 (hf.eval rfl) (hf.eval rfl) (by omega)) ?_; clear hf a; intro a hf
              refine Z.val hf rfl (Z.r_assign (hf.eval rfl)) ?_; clear hf a; intro a hf
              refine Z.done ?_
              refine hn126 _ _ ?_
              refine hn122 _ _ ?_
              replace hf : Z.Fr a 92 [] [(0, .slice pA0 xss.length pc0), (1, .slice none 0 0), (5, .int .i64 (((xss.take k103).flatten.length : Int) + (x136.length : Int))), (42, .slice pA0 xss.length pc0), (43, .int .i64 (xss.length : Int)), (44, .int .i64 (k103 : Int))] := hf.keep [0, 1, 5, 42, 43, 44]
              refine Z.reg ?_
              refine Z.val hf rfl (Z.r_add64 (hf.eval rfl) (hf.eval rfl) (by omega)) ?_; clear hf a; intro a hf
              refine Z.val hf rfl (Z.r_move (hf.eval rfl)) ?_; clear hf a; intro a hf
              refine Z.done ?_
              refine hn106 (xss.length - (k103 + 1)) _ _ ?_ ?_
              rotate_left
              replace hf := hf.setv (d := 5) (y := .int .i64 ((xss.take (k103 + 1 : Nat)).flatten.length : Int)) rfl (congrArg (Value.int .i64) (by first | rfl | omega | (simp only [List.length_append, List.length_nil, List.take_zero, List.flatten_nil] at *; omega) | (simp; done) | (simp; omega)))
              replace hf := hf.setv (d := 44) (y := .int .i64 ((k103 + 1 : Nat) : Int)) rfl (congrArg (Value.int .i64) (by first | rfl | omega | (simp only [List.length_append, List.length_nil, List.take_zero, List.flatten_nil] at *; omega) | (simp; done) | (simp; omega)))
              replace hf : Z.Fr a 92 [] [(0, .slice pA0 xss.length pc0), (1, .slice none 0 0), (5, .int .i64 ((xss.take (k103 + 1 : Nat)).flatten.length : Int)), (42, .slice pA0 xss.length pc0), (43, .int .i64 (xss.length : Int)), (44, .int .i64 ((k103 + 1 : Nat) : Int))] := hf.keep [0, 1, 5, 42, 43, 44]
              exact ⟨k103 + 1, rfl, hc101, (by omega), (by exact Codec.flat_le _ _), hf⟩
              rw [hm102]; omega
          · intro hp161
            refine wp_exit ?_
            refine he118 _ _ _ (by simp) ?_
            refine he107 _ _ _ (by simp) ?_
            refine hx98 _ _ ?_
            refine hn89 _ _ ?_
            replace hf : Z.Fr a 92 [] [(0, .slice pA0 xss.length pc0), (1, .slice none 0 0), (5, .int .i64 ((xss.take k103).flatten.length : Int))] := hf.keep [0, 1, 5]
            refine Z.seq' (Z.Pq.body _ _ _) fun Q162 hp163 hn164 he165 => ?_
            refine Z.reg ?_
            refine Z.val hf rfl (Z.r_move (hf.eval rfl)) ?_; clear hf a; intro a hf
            have htot : (xss.take k103).flatten.length = xss.flatten.length := by rw [Codec.flat_all (by omega)]
            refine Z.st_nozero (u := ((xss.take k103).flatten.length)) nz60 hf rfl Try.underlying40 rfl (by omega) (by omega) ?_; clear hf a; intro g166 w167 a c168 hg169 hz170 hfb171 hc172 hle173 hle174 hf
            refine Z.val hf rfl (Z.r_move (hf.eval rfl)) ?_; clear hf a; intro a hf
            refine Z.val hf rfl (Z.r_move (hf.eval rfl)) ?_; clear hf a; intro a hf
            refine Z.val hf rfl (Z.r_slice_hm (v := ((xss.take k103).flatten.length)) (m := ((xss.take k103).flatten.length)) Try.underlying40 Try.sizeOf5 (hf.eval rfl) (hf.eval rfl) (hf.eval rfl) (by omega) (by omega) (by omega) (by omega)) ?_; clear hf a; intro a hf
            refine Z.val hf rfl (Z.r_assign (hf.eval rfl)) ?_; clear hf a; intro a hf
            refine Z.done ?_
            refine hn164 _ _ ?_
            replace hf : Z.Fr a 92 [] [(0, .slice pA0 xss.length pc0), (1, .slice none 0 0), (8, .slice (some ⟨g166, 0, none⟩) ((xss.take k103).flatten.length) ((xss.take k103).flatten.length))] := hf.keep [0, 1, 8]
            refine Z.seq' (Z.Pq.body _ _ _) fun Q175 hp176 hn177 he178 => ?_
            refine Z.reg ?_
            refine Z.val hf rfl (Z.r_move (hf.eval rfl)) ?_; clear hf a; intro a hf
            refine Z.val hf rfl (Z.r_move (hf.eval rfl)) ?_; clear hf a; intro a hf
            have hq179 : Z.Ch [] w w167 := hc101.then hc172 (by simp) (by simp)
            have hr180 : (Z.Ty.slice (Z.Ty.slice Z.Ty.byte)).rep w167 (Z.ol [] w.heap.size) [.slice pA0 xss.length pc0] xss := Z.rep_to ph0o hq179 (by intro b h1 h2; (try simp only [Z.nt, Z.iv, Z.no, Z.ol, List.mem_cons, List.not_mem_nil, or_false, not_or, not_false_eq_true] at h1); (try simp only [Z.nt, Z.iv, Z.no, Z.ol, List.mem_cons, List.mem_append, List.not_mem_nil, or_false, not_or, not_false_eq_true, true_and, and_true]) <;> omega)
            have hkx183 : 0 < (xss).length := (by omega)
            obtain ⟨ad181, es182, x183, hA184, hF185, hl186, hx187, hc188, hr189⟩ := Z.rep_el hr180 hkx183
            have hok190 := Z.rep_ok _ hr189
            obtain ⟨A191, c192, he193, hn194, hn195⟩ := Z.rep_slice hr189
            rw [he193] at hr189
            have hle_A191 := Z.rep_le hr189
            have he196 : es182 = [.slice A191 x183.length c192] := by simp only [he193, List.cons_append, List.nil_append]
            rw [he196] at hc188
            have hfl197 := Codec.flat_take hx187
            refine Z.val hf rfl (Z.r_indexAddrE Try.underlying46 Try.sizeOf40 (hf.eval rfl) hA184 (hf.eval rfl) (k := 0) (by first | rfl | omega) (by omega)) ?_; clear hf a; intro a hf
            refine Z.val hf rfl (Z.r_loadE1 Try.isAgg40 (hf.eval rfl) hc188 rfl) ?_; clear hf a; intro a hf
            refine Z.st_copy (g := g166) (u := ((xss.take k103).flatten.length)) (done := ([] : List UInt8)) hf rfl Try.underlying40 inf5.sz rfl (Or.inr rfl) rfl hr189 hfb171 (by first | omega | (simp only [List.length_nil, List.length_append]; omega) | simp) (by first | omega | (simp only [List.length_nil, List.length_append]; omega) | simp) ?_; clear hf a; intro w198 a hfb199 hc200 hz201 hf
            refine Z.val hf rfl (Z.r_assign (hf.eval rfl)) ?_; clear hf a; intro a hf
            refine Z.done ?_
            refine hn177 _ _ ?_
            replace hf : Z.Fr a 92 [] [(0, .slice pA0 xss.length pc0), (1, .slice none 0 0), (8, .slice (some ⟨g166, 0, none⟩) ((xss.take k103).flatten.length) ((xss.take k103).flatten.length)), (9, .int .i64 ((x183).length : Int))] := hf.keep [0, 1, 8, 9]
            refine Z.seq' (Z.Pq.body _ _ _) fun Q202 hp203 hn204 he205 => ?_
            refine Z.seq' hp203 fun Q206 hp207 hn208 he209 => ?_
            refine Z.reg ?_
            refine Z.val hf rfl (Z.r_move (hf.eval rfl)) ?_; clear hf a; intro a hf
            have hq210 : Z.Ch [g166] w w198 := hq179.then hc200 (by simp) (by simp)
            have hr211 : (Z.Ty.slice (Z.Ty.slice Z.Ty.byte)).rep w198 (Z.ol [] w.heap.size) [.slice pA0 xss.length pc0] xss := Z.rep_to ph0o hq210 (by intro b h1 h2; (try simp only [Z.nt, Z.iv, Z.no, Z.ol, List.mem_cons, List.not_mem_nil, or_false, not_or, not_false_eq_true] at h1); (try simp only [Z.nt, Z.iv, Z.no, Z.ol, List.mem_cons, List.mem_append, List.not_mem_nil, or_false, not_or, not_false_eq_true, true_and, and_true]) <;> omega)
            have hl212 := Z.rep_slice_len hr211
            have hr213 := Z.rep_cut0 hr211 1 (by omega)
            have hn214 : (xss.drop 1).length = (xss).length - 1 := by first | rfl | omega | (simp only [List.length_take, List.length_drop]; done) | (simp only [List.length_take, List.length_drop]; omega)
            refine Z.val hf rfl (Z.r_slice_l (u := 1) Try.underlying46 Try.sizeOf40 (hf.eval rfl) (hf.eval rfl) (by omega) (by omega)) ?_; clear hf a; intro a hf
            replace hf := hf.setv (d := 70) (y := .slice (Z.cutA pA0 pc0 1 1) ((xss.drop 1).length) (pc0 - 1)) rfl (Z.slice_n (by first | rfl | omega | (simp only [List.length_take, List.length_drop]; done) | (simp only [List.length_take, List.length_drop]; omega) | (simp; omega)))
            refine Z.val hf rfl (Z.r_len Try.underlying46 (hf.eval rfl)) ?_; clear hf a; intro a hf
            refine Z.val hf rfl (Z.r_move (hf.eval rfl)) ?_; clear hf a; intro a hf
            refine Z.done ?_
            refine hn208 _ _ ?_
            replace hf : Z.Fr a 92 [] [(1, .slice none 0 0), (8, .slice (some ⟨g166, 0, none⟩) ((xss.take k103).flatten.length) ((xss.take k103).flatten.length)), (9, .int .i64 ((x183).length : Int)), (70, .slice (Z.cutA pA0 pc0 1 1) ((xss.drop 1).length) (pc0 - 1)), (71, .int .i64 ((xss.drop 1).length : Int)), (72, .int .i64 0)] := hf.keep [1, 8, 9, 70, 71, 72]
            refine Z.block' hp203 fun Q215 hp216 hn217 hx218 he219 => ?_
            refine Z.loop' hp216 (fun m a wl => ∃ (k : Nat), m = xss.length - k ∧ Z.Ch [g166] w198 wl ∧ Z.FB wl g166 5 ((xss.take k103).flatten.length) ((xss.take (k + 1)).flatten) ∧ k + 1 ≤ xss.length ∧ (xss.take (k + 1)).flatten.length ≤ xss.flatten.length ∧ Z.Fr a 92 [] [(1, .slice none 0 0), (8, .slice (some ⟨g166, 0, none⟩) ((xss.take k103).flatten.length) ((xss.take k103).flatten.length)), (9, .int .i64 ((xss.take (k + 1)).flatten.length : Int)), (70, .slice (Z.cutA pA0 pc0 1 1) ((xss.drop 1).length) (pc0 - 1)), (71, .int .i64 ((xss.drop 1).length : Int)), (72, .int .i64 (k : Int))]) (xss.length - 0) ?_ ?_
            · replace hf := hf.setv (d := 9) (y := .int .i64 ((xss.take (0 + 1)).flatten.length : Int)) rfl (congrArg (Value.int .i64) (by first | rfl | omega | (simp only [List.length_append, List.length_nil, List.take_zero, List.flatten_nil] at *; omega) | (simp; done) | (simp; omega)))
              replace hf := hf.setv (d := 72) (y := .int .i64 (0 : Int)) rfl (congrArg (Value.int .i64) (by first | rfl | omega | (simp only [List.length_append, List.length_nil, List.take_zero, List.flatten_nil] at *; omega) | (simp; done) | (simp; omega)))
              replace hf : Z.Fr a 92 [] [(1, .slice none 0 0), (8, .slice (some ⟨g166, 0, none⟩) ((xss.take k103).flatten.length) ((xss.take k103).flatten.length)), (9, .int .i64 ((xss.take (0 + 1)).flatten.length : Int)), (70, .slice (Z.cutA pA0 pc0 1 1) ((xss.drop 1).length) (pc0 - 1)), (71, .int .i64 ((xss.drop 1).length : Int)), (72, .int .i64 (0 : Int))] := hf.keep [1, 8, 9, 70, 71, 72]
              exact ⟨0, rfl, (Z.Ch.refl' _ _), ((by rw [hfl197.1]; simp : (([] : List UInt8) ++ x183) = (xss.take (0 + 1)).flatten) ▸ hfb199), (by omega), (by exact Codec.flat_le _ _), hf⟩
            · rintro m231 a w220 ⟨k223, hm222, hc221, hfb228, hk229, hle230, hf⟩ Q224 hp225 hn226 he227
              have hzhc221 := hc221.size
              refine Z.seq' hp225 fun Q232 hp233 hn234 he235 => ?_
              refine Z.reg ?_
              refine Z.val hf rfl (Z.r_lss (hf.eval rfl) (hf.eval rfl)) ?_; clear hf a; intro a hf
              refine Z.done ?_
              refine hn234 _ _ ?_
              replace hf : Z.Fr a 92 [] [(1, .slice none 0 0), (8, .slice (some ⟨g166, 0, none⟩) ((xss.take k103).flatten.length) ((xss.take k103).flatten.length)), (9, .int .i64 ((xss.take (k223 + 1)).flatten.length : Int)), (70, .slice (Z.cutA pA0 pc0 1 1) ((xss.drop 1).length) (pc0 - 1)), (71, .int .i64 ((xss.drop 1).length : Int)), (72, .int .i64 (k223 : Int)), (73, .bool (decide ((k223 : Int) < ((xss.drop 1).length : Int))))] := hf.keep [1, 8, 9, 70, 71, 72, 73]
              refine Z.seq' hp225 fun Q236 hp237 hn238 he239 => ?_
              refine Z.condp hf rfl ?_ ?_
              · intro hp240
                refine wp_skip ?_
                refine hn238 _ _ ?_
                replace hf : Z.Fr a 92 [] [(1, .slice none 0 0), (8, .slice (some ⟨g166, 0, none⟩) ((xss.take k103).flatten.length) ((xss.take k103).flatten.length)), (9, .int .i64 ((xss.take (k223 + 1)).flatten.length : Int)), (70, .slice (Z.cutA pA0 pc0 1 1) ((xss.drop 1).length) (pc0 - 1)), (71, .int .i64 ((xss.drop 1).length : Int)), (72, .int .i64 (k223 : Int))] := hf.keep [1, 8, 9, 70, 71, 72]
                refine Z.seq' hp225 fun Q241 hp242 hn243 he244 => ?_
                refine Z.block' hp242 fun Q245 hp246 hn247 hx248 he249 => ?_
                refine Z.seq' hp246 fun Q250 hp251 hn252 he253 => ?_
                refine Z.reg ?_
                have hr254 : (Z.Ty.slice (Z.Ty.slice Z.Ty.byte)).rep w220 (Z.ol [] w.heap.size) [.slice (Z.cutA pA0 pc0 1 1) ((xss.drop 1).length) (pc0 - 1)] (xss.drop 1) := Z.rep_to hr213 hc221 (by intro b h1 h2; (try simp only [Z.nt, Z.iv, Z.no, Z.ol, List.mem_cons, List.not_mem_nil, or_false, not_or, not_false_eq_true] at h1); (try simp only [Z.nt, Z.iv, Z.no, Z.ol, List.mem_cons, List.mem_append, List.not_mem_nil, or_false, not_or, not_false_eq_true, true_and, and_true]) <;> omega)
                have hkx257 : k223 < (xss.drop 1).length := (by omega)
                obtain ⟨ad255, es256, x257, hA258, hF259, hl260, hx261, hc262, hr263⟩ := Z.rep_el hr254 hkx257
                have hok264 := Z.rep_ok _ hr263
                obtain ⟨A265, c266, he267, hn268, hn269⟩ := Z.rep_slice hr263
                rw [he267] at hr263
                have hle_A265 := Z.rep_le hr263
                have he270 : es256 = [.slice A265 x257.length c266] := by simp only [he267, List.cons_append, List.nil_append]
                rw [he270] at hc262
                have hfl271 := Codec.flat_take (xs := xss) (k := k223 + 1) (by have h := hx261; rw [List.getElem?_drop, Nat.add_comm] at h; exact h)
                refine Z.val hf rfl (Z.r_indexAddrE Try.underlying46 Try.sizeOf40 (hf.eval rfl) hA258 (hf.eval rfl) (k := k223) (by first | rfl | omega) (by omega)) ?_; clear hf a; intro a hf
                refine Z.val hf rfl (Z.r_loadE1 Try.isAgg40 (hf.eval rfl) hc262 rfl) ?_; clear hf a; intro a hf
                refine Z.val hf rfl (Z.r_assign (hf.eval rfl)) ?_; clear hf a; intro a hf
                refine Z.done ?_
                refine hn252 _ _ ?_
                replace hf : Z.Fr a 92 [] [(1, .slice none 0 0), (8, .slice (some ⟨g166, 0, none⟩) ((xss.take k103).flatten.length) ((xss.take k103).flatten.length)), (9, .int .i64 ((xss.take (k223 + 1)).flatten.length : Int)), (11, .slice A265 x257.length c266), (70, .slice (Z.cutA pA0 pc0 1 1) ((xss.drop 1).length) (pc0 - 1)), (71, .int .i64 ((xss.drop 1).length : Int)), (72, .int .i64 (k223 : Int))] := hf.keep [1, 8, 9, 11, 70, 71, 72]
                refine Z.seq' hp246 fun Q272 hp273 hn274 he275 => ?_
                refine Z.reg ?_
                refine Z.val hf rfl (Z.r_move (hf.eval rfl)) ?_; clear hf a; intro a hf
                refine Z.val hf rfl (Z.r_move (hf.eval rfl)) ?_; clear hf a; intro a hf
                refine Z.val hf rfl (Z.r_move (hf.eval rfl)) ?_; clear hf a; intro a hf
                refine Z.val hf rfl (Z.r_slice_l (u := ((xss.take (k223 + 1)).flatten.length)) Try.underlying40 Try.sizeOf5 (hf.eval rfl) (hf.eval rfl) (by omega) (by first | omega | (simp only [List.length_nil, List.length_append]; omega) | simp)) ?_; clear hf a; intro a hf
                refine Z.val hf rfl (Z.r_move (hf.eval rfl)) ?_; clear hf a; intro a hf
                have hr276 : (Z.Ty.slice Z.Ty.byte).rep w220 (Z.nt []) [.slice none 0 0] [] := Z.rep_nil _
                refine Z.st_copy (g := g166) (u := ((xss.take k103).flatten.length)) (done := (xss.take (k223 + 1)).flatten) hf rfl Try.underlying40 inf5.sz rfl (by first | exact Or.inl rfl | (left; omega) | (simp only [Z.cutA, Option.map_some, Go.Addr.add_lit]; by_cases hz : ((xss.take k103).flatten.length) = ((xss.take (k223 + 1)).flatten.length); (left; (try simp only [List.length_append, List.length_nil] at *); omega); (right; rw [if_neg hz]; congr 2; (try simp only [List.length_append, List.length_nil] at *); omega))) rfl hr276 hfb228 (by first | omega | (simp only [List.length_nil, List.length_append]; omega) | simp) (by first | omega | (simp only [List.length_nil, List.length_append]; omega) | simp) ?_; clear hf a; intro w277 a hfb278 hc279 hz280 hf
                replace hf := hf.seti (d := 81) (y := 0) rfl rfl
                refine Z.val hf rfl (Z.r_add64 (hf.eval rfl) (hf.eval rfl) (by omega)) ?_; clear hf a; intro a hf
                refine Z.val hf rfl (Z.r_assign (hf.eval rfl)) ?_; clear hf a; intro a hf
                refine Z.done ?_
                refine hn274 _ _ ?_
                replace hf : Z.Fr a 92 [] [(1, .slice none 0 0), (8, .slice (some ⟨g166, 0, none⟩) ((xss.take k103).flatten.length) ((xss.take k103).flatten.length)), (9, .int .i64 (((xss.take (k223 + 1)).flatten.length : Int) + 0)), (11, .slice A265 x257.length c266), (70, .slice (Z.cutA pA0 pc0 1 1) ((xss.drop 1).length) (pc0 - 1)), (71, .int .i64 ((xss.drop 1).length : Int)), (72, .int .i64 (k223 : Int))] := hf.keep [1, 8, 9, 11, 70, 71, 72]
                refine Z.reg ?_
                refine Z.val hf rfl (Z.r_move (hf.eval rfl)) ?_; clear hf a; intro a hf
                refine Z.val hf rfl (Z.r_move (hf.eval rfl)) ?_; clear hf a; intro a hf
                refine Z.val hf rfl (Z.r_move (hf.eval rfl)) ?_; clear hf a; intro a hf
                refine Z.val hf rfl (Z.r_slice_l (u := (((xss.take (k223 + 1)).flatten.length) + 0)) Try.underlying40 Try.sizeOf5 (hf.eval rfl) (hf.eval rfl) (by omega) (by first | omega | (simp only [List.length_nil, List.length_append]; omega) | simp)) ?_; clear hf a; intro a hf
                refine Z.val hf rfl (Z.r_move (hf.eval rfl)) ?_; clear hf a; intro a hf
                have hr281 : (Z.Ty.slice Z.Ty.byte).rep w277 (Z.ol [] w.heap.size) [.slice A265 x257.length c266] x257 := Z.rep_to hr263 hc279 (by intro b h1 h2; (try simp only [Z.nt, Z.iv, Z.no, Z.ol, List.mem_cons, List.not_mem_nil, or_false, not_or, not_false_eq_true] at h1); (try simp only [Z.nt, Z.iv, Z.no, Z.ol, List.mem_cons, List.mem_append, List.not_mem_nil, or_false, not_or, not_false_eq_true, true_and, and_true]) <;> omega)
                refine Z.st_copy (g := g166) (u := ((xss.take k103).flatten.length)) (done := ((xss.take (k223 + 1)).flatten ++ ([] : List UInt8))) hf rfl Try.underlying40 inf5.sz rfl (by first | exact Or.inl rfl | (left; omega) | (simp only [Z.cutA, Option.map_some, Go.Addr.add_lit]; by_cases hz : ((xss.take k103).flatten.length) = (((xss.take (k223 + 1)).flatten.length) + 0); (left; (try simp only [List.length_append, List.length_nil] at *); omega); (right; rw [if_neg hz]; congr 2; (try simp only [List.length_append, List.length_nil] at *); omega))) rfl hr281 hfb278 (by first | omega | (simp only [List.length_nil, List.length_append]; omega) | simp) (by first | omega | (simp only [List.length_nil, List.length_append]; omega) | simp) ?_; clear hf a; intro w282 a hfb283 hc284 hz285 hf
                refine Z.val hf rfl (Z.r_add64 (hf.eval rfl) (hf.eval rfl) (by omega)) ?_; clear hf a; intro a hf
                refine Z.val hf rfl (Z.r_assign (hf.eval rfl)) ?_; clear hf a; intro a hf
                refine Z.done ?_
                refine hn247 _ _ ?_
                refine hn243 _ _ ?_
                replace hf : Z.Fr a 92 [] [(1, .slice none 0 0), (8, .slice (some ⟨g166, 0, none⟩) ((xss.take k103).flatten.length) ((xss.take k103).flatten.length)), (9, .int .i64 (((xss.take (k223 + 1)).flatten.length : Int) + 0 + ((x257).length : Int))), (70, .slice (Z.cutA pA0 pc0 1 1) ((xss.drop 1).length) (pc0 - 1)), (71, .int .i64 ((xss.drop 1).length : Int)), (72, .int .i64 (k223 : Int))] := hf.keep [1, 8, 9, 70, 71, 72]
                refine Z.reg ?_
                refine Z.val hf rfl (Z.r_add64 (hf.eval rfl) (hf.eval rfl) (by omega)) ?_; clear hf a; intro a hf
                refine Z.val hf rfl (Z.r_move (hf.eval rfl)) ?_; clear hf a; intro a hf
                refine Z.done ?_
                refine hn226 (xss.length - (k223 + 1)) _ _ ?_ ?_
                rotate_left
                replace hf := hf.setv (d := 9) (y := .int .i64 ((xss.take ((k223 + 1 : Nat) + 1)).flatten.length : Int)) rfl (congrArg (Value.int .i64) (by first | rfl | omega | (simp only [List.length_append, List.length_nil, List.take_zero, List.flatten_nil] at *; omega) | (simp; done) | (simp; omega)))
                replace hf := hf.setv (d := 72) (y := .int .i64 ((k223 + 1 : Nat) : Int)) rfl (congrArg (Value.int .i64) (by first | rfl | omega | (simp only [List.length_append, List.length_nil, List.take_zero, List.flatten_nil] at *; omega) | (simp; done) | (simp; omega)))
                have hq286 : Z.Ch [g166] w198 w277 := hc221.then hc279 (by simp) (by simp)
                have hq287 : Z.Ch [g166] w198 w282 := hq286.then hc284 (by simp) (by simp)
                replace hf : Z.Fr a 92 [] [(1, .slice none 0 0), (8, .slice (some ⟨g166, 0, none⟩) ((xss.take k103).flatten.length) ((xss.take k103).flatten.length)), (9, .int .i64 ((xss.take ((k223 + 1 : Nat) + 1)).flatten.length : Int)), (70, .slice (Z.cutA pA0 pc0 1 1) ((xss.drop 1).length) (pc0 - 1)), (71, .int .i64 ((xss.drop 1).length : Int)), (72, .int .i64 ((k223 + 1 : Nat) : Int))] := hf.keep [1, 8, 9, 70, 71, 72]
                exact ⟨k223 + 1, rfl, hq287, ((by rw [hfl271.1]; simp : (((xss.take (k223 + 1)).flatten ++ ([] : List UInt8)) ++ x257) = (xss.take ((k223 + 1 : Nat) + 1)).flatten) ▸ hfb283), (by omega), (by exact Codec.flat_le _ _), hf⟩
                rw [hm222]; omega
              · intro hp288
                refine wp_exit ?_
                refine he239 _ _ _ (by simp) ?_
                refine he227 _ _ _ (by simp) ?_
                refine hx218 _ _ ?_
                refine hn204 _ _ ?_
                replace hf : Z.Fr a 92 [] [(8, .slice (some ⟨g166, 0, none⟩) ((xss.take k103).flatten.length) ((xss.take k103).flatten.length))] := hf.keep [8]
                refine Z.seq' (Z.Pq.body _ _ _) fun Q289 hp290 hn291 he292 => ?_
                refine Z.reg ?_
                refine Z.val hf rfl (Z.r_move (hf.eval rfl)) ?_; clear hf a; intro a hf
                refine Z.val hf rfl (Z.r_assign (hf.eval rfl)) ?_; clear hf a; intro a hf
                refine Z.done ?_
                refine hn291 _ _ ?_
                replace hf : Z.Fr a 92 [] [(4, .slice (some ⟨g166, 0, none⟩) ((xss.take k103).flatten.length) ((xss.take k103).flatten.length))] := hf.keep [4]
                refine wp_ret ?_
                have hr293 := Z.FB.rep (F := (Z.iv w.heap.size w220.heap.size)) (c := ((xss.take k103).flatten.length)) hfb228 (by rw [Codec.flat_all (by omega)]; omega) ⟨by omega, by omega⟩ (by omega) (by first | omega | (simp only [maxLen]; omega))
                have hxs294 : (xss.take (k223 + 1)).flatten = (xss.flatten : List UInt8) := by exact Codec.flat_all (by omega)
                have hr295 := Z.rep_eq hr293 hxs294
                replace hf := hf.setv (d := 4) (y := .slice (some ⟨g166, 0, none⟩) xss.flatten.length ((xss.take k103).flatten.length)) rfl (Z.slice_n (by first | rfl | omega))
                have hq296 : Z.Ch [g166] w w220 := hq210.then hc221 (by simp) (by simp)
                refine Z.ret1 hf Try.results47 rfl ?_
                exact ⟨some ⟨g166, 0, none⟩, ((xss.take k103).flatten.length), rfl, hr295, (Z.Ch.mono hq296 (by intro k hk; (try simp only [List.mem_cons, List.mem_append, List.not_mem_nil, or_false] at hk ⊢); omega))⟩

end Go.Proofs.Ytlhpkogdcgebeaa
