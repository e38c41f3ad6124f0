/- Walks: frames are told one by one. -/
import Derived.Test.YtlhpkogdcgebeaaW9
import Derived.Test.YtlhpkogdcgebeaaZo
set_option linter.unusedVariables false
set_option linter.unusedSimpArgs false
set_option synthInstance.maxSize 4000
set_option synthInstance.maxHeartbeats 400000
namespace Go.Proofs.Ytlhpkogdcgebeaa
open Go.RowKit
set_option maxHeartbeats 400000 in
set_option maxRecDepth 20000 in
theorem Frames1_seq (xs : List (List UInt8)) (g : Nat) (hl : ∀ x, x ∈ xs → x.length ≤ 70368744177664) (pA0 : Option Addr) (pc0 : Nat) :
    Z.Seq Try.prog 30 [.pointer (some ⟨g, 0, none⟩)] xs.length (fun k W0 W args => ∃ (x : List UInt8) (A : Option Addr) (c : Nat), xs[k]? = some x ∧ args = [.slice A x.length c] ∧ (Z.Ty.slice Z.Ty.byte).rep W (Z.iv W0.heap.size W.heap.size) [.slice A x.length c] x) (fun W => (Z.Ty.slice (Z.Ty.slice Z.Ty.byte)).rep W (Z.nt []) [.slice pA0 xs.length pc0] xs ∧ Z.Blk W g 46 [.slice pA0 xs.length pc0]) := by
  intro lid w J Jx hJs hXs hdat hJ hY
  refine Z.enter Try.func30 rfl Try.ntmps30 (Nat.le_of_ble_eq_true rfl) fun a hf => ?_
  obtain ⟨ph0, pb1⟩ := hdat _ _ hJ
  have hle_ph0 := Z.rep_le ph0
  have hlt_g := pb1.lt
  refine Z.qseq [.b 0 0, .n, .n] [5, 6, 7] [] [(5, .slice pA0 xs.length pc0), (6, .int .i64 (xs.length : Int)), (7, .int .i64 0)] (Z.kb pb1 Z.k0) hf ?_; clear hf a; intro a hf
  refine Z.block' (Z.Pq.body _ _ _) fun Q1 hp2 hn3 hx4 he5 => ?_
  refine Z.loop' hp2 (fun m a wl => ∃ (k : Nat), m = xs.length - k ∧ J k wl ∧ (k ≤ xs.length) ∧ Z.Fr a 17 [] [(0, .func (.yield lid) #[] #[]), (5, .slice pA0 xs.length pc0), (6, .int .i64 (xs.length : Int)), (7, .int .i64 (k : Int))]) (xs.length - 0) ?_ ?_
  · replace hf := hf.setv (d := 7) (y := .int .i64 (0 : Int)) rfl (congrArg (Value.int .i64) (by first | rfl | omega | (simp; done) | (simp; omega)))
    exact ⟨0, rfl, hJ, (by omega), (hf.keep [0, 5, 6, 7])⟩
  · rintro m15 a w6 ⟨k9, hm8, hc7, hk14, hf⟩ Q10 hp11 hn12 he13
    obtain ⟨ph0, pb1⟩ := hdat _ _ hc7
    refine Z.qseq [.n] [8] [] [(8, .bool (decide ((k9 : Int) < (xs.length : Int))))] Z.k0 hf ?_; clear hf a; intro a hf
    refine Z.seq' hp11 fun Q16 hp17 hn18 he19 => ?_
    refine Z.condp hf rfl ?_ ?_
    · intro hp20
      refine Z.skip ?_
      refine hn18 _ _ ?_
      refine Z.seq' hp11 fun Q21 hp22 hn23 he24 => ?_
      refine Z.block' hp22 fun Q25 hp26 hn27 hx28 he29 => ?_
      refine Z.seq' hp26 fun Q30 hp31 hn32 he33 => ?_
      refine Z.reg ?_
      have hkx36 : k9 < (xs).length := (by omega)
      obtain ⟨ad34, es35, x36, hA37, hF38, hl39, hx40, hc41, hr42⟩ := Z.rep_el ph0 hkx36
      have hok43 := Z.rep_ok _ hr42
      obtain ⟨A44, c45, he46, hn47, hn48⟩ := Z.rep_slice hr42
      rw [he46] at hr42
      have hle_A44 := Z.rep_le hr42
      have he49 : es35 = [.slice A44 x36.length c45] := by simp only [he46, List.cons_append, List.nil_append]
      rw [he49] at hc41
      refine Z.val hf rfl (Z.r_indexAddrE Try.underlying46 Try.sizeOf40 (hf.eval rfl) hA37 (hf.eval rfl) (k := k9) (by first | rfl | omega) (by omega)) ?_; clear hf a; intro a hf
      refine Z.qe [.e 0 0, .n] [4] [] [(4, .slice A44 x36.length c45)] (Z.ke hc41 Z.k0) hf ?_; clear hf a; intro a hf
      refine hn32 _ _ ?_
      refine Z.seq' hp26 fun Q50 hp51 hn52 he53 => ?_
      refine Z.reg ?_
      refine Z.qr [.n, .n] [11, 12] [] [(11, .func (.yield lid) #[] #[]), (12, .slice A44 x36.length c45)] Z.k0 hf ?_; clear hf a; intro a hf
      refine Z.call1 hf rfl (Z.r_call cf31 hf (xs := [.tmp 12]) rfl) (Clone_spec x36 w6 A44 c45 hr42 (by exact hl _ (List.mem_of_getElem? hx40))) ?_; clear hf a
      rintro _ w54 ⟨A55, c56, rfl, ho57, hc59⟩
      have hzhc59 := hc59.size
      refine ⟨_, rfl, ?_⟩; intro a hf
      have hr60 := ho57.riv
      have hr61 := Z.rep_as (F' := Z.iv w6.heap.size w54.heap.size) hr60 (by intro b h1 h2; simp only [Z.iv, Z.nt, Z.no, Z.ol] at h1 ⊢; omega)
      refine Z.callY hf rfl rfl rfl (hY k9 w6 w54 _ (by omega) hc7 hc59 ⟨_, _, _, hx40, rfl, hr61⟩) ?_; clear hf a
      rintro _ w62 (⟨rfl, hJ63⟩ | ⟨rfl, hJ63⟩)
      · refine ⟨_, rfl, ?_⟩; intro a hf
        obtain ⟨ph0, pb1⟩ := hdat _ _ hJ63
        refine Z.qe [.n] [15] [] [(15, .bool false)] Z.k0 hf ?_; clear hf a; intro a hf
        refine hn52 _ _ ?_
        refine Z.condf hf rfl ?_
        refine Z.skip ?_
        refine hn27 _ _ ?_
        refine hn23 _ _ ?_
        refine Z.qreg [.n, .n] [7] [Z.R64 ((k9 : Int) + 1)] [(7, .int .i64 ((k9 : Int) + 1))] Z.k0 hf ?_; clear hf a; intro a hf
        refine hn12 (xs.length - (k9 + 1)) _ _ ?_ ?_
        rotate_left
        replace hf := hf.setv (d := 7) (y := .int .i64 ((k9 + 1 : Nat) : Int)) rfl (congrArg (Value.int .i64) (by first | rfl | omega | (simp; done) | (simp; omega)))
        exact ⟨k9 + 1, rfl, hJ63, (by omega), (hf.keep [0, 5, 6, 7])⟩
        rw [hm8]; omega
      · refine ⟨_, rfl, ?_⟩; intro a hf
        refine Z.qe [.n] [15] [] [(15, .bool true)] Z.k0 hf ?_; clear hf a; intro a hf
        refine hn52 _ _ ?_
        refine Z.condt hf rfl ?_
        refine Z.ret ?_
        refine he29 _ _ _ (by simp) (by simp) ?_
        refine he24 _ _ _ (by simp) ?_
        refine he13 _ _ _ (by simp) ?_
        refine he5 _ _ _ (by simp) (by simp) ?_
        refine Z.ret0 hf Try.results30 ?_
        exact ⟨rfl, .inr hJ63⟩
    · intro hp64
      refine Z.exit ?_
      refine he19 _ _ _ (by simp) ?_
      refine he13 _ _ _ (by simp) ?_
      refine hx4 _ _ ?_
      refine Z.end0 hf Try.results30 ?_
      exact ⟨rfl, .inl (by have hkN : k9 = xs.length := (by omega); rw [← hkN]; exact hc7)⟩

set_option maxHeartbeats 400000 in
set_option maxRecDepth 20000 in
theorem FramesF_spec (bs : List UInt8) (w : World) (pA0 : Option Addr) (pc0 : Nat) (ph0 : (Z.Ty.slice Z.Ty.byte).rep w (Z.nt []) [.slice pA0 bs.length pc0] bs) (hm : bs.length ≤ 1048576) :
    Calls Try.prog 17 #[.slice pA0 bs.length pc0] w fun e w' => ∃ (rg : Nat), ∃ (rA1 : Option Addr) (rc1 : Nat), e = .returned (.func (.func 30) #[] #[.pointer (some ⟨rg, 0, none⟩)]) ∧ (Z.Ty.slice (Z.Ty.slice Z.Ty.byte)).rep w' (Z.nt [rg]) [.slice rA1 (Codec.frames bs).length rc1] (Codec.frames bs) ∧ (w.heap.size ≤ rg ∧ rg < w'.heap.size) ∧ Z.Blk w' rg 46 [.slice rA1 (Codec.frames bs).length rc1] ∧ Z.Ch [] w w' := by
  refine Z.enter Try.func17 rfl Try.ntmps17 (Nat.le_of_ble_eq_true rfl) fun a hf => ?_
  have hle_pA0 := Z.rep_le ph0
  have ph0o := Z.rep_ol ph0
  refine Z.qseq [.n] [] [] [] Z.k0 hf ?_; clear hf a; intro a hf
  refine Z.seq' (Z.Pq.body _ _ _) fun Q1 hp2 hn3 he4 => ?_
  refine Z.reg ?_
  refine Z.qr [.n] [4] [] [(4, .slice pA0 bs.length pc0)] Z.k0 hf ?_; clear hf a; intro a hf
  have hr5 := Z.rep_to (F' := (Z.nt [])) ph0o (Z.Ch.refl w)
  refine Z.call1 hf rfl (Z.r_call cf29 hf (xs := [.tmp 4]) rfl) (frames_spec bs w pA0 pc0 hr5 (by omega)) ?_; clear hf a
  rintro _ w6 ⟨A7, c8, rfl, ho9, hc11⟩
  have hzhc11 := hc11.size
  refine ⟨_, rfl, ?_⟩; intro a hf
  refine Z.st_alloc hf rfl Try.zeroValue46 rfl ?_; clear hf a; intro g12 w13 a hg14 hz15 hb16 hc17 hf
  refine Z.st_store hf hb16 rfl rfl Try.sizeOf46 rfl rfl rfl (by simp [Value.oneCell']) rfl ?_; clear hf a; intro w18 a hz19 hb20 hc21 hf
  refine Z.done ?_
  refine hn3 _ _ ?_
  refine Z.qseq [.n, .n] [2] [] [(2, .func (.func 30) #[] #[.pointer (some ⟨g12, 0, none⟩)])] Z.k0 hf ?_; clear hf a; intro a hf
  refine Z.ret ?_
  have hr22 := (ho9.rep' (F' := Z.nt []) (fun _ _ => by simp [Z.nt]) (fun _ _ _ => by simp [Z.nt]))
  have hq23 : Z.Ch [g12] w6 w18 := hc17.then hc21
  have hr24 := Z.rep_to (F' := (Z.nt [g12])) hr22 hq23
  have hq25 : Z.Ch [] w w13 := hc11.then hc17
  have hq26 : Z.Ch [g12] w w18 := hq25.then hc21
  refine Z.ret1 hf Try.results17 rfl ?_
  exact ⟨g12, A7, c8, rfl, hr24, (by omega), hb20, (Z.Ch.mono hq26 (by intro k hk; (try simp only [List.mem_cons, List.mem_append, List.not_mem_nil, or_false, false_or] at hk ⊢) <;> omega))⟩

set_option maxHeartbeats 400000 in
set_option maxRecDepth 20000 in
theorem told_spec (xs : List (List UInt8)) (g : Nat) (most : Int) (w : World) (pA0 : Option Addr) (pc0 : Nat) (ph0 : (Z.Ty.slice (Z.Ty.slice Z.Ty.byte)).rep w (Z.nt [g]) [.slice pA0 xs.length pc0] xs) (pb1 : Z.Blk w g 46 [.slice pA0 xs.length pc0]) (hmost : 0 ≤ most) (hxn : xs.length ≤ 1048576) (hxl : ∀ x, x ∈ xs → x.length ≤ 70368744177664) :
    Calls Try.prog 16 #[.func (.func 30) #[] #[.pointer (some ⟨g, 0, none⟩)], .int .i64 most] w fun e w' => ∃ (rA0 : Option Addr) (rc0 : Nat), e = .returned (.slice rA0 (xs.take (Int.toNat most)).length rc0) ∧ Z.Own (Z.Ty.slice Z.Ty.byte) 40 w.heap.size w' (Z.nt (([] : List Nat) ++ Z.obl rA0)) rA0 rc0 (xs.take (Int.toNat most)) ∧ Z.Ch [] w w' := by
  refine Z.enterM Try.func16 rfl Try.ntmps16 (Nat.le_of_ble_eq_true rfl) fun a hf => ?_
  have hlt_g := pb1.lt
  have hle_pA0 := Z.rep_le ph0
  have ph0o := Z.rep_ol ph0
  refine Z.seqn fun Q1 hn3 he4 => ?_
  refine Z.reg ?_
  refine Z.st_box hf rfl rfl rfl ?_; clear hf a; intro g5 w6 a hg7 hz8 hb9 hc10 hf
  refine Z.qe [.n] [] [] [] Z.k0 hf ?_; clear hf a; intro a hf
  refine hn3 _ _ ?_
  refine Z.seqn fun Q11 hn13 he14 => ?_
  refine Z.reg ?_
  refine Z.st_alloc hf rfl Try.zeroValue46 rfl ?_; clear hf a; intro g15 w16 a hg17 hz18 hb19 hc20 hf
  refine Z.done ?_
  refine hn13 _ _ ?_
  refine Z.seqn fun Q21 hn23 he24 => ?_
  refine Z.seqn fun Q25 hn27 he28 => ?_
  refine Z.reg ?_
  refine Z.qr [.n] [7] [] [(7, .func (.func 30) #[] #[.pointer (some ⟨g, 0, none⟩)])] Z.k0 hf ?_; clear hf a; intro a hf
  refine Z.val hf rfl (Z.r_eqfn Try.underlying51 (hf.eval rfl)) ?_; clear hf a; intro a hf
  refine Z.done ?_
  refine hn27 _ _ ?_
  refine Z.condf hf rfl ?_
  refine Z.skip ?_
  refine hn23 _ _ ?_
  refine Z.seqn fun Q29 hn31 he32 => ?_
  refine Z.qseq [.n] [9] [] [(9, .func (.func 30) #[] #[.pointer (some ⟨g, 0, none⟩)])] Z.k0 hf ?_; clear hf a; intro a hf
  refine Z.blockn fun Q33 hn35 hx36 he37 => ?_
  refine Z.rangeF (ps := [10]) (G := fun args a => ∃ (v0 : Value), args = [v0] ∧ Z.Fr a 20 [] [(3, .pointer (some ⟨g5, 0, none⟩)), (5, .pointer (some ⟨g15, 0, none⟩)), (6, v0)]) hf rfl cf30 (xs.length) (fun k W0 W args => ∃ (x : List UInt8) (A : Option Addr) (c : Nat), xs[k]? = some x ∧ args = [.slice A x.length c] ∧ (Z.Ty.slice Z.Ty.byte).rep W (Z.iv W0.heap.size W.heap.size) [.slice A x.length c] x) (fun W => (Z.Ty.slice (Z.Ty.slice Z.Ty.byte)).rep W (Z.nt []) [.slice pA0 xs.length pc0] xs ∧ Z.Blk W g 46 [.slice pA0 xs.length pc0]) (fun k W => ∃ (lA0 : Option Addr), ∃ (lc0 : Nat), Z.Ch [g15] w16 W ∧ Z.Own (Z.Ty.slice Z.Ty.byte) 40 w.heap.size W (Z.nt ([g15, g5, w16.heap.size + 1, w16.heap.size] ++ Z.obl lA0)) lA0 lc0 (xs.take k) ∧ (∀ k, k ∈ Z.obl lA0 → k ∉ [g15, g5, w16.heap.size + 1, w16.heap.size]) ∧ Z.Blk W g15 46 [.slice lA0 ((xs.take k).length) lc0] ∧ (k ≤ xs.length) ∧ ((k : Int) ≤ most)) (fun e W => (e = .exit 0 ∧ ∃ (k : Nat), ∃ (lA0 : Option Addr), ∃ (lc0 : Nat), Z.Ch [g15] w16 W ∧ Z.Own (Z.Ty.slice Z.Ty.byte) 40 w.heap.size W (Z.nt ([g15, g5, w16.heap.size + 1, w16.heap.size] ++ Z.obl lA0)) lA0 lc0 (xs.take k) ∧ (∀ k, k ∈ Z.obl lA0 → k ∉ [g15, g5, w16.heap.size + 1, w16.heap.size]) ∧ Z.Blk W g15 46 [.slice lA0 ((xs.take k).length) lc0] ∧ (k ≤ xs.length) ∧ ((k : Int) = most))) (Frames1_seq xs g hxl pA0 pc0) ?_ ?_ ?_ ?_ ?_ ?_ ?_ ?_ ?_ ?_ ?_ ?_
  · rintro k W0 W args ⟨_, _, _, _, rfl, _⟩; rfl
  · intro p hp; simp only [List.mem_cons, List.not_mem_nil, or_false] at hp; omega
  · rintro k W0 W W' args ⟨x, A, c, hx, rfl, hr⟩ hs hc hl; exact ⟨x, A, c, hx, rfl, Z.rep_to hr hc (by intro b h1 h2; simp only [Z.iv] at h1 ⊢; have := hc.size; simp only [List.mem_cons, List.not_mem_nil, or_false]; omega)⟩
  · have hxs38 : ([] : List (List UInt8)) = (xs.take (0 : Nat) : List (List UInt8)) := by first | rfl | (rw [List.take_add_one, LASTX]; rfl) | (congr 1; omega) | (rw [List.take_of_length_le (by omega), List.take_of_length_le (by omega)])
    have ho39 := hxs38 ▸ (Z.Own.nil (Z.Ty.slice Z.Ty.byte) 40 w.heap.size w16 (Z.nt ([g15, g5, w16.heap.size + 1, w16.heap.size] ++ Z.obl none)))
    exact ⟨none, 0, (Z.Ch.refl' _ _), ho39, (fun k hk => by cases hk), (Z.Blk.cast (show Z.Blk w16 g15 46 [.slice none 0 0] from hb19) (by first | rfl | (simp only [hxs38]; done) | simp_all)), (by omega), (by omega)⟩
  · rintro k40 w41 w42 ⟨A45, c46, hc44, ho47, hd48, hb49, hk50, hm51⟩ hc43
    have hzhc44 := hc44.size
    have hzhc43 := hc43.size
    have hb52 := hb49.ch hc43 (by simp only [List.mem_cons, List.mem_append, List.not_mem_nil, or_false, not_or, not_false_eq_true, and_true] <;> omega)
    have ho53 := ho47.to (F' := (Z.nt ([g15, g5, w16.heap.size + 1, w16.heap.size] ++ Z.obl A45))) hc43 (by intro k hk h1 h2; have hob := (fun k hk => (⟨ho47.lt k hk, by have hd := hd48 k hk; simp only [List.mem_cons, List.not_mem_nil, or_false, not_or] at hd; omega⟩ : (w.heap.size ≤ k ∧ k < w41.heap.size) ∧ k ≠ g15 ∧ k ≠ g5 ∧ k ≠ w16.heap.size + 1 ∧ k ≠ w16.heap.size)) k hk; simp only [List.mem_cons, List.not_mem_nil, or_false, not_or]; omega) (fun b h0 h2 => ⟨by have h1 := h0; (try simp only [Z.nt, List.mem_append, List.mem_cons, List.not_mem_nil, or_false, false_or, not_or] at h1); simp only [List.mem_cons, List.not_mem_nil, or_false, not_or, not_false_eq_true] <;> omega, h0⟩)
    have hq54 : Z.Ch [g15, w16.heap.size + 1] w16 w42 := hc44.then hc43
    exact ⟨A45, c46, (hq54.mono (by intro k hk; (try simp only [List.mem_cons, List.mem_append, List.not_mem_nil, or_false, false_or] at hk ⊢) <;> omega)), ho53, (fun k hk => by have hob := (fun k hk => (⟨ho47.lt k hk, by have hd := hd48 k hk; simp only [List.mem_cons, List.not_mem_nil, or_false, not_or] at hd; omega⟩ : (w.heap.size ≤ k ∧ k < w41.heap.size) ∧ k ≠ g15 ∧ k ≠ g5 ∧ k ≠ w16.heap.size + 1 ∧ k ≠ w16.heap.size)) k hk; simp only [List.mem_cons, List.not_mem_nil, or_false, not_or]; omega), hb52, (by omega), (by omega)⟩
  · rintro e w55 w56 h hc57
    have hzhc57 := hc57.size
    obtain ⟨rfl, k58, A60, c61, hc59, ho62, hd63, hb64, hk65, hm66⟩ := h
    have hzhc59 := hc59.size
    have hb67 := hb64.ch hc57 (by simp only [List.mem_cons, List.mem_append, List.not_mem_nil, or_false, not_or, not_false_eq_true, and_true] <;> omega)
    have ho68 := ho62.to (F' := (Z.nt ([g15, g5, w16.heap.size + 1, w16.heap.size] ++ Z.obl A60))) hc57 (by intro k hk h1 h2; have hob := (fun k hk => (⟨ho62.lt k hk, by have hd := hd63 k hk; simp only [List.mem_cons, List.not_mem_nil, or_false, not_or] at hd; omega⟩ : (w.heap.size ≤ k ∧ k < w55.heap.size) ∧ k ≠ g15 ∧ k ≠ g5 ∧ k ≠ w16.heap.size + 1 ∧ k ≠ w16.heap.size)) k hk; simp only [List.mem_cons, List.not_mem_nil, or_false, not_or]; omega) (fun b h0 h2 => ⟨by have h1 := h0; (try simp only [Z.nt, List.mem_append, List.mem_cons, List.not_mem_nil, or_false, false_or, not_or] at h1); simp only [List.mem_cons, List.not_mem_nil, or_false, not_or, not_false_eq_true] <;> omega, h0⟩)
    have hq69 : Z.Ch [g15, w16.heap.size + 1] w16 w56 := hc59.then hc57
    exact ⟨rfl, k58, A60, c61, (hq69.mono (by intro k hk; (try simp only [List.mem_cons, List.mem_append, List.not_mem_nil, or_false, false_or] at hk ⊢) <;> omega)), ho68, (fun k hk => by have hob := (fun k hk => (⟨ho62.lt k hk, by have hd := hd63 k hk; simp only [List.mem_cons, List.not_mem_nil, or_false, not_or] at hd; omega⟩ : (w.heap.size ≤ k ∧ k < w55.heap.size) ∧ k ≠ g15 ∧ k ≠ g5 ∧ k ≠ w16.heap.size + 1 ∧ k ≠ w16.heap.size)) k hk; simp only [List.mem_cons, List.not_mem_nil, or_false, not_or]; omega), hb67, (by omega), (by omega)⟩
  · rintro k70 w71 ⟨A73, c74, hc72, ho75, hd76, hb77, hk78, hm79⟩
    have hzhc72 := hc72.size
    have hq80 : Z.Ch [] w w16 := hc10.then hc20
    have hq81 : Z.Ch [g15] w w71 := hq80.then hc72
    have hb82 := pb1.ch hq81 (by simp only [List.mem_cons, List.mem_append, List.not_mem_nil, or_false, not_or, not_false_eq_true, and_true] <;> omega)
    have hr83 := Z.rep_to (F' := (Z.nt [])) ph0o hq81
    exact ⟨hr83, hb82⟩
  · intro W a args hl hf; obtain ⟨v0, rfl⟩ := Z.len1 hl
    refine Z.qreg [.n] [6] [] [(6, v0)] Z.k0 hf ?_; clear hf a; intro a hf
    exact ⟨rfl, rfl, v0, rfl, hf.keep [3, 5, 6]⟩
  · rintro k84 w85 w86 args a hk87 ⟨A93, c94, hc92, ho95, hd96, hb97, hk98, hm99⟩ hc88 hlt89 hE90 ⟨u0, hargs, hf⟩
    have hzhc92 := hc92.size
    have hzhc88 := hc88.size
    obtain ⟨x100, A101, c102, hx103, rfl, hr104⟩ := hE90
    simp only [List.cons.injEq, and_true] at hargs
    obtain rfl := hargs
    have hln : (xs.take k84).length = k84 := by rw [List.length_take]; omega
    refine Z.block' Z.RQ.pq fun Q105 hp106 hn107 hx108 he109 => ?_
    refine Z.seq' hp106 fun Q110 hp111 hn112 he113 => ?_
    have hq114 : Z.Ch [g15] w6 w85 := hc20.then hc92
    have hq115 : Z.Ch [g15, w16.heap.size + 1] w6 w86 := hq114.then hc88
    have hb116 := hb9.ch hq115 (by simp only [List.mem_cons, List.mem_append, List.not_mem_nil, or_false, not_or, not_false_eq_true, and_true] <;> omega)
    have hb117 := hb97.ch hc88 (by simp only [List.mem_cons, List.mem_append, List.not_mem_nil, or_false, not_or, not_false_eq_true, and_true] <;> omega)
    refine Z.qseq [.b 0 0, .n, .b 1 0, .n] [14] [] [(14, .bool (decide (most ≤ ((xs.take k84).length : Int))))] (Z.kb hb117 (Z.kb hb116 Z.k0)) hf ?_; clear hf a; intro a hf
    refine Z.condp hf rfl ?_ ?_
    · intro hp118
      refine Z.exit ?_
      refine he113 _ _ _ (by simp) ?_
      refine he109 _ _ _ (by simp) (by simp) ?_
      have ho119 := ho95.to (F' := (Z.nt ([g15, g5, w16.heap.size + 1, w16.heap.size] ++ Z.obl A93))) hc88 (by intro k hk h1 h2; have hob := (fun k hk => (⟨ho95.lt k hk, by have hd := hd96 k hk; simp only [List.mem_cons, List.not_mem_nil, or_false, not_or] at hd; omega⟩ : (w.heap.size ≤ k ∧ k < w85.heap.size) ∧ k ≠ g15 ∧ k ≠ g5 ∧ k ≠ w16.heap.size + 1 ∧ k ≠ w16.heap.size)) k hk; simp only [List.mem_cons, List.not_mem_nil, or_false, not_or]; omega) (fun b h0 h2 => ⟨by have h1 := h0; (try simp only [Z.nt, List.mem_append, List.mem_cons, List.not_mem_nil, or_false, false_or, not_or] at h1); simp only [List.mem_cons, List.not_mem_nil, or_false, not_or, not_false_eq_true] <;> omega, h0⟩)
      have hq120 : Z.Ch [g15, w16.heap.size + 1] w16 w86 := hc92.then hc88
      exact ⟨⟨_, (Z.Ch.refl w86), (by simp), (by simp)⟩, ⟨rfl, k84, A93, c94, (hq120.mono (by intro k hk; (try simp only [List.mem_cons, List.mem_append, List.not_mem_nil, or_false, false_or] at hk ⊢) <;> omega)), ho119, (fun k hk => by have hob := (fun k hk => (⟨ho95.lt k hk, by have hd := hd96 k hk; simp only [List.mem_cons, List.not_mem_nil, or_false, not_or] at hd; omega⟩ : (w.heap.size ≤ k ∧ k < w85.heap.size) ∧ k ≠ g15 ∧ k ≠ g5 ∧ k ≠ w16.heap.size + 1 ∧ k ≠ w16.heap.size)) k hk; simp only [List.mem_cons, List.not_mem_nil, or_false, not_or]; omega), hb117, (by omega), (by omega)⟩⟩
    · intro hp121
      refine Z.skip ?_
      refine hn112 _ _ ?_
      refine Z.reg ?_
      refine Z.qr [.b 0 0, .n] [15, 16] [] [(15, .slice A93 ((xs.take k84).length) c94), (16, .slice A101 x100.length c102)] (Z.kb hb117 Z.k0) hf ?_; clear hf a; intro a hf
      refine Z.st_bslice hf rfl Try.underlying46 Try.sizeOf40 Try.zeroValue40 (parts := [(0, .tmp 16)]) (cs := [.slice A101 x100.length c102]) rfl rfl rfl (by kernel_rfl) ?_; clear hf a; intro g122 w123 a hg124 hz125 hb126 hc127 hf
      have hr129 := Z.rep_to (F' := (Z.nt [])) hr104 hc127
      have ho128 : Z.Own (Z.Ty.slice Z.Ty.byte) 40 g122 w123 (Z.nt []) (some ⟨g122, 0, none⟩) 1 ([x100] : List (List UInt8)) := Z.Own.made (t := (Z.Ty.slice Z.Ty.byte)) (xs := ([x100] : List (List UInt8))) hb126 (Nat.le_refl _) rfl (by simp [maxLen]) (by simp [Value.oneCell']) (fun i x hi => by match i, hi with | 0, hi => (injection hi with hi; subst hi; exact hr129) | (j + 1), hi => simp at hi)
      have hq130 : Z.Ch [w16.heap.size + 1] w85 w123 := hc88.then hc127
      have ho131 := ho95.to (F' := (Z.nt ([g15, g5, w16.heap.size + 1, w16.heap.size] ++ Z.obl A93))) hq130 (by intro k hk h1 h2; have hob := (fun k hk => (⟨ho95.lt k hk, by have hd := hd96 k hk; simp only [List.mem_cons, List.not_mem_nil, or_false, not_or] at hd; omega⟩ : (w.heap.size ≤ k ∧ k < w85.heap.size) ∧ k ≠ g15 ∧ k ≠ g5 ∧ k ≠ w16.heap.size + 1 ∧ k ≠ w16.heap.size)) k hk; simp only [List.mem_cons, List.not_mem_nil, or_false, not_or]; omega) (fun b h0 h2 => ⟨by have h1 := h0; (try simp only [Z.nt, List.mem_append, List.mem_cons, List.not_mem_nil, or_false, false_or, not_or] at h1); simp only [List.mem_cons, List.not_mem_nil, or_false, not_or, not_false_eq_true] <;> omega, h0⟩)
      have hr132 := Z.rep_to (F' := (Z.iv w85.heap.size w86.heap.size)) hr104 hc127
      have hr133 : (Z.Ty.slice Z.Ty.byte).rep w123 (Z.nt ([g15, g5, w16.heap.size + 1, w16.heap.size] ++ Z.obl A93)) [.slice A101 x100.length c102] x100 := Z.rep_as hr132 (by intro b h1 h2; (try simp only [Z.nt, Z.iv, Z.no, Z.ol] at h1); intro hm; rcases List.mem_append.1 hm with hm | hm; (simp only [List.mem_cons, List.not_mem_nil, or_false] at hm <;> omega); (have hob := (fun k hk => (⟨ho95.lt k hk, by have hd := hd96 k hk; simp only [List.mem_cons, List.not_mem_nil, or_false, not_or] at hd; omega⟩ : (w.heap.size ≤ k ∧ k < w85.heap.size) ∧ k ≠ g15 ∧ k ≠ g5 ∧ k ≠ w16.heap.size + 1 ∧ k ≠ w16.heap.size)) b hm; omega))
      have ho134 : Z.Own (Z.Ty.slice Z.Ty.byte) 40 g122 w123 (Z.nt ([g15, g5, w16.heap.size + 1, w16.heap.size] ++ Z.obl A93)) (some ⟨g122, 0, none⟩) 1 ([x100] : List (List UInt8)) := Z.Own.made (t := (Z.Ty.slice Z.Ty.byte)) (xs := ([x100] : List (List UInt8))) hb126 (Nat.le_refl _) rfl (by simp [maxLen]) (by simp [Value.oneCell']) (fun i x hi => by match i, hi with | 0, hi => (injection hi with hi; subst hi; exact hr133) | (j + 1), hi => simp at hi)
      have hr135 := ho134.rep' (F' := (Z.nt ([g15, g5, w16.heap.size + 1, w16.heap.size] ++ Z.obl A93))) (fun _ h => h) (fun b h1 h2 => by intro hm; rcases List.mem_append.1 hm with hm | hm; (simp only [List.mem_cons, List.not_mem_nil, or_false] at hm <;> omega); (have hob := (fun k hk => (⟨ho95.lt k hk, by have hd := hd96 k hk; simp only [List.mem_cons, List.not_mem_nil, or_false, not_or] at hd; omega⟩ : (w.heap.size ≤ k ∧ k < w85.heap.size) ∧ k ≠ g15 ∧ k ≠ g5 ∧ k ≠ w16.heap.size + 1 ∧ k ≠ w16.heap.size)) b hm; omega))
      refine Z.st_append_deep (M := [g15, g5, w16.heap.size + 1, w16.heap.size]) (t := (Z.Ty.slice Z.Ty.byte)) hf rfl Try.underlying46 inf40.1 inf40.2.1 inf40.2.2.1 inf40.2.2.2.1 inf40.2.2.2.2 (by decide) (by decide)  rfl (by first | rfl | omega) ho131 rfl hr135 (by first | omega | (simp only [List.length_cons, List.length_nil, List.length_append]; omega) | (simp; done)) (fun b h1 _ => h1) (by omega) ?_; clear hf a; intro A136 c137 w138 a ho139 hc140 hcas141 hf
      have hzhc140 := hc140.size
      have hob142 : ∀ k, k ∈ Z.obl A136 → ((w.heap.size ≤ k ∧ k < w85.heap.size) ∧ k ≠ g15 ∧ k ≠ g5 ∧ k ≠ w16.heap.size + 1 ∧ k ≠ w16.heap.size) ∨ k = w123.heap.size := fun k hk => by rcases hcas141 k hk with h | h; (have := (fun k hk => (⟨ho95.lt k hk, by have hd := hd96 k hk; simp only [List.mem_cons, List.not_mem_nil, or_false, not_or] at hd; omega⟩ : (w.heap.size ≤ k ∧ k < w85.heap.size) ∧ k ≠ g15 ∧ k ≠ g5 ∧ k ≠ w16.heap.size + 1 ∧ k ≠ w16.heap.size)) k h; omega); omega
      have hq143 : Z.Ch ([] ++ Z.obl A93) w86 w138 := hc127.then hc140 (by simp) (by first | (intro k hk; simp [hk]; done) | (intro k hk; simp at hk; simp [hk]; done) | (intro k hk; simp at hk; rcases hk with hk | hk <;> simp [hk]))
      have hb144 := hb117.ch hq143 (by have hm0 : ¬ g15 ∈ Z.obl A93 := fun hm => (by have hob := (fun k hk => (⟨ho95.lt k hk, by have hd := hd96 k hk; simp only [List.mem_cons, List.not_mem_nil, or_false, not_or] at hd; omega⟩ : (w.heap.size ≤ k ∧ k < w85.heap.size) ∧ k ≠ g15 ∧ k ≠ g5 ∧ k ≠ w16.heap.size + 1 ∧ k ≠ w16.heap.size)) g15 hm; omega); simp only [hm0, List.mem_cons, List.mem_append, List.not_mem_nil, or_false, not_or, not_false_eq_true, and_true] <;> omega)
      refine Z.st_store hf hb144 rfl rfl Try.sizeOf46 rfl rfl rfl (by simp [Value.oneCell']) rfl ?_; clear hf a; intro w145 a hz146 hb147 hc148 hf
      refine Z.done ?_
      refine hn107 _ _ ?_
      have hq149 : Z.Ch ([g15] ++ Z.obl A93) w86 w145 := hq143.then hc148 (by first | (intro k hk; simp [hk]; done) | (intro k hk; simp at hk; simp [hk]; done) | (intro k hk; simp at hk; rcases hk with hk | hk <;> simp [hk])) (by simp)
      have ho150 := ho139.to (F' := (Z.nt ([g15, g5, w16.heap.size + 1, w16.heap.size] ++ Z.obl A136))) hc148 (by intro k hk h1 h2; have hob := hob142 k hk; simp only [List.mem_cons, List.not_mem_nil, or_false, not_or]; omega) (fun b h0 h2 => ⟨by have h1 := h0; (try simp only [Z.nt, List.mem_append, List.mem_cons, List.not_mem_nil, or_false, false_or, not_or] at h1); simp only [List.mem_cons, List.not_mem_nil, or_false, not_or, not_false_eq_true] <;> omega, h0⟩)
      have hxs151 : (xs.take k84) ++ ([x100] : List (List UInt8)) = (xs.take (k84 + 1) : List (List UInt8)) := by first | rfl | (rw [List.take_add_one, hx103]; rfl) | (congr 1; omega) | (rw [List.take_of_length_le (by omega), List.take_of_length_le (by omega)])
      have ho152 := hxs151 ▸ ho150
      have hq153 : Z.Ch [g15, w16.heap.size + 1] w16 w86 := hc92.then hc88
      have hq154 : Z.Ch [g15, w16.heap.size + 1] w16 w123 := hq153.then hc127
      have hq155 : Z.Ch ([g15, w16.heap.size + 1] ++ Z.obl A93) w16 w138 := hq154.then hc140 (by simp) (by first | (intro k hk; simp [hk]; done) | (intro k hk; simp at hk; simp [hk]; done) | (intro k hk; simp at hk; rcases hk with hk | hk <;> simp [hk]))
      have hq156 : Z.Ch ([g15, w16.heap.size + 1] ++ Z.obl A93) w16 w145 := hq155.then hc148 (by first | (intro k hk; simp [hk]; done) | (intro k hk; simp at hk; simp [hk]; done) | (intro k hk; simp at hk; rcases hk with hk | hk <;> simp [hk])) (by simp)
      exact ⟨⟨_, hq149, (by have hm0 : ¬ w16.heap.size ∈ Z.obl A93 := fun hm => (by have hob := (fun k hk => (⟨ho95.lt k hk, by have hd := hd96 k hk; simp only [List.mem_cons, List.not_mem_nil, or_false, not_or] at hd; omega⟩ : (w.heap.size ≤ k ∧ k < w85.heap.size) ∧ k ≠ g15 ∧ k ≠ g5 ∧ k ≠ w16.heap.size + 1 ∧ k ≠ w16.heap.size)) w16.heap.size hm; omega); simp only [hm0, List.mem_cons, List.mem_append, List.not_mem_nil, or_false, not_or, not_false_eq_true, and_true] <;> omega), (by have hm0 : ¬ (w16.heap.size + 1) ∈ Z.obl A93 := fun hm => (by have hob := (fun k hk => (⟨ho95.lt k hk, by have hd := hd96 k hk; simp only [List.mem_cons, List.not_mem_nil, or_false, not_or] at hd; omega⟩ : (w.heap.size ≤ k ∧ k < w85.heap.size) ∧ k ≠ g15 ∧ k ≠ g5 ∧ k ≠ w16.heap.size + 1 ∧ k ≠ w16.heap.size)) (w16.heap.size + 1) hm; omega); simp only [hm0, List.mem_cons, List.mem_append, List.not_mem_nil, or_false, not_or, not_false_eq_true, and_true] <;> omega)⟩, ⟨A136, c137, (hq156.mono (by intro k hk; exact (Classical.em (k ∈ Z.obl A93)).elim (fun hm0 => by have hob := (fun k hk => (⟨ho95.lt k hk, by have hd := hd96 k hk; simp only [List.mem_cons, List.not_mem_nil, or_false, not_or] at hd; omega⟩ : (w.heap.size ≤ k ∧ k < w85.heap.size) ∧ k ≠ g15 ∧ k ≠ g5 ∧ k ≠ w16.heap.size + 1 ∧ k ≠ w16.heap.size)) k hm0; (try simp only [List.mem_cons, List.mem_append, List.not_mem_nil, or_false, false_or]) <;> omega) (fun hm0 => by (try simp only [hm0, List.mem_cons, List.mem_append, List.not_mem_nil, or_false, false_or] at hk ⊢) <;> omega))), ho152, (fun k hk => by have hob := hob142 k hk; simp only [List.mem_cons, List.not_mem_nil, or_false, not_or]; omega), (Z.Blk.cast (show Z.Blk w145 g15 46 [.slice A136 (((xs.take k84) ++ ([x100] : List (List UInt8))).length) c137] from hb147) (by first | rfl | (simp only [hxs151]; done) | simp_all)), (by omega), (by omega)⟩⟩
  · rintro w157 a ⟨A160, c161, hc159, ho162, hd163, hb164, hk165, hm166⟩ hD158 hf
    have hzhc159 := hc159.size
    skip
    refine hn35 _ _ ?_
    refine hn31 _ _ ?_
    refine Z.qseq [.b 0 0, .n] [4] [] [(4, .slice A160 ((xs.take (xs.length)).length) c161)] (Z.kb hb164 Z.k0) hf ?_; clear hf a; intro a hf
    refine Z.ret ?_
    refine Z.retM (Ds := [w16.heap.size]) hf (by simp only [List.mem_singleton]; rintro _ rfl; exact hD158) (by simp) ?_; intro w167 hc168 hz169
    have ho170 := ho162.to (F' := (Z.nt ([g15, g5, w16.heap.size + 1, w16.heap.size] ++ Z.obl A160))) hc168 (by intro k hk h1 h2; have hob := (fun k hk => (⟨ho162.lt k hk, by have hd := hd163 k hk; simp only [List.mem_cons, List.not_mem_nil, or_false, not_or] at hd; omega⟩ : (w.heap.size ≤ k ∧ k < w157.heap.size) ∧ k ≠ g15 ∧ k ≠ g5 ∧ k ≠ w16.heap.size + 1 ∧ k ≠ w16.heap.size)) k hk; simp only [List.mem_cons, List.not_mem_nil, or_false, not_or]; omega) (fun b h0 h2 => ⟨by have h1 := h0; (try simp only [Z.nt, List.mem_append, List.mem_cons, List.not_mem_nil, or_false, false_or, not_or] at h1); simp only [List.mem_cons, List.not_mem_nil, or_false, not_or, not_false_eq_true] <;> omega, h0⟩)
    have hxs171 : xs.take (xs.length) = (xs.take (Int.toNat most) : List (List UInt8)) := by first | rfl | (rw [List.take_add_one, hx103]; rfl) | (congr 1; omega) | (rw [List.take_of_length_le (by omega), List.take_of_length_le (by omega)])
    have ho172 := hxs171 ▸ ho170
    have ho173 := (ho172).more (F' := (Z.nt (([] : List Nat) ++ Z.obl A160))) (fun b hb hm => hb (by simp only [List.nil_append] at hm; simp [hm]))
    replace hf := hf.setv (d := 4) (y := .slice A160 ((xs.take (Int.toNat most)).length) c161) rfl (by rw [← hxs171] <;> first | done | rfl)
    have hq174 : Z.Ch [] w w16 := hc10.then hc20
    have hq175 : Z.Ch [g15] w w157 := hq174.then hc159
    have hq176 : Z.Ch [g15, w16.heap.size] w w167 := hq175.then hc168
    refine ⟨_, Z.res1 hf Try.results16 rfl _, ?_⟩
    exact ⟨A160, c161, rfl, ho173, (Z.Ch.mono hq176 (by intro k hk; (try simp only [List.mem_cons, List.mem_append, List.not_mem_nil, or_false, false_or] at hk ⊢) <;> omega))⟩
  · intro W a h _ _; simp at h
  · rintro id w177 a h hD178 hf; obtain ⟨hid, k179, A181, c182, hc180, ho183, hd184, hb185, hk186, hm187⟩ := h; injection hid with hid; subst hid
    have hzhc180 := hc180.size
    skip
    refine hx36 _ _ ?_
    refine hn31 _ _ ?_
    refine Z.qseq [.b 0 0, .n] [4] [] [(4, .slice A181 ((xs.take k179).length) c182)] (Z.kb hb185 Z.k0) hf ?_; clear hf a; intro a hf
    refine Z.ret ?_
    refine Z.retM (Ds := [w16.heap.size]) hf (by simp only [List.mem_singleton]; rintro _ rfl; exact hD178) (by simp) ?_; intro w188 hc189 hz190
    have ho191 := ho183.to (F' := (Z.nt ([g15, g5, w16.heap.size + 1, w16.heap.size] ++ Z.obl A181))) hc189 (by intro k hk h1 h2; have hob := (fun k hk => (⟨ho183.lt k hk, by have hd := hd184 k hk; simp only [List.mem_cons, List.not_mem_nil, or_false, not_or] at hd; omega⟩ : (w.heap.size ≤ k ∧ k < w177.heap.size) ∧ k ≠ g15 ∧ k ≠ g5 ∧ k ≠ w16.heap.size + 1 ∧ k ≠ w16.heap.size)) k hk; simp only [List.mem_cons, List.not_mem_nil, or_false, not_or]; omega) (fun b h0 h2 => ⟨by have h1 := h0; (try simp only [Z.nt, List.mem_append, List.mem_cons, List.not_mem_nil, or_false, false_or, not_or] at h1); simp only [List.mem_cons, List.not_mem_nil, or_false, not_or, not_false_eq_true] <;> omega, h0⟩)
    have hxs192 : xs.take k179 = (xs.take (Int.toNat most) : List (List UInt8)) := by first | rfl | (rw [List.take_add_one, hx103]; rfl) | (congr 1; omega) | (rw [List.take_of_length_le (by omega), List.take_of_length_le (by omega)])
    have ho193 := hxs192 ▸ ho191
    have ho194 := (ho193).more (F' := (Z.nt (([] : List Nat) ++ Z.obl A181))) (fun b hb hm => hb (by simp only [List.nil_append] at hm; simp [hm]))
    replace hf := hf.setv (d := 4) (y := .slice A181 ((xs.take (Int.toNat most)).length) c182) rfl (by rw [← hxs192] <;> first | done | rfl)
    have hq195 : Z.Ch [] w w16 := hc10.then hc20
    have hq196 : Z.Ch [g15] w w177 := hq195.then hc180
    have hq197 : Z.Ch [g15, w16.heap.size] w w188 := hq196.then hc189
    refine ⟨_, Z.res1 hf Try.results16 rfl _, ?_⟩
    exact ⟨A181, c182, rfl, ho194, (Z.Ch.mono hq197 (by intro k hk; (try simp only [List.mem_cons, List.mem_append, List.not_mem_nil, or_false, false_or] at hk ⊢) <;> omega))⟩

end Go.Proofs.Ytlhpkogdcgebeaa
