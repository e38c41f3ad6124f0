/- Walks: the writers of messages. -/
import Derived.Test.YtlhpkogdcgebeaaFn
import Derived.Test.YtlhpkogdcgebeaaZg
import Derived.Test.YtlhpkogdcgebeaaEo
import Derived.Test.YtlhpkogdcgebeaaW1
set_option linter.unusedVariables false
set_option linter.unusedSimpArgs false
set_option synthInstance.maxSize 4000
set_option synthInstance.maxHeartbeats 400000
namespace Go.Proofs.Ytlhpkogdcgebeaa
open Go.RowKit
set_option maxHeartbeats 400000 in
set_option maxRecDepth 20000 in
theorem WJoin_spec (xss : List (List UInt8)) (w : World) (pA0 : Option Addr) (pc0 : Nat) (ph0 : (Z.Ty.slice (Z.Ty.slice Z.Ty.byte)).rep w (Z.nt []) [.slice pA0 xss.length pc0] xss) (hlen : xss.flatten.length ≤ 70368744177664) :
    Calls Try.prog 25 #[.slice pA0 xss.length pc0] w fun e w' => ∃ (rA0 : Option Addr) (rc0 : Nat), e = .returned (.slice rA0 xss.flatten.length rc0) ∧ (Z.Ty.slice Z.Ty.byte).rep w' (Z.iv w.heap.size w'.heap.size) [.slice rA0 xss.flatten.length rc0] xss.flatten ∧ Z.Ch [] w w' := by
  refine Z.enter Try.func25 rfl Try.ntmps25 (Nat.le_of_ble_eq_true rfl) fun a hf => ?_
  have hle_pA0 := Z.rep_le ph0
  have ph0o := Z.rep_ol ph0
  refine Z.qseq [.n] [] [] [] Z.k0 hf ?_; clear hf a; intro a hf
  refine Z.seq' (Z.Pq.body _ _ _) fun Q1 hp2 hn3 he4 => ?_
  refine Z.reg ?_
  refine Z.qr [.n] [3] [] [(3, .slice pA0 xss.length pc0)] Z.k0 hf ?_; clear hf a; intro a hf
  have hr5 := Z.rep_to (F' := (Z.nt [])) ph0o (Z.Ch.refl w)
  refine Z.call1 hf rfl (Z.r_call cf47 hf (xs := [.tmp 3, .const (.slice none 0 0)]) rfl) (Join_spec xss w pA0 pc0 hr5 (by omega)) ?_; clear hf a
  rintro _ w6 ⟨A7, c8, rfl, hr9, hc10⟩
  have hzhc10 := hc10.size
  refine ⟨_, rfl, ?_⟩; intro a hf
  refine Z.qe [.n] [2] [] [(2, .slice A7 ((xss.flatten).length) c8)] Z.k0 hf ?_; clear hf a; intro a hf
  refine hn3 _ _ ?_
  refine Z.ret ?_
  have hr11 : (Z.Ty.slice Z.Ty.byte).rep w6 (Z.iv w.heap.size w6.heap.size) [.slice A7 ((xss.flatten).length) c8] xss.flatten := Z.rep_as hr9 (by intro b h1 h2; (try simp only [Z.nt, Z.iv, Z.no, Z.ol] at h1); (try simp only [Z.iv]); omega)
  replace hf := hf.setv (d := 2) (y := .slice A7 xss.flatten.length c8) rfl (by first | rfl | (congr 1; first | rfl | omega | (simp; done) | (simp; omega)))
  refine Z.ret1 hf Try.results25 rfl ?_
  exact ⟨A7, c8, rfl, hr11, hc10⟩

set_option maxHeartbeats 400000 in
set_option maxRecDepth 20000 in
theorem Ints_spec (ns : List Int) (w : World) (pA0 : Option Addr) (pc0 : Nat) (ph0 : (Z.Ty.slice (Z.Ty.int .i64)).rep w (Z.nt []) [.slice pA0 ns.length pc0] ns) (hb : (ns.flatMap Codec.encInt).length ≤ 70368744177664) :
    Calls Try.prog 54 #[.slice pA0 ns.length pc0] w fun e w' => ∃ (rA0 : Option Addr) (rc0 : Nat), e = .returned (.slice rA0 (ns.flatMap Codec.encInt).length rc0) ∧ Z.Own Z.Ty.byte 5 w.heap.size w' Z.no rA0 rc0 (ns.flatMap Codec.encInt) ∧ Z.Ch [] w w' := by
  refine Z.enter Try.func54 rfl Try.ntmps54 (Nat.le_of_ble_eq_true rfl) fun a hf => ?_
  have hle_pA0 := Z.rep_le ph0
  have ph0o := Z.rep_ol ph0
  refine Z.qseq [.n] [] [] [] Z.k0 hf ?_; clear hf a; intro a hf
  refine Z.qseq [.n] [3] [] [(3, .slice none 0 0)] Z.k0 hf ?_; clear hf a; intro a hf
  refine Z.seq' (Z.Pq.body _ _ _) fun Q1 hp2 hn3 he4 => ?_
  refine Z.qseq [.n, .n, .n] [6, 7, 8] [] [(6, .slice pA0 ns.length pc0), (7, .int .i64 (ns.length : Int)), (8, .int .i64 0)] Z.k0 hf ?_; clear hf a; intro a hf
  refine Z.block' hp2 fun Q5 hp6 hn7 hx8 he9 => ?_
  refine Z.loop' hp6 (fun m a wl => ∃ (k : Nat), ∃ (lA0 : Option Addr), ∃ (lc0 : Nat), m = ns.length - k ∧ Z.Ch [] w wl ∧ Z.Own Z.Ty.byte 5 w.heap.size wl Z.no lA0 lc0 ((ns.take k).flatMap Codec.encInt) ∧ (k ≤ ns.length) ∧ Z.Fr a 18 [] [(3, .slice lA0 (((ns.take k).flatMap Codec.encInt).length) lc0), (6, .slice pA0 ns.length pc0), (7, .int .i64 (ns.length : Int)), (8, .int .i64 (k : Int))]) (ns.length - 0) ?_ ?_
  · have hxs10 : ([] : List UInt8) = ((ns.take 0).flatMap Codec.encInt : List UInt8) := by first | rfl | (simp; done) | (rw [hfl.1] <;> (simp; done)) | (rw [Codec.fm_all _ (by omega)] <;> (simp; done))
    have ho11 := hxs10 ▸ (Z.Own.nil Z.Ty.byte 5 w.heap.size w Z.no)
    replace hf := hf.setv (d := 3) (y := .slice none (((ns.take 0).flatMap Codec.encInt).length) 0) rfl (by rw [← hxs10] <;> first | done | rfl)
    replace hf := hf.setv (d := 8) (y := .int .i64 (0 : Int)) rfl (congrArg (Value.int .i64) (by first | rfl | omega | (simp; done) | (simp; omega)))
    exact ⟨0, none, 0, rfl, (Z.Ch.refl w), ho11, (by omega), (hf.keep [3, 6, 7, 8])⟩
  · rintro m24 a w12 ⟨k15, A20, c21, hm14, hc13, ho22, hk23, hf⟩ Q16 hp17 hn18 he19
    have hzhc13 := hc13.size
    refine Z.qseq [.n] [9] [] [(9, .bool (decide ((k15 : Int) < (ns.length : Int))))] Z.k0 hf ?_; clear hf a; intro a hf
    refine Z.seq' hp17 fun Q25 hp26 hn27 he28 => ?_
    refine Z.condp hf rfl ?_ ?_
    · intro hp29
      refine Z.skip ?_
      refine hn27 _ _ ?_
      refine Z.seq' hp17 fun Q30 hp31 hn32 he33 => ?_
      refine Z.block' hp31 fun Q34 hp35 hn36 hx37 he38 => ?_
      refine Z.seq' hp35 fun Q39 hp40 hn41 he42 => ?_
      refine Z.reg ?_
      have hr43 := Z.rep_to (F' := (Z.ol [] w.heap.size)) ph0o hc13
      have hkx46 : k15 < (ns).length := (by omega)
      obtain ⟨ad44, es45, x46, hA47, hF48, hl49, hx50, hc51, hr52⟩ := Z.rep_el hr43 hkx46
      have hok53 := Z.rep_ok _ hr52
      have he54 := hr52.1
      have he55 : es45 = [.int .i64 x46] := by simp only [he54, List.cons_append, List.nil_append]
      rw [he55] at hc51
      have hfl := Codec.fm_step Codec.encInt hx50
      refine Z.val hf rfl (Z.r_indexAddrE Try.underlying117 Try.sizeOf2 (hf.eval rfl) hA47 (hf.eval rfl) (k := k15) (by first | rfl | omega) (by omega)) ?_; clear hf a; intro a hf
      refine Z.qe [.e 0 0, .n] [5] [] [(5, .int .i64 x46)] (Z.ke hc51 Z.k0) hf ?_; clear hf a; intro a hf
      refine hn41 _ _ ?_
      refine Z.reg ?_
      refine Z.qr [.n, .n] [12, 13] [] [(12, .slice A20 (((ns.take k15).flatMap Codec.encInt).length) c21), (13, .int .i64 x46)] Z.k0 hf ?_; clear hf a; intro a hf
      refine Z.call1 hf rfl (Z.r_call cf26 hf (xs := [.tmp 13]) rfl) (Int_spec x46 w12  (by exact Z.has_i64 (by assumption))) ?_; clear hf a
      rintro _ w56 ⟨A57, c58, rfl, ho59, hc61⟩
      have hzhc61 := hc61.size
      refine ⟨_, rfl, ?_⟩; intro a hf
      have ho62 := ho22.ch0 hc61
      have hr63 := ho59.riv
      refine Z.st_append_flat (t := Z.Ty.byte) hf rfl Try.underlying40 inf5.1 inf5.2.1 inf5.2.2.1 inf5.2.2.2.1 inf5.2.2.2.2 (by decide) (by decide) rfl rfl (by first | rfl | omega) ho62 rfl hr63 (by first | omega | (simp only [List.length_cons, List.length_nil, List.length_append]; omega) | (simp; done))  (by omega) ?_; clear hf a; intro A64 c65 w66 a ho67 hc68 hcas69 hf
      have hzhc68 := hc68.size
      have hob70 : ∀ k, k ∈ Z.obl A64 → w.heap.size ≤ k ∧ k < w12.heap.size ∨ k = w56.heap.size := fun k hk => by rcases hcas69 k hk with h | h; (have := ho22.lt k h; omega); omega
      refine Z.qe [.n] [3] [] [(3, .slice A64 ((((ns.take k15).flatMap Codec.encInt) ++ (Codec.encInt x46)).length) c65)] Z.k0 hf ?_; clear hf a; intro a hf
      refine hn36 _ _ ?_
      refine hn32 _ _ ?_
      refine Z.qreg [.n, .n] [8] [Z.R64 ((k15 : Int) + 1)] [(8, .int .i64 ((k15 : Int) + 1))] Z.k0 hf ?_; clear hf a; intro a hf
      refine hn18 (ns.length - (k15 + 1)) _ _ ?_ ?_
      rotate_left
      have hxs72 : ((ns.take k15).flatMap Codec.encInt) ++ (Codec.encInt x46) = ((ns.take (k15 + 1 : Nat)).flatMap Codec.encInt : List UInt8) := by first | rfl | (simp; done) | (rw [hfl.1] <;> (simp; done)) | (rw [Codec.fm_all _ (by omega)] <;> (simp; done))
      have ho73 := hxs72 ▸ ho67
      replace hf := hf.setv (d := 3) (y := .slice A64 (((ns.take (k15 + 1 : Nat)).flatMap Codec.encInt).length) c65) rfl (by rw [← hxs72] <;> first | done | rfl)
      replace hf := hf.setv (d := 8) (y := .int .i64 ((k15 + 1 : Nat) : Int)) rfl (congrArg (Value.int .i64) (by first | rfl | omega | (simp; done) | (simp; omega)))
      have hq74 : Z.Ch [] w w56 := hc13.then hc61
      have hq75 : Z.Ch ([] ++ Z.obl A20) w w66 := hq74.then hc68 (by simp) (by first | (intro k hk; simp [hk]; done) | (intro k hk; simp at hk; simp [hk]; done) | (intro k hk; simp at hk; rcases hk with hk | hk <;> simp [hk]))
      exact ⟨k15 + 1, A64, c65, rfl, (hq75.mono (by intro k hk; exact (Classical.em (k ∈ Z.obl A20)).elim (fun hm0 => by have hob := ho22.lt k hm0; (try simp only [List.mem_cons, List.mem_append, List.not_mem_nil, or_false, false_or]) <;> omega) (fun hm0 => by (try simp only [hm0, List.mem_cons, List.mem_append, List.not_mem_nil, or_false, false_or] at hk ⊢) <;> omega))), ho73, (by omega), (hf.keep [3, 6, 7, 8])⟩
      rw [hm14]; omega
    · intro hp76
      refine Z.exit ?_
      refine he28 _ _ _ (by simp) ?_
      refine he19 _ _ _ (by simp) ?_
      refine hx8 _ _ ?_
      refine hn3 _ _ ?_
      refine Z.qseq [.n, .n] [2] [] [(2, .slice A20 (((ns.take k15).flatMap Codec.encInt).length) c21)] Z.k0 hf ?_; clear hf a; intro a hf
      refine Z.ret ?_
      have hxs77 : (ns.take k15).flatMap Codec.encInt = (ns.flatMap Codec.encInt : List UInt8) := by first | rfl | (simp; done) | (rw [hfl.1] <;> (simp; done)) | (rw [Codec.fm_all _ (by omega)] <;> (simp; done))
      have ho78 := hxs77 ▸ ho22
      replace hf := hf.setv (d := 2) (y := .slice A20 ((ns.flatMap Codec.encInt).length) c21) rfl (by rw [← hxs77] <;> first | done | rfl)
      refine Z.ret1 hf Try.results54 rfl ?_
      exact ⟨A20, c21, rfl, ho78, hc13⟩

set_option maxHeartbeats 400000 in
set_option maxRecDepth 20000 in
theorem Text_spec (s : ByteArray) (w : World)   (hg : Codec.gText s) :
    Calls Try.prog 64 #[.string s] w fun e w' => ∃ (rA0 : Option Addr) (rc0 : Nat), e = .returned (.tuple #[.slice rA0 (Codec.encText s).length rc0, .int .i64 0]) ∧ Z.Own Z.Ty.byte 5 w.heap.size w' Z.no rA0 rc0 (Codec.encText s) ∧ Z.Ch [] w w' := by
  refine Z.enter Try.func64 rfl Try.ntmps64 (Nat.le_of_ble_eq_true rfl) fun a hf => ?_
  have hg' := hg; unfold Codec.gText at hg'; have hil := Codec.encInt_length (s.size : Int)
  refine Z.qseq [.n, .n] [] [] [] Z.k0 hf ?_; clear hf a; intro a hf
  refine Z.seq' (Z.Pq.body _ _ _) fun Q1 hp2 hn3 he4 => ?_
  refine Z.qseq [.n, .n, .n] [6] [] [(6, .bool (decide (65536 < (s.size : Int))))] Z.k0 hf ?_; clear hf a; intro a hf
  refine Z.condp hf rfl ?_ ?_
  · intro hp5
    exfalso; omega
  · intro hp6
    refine Z.skip ?_
    refine hn3 _ _ ?_
    refine Z.seq' (Z.Pq.body _ _ _) fun Q7 hp8 hn9 he10 => ?_
    refine Z.reg ?_
    refine Z.qr [.n, .n] [8] [] [(8, .int .i64 (s.size : Int))] Z.k0 hf ?_; clear hf a; intro a hf
    refine Z.call1 hf rfl (Z.r_call cf26 hf (xs := [.tmp 8]) rfl) (Int_spec (s.size : Int) w  (by unfold Codec.okInt; omega)) ?_; clear hf a
    rintro _ w11 ⟨A12, c13, rfl, ho14, hc16⟩
    have hzhc16 := hc16.size
    refine ⟨_, rfl, ?_⟩; intro a hf
    refine Z.qr [.n] [10] [] [(10, .string s)] Z.k0 hf ?_; clear hf a; intro a hf
    refine Z.st_append_str hf rfl Try.underlying40 Try.underlying9 inf5.1 inf5.2.1 inf5.2.2.1 inf5.2.2.2.1 rfl (by first | rfl | omega) ho14 rfl (by first | omega | (simp only [List.length_cons, List.length_nil, List.length_append]; omega) | (simp; done)) (by omega) ?_; clear hf a; intro A17 c18 w19 a ho20 hc21 hf
    have hzhc21 := hc21.size
    refine Z.qe [.n, .n] [2, 3] [] [(2, .slice A17 (((Codec.encInt (s.size : Int)) ++ s.data.toList).length) c18), (3, .int .i64 0)] Z.k0 hf ?_; clear hf a; intro a hf
    refine hn9 _ _ ?_
    refine Z.ret ?_
    have hxs22 : (Codec.encInt (s.size : Int)) ++ s.data.toList = (Codec.encText s : List UInt8) := by first | rfl | (simp [Codec.encText]; done)
    have ho23 := hxs22 ▸ ho20
    replace hf := hf.setv (d := 2) (y := .slice A17 ((Codec.encText s).length) c18) rfl (by rw [← hxs22] <;> first | done | rfl)
    have hq24 : Z.Ch ([] ++ Z.obl A12) w w19 := hc16.then hc21 (by simp) (by first | (intro k hk; simp [hk]; done) | (intro k hk; simp at hk; simp [hk]; done) | (intro k hk; simp at hk; rcases hk with hk | hk <;> simp [hk]))
    refine Z.ret2 hf Try.results64 rfl rfl ?_
    exact ⟨A17, c18, rfl, ho23, (Z.Ch.mono hq24 (by intro k hk; exact (Classical.em (k ∈ Z.obl A12)).elim (fun hm0 => by have hob := ho14.lt k hm0; (try simp only [List.mem_cons, List.mem_append, List.not_mem_nil, or_false, false_or]) <;> omega) (fun hm0 => by (try simp only [hm0, List.mem_cons, List.mem_append, List.not_mem_nil, or_false, false_or] at hk ⊢) <;> omega)))⟩

set_option maxHeartbeats 400000 in
set_option maxRecDepth 20000 in
theorem w_ints (b : List UInt8) (g : Nat) (ns : List Int) (w : World) (pA0 : Option Addr) (pc0 : Nat) (pA1 : Option Addr) (pc1 : Nat) (ph0 : (Z.Ty.slice Z.Ty.byte).rep w (Z.nt [g]) [.slice pA0 b.length pc0] b) (pb1 : Z.Blk w g 90 [.slice pA0 b.length pc0]) (ph1 : (Z.Ty.slice (Z.Ty.int .i64)).rep w (Z.nt [g]) [.slice pA1 ns.length pc1] ns) (hb : b.length + (ns.flatMap Codec.encInt).length ≤ 70368744177664) :
    Calls Try.prog 37 #[.pointer (some ⟨g, 0, none⟩), .slice pA1 ns.length pc1] w fun e w' => ∃ (rA0 : Option Addr) (rc0 : Nat), e = .returned (.tuple #[]) ∧ (Z.Ty.slice Z.Ty.byte).rep w' (Z.iv w.heap.size w'.heap.size) [.slice rA0 (b ++ ns.flatMap Codec.encInt).length rc0] (b ++ ns.flatMap Codec.encInt) ∧ Z.Blk w' g 90 [.slice rA0 (b ++ ns.flatMap Codec.encInt).length rc0] ∧ Z.Ch [g] w w' := by
  refine Z.enter Try.func37 rfl Try.ntmps37 (Nat.le_of_ble_eq_true rfl) fun a hf => ?_
  have hlt_g := pb1.lt
  have hle_pA1 := Z.rep_le ph1
  have ph1o := Z.rep_ol ph1
  have hle_pA0 := Z.rep_le ph0
  have ph0o := Z.rep_ol ph0
  refine Z.dr_reg (S := fun w' => Z.Ch [g] w w') mixed ?_; intro w1 hc2 hz3
  refine Z.dqr [true, true, true, true, false, true, false, false, false, false, false, false] 7 [(0, .n), (1, .n), (2, .n), (3, .n), (5, .n)] [4, 7, 9] [] [(4, .pointer (some ⟨g, 0, none⟩)), (7, .pointer (some ⟨g, 0, none⟩)), (9, .slice pA1 ns.length pc1)] (Z.Pq.body _ _ _) (hc2.mono (by simp)) (fun w hw => Z.k0) hf ?_; clear hf a; intro a hf
  refine Z.dr_two 4 6 rfl rfl (by kernel_rfl) ?_ ?_
  · have hb4 := pb1.ch0 hc2
    refine Z.val hf rfl (Z.r_loadB Try.isAgg40 (hf.eval rfl) hb4 rfl) ?_; clear hf a; intro a hf
    refine Z.done ?_
    refine And.intro (hc2.mono (by simp)) ?_
    refine Z.dr_one 6 rfl (by kernel_rfl) ?_
    have hr5 := Z.rep_to (F' := (Z.nt [])) ph1o hc2
    refine Z.call1 hf rfl (Z.r_call cf54 hf (xs := [.tmp 9]) rfl) (Ints_spec ns w1 pA1 pc1 hr5 (by first | omega | (simp only [List.length_append, List.flatMap_cons, List.flatMap_nil, List.flatten_cons, List.flatten_nil, List.length_nil, List.append_nil]; omega))) ?_; clear hf a
    rintro _ w6 ⟨A7, c8, rfl, ho9, hc11⟩
    have hzhc11 := hc11.size
    refine ⟨_, rfl, ?_⟩; intro a hf
    refine Z.done ?_
    have hq12 : Z.Ch [] w w6 := hc2.then hc11
    refine And.intro (hq12.mono (by simp)) ?_
    refine Z.dr_one 7 rfl (by kernel_rfl) ?_
    refine Z.st_bslice hf rfl Try.underlying46 Try.sizeOf40 Try.zeroValue40 (parts := [(0, .tmp 8), (1, .tmp 10)]) (cs := [.slice pA0 b.length pc0, .slice A7 ((ns.flatMap Codec.encInt).length) c8]) rfl rfl rfl (by kernel_rfl) ?_; clear hf a; intro g13 w14 a hg15 hz16 hb17 hc18 hf
    have hq20 : Z.Ch [] w w14 := hq12.then hc18
    have hr21 := Z.rep_to (F' := (Z.nt [])) ph0o hq20
    have hr22 := ho9.riv
    have hr23 := Z.rep_to (F' := (Z.nt [])) hr22 hc18
    have ho19 : Z.Own (Z.Ty.slice Z.Ty.byte) 40 g13 w14 (Z.nt []) (some ⟨g13, 0, none⟩) 2 ([b, ns.flatMap Codec.encInt] : List (List UInt8)) := Z.Own.made (t := (Z.Ty.slice Z.Ty.byte)) (xs := ([b, ns.flatMap Codec.encInt] : List (List UInt8))) hb17 (Nat.le_refl _) rfl (by simp [maxLen]) (by simp [Value.oneCell']) (fun i x hi => by match i, hi with | 0, hi => (injection hi with hi; subst hi; exact hr21) | 1, hi => (injection hi with hi; subst hi; exact hr23) | (j + 2), hi => simp at hi)
    refine Z.done ?_
    refine And.intro (hq20.mono (by simp)) ?_
    refine Z.dr_one 8 rfl (by kernel_rfl) ?_
    have hr24 := (ho19.rep' (F' := Z.nt []) (fun _ h => h) (fun _ _ _ => by simp [Z.nt]))
    refine Z.call1 hf rfl (Z.r_call cf25 hf (xs := [.tmp 11]) rfl) (WJoin_spec ([b, ns.flatMap Codec.encInt] : List (List UInt8)) w14 (some ⟨g13, 0, none⟩) 2 hr24 (by first | omega | (simp only [List.length_append, List.flatMap_cons, List.flatMap_nil, List.flatten_cons, List.flatten_nil, List.length_nil, List.append_nil]; omega))) ?_; clear hf a
    rintro _ w25 ⟨A26, c27, rfl, hr28, hc29⟩
    have hzhc29 := hc29.size
    refine ⟨_, rfl, ?_⟩; intro a hf
    refine Z.done ?_
    have hq30 : Z.Ch [] w w25 := hq20.then hc29
    refine And.intro (hq30.mono (by simp)) ?_
    refine Z.dqr [true, true, true, true, true, true, true, true, true, true, true, false] 1 [(9, .n), (10, .n)] [14] [] [(14, .pointer (some ⟨g, 0, none⟩))] (Z.Pq.body _ _ _) (hq30.mono (by simp)) (fun w hw => Z.k0) hf ?_; clear hf a; intro a hf
    refine Z.dr_one 11 rfl (by kernel_rfl) ?_
    have hq31 : Z.Ch [] w1 w14 := hc11.then hc18
    have hq32 : Z.Ch [] w1 w25 := hq31.then hc29
    have hb33 := hb4.ch0 hq32
    refine Z.st_store hf hb33 rfl rfl Try.sizeOf40 rfl rfl rfl (by simp [Value.oneCell']) rfl ?_; clear hf a; intro w34 a hz35 hb36 hc37 hf
    refine Z.done ?_
    have hq38 : Z.Ch [g] w w34 := hq30.then hc37
    refine And.intro hq38 ?_
    refine Z.dr_done (by kernel_rfl) ?_
    have hr39 := Z.rep_to (F' := (Z.iv w14.heap.size w25.heap.size)) hr28 hc37
    have hr40 : (Z.Ty.slice Z.Ty.byte).rep w34 (Z.iv w.heap.size w34.heap.size) [.slice A26 ((([b, ns.flatMap Codec.encInt] : List (List UInt8)).flatten).length) c27] (([b, ns.flatMap Codec.encInt] : List (List UInt8)).flatten) := Z.rep_as hr39 (by intro b h1 h2; (try simp only [Z.nt, Z.iv, Z.no, Z.ol] at h1); (try simp only [Z.iv]); omega)
    have hxs41 : ([b, ns.flatMap Codec.encInt] : List (List UInt8)).flatten = (b ++ ns.flatMap Codec.encInt : List UInt8) := by first | rfl | (simp; done)
    have hr42 := Z.rep_eq hr40 hxs41
    have hb43 : Z.Blk w34 g 90 [.slice A26 ((b ++ ns.flatMap Codec.encInt).length) c27] := Z.Blk.cast (show Z.Blk w34 g 90 [.slice A26 ((([b, ns.flatMap Codec.encInt] : List (List UInt8)).flatten).length) c27] from hb36) (by first | rfl | (simp only [hxs41]; done) | simp_all)
    refine Z.end0 hf Try.results37 ?_
    exact ⟨A26, c27, rfl, hr42, hb43, hq38⟩
  · have hr44 := Z.rep_to (F' := (Z.nt [])) ph1o hc2
    refine Z.call1 hf rfl (Z.r_call cf54 hf (xs := [.tmp 9]) rfl) (Ints_spec ns w1 pA1 pc1 hr44 (by first | omega | (simp only [List.length_append, List.flatMap_cons, List.flatMap_nil, List.flatten_cons, List.flatten_nil, List.length_nil, List.append_nil]; omega))) ?_; clear hf a
    rintro _ w45 ⟨A46, c47, rfl, ho48, hc50⟩
    have hzhc50 := hc50.size
    refine ⟨_, rfl, ?_⟩; intro a hf
    refine Z.done ?_
    have hq51 : Z.Ch [] w w45 := hc2.then hc50
    refine And.intro (hq51.mono (by simp)) ?_
    refine Z.dr_one 4 rfl (by kernel_rfl) ?_
    have hb52 := pb1.ch0 hq51
    refine Z.val hf rfl (Z.r_loadB Try.isAgg40 (hf.eval rfl) hb52 rfl) ?_; clear hf a; intro a hf
    refine Z.done ?_
    refine And.intro (hq51.mono (by simp)) ?_
    refine Z.dr_one 7 rfl (by kernel_rfl) ?_
    refine Z.st_bslice hf rfl Try.underlying46 Try.sizeOf40 Try.zeroValue40 (parts := [(0, .tmp 8), (1, .tmp 10)]) (cs := [.slice pA0 b.length pc0, .slice A46 ((ns.flatMap Codec.encInt).length) c47]) rfl rfl rfl (by kernel_rfl) ?_; clear hf a; intro g53 w54 a hg55 hz56 hb57 hc58 hf
    have hq60 : Z.Ch [] w w54 := hq51.then hc58
    have hr61 := Z.rep_to (F' := (Z.nt [])) ph0o hq60
    have hr62 := ho48.riv
    have hr63 := Z.rep_to (F' := (Z.nt [])) hr62 hc58
    have ho59 : Z.Own (Z.Ty.slice Z.Ty.byte) 40 g53 w54 (Z.nt []) (some ⟨g53, 0, none⟩) 2 ([b, ns.flatMap Codec.encInt] : List (List UInt8)) := Z.Own.made (t := (Z.Ty.slice Z.Ty.byte)) (xs := ([b, ns.flatMap Codec.encInt] : List (List UInt8))) hb57 (Nat.le_refl _) rfl (by simp [maxLen]) (by simp [Value.oneCell']) (fun i x hi => by match i, hi with | 0, hi => (injection hi with hi; subst hi; exact hr61) | 1, hi => (injection hi with hi; subst hi; exact hr63) | (j + 2), hi => simp at hi)
    refine Z.done ?_
    refine And.intro (hq60.mono (by simp)) ?_
    refine Z.dr_one 8 rfl (by kernel_rfl) ?_
    have hr64 := (ho59.rep' (F' := Z.nt []) (fun _ h => h) (fun _ _ _ => by simp [Z.nt]))
    refine Z.call1 hf rfl (Z.r_call cf25 hf (xs := [.tmp 11]) rfl) (WJoin_spec ([b, ns.flatMap Codec.encInt] : List (List UInt8)) w54 (some ⟨g53, 0, none⟩) 2 hr64 (by first | omega | (simp only [List.length_append, List.flatMap_cons, List.flatMap_nil, List.flatten_cons, List.flatten_nil, List.length_nil, List.append_nil]; omega))) ?_; clear hf a
    rintro _ w65 ⟨A66, c67, rfl, hr68, hc69⟩
    have hzhc69 := hc69.size
    refine ⟨_, rfl, ?_⟩; intro a hf
    refine Z.done ?_
    have hq70 : Z.Ch [] w w65 := hq60.then hc69
    refine And.intro (hq70.mono (by simp)) ?_
    refine Z.dqr [true, true, true, true, true, true, true, true, true, true, true, false] 1 [(9, .n), (10, .n)] [14] [] [(14, .pointer (some ⟨g, 0, none⟩))] (Z.Pq.body _ _ _) (hq70.mono (by simp)) (fun w hw => Z.k0) hf ?_; clear hf a; intro a hf
    refine Z.dr_one 11 rfl (by kernel_rfl) ?_
    have hq71 : Z.Ch [] w45 w65 := hc58.then hc69
    have hb72 := hb52.ch0 hq71
    refine Z.st_store hf hb72 rfl rfl Try.sizeOf40 rfl rfl rfl (by simp [Value.oneCell']) rfl ?_; clear hf a; intro w73 a hz74 hb75 hc76 hf
    refine Z.done ?_
    have hq77 : Z.Ch [g] w w73 := hq70.then hc76
    refine And.intro hq77 ?_
    refine Z.dr_done (by kernel_rfl) ?_
    have hr78 := Z.rep_to (F' := (Z.iv w54.heap.size w65.heap.size)) hr68 hc76
    have hr79 : (Z.Ty.slice Z.Ty.byte).rep w73 (Z.iv w.heap.size w73.heap.size) [.slice A66 ((([b, ns.flatMap Codec.encInt] : List (List UInt8)).flatten).length) c67] (([b, ns.flatMap Codec.encInt] : List (List UInt8)).flatten) := Z.rep_as hr78 (by intro b h1 h2; (try simp only [Z.nt, Z.iv, Z.no, Z.ol] at h1); (try simp only [Z.iv]); omega)
    have hxs80 : ([b, ns.flatMap Codec.encInt] : List (List UInt8)).flatten = (b ++ ns.flatMap Codec.encInt : List UInt8) := by first | rfl | (simp; done)
    have hr81 := Z.rep_eq hr79 hxs80
    have hb82 : Z.Blk w73 g 90 [.slice A66 ((b ++ ns.flatMap Codec.encInt).length) c67] := Z.Blk.cast (show Z.Blk w73 g 90 [.slice A66 ((([b, ns.flatMap Codec.encInt] : List (List UInt8)).flatten).length) c67] from hb75) (by first | rfl | (simp only [hxs80]; done) | simp_all)
    refine Z.end0 hf Try.results37 ?_
    exact ⟨A66, c67, rfl, hr81, hb82, hq77⟩

set_option maxHeartbeats 400000 in
set_option maxRecDepth 20000 in
theorem w_int (b : List UInt8) (g : Nat) (n : Int) (w : World) (pA0 : Option Addr) (pc0 : Nat) (ph0 : (Z.Ty.slice Z.Ty.byte).rep w (Z.nt [g]) [.slice pA0 b.length pc0] b) (pb1 : Z.Blk w g 90 [.slice pA0 b.length pc0]) (hb : b.length + (Codec.encInt n).length ≤ 70368744177664) (hn : Codec.okInt n) :
    Calls Try.prog 52 #[.pointer (some ⟨g, 0, none⟩), .int .i64 n] w fun e w' => ∃ (rA0 : Option Addr) (rc0 : Nat), e = .returned (.tuple #[]) ∧ (Z.Ty.slice Z.Ty.byte).rep w' (Z.iv w.heap.size w'.heap.size) [.slice rA0 (b ++ Codec.encInt n).length rc0] (b ++ Codec.encInt n) ∧ Z.Blk w' g 90 [.slice rA0 (b ++ Codec.encInt n).length rc0] ∧ Z.Ch [g] w w' := by
  refine Z.enter Try.func52 rfl Try.ntmps52 (Nat.le_of_ble_eq_true rfl) fun a hf => ?_
  have hlt_g := pb1.lt
  have hle_pA0 := Z.rep_le ph0
  have ph0o := Z.rep_ol ph0
  have hn' := hn; unfold Codec.okInt at hn'
  refine Z.reg ?_
  refine Z.qr [.n, .n] [4, 5] [] [(4, .pointer (some ⟨g, 0, none⟩)), (5, .int .i64 n)] Z.k0 hf ?_; clear hf a; intro a hf
  refine Z.st_bslice hf rfl Try.underlying117 Try.sizeOf2 Try.zeroValue2 (parts := [(0, .tmp 5)]) (cs := [.int .i64 n]) rfl rfl rfl (by kernel_rfl) ?_; clear hf a; intro g1 w2 a hg3 hz4 hb5 hc6 hf
  have ho7 : Z.Own (Z.Ty.int .i64) 2 g1 w2 Z.no (some ⟨g1, 0, none⟩) 1 ([n] : List Int) := Z.Own.made (t := (Z.Ty.int .i64)) (xs := ([n] : List Int)) hb5 (Nat.le_refl _) rfl (by simp [maxLen]) (by simp [Value.oneCell']) (fun i x hi => by match i, hi with | 0, hi => (injection hi with hi; subst hi; exact (show (Z.Ty.int .i64).rep w2 (Z.nt []) [.int .i64 n] n from ⟨rfl, (Z.i64_has (by omega))⟩)) | (j + 1), hi => simp at hi)
  have hb8 := pb1.ch0 hc6
  have hr9 := Z.rep_to (F' := (Z.nt [g])) ph0o hc6
  have hr10 := ho7.riv
  have hr11 := Z.rep_to (F' := (Z.nt [g])) hr10 (Z.Ch.refl w2)
  refine Z.call1 hf rfl (Z.r_call cf37 hf (xs := [.tmp 4, .tmp 6]) rfl) (w_ints b g ([n] : List Int) w2 pA0 pc0 (some ⟨g1, 0, none⟩) 1 hr9 hb8 hr11 (by first | omega | (simp only [List.length_append, List.flatMap_cons, List.flatMap_nil, List.flatten_cons, List.flatten_nil, List.length_nil, List.append_nil]; omega))) ?_; clear hf a
  rintro _ w12 ⟨A13, c14, rfl, hr15, hb16, hc17⟩
  have hzhc17 := hc17.size
  refine ⟨_, rfl, ?_⟩; intro a hf
  refine Z.done ?_
  have hr18 : (Z.Ty.slice Z.Ty.byte).rep w12 (Z.iv w.heap.size w12.heap.size) [.slice A13 ((b ++ ([n] : List Int).flatMap Codec.encInt).length) c14] (b ++ ([n] : List Int).flatMap Codec.encInt) := Z.rep_as hr15 (by intro b h1 h2; (try simp only [Z.nt, Z.iv, Z.no, Z.ol] at h1); (try simp only [Z.iv]); omega)
  have hxs19 : b ++ ([n] : List Int).flatMap Codec.encInt = (b ++ Codec.encInt n : List UInt8) := by first | rfl | (simp; done)
  have hr20 := Z.rep_eq hr18 hxs19
  have hb21 : Z.Blk w12 g 90 [.slice A13 ((b ++ Codec.encInt n).length) c14] := Z.Blk.cast (show Z.Blk w12 g 90 [.slice A13 ((b ++ ([n] : List Int).flatMap Codec.encInt).length) c14] from hb16) (by first | rfl | (simp only [hxs19]; done) | simp_all)
  have hq22 : Z.Ch [g] w w12 := hc6.then hc17
  refine Z.end0 hf Try.results52 ?_
  exact ⟨A13, c14, rfl, hr20, hb21, hq22⟩

set_option maxHeartbeats 400000 in
set_option maxRecDepth 20000 in
theorem fails_none  (w : World)    :
    Calls Try.prog 51 #[.int .i64 0] w fun e w' => e = .returned (.tuple #[]) ∧ Z.Ch [] w w' := by
  refine Z.enter Try.func51 rfl Try.ntmps51 (Nat.le_of_ble_eq_true rfl) fun a hf => ?_
  refine Z.qseq [.n, .n] [3] [] [(3, .bool false)] Z.k0 hf ?_; clear hf a; intro a hf
  refine Z.condf hf rfl ?_
  refine Z.skip ?_
  refine Z.end0 hf Try.results51 ?_
  exact ⟨rfl, (Z.Ch.refl w)⟩

set_option maxHeartbeats 400000 in
set_option maxRecDepth 20000 in
theorem w_text (b : List UInt8) (g : Nat) (s : ByteArray) (w : World) (pA0 : Option Addr) (pc0 : Nat) (ph0 : (Z.Ty.slice Z.Ty.byte).rep w (Z.nt [g]) [.slice pA0 b.length pc0] b) (pb1 : Z.Blk w g 90 [.slice pA0 b.length pc0]) (hb : b.length + (Codec.encText s).length ≤ 70368744177664) (hg : Codec.gText s) :
    Calls Try.prog 53 #[.pointer (some ⟨g, 0, none⟩), .string s] w fun e w' => ∃ (rA0 : Option Addr) (rc0 : Nat), e = .returned (.tuple #[]) ∧ (Z.Ty.slice Z.Ty.byte).rep w' (Z.iv w.heap.size w'.heap.size) [.slice rA0 (b ++ Codec.encText s).length rc0] (b ++ Codec.encText s) ∧ Z.Blk w' g 90 [.slice rA0 (b ++ Codec.encText s).length rc0] ∧ Z.Ch [g] w w' := by
  refine Z.enter Try.func53 rfl Try.ntmps53 (Nat.le_of_ble_eq_true rfl) fun a hf => ?_
  have hlt_g := pb1.lt
  have hle_pA0 := Z.rep_le ph0
  have ph0o := Z.rep_ol ph0
  refine Z.seq' (Z.Pq.body _ _ _) fun Q1 hp2 hn3 he4 => ?_
  refine Z.reg ?_
  refine Z.qr [.n] [7] [] [(7, .string s)] Z.k0 hf ?_; clear hf a; intro a hf
  refine Z.call1 hf rfl (Z.r_call cf64 hf (xs := [.tmp 7]) rfl) (Text_spec s w  (by assumption)) ?_; clear hf a
  rintro _ w5 ⟨A6, c7, rfl, ho8, hc10⟩
  have hzhc10 := hc10.size
  refine ⟨_, rfl, ?_⟩; intro a hf
  refine Z.qe [.n, .n, .n, .n, .n] [4, 5] [] [(4, .slice A6 ((Codec.encText s).length) c7), (5, .int .i64 0)] Z.k0 hf ?_; clear hf a; intro a hf
  refine hn3 _ _ ?_
  refine Z.seq' (Z.Pq.body _ _ _) fun Q11 hp12 hn13 he14 => ?_
  refine Z.reg ?_
  refine Z.qr [.n] [11] [] [(11, .int .i64 0)] Z.k0 hf ?_; clear hf a; intro a hf
  refine Z.call1 hf rfl (Z.r_call cf51 hf (xs := [.tmp 11]) rfl) (fails_none  w5  ) ?_; clear hf a
  rintro _ w15 ⟨rfl, hc16⟩
  have hzhc16 := hc16.size
  refine ⟨_, rfl, ?_⟩; intro a hf
  refine Z.done ?_
  refine hn13 _ _ ?_
  refine Z.reg ?_
  have hq17 : Z.Ch [] w w15 := hc10.then hc16
  have hb18 := pb1.ch0 hq17
  refine Z.qr [.n, .n, .n, .n, .b 0 0, .n] [13, 17, 18] [] [(13, .pointer (some ⟨g, 0, none⟩)), (17, .slice pA0 b.length pc0), (18, .slice A6 ((Codec.encText s).length) c7)] (Z.kb hb18 Z.k0) hf ?_; clear hf a; intro a hf
  refine Z.st_bslice hf rfl Try.underlying46 Try.sizeOf40 Try.zeroValue40 (parts := [(0, .tmp 17), (1, .tmp 18)]) (cs := [.slice pA0 b.length pc0, .slice A6 ((Codec.encText s).length) c7]) rfl rfl rfl (by kernel_rfl) ?_; clear hf a; intro g19 w20 a hg21 hz22 hb23 hc24 hf
  have hq26 : Z.Ch [] w w20 := hq17.then hc24
  have hr27 := Z.rep_to (F' := (Z.nt [])) ph0o hq26
  have hr28 := ho8.riv
  have hq29 : Z.Ch [] w5 w20 := hc16.then hc24
  have hr30 := Z.rep_to (F' := (Z.nt [])) hr28 hq29
  have ho25 : Z.Own (Z.Ty.slice Z.Ty.byte) 40 g19 w20 (Z.nt []) (some ⟨g19, 0, none⟩) 2 ([b, Codec.encText s] : List (List UInt8)) := Z.Own.made (t := (Z.Ty.slice Z.Ty.byte)) (xs := ([b, Codec.encText s] : List (List UInt8))) hb23 (Nat.le_refl _) rfl (by simp [maxLen]) (by simp [Value.oneCell']) (fun i x hi => by match i, hi with | 0, hi => (injection hi with hi; subst hi; exact hr27) | 1, hi => (injection hi with hi; subst hi; exact hr30) | (j + 2), hi => simp at hi)
  have hr31 := (ho25.rep' (F' := Z.nt []) (fun _ h => h) (fun _ _ _ => by simp [Z.nt]))
  refine Z.call1 hf rfl (Z.r_call cf25 hf (xs := [.tmp 19]) rfl) (WJoin_spec ([b, Codec.encText s] : List (List UInt8)) w20 (some ⟨g19, 0, none⟩) 2 hr31 (by first | omega | (simp only [List.length_append, List.flatMap_cons, List.flatMap_nil, List.flatten_cons, List.flatten_nil, List.length_nil, List.append_nil]; omega))) ?_; clear hf a
  rintro _ w32 ⟨A33, c34, rfl, hr35, hc36⟩
  have hzhc36 := hc36.size
  refine ⟨_, rfl, ?_⟩; intro a hf
  refine Z.qr [.n, .n] [22] [] [(22, .pointer (some ⟨g, 0, none⟩))] Z.k0 hf ?_; clear hf a; intro a hf
  have hq37 : Z.Ch [] w15 w32 := hc24.then hc36
  have hb38 := hb18.ch0 hq37
  refine Z.st_store hf hb38 rfl rfl Try.sizeOf40 rfl rfl rfl (by simp [Value.oneCell']) rfl ?_; clear hf a; intro w39 a hz40 hb41 hc42 hf
  refine Z.done ?_
  have hr43 := Z.rep_to (F' := (Z.iv w20.heap.size w32.heap.size)) hr35 hc42
  have hr44 : (Z.Ty.slice Z.Ty.byte).rep w39 (Z.iv w.heap.size w39.heap.size) [.slice A33 ((([b, Codec.encText s] : List (List UInt8)).flatten).length) c34] (([b, Codec.encText s] : List (List UInt8)).flatten) := Z.rep_as hr43 (by intro b h1 h2; (try simp only [Z.nt, Z.iv, Z.no, Z.ol] at h1); (try simp only [Z.iv]); omega)
  have hxs45 : ([b, Codec.encText s] : List (List UInt8)).flatten = (b ++ Codec.encText s : List UInt8) := by first | rfl | (simp; done)
  have hr46 := Z.rep_eq hr44 hxs45
  have hb47 : Z.Blk w39 g 90 [.slice A33 ((b ++ Codec.encText s).length) c34] := Z.Blk.cast (show Z.Blk w39 g 90 [.slice A33 ((([b, Codec.encText s] : List (List UInt8)).flatten).length) c34] from hb41) (by first | rfl | (simp only [hxs45]; done) | simp_all)
  have hq48 : Z.Ch [] w w32 := hq26.then hc36
  have hq49 : Z.Ch [g] w w39 := hq48.then hc42
  refine Z.end0 hf Try.results53 ?_
  exact ⟨A33, c34, rfl, hr46, hb47, hq49⟩

set_option maxHeartbeats 400000 in
set_option maxRecDepth 20000 in
theorem w_place (b : List UInt8) (g : Nat) (x : D22) (w : World) (pA0 : Option Addr) (pc0 : Nat) (ph0 : (Z.Ty.slice Z.Ty.byte).rep w (Z.nt [g]) [.slice pA0 b.length pc0] b) (pb1 : Z.Blk w g 90 [.slice pA0 b.length pc0]) (pk2 : Z.Ty.ok T22 x) (hb : b.length + (Codec.encPlace x).length ≤ 70368744177664) :
    Calls Try.prog 38 #[.pointer (some ⟨g, 0, none⟩), .agg #[.int .i64 x.1, .int .i64 x.2]] w fun e w' => ∃ (rA0 : Option Addr) (rc0 : Nat), e = .returned (.tuple #[]) ∧ (Z.Ty.slice Z.Ty.byte).rep w' (Z.iv w.heap.size w'.heap.size) [.slice rA0 (b ++ Codec.encPlace x).length rc0] (b ++ Codec.encPlace x) ∧ Z.Blk w' g 90 [.slice rA0 (b ++ Codec.encPlace x).length rc0] ∧ Z.Ch [g] w w' := by
  refine Z.enter Try.func38 rfl Try.ntmps38 (Nat.le_of_ble_eq_true rfl) fun a hf => ?_
  have hlt_g := pb1.lt
  have hle_pA0 := Z.rep_le ph0
  have ph0o := Z.rep_ol ph0
  simp only [Codec.encPlace, List.length_append] at hb
  refine Z.seq' (Z.Pq.body _ _ _) fun Q1 hp2 hn3 he4 => ?_
  refine Z.reg ?_
  refine Z.st_box hf rfl rfl rfl ?_; clear hf a; intro g5 w6 a hg7 hz8 hb9 hc10 hf
  refine Z.done ?_
  refine hn3 _ _ ?_
  refine Z.reg ?_
  refine Z.qr [.n, .n, .b 0 0, .n, .b 0 1] [4, 6, 8] [] [(4, .pointer (some ⟨g, 0, none⟩)), (6, .int .i64 x.1), (8, .int .i64 x.2)] (Z.kb hb9 Z.k0) hf ?_; clear hf a; intro a hf
  refine Z.st_bslice hf rfl Try.underlying117 Try.sizeOf2 Try.zeroValue2 (parts := [(0, .tmp 6), (1, .tmp 8)]) (cs := [.int .i64 x.1, .int .i64 x.2]) rfl rfl rfl (by kernel_rfl) ?_; clear hf a; intro g11 w12 a hg13 hz14 hb15 hc16 hf
  have ho17 : Z.Own (Z.Ty.int .i64) 2 g11 w12 Z.no (some ⟨g11, 0, none⟩) 2 ([x.1, x.2] : List Int) := Z.Own.made (t := (Z.Ty.int .i64)) (xs := ([x.1, x.2] : List Int)) hb15 (Nat.le_refl _) rfl (by simp [maxLen]) (by simp [Value.oneCell']) (fun i x hi => by match i, hi with | 0, hi => (injection hi with hi; subst hi; exact (show (Z.Ty.int .i64).rep w12 (Z.nt []) [.int .i64 x.1] x.1 from ⟨rfl, pk2.1⟩)) | 1, hi => (injection hi with hi; subst hi; exact (show (Z.Ty.int .i64).rep w12 (Z.nt []) [.int .i64 x.2] x.2 from ⟨rfl, pk2.2⟩)) | (j + 2), hi => simp at hi)
  have hq18 : Z.Ch [] w w12 := hc10.then hc16
  have hb19 := pb1.ch0 hq18
  have hr20 := Z.rep_to (F' := (Z.nt [g])) ph0o hq18
  have hr21 := ho17.riv
  have hr22 := Z.rep_to (F' := (Z.nt [g])) hr21 (Z.Ch.refl w12)
  refine Z.call1 hf rfl (Z.r_call cf37 hf (xs := [.tmp 4, .tmp 9]) rfl) (w_ints b g ([x.1, x.2] : List Int) w12 pA0 pc0 (some ⟨g11, 0, none⟩) 2 hr20 hb19 hr22 (by first | omega | (simp only [List.length_append, List.flatMap_cons, List.flatMap_nil, List.flatten_cons, List.flatten_nil, List.length_nil, List.append_nil]; omega))) ?_; clear hf a
  rintro _ w23 ⟨A24, c25, rfl, hr26, hb27, hc28⟩
  have hzhc28 := hc28.size
  refine ⟨_, rfl, ?_⟩; intro a hf
  refine Z.done ?_
  have hr29 : (Z.Ty.slice Z.Ty.byte).rep w23 (Z.iv w.heap.size w23.heap.size) [.slice A24 ((b ++ ([x.1, x.2] : List Int).flatMap Codec.encInt).length) c25] (b ++ ([x.1, x.2] : List Int).flatMap Codec.encInt) := Z.rep_as hr26 (by intro b h1 h2; (try simp only [Z.nt, Z.iv, Z.no, Z.ol] at h1); (try simp only [Z.iv]); omega)
  have hxs30 : b ++ ([x.1, x.2] : List Int).flatMap Codec.encInt = (b ++ Codec.encPlace x : List UInt8) := by first | rfl | (simp [Codec.encPlace]; done)
  have hr31 := Z.rep_eq hr29 hxs30
  have hb32 : Z.Blk w23 g 90 [.slice A24 ((b ++ Codec.encPlace x).length) c25] := Z.Blk.cast (show Z.Blk w23 g 90 [.slice A24 ((b ++ ([x.1, x.2] : List Int).flatMap Codec.encInt).length) c25] from hb27) (by first | rfl | (simp only [hxs30]; done) | simp_all)
  have hq33 : Z.Ch [g] w w23 := hq18.then hc28
  refine Z.end0 hf Try.results38 ?_
  exact ⟨A24, c25, rfl, hr31, hb32, hq33⟩

set_option maxHeartbeats 400000 in
set_option maxRecDepth 20000 in
theorem w_time (b : List UInt8) (g : Nat) (x : D25) (w : World) (pA0 : Option Addr) (pc0 : Nat) (ph0 : (Z.Ty.slice Z.Ty.byte).rep w (Z.nt [g]) [.slice pA0 b.length pc0] b) (pb1 : Z.Blk w g 90 [.slice pA0 b.length pc0]) (pk2 : Z.Ty.ok T25 x) (hb : b.length + (Codec.encTime x).length ≤ 70368744177664) :
    Calls Try.prog 39 #[.pointer (some ⟨g, 0, none⟩), .agg #[.int .i64 x.1, .int .i64 x.2.1, .int .i64 x.2.2.1, .int .i64 x.2.2.2.1, .int .i64 x.2.2.2.2.1, .int .i64 x.2.2.2.2.2]] w fun e w' => ∃ (rA0 : Option Addr) (rc0 : Nat), e = .returned (.tuple #[]) ∧ (Z.Ty.slice Z.Ty.byte).rep w' (Z.iv w.heap.size w'.heap.size) [.slice rA0 (b ++ Codec.encTime x).length rc0] (b ++ Codec.encTime x) ∧ Z.Blk w' g 90 [.slice rA0 (b ++ Codec.encTime x).length rc0] ∧ Z.Ch [g] w w' := by
  refine Z.enter Try.func39 rfl Try.ntmps39 (Nat.le_of_ble_eq_true rfl) fun a hf => ?_
  have hlt_g := pb1.lt
  have hle_pA0 := Z.rep_le ph0
  have ph0o := Z.rep_ol ph0
  simp only [Codec.encTime, Codec.encLim, List.length_append] at hb
  refine Z.seq' (Z.Pq.body _ _ _) fun Q1 hp2 hn3 he4 => ?_
  refine Z.reg ?_
  refine Z.st_box hf rfl rfl rfl ?_; clear hf a; intro g5 w6 a hg7 hz8 hb9 hc10 hf
  refine Z.done ?_
  refine hn3 _ _ ?_
  refine Z.seq' (Z.Pq.body _ _ _) fun Q11 hp12 hn13 he14 => ?_
  refine Z.reg ?_
  refine Z.qr [.n, .n, .b 0 0, .n, .b 0 1] [4, 6, 8] [] [(4, .pointer (some ⟨g, 0, none⟩)), (6, .int .i64 x.1), (8, .int .i64 x.2.1)] (Z.kb hb9 Z.k0) hf ?_; clear hf a; intro a hf
  refine Z.st_bslice hf rfl Try.underlying117 Try.sizeOf2 Try.zeroValue2 (parts := [(0, .tmp 6), (1, .tmp 8)]) (cs := [.int .i64 x.1, .int .i64 x.2.1]) rfl rfl rfl (by kernel_rfl) ?_; clear hf a; intro g15 w16 a hg17 hz18 hb19 hc20 hf
  have ho21 : Z.Own (Z.Ty.int .i64) 2 g15 w16 Z.no (some ⟨g15, 0, none⟩) 2 ([x.1, x.2.1] : List Int) := Z.Own.made (t := (Z.Ty.int .i64)) (xs := ([x.1, x.2.1] : List Int)) hb19 (Nat.le_refl _) rfl (by simp [maxLen]) (by simp [Value.oneCell']) (fun i x hi => by match i, hi with | 0, hi => (injection hi with hi; subst hi; exact (show (Z.Ty.int .i64).rep w16 (Z.nt []) [.int .i64 x.1] x.1 from ⟨rfl, pk2.1⟩)) | 1, hi => (injection hi with hi; subst hi; exact (show (Z.Ty.int .i64).rep w16 (Z.nt []) [.int .i64 x.2.1] x.2.1 from ⟨rfl, pk2.2.1⟩)) | (j + 2), hi => simp at hi)
  have hq22 : Z.Ch [] w w16 := hc10.then hc20
  have hb23 := pb1.ch0 hq22
  have hr24 := Z.rep_to (F' := (Z.nt [g])) ph0o hq22
  have hr25 := ho21.riv
  have hr26 := Z.rep_to (F' := (Z.nt [g])) hr25 (Z.Ch.refl w16)
  refine Z.call1 hf rfl (Z.r_call cf37 hf (xs := [.tmp 4, .tmp 9]) rfl) (w_ints b g ([x.1, x.2.1] : List Int) w16 pA0 pc0 (some ⟨g15, 0, none⟩) 2 hr24 hb23 hr26 (by first | omega | (simp only [List.length_append, List.flatMap_cons, List.flatMap_nil, List.flatten_cons, List.flatten_nil, List.length_nil, List.append_nil]; omega))) ?_; clear hf a
  rintro _ w27 ⟨A28, c29, rfl, hr30, hb31, hc32⟩
  have hzhc32 := hc32.size
  refine ⟨_, rfl, ?_⟩; intro a hf
  refine Z.done ?_
  refine hn13 _ _ ?_
  refine Z.reg ?_
  refine Z.qr [.n, .n] [11, 12] [] [(11, .pointer (some ⟨g, 0, none⟩)), (12, .pointer (some ⟨g5, 2, none⟩))] Z.k0 hf ?_; clear hf a; intro a hf
  have hq33 : Z.Ch [g] w6 w27 := hc20.then hc32
  have hb34 := hb9.ch hq33 (by simp only [List.mem_cons, List.mem_append, List.not_mem_nil, or_false, not_or, not_false_eq_true, and_true] <;> omega)
  have hr35 : (Z.Ty.slice (Z.Ty.int .i64)).rep w27 (Z.iv g5 (g5 + 1)) [.slice (some ⟨g5, 2, none⟩) 4 4] ([x.2.2.1, x.2.2.2.1, x.2.2.2.2.1, x.2.2.2.2.2] : List Int) := Z.rep_arr (t := (Z.Ty.int .i64)) (xs := ([x.2.2.1, x.2.2.2.1, x.2.2.2.2.1, x.2.2.2.2.2] : List Int)) hb34 ⟨Nat.le_refl _, Nat.lt_succ_self _⟩ (by simp [Z.Ty.size]) (by simp [maxLen]) (fun i x hi => by match i, hi with | 0, hi => (injection hi with hi; subst hi; exact (show (Z.Ty.int .i64).rep w27 (Z.iv g5 (g5 + 1)) [.int .i64 x.2.2.1] x.2.2.1 from ⟨rfl, pk2.2.2.1⟩)) | 1, hi => (injection hi with hi; subst hi; exact (show (Z.Ty.int .i64).rep w27 (Z.iv g5 (g5 + 1)) [.int .i64 x.2.2.2.1] x.2.2.2.1 from ⟨rfl, pk2.2.2.2.1⟩)) | 2, hi => (injection hi with hi; subst hi; exact (show (Z.Ty.int .i64).rep w27 (Z.iv g5 (g5 + 1)) [.int .i64 x.2.2.2.2.1] x.2.2.2.2.1 from ⟨rfl, pk2.2.2.2.2.1⟩)) | 3, hi => (injection hi with hi; subst hi; exact (show (Z.Ty.int .i64).rep w27 (Z.iv g5 (g5 + 1)) [.int .i64 x.2.2.2.2.2] x.2.2.2.2.2 from ⟨rfl, pk2.2.2.2.2.2⟩)) | (j + 4), hi => simp at hi)
  refine Z.val hf rfl (Z.r_slice_arr Try.underlying24 Try.sizeOf2 (hf.eval rfl)) ?_; clear hf a; intro a hf
  have hr36 := Z.rep_to (F' := (Z.nt [g])) hr30 (Z.Ch.refl w27)
  have hr37 := Z.rep_to (F' := (Z.nt [g])) hr35 (Z.Ch.refl w27)
  refine Z.call1 hf rfl (Z.r_call cf37 hf (xs := [.tmp 11, .tmp 13]) rfl) (w_ints (b ++ ([x.1, x.2.1] : List Int).flatMap Codec.encInt) g ([x.2.2.1, x.2.2.2.1, x.2.2.2.2.1, x.2.2.2.2.2] : List Int) w27 A28 c29 (some ⟨g5, 2, none⟩) 4 hr36 hb31 hr37 (by first | omega | (simp only [List.length_append, List.flatMap_cons, List.flatMap_nil, List.flatten_cons, List.flatten_nil, List.length_nil, List.append_nil]; omega))) ?_; clear hf a
  rintro _ w38 ⟨A39, c40, rfl, hr41, hb42, hc43⟩
  have hzhc43 := hc43.size
  refine ⟨_, rfl, ?_⟩; intro a hf
  refine Z.done ?_
  have hr44 : (Z.Ty.slice Z.Ty.byte).rep w38 (Z.iv w.heap.size w38.heap.size) [.slice A39 (((b ++ ([x.1, x.2.1] : List Int).flatMap Codec.encInt) ++ ([x.2.2.1, x.2.2.2.1, x.2.2.2.2.1, x.2.2.2.2.2] : List Int).flatMap Codec.encInt).length) c40] ((b ++ ([x.1, x.2.1] : List Int).flatMap Codec.encInt) ++ ([x.2.2.1, x.2.2.2.1, x.2.2.2.2.1, x.2.2.2.2.2] : List Int).flatMap Codec.encInt) := Z.rep_as hr41 (by intro b h1 h2; (try simp only [Z.nt, Z.iv, Z.no, Z.ol] at h1); (try simp only [Z.iv]); omega)
  have hxs45 : (b ++ ([x.1, x.2.1] : List Int).flatMap Codec.encInt) ++ ([x.2.2.1, x.2.2.2.1, x.2.2.2.2.1, x.2.2.2.2.2] : List Int).flatMap Codec.encInt = (b ++ Codec.encTime x : List UInt8) := by first | rfl | (simp [Codec.encTime, Codec.encLim]; done)
  have hr46 := Z.rep_eq hr44 hxs45
  have hb47 : Z.Blk w38 g 90 [.slice A39 ((b ++ Codec.encTime x).length) c40] := Z.Blk.cast (show Z.Blk w38 g 90 [.slice A39 (((b ++ ([x.1, x.2.1] : List Int).flatMap Codec.encInt) ++ ([x.2.2.1, x.2.2.2.1, x.2.2.2.2.1, x.2.2.2.2.2] : List Int).flatMap Codec.encInt).length) c40] from hb42) (by first | rfl | (simp only [hxs45]; done) | simp_all)
  have hq48 : Z.Ch [g] w w27 := hq22.then hc32
  have hq49 : Z.Ch [g] w w38 := hq48.then hc43
  refine Z.end0 hf Try.results39 ?_
  exact ⟨A39, c40, rfl, hr46, hb47, hq49⟩

set_option maxHeartbeats 400000 in
set_option maxRecDepth 20000 in
theorem w_fn (b : List UInt8) (g : Nat) (x : D61) (w : World) (pA0 : Option Addr) (pc0 : Nat) (ph0 : (Z.Ty.slice Z.Ty.byte).rep w (Z.nt [g]) [.slice pA0 b.length pc0] b) (pb1 : Z.Blk w g 90 [.slice pA0 b.length pc0]) (pk2 : Z.Ty.ok T61 x) (hb : b.length + (Codec.encFn x).length ≤ 70368744177664) (hg : Codec.gFn x) :
    Calls Try.prog 65 #[.pointer (some ⟨g, 0, none⟩), .agg #[.int .i64 x.1, .int .i64 x.2.1, .string x.2.2]] w fun e w' => ∃ (rA0 : Option Addr) (rc0 : Nat), e = .returned (.tuple #[]) ∧ (Z.Ty.slice Z.Ty.byte).rep w' (Z.iv w.heap.size w'.heap.size) [.slice rA0 (b ++ Codec.encFn x).length rc0] (b ++ Codec.encFn x) ∧ Z.Blk w' g 90 [.slice rA0 (b ++ Codec.encFn x).length rc0] ∧ Z.Ch [g] w w' := by
  refine Z.enter Try.func65 rfl Try.ntmps65 (Nat.le_of_ble_eq_true rfl) fun a hf => ?_
  have hlt_g := pb1.lt
  have hle_pA0 := Z.rep_le ph0
  have ph0o := Z.rep_ol ph0
  simp only [Codec.encFn, List.length_append] at hb
  unfold Codec.gFn at hg
  refine Z.seq' (Z.Pq.body _ _ _) fun Q1 hp2 hn3 he4 => ?_
  refine Z.reg ?_
  refine Z.st_box hf rfl rfl rfl ?_; clear hf a; intro g5 w6 a hg7 hz8 hb9 hc10 hf
  refine Z.done ?_
  refine hn3 _ _ ?_
  refine Z.seq' (Z.Pq.body _ _ _) fun Q11 hp12 hn13 he14 => ?_
  refine Z.reg ?_
  refine Z.qr [.n, .n, .b 0 0, .n, .b 0 1] [4, 6, 8] [] [(4, .pointer (some ⟨g, 0, none⟩)), (6, .int .i64 x.1), (8, .int .i64 x.2.1)] (Z.kb hb9 Z.k0) hf ?_; clear hf a; intro a hf
  refine Z.st_bslice hf rfl Try.underlying117 Try.sizeOf2 Try.zeroValue2 (parts := [(0, .tmp 6), (1, .tmp 8)]) (cs := [.int .i64 x.1, .int .i64 x.2.1]) rfl rfl rfl (by kernel_rfl) ?_; clear hf a; intro g15 w16 a hg17 hz18 hb19 hc20 hf
  have ho21 : Z.Own (Z.Ty.int .i64) 2 g15 w16 Z.no (some ⟨g15, 0, none⟩) 2 ([x.1, x.2.1] : List Int) := Z.Own.made (t := (Z.Ty.int .i64)) (xs := ([x.1, x.2.1] : List Int)) hb19 (Nat.le_refl _) rfl (by simp [maxLen]) (by simp [Value.oneCell']) (fun i x hi => by match i, hi with | 0, hi => (injection hi with hi; subst hi; exact (show (Z.Ty.int .i64).rep w16 (Z.nt []) [.int .i64 x.1] x.1 from ⟨rfl, pk2.1⟩)) | 1, hi => (injection hi with hi; subst hi; exact (show (Z.Ty.int .i64).rep w16 (Z.nt []) [.int .i64 x.2.1] x.2.1 from ⟨rfl, pk2.2.1⟩)) | (j + 2), hi => simp at hi)
  have hq22 : Z.Ch [] w w16 := hc10.then hc20
  have hb23 := pb1.ch0 hq22
  have hr24 := Z.rep_to (F' := (Z.nt [g])) ph0o hq22
  have hr25 := ho21.riv
  have hr26 := Z.rep_to (F' := (Z.nt [g])) hr25 (Z.Ch.refl w16)
  refine Z.call1 hf rfl (Z.r_call cf37 hf (xs := [.tmp 4, .tmp 9]) rfl) (w_ints b g ([x.1, x.2.1] : List Int) w16 pA0 pc0 (some ⟨g15, 0, none⟩) 2 hr24 hb23 hr26 (by first | omega | (simp only [List.length_append, List.flatMap_cons, List.flatMap_nil, List.flatten_cons, List.flatten_nil, List.length_nil, List.append_nil]; omega))) ?_; clear hf a
  rintro _ w27 ⟨A28, c29, rfl, hr30, hb31, hc32⟩
  have hzhc32 := hc32.size
  refine ⟨_, rfl, ?_⟩; intro a hf
  refine Z.done ?_
  refine hn13 _ _ ?_
  refine Z.reg ?_
  have hq33 : Z.Ch [g] w6 w27 := hc20.then hc32
  have hb34 := hb9.ch hq33 (by simp only [List.mem_cons, List.mem_append, List.not_mem_nil, or_false, not_or, not_false_eq_true, and_true] <;> omega)
  refine Z.qr [.n, .n, .b 0 2] [11, 13] [] [(11, .pointer (some ⟨g, 0, none⟩)), (13, .string x.2.2)] (Z.kb hb34 Z.k0) hf ?_; clear hf a; intro a hf
  have hr35 := Z.rep_to (F' := (Z.nt [g])) hr30 (Z.Ch.refl w27)
  refine Z.call1 hf rfl (Z.r_call cf53 hf (xs := [.tmp 11, .tmp 13]) rfl) (w_text (b ++ ([x.1, x.2.1] : List Int).flatMap Codec.encInt) g x.2.2 w27 A28 c29 hr35 hb31 (by first | omega | (simp only [List.length_append, List.flatMap_cons, List.flatMap_nil, List.flatten_cons, List.flatten_nil, List.length_nil, List.append_nil]; omega)) (by assumption)) ?_; clear hf a
  rintro _ w36 ⟨A37, c38, rfl, hr39, hb40, hc41⟩
  have hzhc41 := hc41.size
  refine ⟨_, rfl, ?_⟩; intro a hf
  refine Z.done ?_
  have hr42 : (Z.Ty.slice Z.Ty.byte).rep w36 (Z.iv w.heap.size w36.heap.size) [.slice A37 (((b ++ ([x.1, x.2.1] : List Int).flatMap Codec.encInt) ++ Codec.encText x.2.2).length) c38] ((b ++ ([x.1, x.2.1] : List Int).flatMap Codec.encInt) ++ Codec.encText x.2.2) := Z.rep_as hr39 (by intro b h1 h2; (try simp only [Z.nt, Z.iv, Z.no, Z.ol] at h1); (try simp only [Z.iv]); omega)
  have hxs43 : (b ++ ([x.1, x.2.1] : List Int).flatMap Codec.encInt) ++ Codec.encText x.2.2 = (b ++ Codec.encFn x : List UInt8) := by first | rfl | (simp [Codec.encFn]; done)
  have hr44 := Z.rep_eq hr42 hxs43
  have hb45 : Z.Blk w36 g 90 [.slice A37 ((b ++ Codec.encFn x).length) c38] := Z.Blk.cast (show Z.Blk w36 g 90 [.slice A37 (((b ++ ([x.1, x.2.1] : List Int).flatMap Codec.encInt) ++ Codec.encText x.2.2).length) c38] from hb40) (by first | rfl | (simp only [hxs43]; done) | simp_all)
  have hq46 : Z.Ch [g] w w27 := hq22.then hc32
  have hq47 : Z.Ch [g] w w36 := hq46.then hc41
  refine Z.end0 hf Try.results65 ?_
  exact ⟨A37, c38, rfl, hr44, hb45, hq47⟩

set_option maxHeartbeats 400000 in
set_option maxRecDepth 20000 in
theorem w_rec (b : List UInt8) (g : Nat) (x : D59) (w : World) (pA0 : Option Addr) (pc0 : Nat) (ph0 : (Z.Ty.slice Z.Ty.byte).rep w (Z.nt [g]) [.slice pA0 b.length pc0] b) (pb1 : Z.Blk w g 90 [.slice pA0 b.length pc0]) (pk2 : Z.Ty.ok T59 x) (hb : b.length + (Codec.encRec x).length ≤ 70368744177664) (hg : Codec.gRec x) :
    Calls Try.prog 41 #[.pointer (some ⟨g, 0, none⟩), .agg #[.int .i64 x.1, .string x.2]] w fun e w' => ∃ (rA0 : Option Addr) (rc0 : Nat), e = .returned (.tuple #[]) ∧ (Z.Ty.slice Z.Ty.byte).rep w' (Z.iv w.heap.size w'.heap.size) [.slice rA0 (b ++ Codec.encRec x).length rc0] (b ++ Codec.encRec x) ∧ Z.Blk w' g 90 [.slice rA0 (b ++ Codec.encRec x).length rc0] ∧ Z.Ch [g] w w' := by
  refine Z.enter Try.func41 rfl Try.ntmps41 (Nat.le_of_ble_eq_true rfl) fun a hf => ?_
  have hlt_g := pb1.lt
  have hle_pA0 := Z.rep_le ph0
  have ph0o := Z.rep_ol ph0
  simp only [Codec.encRec, List.length_append] at hb
  unfold Codec.gRec at hg
  refine Z.seq' (Z.Pq.body _ _ _) fun Q1 hp2 hn3 he4 => ?_
  refine Z.reg ?_
  refine Z.st_box hf rfl rfl rfl ?_; clear hf a; intro g5 w6 a hg7 hz8 hb9 hc10 hf
  refine Z.done ?_
  refine hn3 _ _ ?_
  refine Z.seq' (Z.Pq.body _ _ _) fun Q11 hp12 hn13 he14 => ?_
  refine Z.reg ?_
  refine Z.qr [.n, .n, .b 0 0] [4, 6] [] [(4, .pointer (some ⟨g, 0, none⟩)), (6, .int .i64 x.1)] (Z.kb hb9 Z.k0) hf ?_; clear hf a; intro a hf
  refine Z.st_bslice hf rfl Try.underlying117 Try.sizeOf2 Try.zeroValue2 (parts := [(0, .tmp 6)]) (cs := [.int .i64 x.1]) rfl rfl rfl (by kernel_rfl) ?_; clear hf a; intro g15 w16 a hg17 hz18 hb19 hc20 hf
  have ho21 : Z.Own (Z.Ty.int .i64) 2 g15 w16 Z.no (some ⟨g15, 0, none⟩) 1 ([x.1] : List Int) := Z.Own.made (t := (Z.Ty.int .i64)) (xs := ([x.1] : List Int)) hb19 (Nat.le_refl _) rfl (by simp [maxLen]) (by simp [Value.oneCell']) (fun i x hi => by match i, hi with | 0, hi => (injection hi with hi; subst hi; exact (show (Z.Ty.int .i64).rep w16 (Z.nt []) [.int .i64 x.1] x.1 from ⟨rfl, pk2.1⟩)) | (j + 1), hi => simp at hi)
  have hq22 : Z.Ch [] w w16 := hc10.then hc20
  have hb23 := pb1.ch0 hq22
  have hr24 := Z.rep_to (F' := (Z.nt [g])) ph0o hq22
  have hr25 := ho21.riv
  have hr26 := Z.rep_to (F' := (Z.nt [g])) hr25 (Z.Ch.refl w16)
  refine Z.call1 hf rfl (Z.r_call cf37 hf (xs := [.tmp 4, .tmp 7]) rfl) (w_ints b g ([x.1] : List Int) w16 pA0 pc0 (some ⟨g15, 0, none⟩) 1 hr24 hb23 hr26 (by first | omega | (simp only [List.length_append, List.flatMap_cons, List.flatMap_nil, List.flatten_cons, List.flatten_nil, List.length_nil, List.append_nil]; omega))) ?_; clear hf a
  rintro _ w27 ⟨A28, c29, rfl, hr30, hb31, hc32⟩
  have hzhc32 := hc32.size
  refine ⟨_, rfl, ?_⟩; intro a hf
  refine Z.done ?_
  refine hn13 _ _ ?_
  refine Z.reg ?_
  have hq33 : Z.Ch [g] w6 w27 := hc20.then hc32
  have hb34 := hb9.ch hq33 (by simp only [List.mem_cons, List.mem_append, List.not_mem_nil, or_false, not_or, not_false_eq_true, and_true] <;> omega)
  refine Z.qr [.n, .n, .b 0 1] [9, 11] [] [(9, .pointer (some ⟨g, 0, none⟩)), (11, .string x.2)] (Z.kb hb34 Z.k0) hf ?_; clear hf a; intro a hf
  have hr35 := Z.rep_to (F' := (Z.nt [g])) hr30 (Z.Ch.refl w27)
  refine Z.call1 hf rfl (Z.r_call cf53 hf (xs := [.tmp 9, .tmp 11]) rfl) (w_text (b ++ ([x.1] : List Int).flatMap Codec.encInt) g x.2 w27 A28 c29 hr35 hb31 (by first | omega | (simp only [List.length_append, List.flatMap_cons, List.flatMap_nil, List.flatten_cons, List.flatten_nil, List.length_nil, List.append_nil]; omega)) (by assumption)) ?_; clear hf a
  rintro _ w36 ⟨A37, c38, rfl, hr39, hb40, hc41⟩
  have hzhc41 := hc41.size
  refine ⟨_, rfl, ?_⟩; intro a hf
  refine Z.done ?_
  have hr42 : (Z.Ty.slice Z.Ty.byte).rep w36 (Z.iv w.heap.size w36.heap.size) [.slice A37 (((b ++ ([x.1] : List Int).flatMap Codec.encInt) ++ Codec.encText x.2).length) c38] ((b ++ ([x.1] : List Int).flatMap Codec.encInt) ++ Codec.encText x.2) := Z.rep_as hr39 (by intro b h1 h2; (try simp only [Z.nt, Z.iv, Z.no, Z.ol] at h1); (try simp only [Z.iv]); omega)
  have hxs43 : (b ++ ([x.1] : List Int).flatMap Codec.encInt) ++ Codec.encText x.2 = (b ++ Codec.encRec x : List UInt8) := by first | rfl | (simp [Codec.encRec]; done)
  have hr44 := Z.rep_eq hr42 hxs43
  have hb45 : Z.Blk w36 g 90 [.slice A37 ((b ++ Codec.encRec x).length) c38] := Z.Blk.cast (show Z.Blk w36 g 90 [.slice A37 (((b ++ ([x.1] : List Int).flatMap Codec.encInt) ++ Codec.encText x.2).length) c38] from hb40) (by first | rfl | (simp only [hxs43]; done) | simp_all)
  have hq46 : Z.Ch [g] w w27 := hq22.then hc32
  have hq47 : Z.Ch [g] w w36 := hq46.then hc41
  refine Z.end0 hf Try.results41 ?_
  exact ⟨A37, c38, rfl, hr44, hb45, hq47⟩

set_option maxHeartbeats 400000 in
set_option maxRecDepth 20000 in
theorem w_entry (b : List UInt8) (g : Nat) (x : D57) (w : World) (pA0 : Option Addr) (pc0 : Nat) (ph0 : (Z.Ty.slice Z.Ty.byte).rep w (Z.nt [g]) [.slice pA0 b.length pc0] b) (pb1 : Z.Blk w g 90 [.slice pA0 b.length pc0]) (pk2 : Z.Ty.ok T57 x) (hb : b.length + (Codec.encEntry x).length ≤ 70368744177664) (hg : Codec.gEntry x) :
    Calls Try.prog 35 #[.pointer (some ⟨g, 0, none⟩), .agg #[.int .i64 x.1, .int .i64 x.2.1, .string x.2.2.1, .int .i64 x.2.2.2]] w fun e w' => ∃ (rA0 : Option Addr) (rc0 : Nat), e = .returned (.tuple #[]) ∧ (Z.Ty.slice Z.Ty.byte).rep w' (Z.iv w.heap.size w'.heap.size) [.slice rA0 (b ++ Codec.encEntry x).length rc0] (b ++ Codec.encEntry x) ∧ Z.Blk w' g 90 [.slice rA0 (b ++ Codec.encEntry x).length rc0] ∧ Z.Ch [g] w w' := by
  refine Z.enter Try.func35 rfl Try.ntmps35 (Nat.le_of_ble_eq_true rfl) fun a hf => ?_
  have hlt_g := pb1.lt
  have hle_pA0 := Z.rep_le ph0
  have ph0o := Z.rep_ol ph0
  simp only [Codec.encEntry, List.length_append] at hb
  unfold Codec.gEntry at hg
  refine Z.seq' (Z.Pq.body _ _ _) fun Q1 hp2 hn3 he4 => ?_
  refine Z.reg ?_
  refine Z.st_box hf rfl rfl rfl ?_; clear hf a; intro g5 w6 a hg7 hz8 hb9 hc10 hf
  refine Z.done ?_
  refine hn3 _ _ ?_
  refine Z.seq' (Z.Pq.body _ _ _) fun Q11 hp12 hn13 he14 => ?_
  refine Z.reg ?_
  refine Z.qr [.n, .n, .b 0 0, .n, .b 0 1] [4, 6, 8] [] [(4, .pointer (some ⟨g, 0, none⟩)), (6, .int .i64 x.1), (8, .int .i64 x.2.1)] (Z.kb hb9 Z.k0) hf ?_; clear hf a; intro a hf
  refine Z.st_bslice hf rfl Try.underlying117 Try.sizeOf2 Try.zeroValue2 (parts := [(0, .tmp 6), (1, .tmp 8)]) (cs := [.int .i64 x.1, .int .i64 x.2.1]) rfl rfl rfl (by kernel_rfl) ?_; clear hf a; intro g15 w16 a hg17 hz18 hb19 hc20 hf
  have ho21 : Z.Own (Z.Ty.int .i64) 2 g15 w16 Z.no (some ⟨g15, 0, none⟩) 2 ([x.1, x.2.1] : List Int) := Z.Own.made (t := (Z.Ty.int .i64)) (xs := ([x.1, x.2.1] : List Int)) hb19 (Nat.le_refl _) rfl (by simp [maxLen]) (by simp [Value.oneCell']) (fun i x hi => by match i, hi with | 0, hi => (injection hi with hi; subst hi; exact (show (Z.Ty.int .i64).rep w16 (Z.nt []) [.int .i64 x.1] x.1 from ⟨rfl, pk2.1⟩)) | 1, hi => (injection hi with hi; subst hi; exact (show (Z.Ty.int .i64).rep w16 (Z.nt []) [.int .i64 x.2.1] x.2.1 from ⟨rfl, pk2.2.1⟩)) | (j + 2), hi => simp at hi)
  have hq22 : Z.Ch [] w w16 := hc10.then hc20
  have hb23 := pb1.ch0 hq22
  have hr24 := Z.rep_to (F' := (Z.nt [g])) ph0o hq22
  have hr25 := ho21.riv
  have hr26 := Z.rep_to (F' := (Z.nt [g])) hr25 (Z.Ch.refl w16)
  refine Z.call1 hf rfl (Z.r_call cf37 hf (xs := [.tmp 4, .tmp 9]) rfl) (w_ints b g ([x.1, x.2.1] : List Int) w16 pA0 pc0 (some ⟨g15, 0, none⟩) 2 hr24 hb23 hr26 (by first | omega | (simp only [List.length_append, List.flatMap_cons, List.flatMap_nil, List.flatten_cons, List.flatten_nil, List.length_nil, List.append_nil]; omega))) ?_; clear hf a
  rintro _ w27 ⟨A28, c29, rfl, hr30, hb31, hc32⟩
  have hzhc32 := hc32.size
  refine ⟨_, rfl, ?_⟩; intro a hf
  refine Z.done ?_
  refine hn13 _ _ ?_
  refine Z.seq' (Z.Pq.body _ _ _) fun Q33 hp34 hn35 he36 => ?_
  refine Z.reg ?_
  have hq37 : Z.Ch [g] w6 w27 := hc20.then hc32
  have hb38 := hb9.ch hq37 (by simp only [List.mem_cons, List.mem_append, List.not_mem_nil, or_false, not_or, not_false_eq_true, and_true] <;> omega)
  refine Z.qr [.n, .n, .b 0 2] [11, 13] [] [(11, .pointer (some ⟨g, 0, none⟩)), (13, .string x.2.2.1)] (Z.kb hb38 Z.k0) hf ?_; clear hf a; intro a hf
  have hr39 := Z.rep_to (F' := (Z.nt [g])) hr30 (Z.Ch.refl w27)
  refine Z.call1 hf rfl (Z.r_call cf53 hf (xs := [.tmp 11, .tmp 13]) rfl) (w_text (b ++ ([x.1, x.2.1] : List Int).flatMap Codec.encInt) g x.2.2.1 w27 A28 c29 hr39 hb31 (by first | omega | (simp only [List.length_append, List.flatMap_cons, List.flatMap_nil, List.flatten_cons, List.flatten_nil, List.length_nil, List.append_nil]; omega)) (by assumption)) ?_; clear hf a
  rintro _ w40 ⟨A41, c42, rfl, hr43, hb44, hc45⟩
  have hzhc45 := hc45.size
  refine ⟨_, rfl, ?_⟩; intro a hf
  refine Z.done ?_
  refine hn35 _ _ ?_
  refine Z.reg ?_
  have hb46 := hb38.ch hc45 (by simp only [List.mem_cons, List.mem_append, List.not_mem_nil, or_false, not_or, not_false_eq_true, and_true] <;> omega)
  refine Z.qr [.n, .n, .b 0 3] [15, 17] [] [(15, .pointer (some ⟨g, 0, none⟩)), (17, .int .i64 x.2.2.2)] (Z.kb hb46 Z.k0) hf ?_; clear hf a; intro a hf
  refine Z.st_bslice hf rfl Try.underlying117 Try.sizeOf2 Try.zeroValue2 (parts := [(0, .tmp 17)]) (cs := [.int .i64 x.2.2.2]) rfl rfl rfl (by kernel_rfl) ?_; clear hf a; intro g47 w48 a hg49 hz50 hb51 hc52 hf
  have ho53 : Z.Own (Z.Ty.int .i64) 2 g47 w48 Z.no (some ⟨g47, 0, none⟩) 1 ([x.2.2.2] : List Int) := Z.Own.made (t := (Z.Ty.int .i64)) (xs := ([x.2.2.2] : List Int)) hb51 (Nat.le_refl _) rfl (by simp [maxLen]) (by simp [Value.oneCell']) (fun i x hi => by match i, hi with | 0, hi => (injection hi with hi; subst hi; exact (show (Z.Ty.int .i64).rep w48 (Z.nt []) [.int .i64 x.2.2.2] x.2.2.2 from ⟨rfl, pk2.2.2.2⟩)) | (j + 1), hi => simp at hi)
  have hb54 := hb44.ch0 hc52
  have hr55 := Z.rep_to (F' := (Z.nt [g])) hr43 hc52
  have hr56 := ho53.riv
  have hr57 := Z.rep_to (F' := (Z.nt [g])) hr56 (Z.Ch.refl w48)
  refine Z.call1 hf rfl (Z.r_call cf37 hf (xs := [.tmp 15, .tmp 18]) rfl) (w_ints ((b ++ ([x.1, x.2.1] : List Int).flatMap Codec.encInt) ++ Codec.encText x.2.2.1) g ([x.2.2.2] : List Int) w48 A41 c42 (some ⟨g47, 0, none⟩) 1 hr55 hb54 hr57 (by first | omega | (simp only [List.length_append, List.flatMap_cons, List.flatMap_nil, List.flatten_cons, List.flatten_nil, List.length_nil, List.append_nil]; omega))) ?_; clear hf a
  rintro _ w58 ⟨A59, c60, rfl, hr61, hb62, hc63⟩
  have hzhc63 := hc63.size
  refine ⟨_, rfl, ?_⟩; intro a hf
  refine Z.done ?_
  have hr64 : (Z.Ty.slice Z.Ty.byte).rep w58 (Z.iv w.heap.size w58.heap.size) [.slice A59 ((((b ++ ([x.1, x.2.1] : List Int).flatMap Codec.encInt) ++ Codec.encText x.2.2.1) ++ ([x.2.2.2] : List Int).flatMap Codec.encInt).length) c60] (((b ++ ([x.1, x.2.1] : List Int).flatMap Codec.encInt) ++ Codec.encText x.2.2.1) ++ ([x.2.2.2] : List Int).flatMap Codec.encInt) := Z.rep_as hr61 (by intro b h1 h2; (try simp only [Z.nt, Z.iv, Z.no, Z.ol] at h1); (try simp only [Z.iv]); omega)
  have hxs65 : ((b ++ ([x.1, x.2.1] : List Int).flatMap Codec.encInt) ++ Codec.encText x.2.2.1) ++ ([x.2.2.2] : List Int).flatMap Codec.encInt = (b ++ Codec.encEntry x : List UInt8) := by first | rfl | (simp [Codec.encEntry]; done)
  have hr66 := Z.rep_eq hr64 hxs65
  have hb67 : Z.Blk w58 g 90 [.slice A59 ((b ++ Codec.encEntry x).length) c60] := Z.Blk.cast (show Z.Blk w58 g 90 [.slice A59 ((((b ++ ([x.1, x.2.1] : List Int).flatMap Codec.encInt) ++ Codec.encText x.2.2.1) ++ ([x.2.2.2] : List Int).flatMap Codec.encInt).length) c60] from hb62) (by first | rfl | (simp only [hxs65]; done) | simp_all)
  have hq68 : Z.Ch [g] w w27 := hq22.then hc32
  have hq69 : Z.Ch [g] w w40 := hq68.then hc45
  have hq70 : Z.Ch [g] w w48 := hq69.then hc52
  have hq71 : Z.Ch [g] w w58 := hq70.then hc63
  refine Z.end0 hf Try.results35 ?_
  exact ⟨A59, c60, rfl, hr66, hb67, hq71⟩

set_option maxHeartbeats 400000 in
set_option maxRecDepth 20000 in
theorem w_change (b : List UInt8) (g : Nat) (x : D70) (w : World) (pA0 : Option Addr) (pc0 : Nat) (ph0 : (Z.Ty.slice Z.Ty.byte).rep w (Z.nt [g]) [.slice pA0 b.length pc0] b) (pb1 : Z.Blk w g 90 [.slice pA0 b.length pc0]) (pk2 : Z.Ty.ok T70 x) (hb : b.length + (Codec.encChange x).length ≤ 70368744177664) :
    Calls Try.prog 43 #[.pointer (some ⟨g, 0, none⟩), .agg #[.int .i64 x.1.1, .int .i64 x.1.2, .int .i64 x.2.1.1, .int .i64 x.2.1.2.1, .int .i64 x.2.1.2.2.1, .int .i64 x.2.1.2.2.2.1, .int .i64 x.2.1.2.2.2.2.1, .int .i64 x.2.1.2.2.2.2.2, .int .i64 x.2.2]] w fun e w' => ∃ (rA0 : Option Addr) (rc0 : Nat), e = .returned (.tuple #[]) ∧ (Z.Ty.slice Z.Ty.byte).rep w' (Z.iv w.heap.size w'.heap.size) [.slice rA0 (b ++ Codec.encChange x).length rc0] (b ++ Codec.encChange x) ∧ Z.Blk w' g 90 [.slice rA0 (b ++ Codec.encChange x).length rc0] ∧ Z.Ch [g] w w' := by
  refine Z.enter Try.func43 rfl Try.ntmps43 (Nat.le_of_ble_eq_true rfl) fun a hf => ?_
  have hlt_g := pb1.lt
  have hle_pA0 := Z.rep_le ph0
  have ph0o := Z.rep_ol ph0
  simp only [Codec.encChange, List.length_append] at hb
  refine Z.seq' (Z.Pq.body _ _ _) fun Q1 hp2 hn3 he4 => ?_
  refine Z.reg ?_
  refine Z.st_box hf rfl rfl rfl ?_; clear hf a; intro g5 w6 a hg7 hz8 hb9 hc10 hf
  refine Z.done ?_
  refine hn3 _ _ ?_
  refine Z.seq' (Z.Pq.body _ _ _) fun Q11 hp12 hn13 he14 => ?_
  refine Z.reg ?_
  refine Z.qr [.n, .n, .b 0 0] [4, 6] [] [(4, .pointer (some ⟨g, 0, none⟩)), (6, .agg #[.int .i64 x.1.1, .int .i64 x.1.2])] (Z.kb hb9 Z.k0) hf ?_; clear hf a; intro a hf
  have hb15 := pb1.ch0 hc10
  have hr16 := Z.rep_to (F' := (Z.nt [g])) ph0o hc10
  refine Z.call1 hf rfl (Z.r_call cf38 hf (xs := [.tmp 4, .tmp 6]) rfl) (w_place b g x.1 w6 pA0 pc0 hr16 hb15 pk2.1 (by first | omega | (simp only [List.length_append, List.flatMap_cons, List.flatMap_nil, List.flatten_cons, List.flatten_nil, List.length_nil, List.append_nil]; omega))) ?_; clear hf a
  rintro _ w17 ⟨A18, c19, rfl, hr20, hb21, hc22⟩
  have hzhc22 := hc22.size
  refine ⟨_, rfl, ?_⟩; intro a hf
  refine Z.done ?_
  refine hn13 _ _ ?_
  refine Z.seq' (Z.Pq.body _ _ _) fun Q23 hp24 hn25 he26 => ?_
  refine Z.reg ?_
  have hb27 := hb9.ch hc22 (by simp only [List.mem_cons, List.mem_append, List.not_mem_nil, or_false, not_or, not_false_eq_true, and_true] <;> omega)
  refine Z.qr [.n, .n, .b 0 2] [8, 10] [] [(8, .pointer (some ⟨g, 0, none⟩)), (10, .agg #[.int .i64 x.2.1.1, .int .i64 x.2.1.2.1, .int .i64 x.2.1.2.2.1, .int .i64 x.2.1.2.2.2.1, .int .i64 x.2.1.2.2.2.2.1, .int .i64 x.2.1.2.2.2.2.2])] (Z.kb hb27 Z.k0) hf ?_; clear hf a; intro a hf
  have hr28 := Z.rep_to (F' := (Z.nt [g])) hr20 (Z.Ch.refl w17)
  refine Z.call1 hf rfl (Z.r_call cf39 hf (xs := [.tmp 8, .tmp 10]) rfl) (w_time (b ++ Codec.encPlace x.1) g x.2.1 w17 A18 c19 hr28 hb21 pk2.2.1 (by first | omega | (simp only [List.length_append, List.flatMap_cons, List.flatMap_nil, List.flatten_cons, List.flatten_nil, List.length_nil, List.append_nil]; omega))) ?_; clear hf a
  rintro _ w29 ⟨A30, c31, rfl, hr32, hb33, hc34⟩
  have hzhc34 := hc34.size
  refine ⟨_, rfl, ?_⟩; intro a hf
  refine Z.done ?_
  refine hn25 _ _ ?_
  refine Z.reg ?_
  have hb35 := hb27.ch hc34 (by simp only [List.mem_cons, List.mem_append, List.not_mem_nil, or_false, not_or, not_false_eq_true, and_true] <;> omega)
  refine Z.qr [.n, .n, .b 0 8] [12, 14] [] [(12, .pointer (some ⟨g, 0, none⟩)), (14, .int .i64 x.2.2)] (Z.kb hb35 Z.k0) hf ?_; clear hf a; intro a hf
  refine Z.st_bslice hf rfl Try.underlying117 Try.sizeOf2 Try.zeroValue2 (parts := [(0, .tmp 14)]) (cs := [.int .i64 x.2.2]) rfl rfl rfl (by kernel_rfl) ?_; clear hf a; intro g36 w37 a hg38 hz39 hb40 hc41 hf
  have ho42 : Z.Own (Z.Ty.int .i64) 2 g36 w37 Z.no (some ⟨g36, 0, none⟩) 1 ([x.2.2] : List Int) := Z.Own.made (t := (Z.Ty.int .i64)) (xs := ([x.2.2] : List Int)) hb40 (Nat.le_refl _) rfl (by simp [maxLen]) (by simp [Value.oneCell']) (fun i x hi => by match i, hi with | 0, hi => (injection hi with hi; subst hi; exact (show (Z.Ty.int .i64).rep w37 (Z.nt []) [.int .i64 x.2.2] x.2.2 from ⟨rfl, pk2.2.2⟩)) | (j + 1), hi => simp at hi)
  have hb43 := hb33.ch0 hc41
  have hr44 := Z.rep_to (F' := (Z.nt [g])) hr32 hc41
  have hr45 := ho42.riv
  have hr46 := Z.rep_to (F' := (Z.nt [g])) hr45 (Z.Ch.refl w37)
  refine Z.call1 hf rfl (Z.r_call cf37 hf (xs := [.tmp 12, .tmp 15]) rfl) (w_ints ((b ++ Codec.encPlace x.1) ++ Codec.encTime x.2.1) g ([x.2.2] : List Int) w37 A30 c31 (some ⟨g36, 0, none⟩) 1 hr44 hb43 hr46 (by first | omega | (simp only [List.length_append, List.flatMap_cons, List.flatMap_nil, List.flatten_cons, List.flatten_nil, List.length_nil, List.append_nil]; omega))) ?_; clear hf a
  rintro _ w47 ⟨A48, c49, rfl, hr50, hb51, hc52⟩
  have hzhc52 := hc52.size
  refine ⟨_, rfl, ?_⟩; intro a hf
  refine Z.done ?_
  have hr53 : (Z.Ty.slice Z.Ty.byte).rep w47 (Z.iv w.heap.size w47.heap.size) [.slice A48 ((((b ++ Codec.encPlace x.1) ++ Codec.encTime x.2.1) ++ ([x.2.2] : List Int).flatMap Codec.encInt).length) c49] (((b ++ Codec.encPlace x.1) ++ Codec.encTime x.2.1) ++ ([x.2.2] : List Int).flatMap Codec.encInt) := Z.rep_as hr50 (by intro b h1 h2; (try simp only [Z.nt, Z.iv, Z.no, Z.ol] at h1); (try simp only [Z.iv]); omega)
  have hxs54 : ((b ++ Codec.encPlace x.1) ++ Codec.encTime x.2.1) ++ ([x.2.2] : List Int).flatMap Codec.encInt = (b ++ Codec.encChange x : List UInt8) := by first | rfl | (simp [Codec.encChange]; done)
  have hr55 := Z.rep_eq hr53 hxs54
  have hb56 : Z.Blk w47 g 90 [.slice A48 ((b ++ Codec.encChange x).length) c49] := Z.Blk.cast (show Z.Blk w47 g 90 [.slice A48 ((((b ++ Codec.encPlace x.1) ++ Codec.encTime x.2.1) ++ ([x.2.2] : List Int).flatMap Codec.encInt).length) c49] from hb51) (by first | rfl | (simp only [hxs54]; done) | simp_all)
  have hq57 : Z.Ch [g] w w17 := hc10.then hc22
  have hq58 : Z.Ch [g] w w29 := hq57.then hc34
  have hq59 : Z.Ch [g] w w37 := hq58.then hc41
  have hq60 : Z.Ch [g] w w47 := hq59.then hc52
  refine Z.end0 hf Try.results43 ?_
  exact ⟨A48, c49, rfl, hr55, hb56, hq60⟩

set_option maxHeartbeats 400000 in
set_option maxRecDepth 20000 in
theorem w_move (b : List UInt8) (g : Nat) (x : D63) (w : World) (pA0 : Option Addr) (pc0 : Nat) (ph0 : (Z.Ty.slice Z.Ty.byte).rep w (Z.nt [g]) [.slice pA0 b.length pc0] b) (pb1 : Z.Blk w g 90 [.slice pA0 b.length pc0]) (pk2 : Z.Ty.ok T63 x) (hb : b.length + (Codec.encMove x).length ≤ 70368744177664) (hg : Codec.gMove x) :
    Calls Try.prog 59 #[.pointer (some ⟨g, 0, none⟩), .agg #[.int .i64 x.1, .int .i64 x.2.1, .int .i64 x.2.2.1, .int .i64 x.2.2.2.1, .int .i64 x.2.2.2.2.1, .int .i64 x.2.2.2.2.2.1, .string x.2.2.2.2.2.2]] w fun e w' => ∃ (rA0 : Option Addr) (rc0 : Nat), e = .returned (.tuple #[]) ∧ (Z.Ty.slice Z.Ty.byte).rep w' (Z.iv w.heap.size w'.heap.size) [.slice rA0 (b ++ Codec.encMove x).length rc0] (b ++ Codec.encMove x) ∧ Z.Blk w' g 90 [.slice rA0 (b ++ Codec.encMove x).length rc0] ∧ Z.Ch [g] w w' := by
  refine Z.enter Try.func59 rfl Try.ntmps59 (Nat.le_of_ble_eq_true rfl) fun a hf => ?_
  have hlt_g := pb1.lt
  have hle_pA0 := Z.rep_le ph0
  have ph0o := Z.rep_ol ph0
  simp only [Codec.encMove, List.length_append] at hb
  unfold Codec.gMove at hg
  refine Z.seq' (Z.Pq.body _ _ _) fun Q1 hp2 hn3 he4 => ?_
  refine Z.reg ?_
  refine Z.st_box hf rfl rfl rfl ?_; clear hf a; intro g5 w6 a hg7 hz8 hb9 hc10 hf
  refine Z.done ?_
  refine hn3 _ _ ?_
  refine Z.seq' (Z.Pq.body _ _ _) fun Q11 hp12 hn13 he14 => ?_
  refine Z.reg ?_
  refine Z.qr [.n, .n, .b 0 0, .n, .b 0 1, .n, .b 0 2, .n, .b 0 3] [4, 6, 8, 10, 12] [] [(4, .pointer (some ⟨g, 0, none⟩)), (6, .int .i64 x.1), (8, .int .i64 x.2.1), (10, .int .i64 x.2.2.1), (12, .int .i64 x.2.2.2.1)] (Z.kb hb9 Z.k0) hf ?_; clear hf a; intro a hf
  refine Z.st_bslice hf rfl Try.underlying117 Try.sizeOf2 Try.zeroValue2 (parts := [(0, .tmp 6), (1, .tmp 8), (2, .tmp 10), (3, .tmp 12)]) (cs := [.int .i64 x.1, .int .i64 x.2.1, .int .i64 x.2.2.1, .int .i64 x.2.2.2.1]) rfl rfl rfl (by kernel_rfl) ?_; clear hf a; intro g15 w16 a hg17 hz18 hb19 hc20 hf
  have ho21 : Z.Own (Z.Ty.int .i64) 2 g15 w16 Z.no (some ⟨g15, 0, none⟩) 4 ([x.1, x.2.1, x.2.2.1, x.2.2.2.1] : List Int) := Z.Own.made (t := (Z.Ty.int .i64)) (xs := ([x.1, x.2.1, x.2.2.1, x.2.2.2.1] : List Int)) hb19 (Nat.le_refl _) rfl (by simp [maxLen]) (by simp [Value.oneCell']) (fun i x hi => by match i, hi with | 0, hi => (injection hi with hi; subst hi; exact (show (Z.Ty.int .i64).rep w16 (Z.nt []) [.int .i64 x.1] x.1 from ⟨rfl, pk2.1⟩)) | 1, hi => (injection hi with hi; subst hi; exact (show (Z.Ty.int .i64).rep w16 (Z.nt []) [.int .i64 x.2.1] x.2.1 from ⟨rfl, pk2.2.1⟩)) | 2, hi => (injection hi with hi; subst hi; exact (show (Z.Ty.int .i64).rep w16 (Z.nt []) [.int .i64 x.2.2.1] x.2.2.1 from ⟨rfl, pk2.2.2.1⟩)) | 3, hi => (injection hi with hi; subst hi; exact (show (Z.Ty.int .i64).rep w16 (Z.nt []) [.int .i64 x.2.2.2.1] x.2.2.2.1 from ⟨rfl, pk2.2.2.2.1⟩)) | (j + 4), hi => simp at hi)
  have hq22 : Z.Ch [] w w16 := hc10.then hc20
  have hb23 := pb1.ch0 hq22
  have hr24 := Z.rep_to (F' := (Z.nt [g])) ph0o hq22
  have hr25 := ho21.riv
  have hr26 := Z.rep_to (F' := (Z.nt [g])) hr25 (Z.Ch.refl w16)
  refine Z.call1 hf rfl (Z.r_call cf37 hf (xs := [.tmp 4, .tmp 13]) rfl) (w_ints b g ([x.1, x.2.1, x.2.2.1, x.2.2.2.1] : List Int) w16 pA0 pc0 (some ⟨g15, 0, none⟩) 4 hr24 hb23 hr26 (by first | omega | (simp only [List.length_append, List.flatMap_cons, List.flatMap_nil, List.flatten_cons, List.flatten_nil, List.length_nil, List.append_nil]; omega))) ?_; clear hf a
  rintro _ w27 ⟨A28, c29, rfl, hr30, hb31, hc32⟩
  have hzhc32 := hc32.size
  refine ⟨_, rfl, ?_⟩; intro a hf
  refine Z.done ?_
  refine hn13 _ _ ?_
  refine Z.reg ?_
  have hq33 : Z.Ch [g] w6 w27 := hc20.then hc32
  have hb34 := hb9.ch hq33 (by simp only [List.mem_cons, List.mem_append, List.not_mem_nil, or_false, not_or, not_false_eq_true, and_true] <;> omega)
  refine Z.qr [.n, .n, .b 0 4] [15, 17] [] [(15, .pointer (some ⟨g, 0, none⟩)), (17, .agg #[.int .i64 x.2.2.2.2.1, .int .i64 x.2.2.2.2.2.1, .string x.2.2.2.2.2.2])] (Z.kb hb34 Z.k0) hf ?_; clear hf a; intro a hf
  have hr35 := Z.rep_to (F' := (Z.nt [g])) hr30 (Z.Ch.refl w27)
  refine Z.call1 hf rfl (Z.r_call cf65 hf (xs := [.tmp 15, .tmp 17]) rfl) (w_fn (b ++ ([x.1, x.2.1, x.2.2.1, x.2.2.2.1] : List Int).flatMap Codec.encInt) g x.2.2.2.2 w27 A28 c29 hr35 hb31 pk2.2.2.2.2 (by first | omega | (simp only [List.length_append, List.flatMap_cons, List.flatMap_nil, List.flatten_cons, List.flatten_nil, List.length_nil, List.append_nil]; omega)) (by assumption)) ?_; clear hf a
  rintro _ w36 ⟨A37, c38, rfl, hr39, hb40, hc41⟩
  have hzhc41 := hc41.size
  refine ⟨_, rfl, ?_⟩; intro a hf
  refine Z.done ?_
  have hr42 : (Z.Ty.slice Z.Ty.byte).rep w36 (Z.iv w.heap.size w36.heap.size) [.slice A37 (((b ++ ([x.1, x.2.1, x.2.2.1, x.2.2.2.1] : List Int).flatMap Codec.encInt) ++ Codec.encFn x.2.2.2.2).length) c38] ((b ++ ([x.1, x.2.1, x.2.2.1, x.2.2.2.1] : List Int).flatMap Codec.encInt) ++ Codec.encFn x.2.2.2.2) := Z.rep_as hr39 (by intro b h1 h2; (try simp only [Z.nt, Z.iv, Z.no, Z.ol] at h1); (try simp only [Z.iv]); omega)
  have hxs43 : (b ++ ([x.1, x.2.1, x.2.2.1, x.2.2.2.1] : List Int).flatMap Codec.encInt) ++ Codec.encFn x.2.2.2.2 = (b ++ Codec.encMove x : List UInt8) := by first | rfl | (simp [Codec.encMove]; done)
  have hr44 := Z.rep_eq hr42 hxs43
  have hb45 : Z.Blk w36 g 90 [.slice A37 ((b ++ Codec.encMove x).length) c38] := Z.Blk.cast (show Z.Blk w36 g 90 [.slice A37 (((b ++ ([x.1, x.2.1, x.2.2.1, x.2.2.2.1] : List Int).flatMap Codec.encInt) ++ Codec.encFn x.2.2.2.2).length) c38] from hb40) (by first | rfl | (simp only [hxs43]; done) | simp_all)
  have hq46 : Z.Ch [g] w w27 := hq22.then hc32
  have hq47 : Z.Ch [g] w w36 := hq46.then hc41
  refine Z.end0 hf Try.results59 ?_
  exact ⟨A37, c38, rfl, hr44, hb45, hq47⟩

set_option maxHeartbeats 400000 in
set_option maxRecDepth 20000 in
theorem p_ints (b : List UInt8) (g : Nat) (xs : List Int) (w : World) (pA0 : Option Addr) (pc0 : Nat) (pA1 : Option Addr) (pc1 : Nat) (ph0 : (Z.Ty.slice Z.Ty.byte).rep w (Z.nt [g]) [.slice pA0 b.length pc0] b) (pb1 : Z.Blk w g 90 [.slice pA0 b.length pc0]) (ph1 : (Z.Ty.slice (Z.Ty.int .i64)).rep w (Z.nt [g]) [.slice pA1 xs.length pc1] xs) (hb : b.length + (Codec.encList Codec.encInt xs).length ≤ 70368744177664) (hl : xs.length ≤ 65536) :
    Calls Try.prog 55 #[.pointer (some ⟨g, 0, none⟩), .slice pA1 xs.length pc1, .func (.func 52) #[.pointer (some ⟨g, 0, none⟩)] #[]] w fun e w' => ∃ (rA0 : Option Addr) (rc0 : Nat), e = .returned (.tuple #[]) ∧ (Z.Ty.slice Z.Ty.byte).rep w' (Z.iv w.heap.size w'.heap.size) [.slice rA0 (b ++ Codec.encList Codec.encInt xs).length rc0] (b ++ Codec.encList Codec.encInt xs) ∧ Z.Blk w' g 90 [.slice rA0 (b ++ Codec.encList Codec.encInt xs).length rc0] ∧ Z.Ch [g] w w' := by
  refine Z.enter Try.func55 rfl Try.ntmps55 (Nat.le_of_ble_eq_true rfl) fun a hf => ?_
  have hlt_g := pb1.lt
  have hle_pA1 := Z.rep_le ph1
  have ph1o := Z.rep_ol ph1
  have hle_pA0 := Z.rep_le ph0
  have ph0o := Z.rep_ol ph0
  simp only [Codec.encList, List.length_append] at hb
  refine Z.seq' (Z.Pq.body _ _ _) fun Q1 hp2 hn3 he4 => ?_
  refine Z.qseq [.n, .n, .n] [10] [] [(10, .bool (decide (65536 < (xs.length : Int))))] Z.k0 hf ?_; clear hf a; intro a hf
  refine Z.condp hf rfl ?_ ?_
  · intro hp5
    exfalso; omega
  · intro hp6
    refine Z.skip ?_
    refine hn3 _ _ ?_
    refine Z.seq' (Z.Pq.body _ _ _) fun Q7 hp8 hn9 he10 => ?_
    refine Z.reg ?_
    refine Z.qr [.n, .n, .n] [12, 14] [] [(12, .pointer (some ⟨g, 0, none⟩)), (14, .int .i64 (xs.length : Int))] Z.k0 hf ?_; clear hf a; intro a hf
    have hr11 := Z.rep_to (F' := (Z.nt [g])) ph0o (Z.Ch.refl w)
    refine Z.call1 hf rfl (Z.r_call cf52 hf (xs := [.tmp 12, .tmp 14]) rfl) (w_int b g (xs.length : Int) w pA0 pc0 hr11 pb1 (by first | omega | (simp only [List.length_append, List.flatMap_cons, List.flatMap_nil, List.flatten_cons, List.flatten_nil, List.length_nil, List.append_nil]; omega)) (by first | (exact Z.has_i64 (by assumption)) | (unfold Codec.okInt; omega))) ?_; clear hf a
    rintro _ w12 ⟨A13, c14, rfl, hr15, hb16, hc17⟩
    have hzhc17 := hc17.size
    refine ⟨_, rfl, ?_⟩; intro a hf
    refine Z.done ?_
    refine hn9 _ _ ?_
    refine Z.qseq [.n, .n, .n] [16, 17, 18] [] [(16, .slice pA1 xs.length pc1), (17, .int .i64 (xs.length : Int)), (18, .int .i64 0)] Z.k0 hf ?_; clear hf a; intro a hf
    refine Z.block' (Z.Pq.body _ _ _) fun Q18 hp19 hn20 hx21 he22 => ?_
    refine Z.loop' hp19 (fun m a wl => ∃ (k : Nat), ∃ (lA0 : Option Addr), ∃ (lc0 : Nat), m = xs.length - k ∧ Z.Ch [g] w12 wl ∧ (Z.Ty.slice Z.Ty.byte).rep wl (Z.iv w.heap.size wl.heap.size) [.slice lA0 ((b ++ (Codec.encInt (xs.length : Int) ++ (xs.take k).flatMap Codec.encInt)).length) lc0] (b ++ (Codec.encInt (xs.length : Int) ++ (xs.take k).flatMap Codec.encInt)) ∧ Z.Blk wl g 90 [.slice lA0 ((b ++ (Codec.encInt (xs.length : Int) ++ (xs.take k).flatMap Codec.encInt)).length) lc0] ∧ (k ≤ xs.length) ∧ Z.Fr a 26 [] [(2, .func (.func 52) #[.pointer (some ⟨g, 0, none⟩)] #[]), (16, .slice pA1 xs.length pc1), (17, .int .i64 (xs.length : Int)), (18, .int .i64 (k : Int))]) (xs.length - 0) ?_ ?_
    · replace hf := hf.setv (d := 18) (y := .int .i64 (0 : Int)) rfl (congrArg (Value.int .i64) (by first | rfl | omega | (simp; done) | (simp; omega)))
      have hr23 : (Z.Ty.slice Z.Ty.byte).rep w12 (Z.iv w.heap.size w12.heap.size) [.slice A13 ((b ++ Codec.encInt (xs.length : Int)).length) c14] (b ++ Codec.encInt (xs.length : Int)) := Z.rep_as hr15 (by intro b h1 h2; (try simp only [Z.nt, Z.iv, Z.no, Z.ol] at h1); (try simp only [Z.iv]); omega)
      have hxs24 : b ++ Codec.encInt (xs.length : Int) = (b ++ (Codec.encInt (xs.length : Int) ++ (xs.take 0).flatMap Codec.encInt) : List UInt8) := by first | rfl | (simp; done) | (rw [hfl.1] <;> (simp; done)) | (rw [Codec.fm_all _ (by omega)] <;> (simp [Codec.encList]; done))
      have hr25 := Z.rep_eq hr23 hxs24
      exact ⟨0, A13, c14, rfl, (Z.Ch.refl' _ _), hr25, (Z.Blk.cast (show Z.Blk w12 g 90 [.slice A13 ((b ++ Codec.encInt (xs.length : Int)).length) c14] from hb16) (by first | rfl | (simp only [hxs24]; done) | simp_all)), (by omega), (hf.keep [2, 16, 17, 18])⟩
    · rintro m39 a w26 ⟨k29, A34, c35, hm28, hc27, hr36, hb37, hk38, hf⟩ Q30 hp31 hn32 he33
      have hzhc27 := hc27.size
      refine Z.qseq [.n] [19] [] [(19, .bool (decide ((k29 : Int) < (xs.length : Int))))] Z.k0 hf ?_; clear hf a; intro a hf
      refine Z.seq' hp31 fun Q40 hp41 hn42 he43 => ?_
      refine Z.condp hf rfl ?_ ?_
      · intro hp44
        refine Z.skip ?_
        refine hn42 _ _ ?_
        refine Z.seq' hp31 fun Q45 hp46 hn47 he48 => ?_
        refine Z.block' hp46 fun Q49 hp50 hn51 hx52 he53 => ?_
        refine Z.seq' hp50 fun Q54 hp55 hn56 he57 => ?_
        refine Z.reg ?_
        have hq58 : Z.Ch [g] w w26 := hc17.then hc27
        have hr59 := Z.rep_to (F' := (Z.ol [g] w.heap.size)) ph1o hq58
        have hkx62 : k29 < (xs).length := (by omega)
        obtain ⟨ad60, es61, x62, hA63, hF64, hl65, hx66, hc67, hr68⟩ := Z.rep_el hr59 hkx62
        have hok69 := Z.rep_ok _ hr68
        have he70 := hr68.1
        have he71 : es61 = [.int .i64 x62] := by simp only [he70, List.cons_append, List.nil_append]
        rw [he71] at hc67
        have hfl := Codec.fm_step Codec.encInt hx66
        refine Z.val hf rfl (Z.r_indexAddrE Try.underlying29 Try.sizeOf3 (hf.eval rfl) hA63 (hf.eval rfl) (k := k29) (by first | rfl | omega) (by omega)) ?_; clear hf a; intro a hf
        refine Z.qe [.e 0 0, .n] [7] [] [(7, .int .i64 x62)] (Z.ke hc67 Z.k0) hf ?_; clear hf a; intro a hf
        refine hn56 _ _ ?_
        refine Z.reg ?_
        refine Z.qr [.n, .n] [22, 23] [] [(22, .func (.func 52) #[.pointer (some ⟨g, 0, none⟩)] #[]), (23, .int .i64 x62)] Z.k0 hf ?_; clear hf a; intro a hf
        have hr72 := Z.rep_to (F' := (Z.nt [g])) hr36 (Z.Ch.refl w26)
        refine Z.call1 hf rfl (Z.r_callv cf52 hf (first := [.pointer (some ⟨g, 0, none⟩)]) (cap := []) (xs := [.tmp 23]) rfl rfl) (w_int (b ++ (Codec.encInt (xs.length : Int) ++ (xs.take k29).flatMap Codec.encInt)) g x62 w26 A34 c35 hr72 hb37 (by first | omega | (simp only [List.length_append, List.flatMap_cons, List.flatMap_nil, List.flatten_cons, List.flatten_nil, List.length_nil, List.append_nil]; omega)) (by first | (exact Z.has_i64 (by assumption)) | (unfold Codec.okInt; omega))) ?_; clear hf a
        rintro _ w73 ⟨A74, c75, rfl, hr76, hb77, hc78⟩
        have hzhc78 := hc78.size
        refine ⟨_, rfl, ?_⟩; intro a hf
        refine Z.done ?_
        refine hn51 _ _ ?_
        refine hn47 _ _ ?_
        refine Z.qreg [.n, .n] [18] [Z.R64 ((k29 : Int) + 1)] [(18, .int .i64 ((k29 : Int) + 1))] Z.k0 hf ?_; clear hf a; intro a hf
        refine hn32 (xs.length - (k29 + 1)) _ _ ?_ ?_
        rotate_left
        replace hf := hf.setv (d := 18) (y := .int .i64 ((k29 + 1 : Nat) : Int)) rfl (congrArg (Value.int .i64) (by first | rfl | omega | (simp; done) | (simp; omega)))
        have hr79 : (Z.Ty.slice Z.Ty.byte).rep w73 (Z.iv w.heap.size w73.heap.size) [.slice A74 (((b ++ (Codec.encInt (xs.length : Int) ++ (xs.take k29).flatMap Codec.encInt)) ++ Codec.encInt x62).length) c75] ((b ++ (Codec.encInt (xs.length : Int) ++ (xs.take k29).flatMap Codec.encInt)) ++ Codec.encInt x62) := Z.rep_as hr76 (by intro b h1 h2; (try simp only [Z.nt, Z.iv, Z.no, Z.ol] at h1); (try simp only [Z.iv]); omega)
        have hxs80 : (b ++ (Codec.encInt (xs.length : Int) ++ (xs.take k29).flatMap Codec.encInt)) ++ Codec.encInt x62 = (b ++ (Codec.encInt (xs.length : Int) ++ (xs.take (k29 + 1 : Nat)).flatMap Codec.encInt) : List UInt8) := by first | rfl | (simp; done) | (rw [hfl.1] <;> (simp; done)) | (rw [Codec.fm_all _ (by omega)] <;> (simp [Codec.encList]; done))
        have hr81 := Z.rep_eq hr79 hxs80
        have hq82 : Z.Ch [g] w12 w73 := hc27.then hc78
        exact ⟨k29 + 1, A74, c75, rfl, hq82, hr81, (Z.Blk.cast (show Z.Blk w73 g 90 [.slice A74 (((b ++ (Codec.encInt (xs.length : Int) ++ (xs.take k29).flatMap Codec.encInt)) ++ Codec.encInt x62).length) c75] from hb77) (by first | rfl | (simp only [hxs80]; done) | simp_all)), (by omega), (hf.keep [2, 16, 17, 18])⟩
        rw [hm28]; omega
      · intro hp83
        refine Z.exit ?_
        refine he43 _ _ _ (by simp) ?_
        refine he33 _ _ _ (by simp) ?_
        refine hx21 _ _ ?_
        have hr84 : (Z.Ty.slice Z.Ty.byte).rep w26 (Z.iv w.heap.size w26.heap.size) [.slice A34 ((b ++ (Codec.encInt (xs.length : Int) ++ (xs.take k29).flatMap Codec.encInt)).length) c35] (b ++ (Codec.encInt (xs.length : Int) ++ (xs.take k29).flatMap Codec.encInt)) := Z.rep_as hr36 (by intro b h1 h2; (try simp only [Z.nt, Z.iv, Z.no, Z.ol] at h1); (try simp only [Z.iv]); omega)
        have hxs85 : b ++ (Codec.encInt (xs.length : Int) ++ (xs.take k29).flatMap Codec.encInt) = (b ++ Codec.encList Codec.encInt xs : List UInt8) := by first | rfl | (simp; done) | (rw [hfl.1] <;> (simp; done)) | (rw [Codec.fm_all _ (by omega)] <;> (simp [Codec.encList]; done))
        have hr86 := Z.rep_eq hr84 hxs85
        have hb87 : Z.Blk w26 g 90 [.slice A34 ((b ++ Codec.encList Codec.encInt xs).length) c35] := Z.Blk.cast (show Z.Blk w26 g 90 [.slice A34 ((b ++ (Codec.encInt (xs.length : Int) ++ (xs.take k29).flatMap Codec.encInt)).length) c35] from hb37) (by first | rfl | (simp only [hxs85]; done) | simp_all)
        have hq88 : Z.Ch [g] w w26 := hc17.then hc27
        refine Z.end0 hf Try.results55 ?_
        exact ⟨A34, c35, rfl, hr86, hb87, hq88⟩

set_option maxHeartbeats 400000 in
set_option maxRecDepth 20000 in
theorem w_node (b : List UInt8) (g : Nat) (x : D85) (w : World) (pA0 : Option Addr) (pc0 : Nat) (pA1 : Option Addr) (pc1 : Nat) (ph0 : (Z.Ty.slice Z.Ty.byte).rep w (Z.nt [g]) [.slice pA0 b.length pc0] b) (pb1 : Z.Blk w g 90 [.slice pA0 b.length pc0]) (ph1 : (Z.Ty.slice (Z.Ty.int .i64)).rep w (Z.nt [g]) [.slice pA1 x.2.2.1.length pc1] x.2.2.1) (pk3 : Z.Ty.ok T85 x) (hb : b.length + (Codec.encNode x).length ≤ 70368744177664) (hg : Codec.gNode x) :
    Calls Try.prog 57 #[.pointer (some ⟨g, 0, none⟩), .agg #[.int .i64 x.1, .int .i64 x.2.1, .slice pA1 x.2.2.1.length pc1, .int .i64 x.2.2.2.1.1, .int .i64 x.2.2.2.1.2.1, .string x.2.2.2.1.2.2, .string x.2.2.2.2.1, .int .i64 x.2.2.2.2.2.1, .int .i64 x.2.2.2.2.2.2]] w fun e w' => ∃ (rA0 : Option Addr) (rc0 : Nat), e = .returned (.tuple #[]) ∧ (Z.Ty.slice Z.Ty.byte).rep w' (Z.iv w.heap.size w'.heap.size) [.slice rA0 (b ++ Codec.encNode x).length rc0] (b ++ Codec.encNode x) ∧ Z.Blk w' g 90 [.slice rA0 (b ++ Codec.encNode x).length rc0] ∧ Z.Ch [g] w w' := by
  refine Z.enter Try.func57 rfl Try.ntmps57 (Nat.le_of_ble_eq_true rfl) fun a hf => ?_
  have hlt_g := pb1.lt
  have hle_pA1 := Z.rep_le ph1
  have ph1o := Z.rep_ol ph1
  have hle_pA0 := Z.rep_le ph0
  have ph0o := Z.rep_ol ph0
  simp only [Codec.encNode, List.length_append] at hb
  obtain ⟨hg1, hg2, hg3⟩ := hg
  refine Z.seq' (Z.Pq.body _ _ _) fun Q1 hp2 hn3 he4 => ?_
  refine Z.reg ?_
  refine Z.st_box hf rfl rfl rfl ?_; clear hf a; intro g5 w6 a hg7 hz8 hb9 hc10 hf
  refine Z.done ?_
  refine hn3 _ _ ?_
  refine Z.seq' (Z.Pq.body _ _ _) fun Q11 hp12 hn13 he14 => ?_
  refine Z.reg ?_
  refine Z.qr [.n, .n, .b 0 0, .n, .b 0 1] [4, 6, 8] [] [(4, .pointer (some ⟨g, 0, none⟩)), (6, .int .i64 x.1), (8, .int .i64 x.2.1)] (Z.kb hb9 Z.k0) hf ?_; clear hf a; intro a hf
  refine Z.st_bslice hf rfl Try.underlying117 Try.sizeOf2 Try.zeroValue2 (parts := [(0, .tmp 6), (1, .tmp 8)]) (cs := [.int .i64 x.1, .int .i64 x.2.1]) rfl rfl rfl (by kernel_rfl) ?_; clear hf a; intro g15 w16 a hg17 hz18 hb19 hc20 hf
  have ho21 : Z.Own (Z.Ty.int .i64) 2 g15 w16 Z.no (some ⟨g15, 0, none⟩) 2 ([x.1, x.2.1] : List Int) := Z.Own.made (t := (Z.Ty.int .i64)) (xs := ([x.1, x.2.1] : List Int)) hb19 (Nat.le_refl _) rfl (by simp [maxLen]) (by simp [Value.oneCell']) (fun i x hi => by match i, hi with | 0, hi => (injection hi with hi; subst hi; exact (show (Z.Ty.int .i64).rep w16 (Z.nt []) [.int .i64 x.1] x.1 from ⟨rfl, pk3.1⟩)) | 1, hi => (injection hi with hi; subst hi; exact (show (Z.Ty.int .i64).rep w16 (Z.nt []) [.int .i64 x.2.1] x.2.1 from ⟨rfl, pk3.2.1⟩)) | (j + 2), hi => simp at hi)
  have hq22 : Z.Ch [] w w16 := hc10.then hc20
  have hb23 := pb1.ch0 hq22
  have hr24 := Z.rep_to (F' := (Z.nt [g])) ph0o hq22
  have hr25 := ho21.riv
  have hr26 := Z.rep_to (F' := (Z.nt [g])) hr25 (Z.Ch.refl w16)
  refine Z.call1 hf rfl (Z.r_call cf37 hf (xs := [.tmp 4, .tmp 9]) rfl) (w_ints b g ([x.1, x.2.1] : List Int) w16 pA0 pc0 (some ⟨g15, 0, none⟩) 2 hr24 hb23 hr26 (by first | omega | (simp only [List.length_append, List.flatMap_cons, List.flatMap_nil, List.flatten_cons, List.flatten_nil, List.length_nil, List.append_nil]; omega))) ?_; clear hf a
  rintro _ w27 ⟨A28, c29, rfl, hr30, hb31, hc32⟩
  have hzhc32 := hc32.size
  refine ⟨_, rfl, ?_⟩; intro a hf
  refine Z.done ?_
  refine hn13 _ _ ?_
  refine Z.seq' (Z.Pq.body _ _ _) fun Q33 hp34 hn35 he36 => ?_
  refine Z.reg ?_
  have hq37 : Z.Ch [g] w6 w27 := hc20.then hc32
  have hb38 := hb9.ch hq37 (by simp only [List.mem_cons, List.mem_append, List.not_mem_nil, or_false, not_or, not_false_eq_true, and_true] <;> omega)
  refine Z.qr [.n, .n, .b 0 2, .n, .n] [11, 13, 15] [] [(11, .pointer (some ⟨g, 0, none⟩)), (13, .slice pA1 x.2.2.1.length pc1), (15, .func (.func 52) #[.pointer (some ⟨g, 0, none⟩)] #[])] (Z.kb hb38 Z.k0) hf ?_; clear hf a; intro a hf
  have hr39 := Z.rep_to (F' := (Z.nt [g])) hr30 (Z.Ch.refl w27)
  have hq40 : Z.Ch [g] w w27 := hq22.then hc32
  have hr41 := Z.rep_to (F' := (Z.nt [g])) ph1o hq40
  refine Z.call1 hf rfl (Z.r_call cf55 hf (xs := [.tmp 11, .tmp 13, .tmp 15]) rfl) (p_ints (b ++ ([x.1, x.2.1] : List Int).flatMap Codec.encInt) g x.2.2.1 w27 A28 c29 pA1 pc1 hr39 hb31 hr41 (by first | omega | (simp only [List.length_append, List.flatMap_cons, List.flatMap_nil, List.flatten_cons, List.flatten_nil, List.length_nil, List.append_nil]; omega)) (by assumption)) ?_; clear hf a
  rintro _ w42 ⟨A43, c44, rfl, hr45, hb46, hc47⟩
  have hzhc47 := hc47.size
  refine ⟨_, rfl, ?_⟩; intro a hf
  refine Z.done ?_
  refine hn35 _ _ ?_
  refine Z.seq' (Z.Pq.body _ _ _) fun Q48 hp49 hn50 he51 => ?_
  refine Z.reg ?_
  have hb52 := hb38.ch hc47 (by simp only [List.mem_cons, List.mem_append, List.not_mem_nil, or_false, not_or, not_false_eq_true, and_true] <;> omega)
  refine Z.qr [.n, .n, .b 0 3] [17, 19] [] [(17, .pointer (some ⟨g, 0, none⟩)), (19, .agg #[.int .i64 x.2.2.2.1.1, .int .i64 x.2.2.2.1.2.1, .string x.2.2.2.1.2.2])] (Z.kb hb52 Z.k0) hf ?_; clear hf a; intro a hf
  have hr53 := Z.rep_to (F' := (Z.nt [g])) hr45 (Z.Ch.refl w42)
  refine Z.call1 hf rfl (Z.r_call cf65 hf (xs := [.tmp 17, .tmp 19]) rfl) (w_fn ((b ++ ([x.1, x.2.1] : List Int).flatMap Codec.encInt) ++ Codec.encList Codec.encInt x.2.2.1) g x.2.2.2.1 w42 A43 c44 hr53 hb46 pk3.2.2.2.1 (by first | omega | (simp only [List.length_append, List.flatMap_cons, List.flatMap_nil, List.flatten_cons, List.flatten_nil, List.length_nil, List.append_nil]; omega)) (by assumption)) ?_; clear hf a
  rintro _ w54 ⟨A55, c56, rfl, hr57, hb58, hc59⟩
  have hzhc59 := hc59.size
  refine ⟨_, rfl, ?_⟩; intro a hf
  refine Z.done ?_
  refine hn50 _ _ ?_
  refine Z.seq' (Z.Pq.body _ _ _) fun Q60 hp61 hn62 he63 => ?_
  refine Z.reg ?_
  have hb64 := hb52.ch hc59 (by simp only [List.mem_cons, List.mem_append, List.not_mem_nil, or_false, not_or, not_false_eq_true, and_true] <;> omega)
  refine Z.qr [.n, .n, .b 0 6] [21, 23] [] [(21, .pointer (some ⟨g, 0, none⟩)), (23, .string x.2.2.2.2.1)] (Z.kb hb64 Z.k0) hf ?_; clear hf a; intro a hf
  have hr65 := Z.rep_to (F' := (Z.nt [g])) hr57 (Z.Ch.refl w54)
  refine Z.call1 hf rfl (Z.r_call cf53 hf (xs := [.tmp 21, .tmp 23]) rfl) (w_text (((b ++ ([x.1, x.2.1] : List Int).flatMap Codec.encInt) ++ Codec.encList Codec.encInt x.2.2.1) ++ Codec.encFn x.2.2.2.1) g x.2.2.2.2.1 w54 A55 c56 hr65 hb58 (by first | omega | (simp only [List.length_append, List.flatMap_cons, List.flatMap_nil, List.flatten_cons, List.flatten_nil, List.length_nil, List.append_nil]; omega)) (by assumption)) ?_; clear hf a
  rintro _ w66 ⟨A67, c68, rfl, hr69, hb70, hc71⟩
  have hzhc71 := hc71.size
  refine ⟨_, rfl, ?_⟩; intro a hf
  refine Z.done ?_
  refine hn62 _ _ ?_
  refine Z.reg ?_
  have hb72 := hb64.ch hc71 (by simp only [List.mem_cons, List.mem_append, List.not_mem_nil, or_false, not_or, not_false_eq_true, and_true] <;> omega)
  refine Z.qr [.n, .n, .b 0 7, .n, .b 0 8] [25, 27, 29] [] [(25, .pointer (some ⟨g, 0, none⟩)), (27, .int .i64 x.2.2.2.2.2.1), (29, .int .i64 x.2.2.2.2.2.2)] (Z.kb hb72 Z.k0) hf ?_; clear hf a; intro a hf
  refine Z.st_bslice hf rfl Try.underlying117 Try.sizeOf2 Try.zeroValue2 (parts := [(0, .tmp 27), (1, .tmp 29)]) (cs := [.int .i64 x.2.2.2.2.2.1, .int .i64 x.2.2.2.2.2.2]) rfl rfl rfl (by kernel_rfl) ?_; clear hf a; intro g73 w74 a hg75 hz76 hb77 hc78 hf
  have ho79 : Z.Own (Z.Ty.int .i64) 2 g73 w74 Z.no (some ⟨g73, 0, none⟩) 2 ([x.2.2.2.2.2.1, x.2.2.2.2.2.2] : List Int) := Z.Own.made (t := (Z.Ty.int .i64)) (xs := ([x.2.2.2.2.2.1, x.2.2.2.2.2.2] : List Int)) hb77 (Nat.le_refl _) rfl (by simp [maxLen]) (by simp [Value.oneCell']) (fun i x hi => by match i, hi with | 0, hi => (injection hi with hi; subst hi; exact (show (Z.Ty.int .i64).rep w74 (Z.nt []) [.int .i64 x.2.2.2.2.2.1] x.2.2.2.2.2.1 from ⟨rfl, pk3.2.2.2.2.2.1⟩)) | 1, hi => (injection hi with hi; subst hi; exact (show (Z.Ty.int .i64).rep w74 (Z.nt []) [.int .i64 x.2.2.2.2.2.2] x.2.2.2.2.2.2 from ⟨rfl, pk3.2.2.2.2.2.2⟩)) | (j + 2), hi => simp at hi)
  have hb80 := hb70.ch0 hc78
  have hr81 := Z.rep_to (F' := (Z.nt [g])) hr69 hc78
  have hr82 := ho79.riv
  have hr83 := Z.rep_to (F' := (Z.nt [g])) hr82 (Z.Ch.refl w74)
  refine Z.call1 hf rfl (Z.r_call cf37 hf (xs := [.tmp 25, .tmp 30]) rfl) (w_ints ((((b ++ ([x.1, x.2.1] : List Int).flatMap Codec.encInt) ++ Codec.encList Codec.encInt x.2.2.1) ++ Codec.encFn x.2.2.2.1) ++ Codec.encText x.2.2.2.2.1) g ([x.2.2.2.2.2.1, x.2.2.2.2.2.2] : List Int) w74 A67 c68 (some ⟨g73, 0, none⟩) 2 hr81 hb80 hr83 (by first | omega | (simp only [List.length_append, List.flatMap_cons, List.flatMap_nil, List.flatten_cons, List.flatten_nil, List.length_nil, List.append_nil]; omega))) ?_; clear hf a
  rintro _ w84 ⟨A85, c86, rfl, hr87, hb88, hc89⟩
  have hzhc89 := hc89.size
  refine ⟨_, rfl, ?_⟩; intro a hf
  refine Z.done ?_
  have hr90 : (Z.Ty.slice Z.Ty.byte).rep w84 (Z.iv w.heap.size w84.heap.size) [.slice A85 ((((((b ++ ([x.1, x.2.1] : List Int).flatMap Codec.encInt) ++ Codec.encList Codec.encInt x.2.2.1) ++ Codec.encFn x.2.2.2.1) ++ Codec.encText x.2.2.2.2.1) ++ ([x.2.2.2.2.2.1, x.2.2.2.2.2.2] : List Int).flatMap Codec.encInt).length) c86] (((((b ++ ([x.1, x.2.1] : List Int).flatMap Codec.encInt) ++ Codec.encList Codec.encInt x.2.2.1) ++ Codec.encFn x.2.2.2.1) ++ Codec.encText x.2.2.2.2.1) ++ ([x.2.2.2.2.2.1, x.2.2.2.2.2.2] : List Int).flatMap Codec.encInt) := Z.rep_as hr87 (by intro b h1 h2; (try simp only [Z.nt, Z.iv, Z.no, Z.ol] at h1); (try simp only [Z.iv]); omega)
  have hxs91 : ((((b ++ ([x.1, x.2.1] : List Int).flatMap Codec.encInt) ++ Codec.encList Codec.encInt x.2.2.1) ++ Codec.encFn x.2.2.2.1) ++ Codec.encText x.2.2.2.2.1) ++ ([x.2.2.2.2.2.1, x.2.2.2.2.2.2] : List Int).flatMap Codec.encInt = (b ++ Codec.encNode x : List UInt8) := by first | rfl | (simp [Codec.encNode]; done)
  have hr92 := Z.rep_eq hr90 hxs91
  have hb93 : Z.Blk w84 g 90 [.slice A85 ((b ++ Codec.encNode x).length) c86] := Z.Blk.cast (show Z.Blk w84 g 90 [.slice A85 ((((((b ++ ([x.1, x.2.1] : List Int).flatMap Codec.encInt) ++ Codec.encList Codec.encInt x.2.2.1) ++ Codec.encFn x.2.2.2.1) ++ Codec.encText x.2.2.2.2.1) ++ ([x.2.2.2.2.2.1, x.2.2.2.2.2.2] : List Int).flatMap Codec.encInt).length) c86] from hb88) (by first | rfl | (simp only [hxs91]; done) | simp_all)
  have hq94 : Z.Ch [g] w w42 := hq40.then hc47
  have hq95 : Z.Ch [g] w w54 := hq94.then hc59
  have hq96 : Z.Ch [g] w w66 := hq95.then hc71
  have hq97 : Z.Ch [g] w w74 := hq96.then hc78
  have hq98 : Z.Ch [g] w w84 := hq97.then hc89
  refine Z.end0 hf Try.results57 ?_
  exact ⟨A85, c86, rfl, hr92, hb93, hq98⟩

set_option maxHeartbeats 400000 in
set_option maxRecDepth 20000 in
theorem p_recs (b : List UInt8) (g : Nat) (xs : List D59) (w : World) (pA0 : Option Addr) (pc0 : Nat) (pA1 : Option Addr) (pc1 : Nat) (ph0 : (Z.Ty.slice Z.Ty.byte).rep w (Z.nt [g]) [.slice pA0 b.length pc0] b) (pb1 : Z.Blk w g 90 [.slice pA0 b.length pc0]) (ph1 : (Z.Ty.slice T59).rep w (Z.nt [g]) [.slice pA1 xs.length pc1] xs) (hb : b.length + (Codec.encList Codec.encRec xs).length ≤ 70368744177664) (hl : xs.length ≤ 65536) (he : ∀ a ∈ xs, Codec.gRec a) :
    Calls Try.prog 40 #[.pointer (some ⟨g, 0, none⟩), .slice pA1 xs.length pc1, .func (.func 41) #[.pointer (some ⟨g, 0, none⟩)] #[]] w fun e w' => ∃ (rA0 : Option Addr) (rc0 : Nat), e = .returned (.tuple #[]) ∧ (Z.Ty.slice Z.Ty.byte).rep w' (Z.iv w.heap.size w'.heap.size) [.slice rA0 (b ++ Codec.encList Codec.encRec xs).length rc0] (b ++ Codec.encList Codec.encRec xs) ∧ Z.Blk w' g 90 [.slice rA0 (b ++ Codec.encList Codec.encRec xs).length rc0] ∧ Z.Ch [g] w w' := by
  refine Z.enter Try.func40 rfl Try.ntmps40 (Nat.le_of_ble_eq_true rfl) fun a hf => ?_
  have hlt_g := pb1.lt
  have hle_pA1 := Z.rep_le ph1
  have ph1o := Z.rep_ol ph1
  have hle_pA0 := Z.rep_le ph0
  have ph0o := Z.rep_ol ph0
  simp only [Codec.encList, List.length_append] at hb
  refine Z.seq' (Z.Pq.body _ _ _) fun Q1 hp2 hn3 he4 => ?_
  refine Z.qseq [.n, .n, .n] [10] [] [(10, .bool (decide (65536 < (xs.length : Int))))] Z.k0 hf ?_; clear hf a; intro a hf
  refine Z.condp hf rfl ?_ ?_
  · intro hp5
    exfalso; omega
  · intro hp6
    refine Z.skip ?_
    refine hn3 _ _ ?_
    refine Z.seq' (Z.Pq.body _ _ _) fun Q7 hp8 hn9 he10 => ?_
    refine Z.reg ?_
    refine Z.qr [.n, .n, .n] [12, 14] [] [(12, .pointer (some ⟨g, 0, none⟩)), (14, .int .i64 (xs.length : Int))] Z.k0 hf ?_; clear hf a; intro a hf
    have hr11 := Z.rep_to (F' := (Z.nt [g])) ph0o (Z.Ch.refl w)
    refine Z.call1 hf rfl (Z.r_call cf52 hf (xs := [.tmp 12, .tmp 14]) rfl) (w_int b g (xs.length : Int) w pA0 pc0 hr11 pb1 (by first | omega | (simp only [List.length_append, List.flatMap_cons, List.flatMap_nil, List.flatten_cons, List.flatten_nil, List.length_nil, List.append_nil]; omega)) (by first | (exact Z.has_i64 (by assumption)) | (unfold Codec.okInt; omega))) ?_; clear hf a
    rintro _ w12 ⟨A13, c14, rfl, hr15, hb16, hc17⟩
    have hzhc17 := hc17.size
    refine ⟨_, rfl, ?_⟩; intro a hf
    refine Z.done ?_
    refine hn9 _ _ ?_
    refine Z.qseq [.n, .n, .n] [16, 17, 18] [] [(16, .slice pA1 xs.length pc1), (17, .int .i64 (xs.length : Int)), (18, .int .i64 0)] Z.k0 hf ?_; clear hf a; intro a hf
    refine Z.block' (Z.Pq.body _ _ _) fun Q18 hp19 hn20 hx21 he22 => ?_
    refine Z.loop' hp19 (fun m a wl => ∃ (k : Nat), ∃ (lA0 : Option Addr), ∃ (lc0 : Nat), m = xs.length - k ∧ Z.Ch [g] w12 wl ∧ (Z.Ty.slice Z.Ty.byte).rep wl (Z.iv w.heap.size wl.heap.size) [.slice lA0 ((b ++ (Codec.encInt (xs.length : Int) ++ (xs.take k).flatMap Codec.encRec)).length) lc0] (b ++ (Codec.encInt (xs.length : Int) ++ (xs.take k).flatMap Codec.encRec)) ∧ Z.Blk wl g 90 [.slice lA0 ((b ++ (Codec.encInt (xs.length : Int) ++ (xs.take k).flatMap Codec.encRec)).length) lc0] ∧ (k ≤ xs.length) ∧ Z.Fr a 26 [] [(2, .func (.func 41) #[.pointer (some ⟨g, 0, none⟩)] #[]), (16, .slice pA1 xs.length pc1), (17, .int .i64 (xs.length : Int)), (18, .int .i64 (k : Int))]) (xs.length - 0) ?_ ?_
    · replace hf := hf.setv (d := 18) (y := .int .i64 (0 : Int)) rfl (congrArg (Value.int .i64) (by first | rfl | omega | (simp; done) | (simp; omega)))
      have hr23 : (Z.Ty.slice Z.Ty.byte).rep w12 (Z.iv w.heap.size w12.heap.size) [.slice A13 ((b ++ Codec.encInt (xs.length : Int)).length) c14] (b ++ Codec.encInt (xs.length : Int)) := Z.rep_as hr15 (by intro b h1 h2; (try simp only [Z.nt, Z.iv, Z.no, Z.ol] at h1); (try simp only [Z.iv]); omega)
      have hxs24 : b ++ Codec.encInt (xs.length : Int) = (b ++ (Codec.encInt (xs.length : Int) ++ (xs.take 0).flatMap Codec.encRec) : List UInt8) := by first | rfl | (simp; done) | (rw [hfl.1] <;> (simp; done)) | (rw [Codec.fm_all _ (by omega)] <;> (simp [Codec.encList]; done))
      have hr25 := Z.rep_eq hr23 hxs24
      exact ⟨0, A13, c14, rfl, (Z.Ch.refl' _ _), hr25, (Z.Blk.cast (show Z.Blk w12 g 90 [.slice A13 ((b ++ Codec.encInt (xs.length : Int)).length) c14] from hb16) (by first | rfl | (simp only [hxs24]; done) | simp_all)), (by omega), (hf.keep [2, 16, 17, 18])⟩
    · rintro m39 a w26 ⟨k29, A34, c35, hm28, hc27, hr36, hb37, hk38, hf⟩ Q30 hp31 hn32 he33
      have hzhc27 := hc27.size
      refine Z.qseq [.n] [19] [] [(19, .bool (decide ((k29 : Int) < (xs.length : Int))))] Z.k0 hf ?_; clear hf a; intro a hf
      refine Z.seq' hp31 fun Q40 hp41 hn42 he43 => ?_
      refine Z.condp hf rfl ?_ ?_
      · intro hp44
        refine Z.skip ?_
        refine hn42 _ _ ?_
        refine Z.seq' hp31 fun Q45 hp46 hn47 he48 => ?_
        refine Z.block' hp46 fun Q49 hp50 hn51 hx52 he53 => ?_
        refine Z.seq' hp50 fun Q54 hp55 hn56 he57 => ?_
        refine Z.reg ?_
        have hq58 : Z.Ch [g] w w26 := hc17.then hc27
        have hr59 := Z.rep_to (F' := (Z.ol [g] w.heap.size)) ph1o hq58
        have hkx62 : k29 < (xs).length := (by omega)
        obtain ⟨ad60, es61, x62, hA63, hF64, hl65, hx66, hc67, hr68⟩ := Z.rep_el hr59 hkx62
        have hok69 := Z.rep_ok _ hr68
        obtain ⟨ca70, cb71, he72, hr73, hr74⟩ := hr68
        have he75 := hr73.1
        have he76 := hr74.1
        have he77 : es61 = [.int .i64 x62.1, .string x62.2] := by simp only [he72, he75, he76, List.cons_append, List.nil_append]
        rw [he77] at hc67
        have hfl := Codec.fm_step Codec.encRec hx66
        have hge := he _ (Codec.get_mem hx66)
        refine Z.val hf rfl (Z.r_indexAddrE Try.underlying27 Try.sizeOf60 (hf.eval rfl) hA63 (hf.eval rfl) (k := k29) (by first | rfl | omega) (by omega)) ?_; clear hf a; intro a hf
        refine Z.qr [.e 0 0] [21] [] [(21, .agg #[.int .i64 x62.1, .string x62.2])] (Z.ke hc67 Z.k0) hf ?_; clear hf a; intro a hf
        refine Z.st_alloc hf rfl Try.zeroValue60 rfl ?_; clear hf a; intro g78 w79 a hg80 hz81 hb82 hc83 hf
        refine Z.st_store hf hb82 rfl rfl Try.sizeOf60 rfl rfl rfl (by simp [Value.oneCell']) rfl ?_; clear hf a; intro w84 a hz85 hb86 hc87 hf
        refine Z.done ?_
        refine hn56 _ _ ?_
        refine Z.reg ?_
        refine Z.qr [.n, .b 0 0] [22, 23] [] [(22, .func (.func 41) #[.pointer (some ⟨g, 0, none⟩)] #[]), (23, .agg #[.int .i64 x62.1, .string x62.2])] (Z.kb hb86 Z.k0) hf ?_; clear hf a; intro a hf
        have hq88 : Z.Ch [g78] w26 w84 := hc83.then hc87
        have hb89 := hb37.ch hq88 (by simp only [List.mem_cons, List.mem_append, List.not_mem_nil, or_false, not_or, not_false_eq_true, and_true] <;> omega)
        have hr90 := Z.rep_to (F' := (Z.nt [g])) hr36 hq88
        refine Z.call1 hf rfl (Z.r_callv cf41 hf (first := [.pointer (some ⟨g, 0, none⟩)]) (cap := []) (xs := [.tmp 23]) rfl rfl) (w_rec (b ++ (Codec.encInt (xs.length : Int) ++ (xs.take k29).flatMap Codec.encRec)) g x62 w84 A34 c35 hr90 hb89 hok69 (by first | omega | (simp only [List.length_append, List.flatMap_cons, List.flatMap_nil, List.flatten_cons, List.flatten_nil, List.length_nil, List.append_nil]; omega)) (by assumption)) ?_; clear hf a
        rintro _ w91 ⟨A92, c93, rfl, hr94, hb95, hc96⟩
        have hzhc96 := hc96.size
        refine ⟨_, rfl, ?_⟩; intro a hf
        refine Z.done ?_
        refine hn51 _ _ ?_
        refine hn47 _ _ ?_
        refine Z.qreg [.n, .n] [18] [Z.R64 ((k29 : Int) + 1)] [(18, .int .i64 ((k29 : Int) + 1))] Z.k0 hf ?_; clear hf a; intro a hf
        refine hn32 (xs.length - (k29 + 1)) _ _ ?_ ?_
        rotate_left
        replace hf := hf.setv (d := 18) (y := .int .i64 ((k29 + 1 : Nat) : Int)) rfl (congrArg (Value.int .i64) (by first | rfl | omega | (simp; done) | (simp; omega)))
        have hr97 : (Z.Ty.slice Z.Ty.byte).rep w91 (Z.iv w.heap.size w91.heap.size) [.slice A92 (((b ++ (Codec.encInt (xs.length : Int) ++ (xs.take k29).flatMap Codec.encRec)) ++ Codec.encRec x62).length) c93] ((b ++ (Codec.encInt (xs.length : Int) ++ (xs.take k29).flatMap Codec.encRec)) ++ Codec.encRec x62) := Z.rep_as hr94 (by intro b h1 h2; (try simp only [Z.nt, Z.iv, Z.no, Z.ol] at h1); (try simp only [Z.iv]); omega)
        have hxs98 : (b ++ (Codec.encInt (xs.length : Int) ++ (xs.take k29).flatMap Codec.encRec)) ++ Codec.encRec x62 = (b ++ (Codec.encInt (xs.length : Int) ++ (xs.take (k29 + 1 : Nat)).flatMap Codec.encRec) : List UInt8) := by first | rfl | (simp; done) | (rw [hfl.1] <;> (simp; done)) | (rw [Codec.fm_all _ (by omega)] <;> (simp [Codec.encList]; done))
        have hr99 := Z.rep_eq hr97 hxs98
        have hq100 : Z.Ch [g] w12 w79 := hc27.then hc83
        have hq101 : Z.Ch [g, g78] w12 w84 := hq100.then hc87
        have hq102 : Z.Ch [g, g78] w12 w91 := hq101.then hc96
        exact ⟨k29 + 1, A92, c93, rfl, (hq102.mono (by intro k hk; (try simp only [List.mem_cons, List.mem_append, List.not_mem_nil, or_false, false_or] at hk ⊢) <;> omega)), hr99, (Z.Blk.cast (show Z.Blk w91 g 90 [.slice A92 (((b ++ (Codec.encInt (xs.length : Int) ++ (xs.take k29).flatMap Codec.encRec)) ++ Codec.encRec x62).length) c93] from hb95) (by first | rfl | (simp only [hxs98]; done) | simp_all)), (by omega), (hf.keep [2, 16, 17, 18])⟩
        rw [hm28]; omega
      · intro hp103
        refine Z.exit ?_
        refine he43 _ _ _ (by simp) ?_
        refine he33 _ _ _ (by simp) ?_
        refine hx21 _ _ ?_
        have hr104 : (Z.Ty.slice Z.Ty.byte).rep w26 (Z.iv w.heap.size w26.heap.size) [.slice A34 ((b ++ (Codec.encInt (xs.length : Int) ++ (xs.take k29).flatMap Codec.encRec)).length) c35] (b ++ (Codec.encInt (xs.length : Int) ++ (xs.take k29).flatMap Codec.encRec)) := Z.rep_as hr36 (by intro b h1 h2; (try simp only [Z.nt, Z.iv, Z.no, Z.ol] at h1); (try simp only [Z.iv]); omega)
        have hxs105 : b ++ (Codec.encInt (xs.length : Int) ++ (xs.take k29).flatMap Codec.encRec) = (b ++ Codec.encList Codec.encRec xs : List UInt8) := by first | rfl | (simp; done) | (rw [hfl.1] <;> (simp; done)) | (rw [Codec.fm_all _ (by omega)] <;> (simp [Codec.encList]; done))
        have hr106 := Z.rep_eq hr104 hxs105
        have hb107 : Z.Blk w26 g 90 [.slice A34 ((b ++ Codec.encList Codec.encRec xs).length) c35] := Z.Blk.cast (show Z.Blk w26 g 90 [.slice A34 ((b ++ (Codec.encInt (xs.length : Int) ++ (xs.take k29).flatMap Codec.encRec)).length) c35] from hb37) (by first | rfl | (simp only [hxs105]; done) | simp_all)
        have hq108 : Z.Ch [g] w w26 := hc17.then hc27
        refine Z.end0 hf Try.results40 ?_
        exact ⟨A34, c35, rfl, hr106, hb107, hq108⟩

set_option maxHeartbeats 400000 in
set_option maxRecDepth 20000 in
theorem p_changes (b : List UInt8) (g : Nat) (xs : List D70) (w : World) (pA0 : Option Addr) (pc0 : Nat) (pA1 : Option Addr) (pc1 : Nat) (ph0 : (Z.Ty.slice Z.Ty.byte).rep w (Z.nt [g]) [.slice pA0 b.length pc0] b) (pb1 : Z.Blk w g 90 [.slice pA0 b.length pc0]) (ph1 : (Z.Ty.slice T70).rep w (Z.nt [g]) [.slice pA1 xs.length pc1] xs) (hb : b.length + (Codec.encList Codec.encChange xs).length ≤ 70368744177664) (hl : xs.length ≤ 65536) :
    Calls Try.prog 42 #[.pointer (some ⟨g, 0, none⟩), .slice pA1 xs.length pc1, .func (.func 43) #[.pointer (some ⟨g, 0, none⟩)] #[]] w fun e w' => ∃ (rA0 : Option Addr) (rc0 : Nat), e = .returned (.tuple #[]) ∧ (Z.Ty.slice Z.Ty.byte).rep w' (Z.iv w.heap.size w'.heap.size) [.slice rA0 (b ++ Codec.encList Codec.encChange xs).length rc0] (b ++ Codec.encList Codec.encChange xs) ∧ Z.Blk w' g 90 [.slice rA0 (b ++ Codec.encList Codec.encChange xs).length rc0] ∧ Z.Ch [g] w w' := by
  refine Z.enter Try.func42 rfl Try.ntmps42 (Nat.le_of_ble_eq_true rfl) fun a hf => ?_
  have hlt_g := pb1.lt
  have hle_pA1 := Z.rep_le ph1
  have ph1o := Z.rep_ol ph1
  have hle_pA0 := Z.rep_le ph0
  have ph0o := Z.rep_ol ph0
  simp only [Codec.encList, List.length_append] at hb
  refine Z.seq' (Z.Pq.body _ _ _) fun Q1 hp2 hn3 he4 => ?_
  refine Z.qseq [.n, .n, .n] [10] [] [(10, .bool (decide (65536 < (xs.length : Int))))] Z.k0 hf ?_; clear hf a; intro a hf
  refine Z.condp hf rfl ?_ ?_
  · intro hp5
    exfalso; omega
  · intro hp6
    refine Z.skip ?_
    refine hn3 _ _ ?_
    refine Z.seq' (Z.Pq.body _ _ _) fun Q7 hp8 hn9 he10 => ?_
    refine Z.reg ?_
    refine Z.qr [.n, .n, .n] [12, 14] [] [(12, .pointer (some ⟨g, 0, none⟩)), (14, .int .i64 (xs.length : Int))] Z.k0 hf ?_; clear hf a; intro a hf
    have hr11 := Z.rep_to (F' := (Z.nt [g])) ph0o (Z.Ch.refl w)
    refine Z.call1 hf rfl (Z.r_call cf52 hf (xs := [.tmp 12, .tmp 14]) rfl) (w_int b g (xs.length : Int) w pA0 pc0 hr11 pb1 (by first | omega | (simp only [List.length_append, List.flatMap_cons, List.flatMap_nil, List.flatten_cons, List.flatten_nil, List.length_nil, List.append_nil]; omega)) (by first | (exact Z.has_i64 (by assumption)) | (unfold Codec.okInt; omega))) ?_; clear hf a
    rintro _ w12 ⟨A13, c14, rfl, hr15, hb16, hc17⟩
    have hzhc17 := hc17.size
    refine ⟨_, rfl, ?_⟩; intro a hf
    refine Z.done ?_
    refine hn9 _ _ ?_
    refine Z.qseq [.n, .n, .n] [16, 17, 18] [] [(16, .slice pA1 xs.length pc1), (17, .int .i64 (xs.length : Int)), (18, .int .i64 0)] Z.k0 hf ?_; clear hf a; intro a hf
    refine Z.block' (Z.Pq.body _ _ _) fun Q18 hp19 hn20 hx21 he22 => ?_
    refine Z.loop' hp19 (fun m a wl => ∃ (k : Nat), ∃ (lA0 : Option Addr), ∃ (lc0 : Nat), m = xs.length - k ∧ Z.Ch [g] w12 wl ∧ (Z.Ty.slice Z.Ty.byte).rep wl (Z.iv w.heap.size wl.heap.size) [.slice lA0 ((b ++ (Codec.encInt (xs.length : Int) ++ (xs.take k).flatMap Codec.encChange)).length) lc0] (b ++ (Codec.encInt (xs.length : Int) ++ (xs.take k).flatMap Codec.encChange)) ∧ Z.Blk wl g 90 [.slice lA0 ((b ++ (Codec.encInt (xs.length : Int) ++ (xs.take k).flatMap Codec.encChange)).length) lc0] ∧ (k ≤ xs.length) ∧ Z.Fr a 26 [] [(2, .func (.func 43) #[.pointer (some ⟨g, 0, none⟩)] #[]), (16, .slice pA1 xs.length pc1), (17, .int .i64 (xs.length : Int)), (18, .int .i64 (k : Int))]) (xs.length - 0) ?_ ?_
    · replace hf := hf.setv (d := 18) (y := .int .i64 (0 : Int)) rfl (congrArg (Value.int .i64) (by first | rfl | omega | (simp; done) | (simp; omega)))
      have hr23 : (Z.Ty.slice Z.Ty.byte).rep w12 (Z.iv w.heap.size w12.heap.size) [.slice A13 ((b ++ Codec.encInt (xs.length : Int)).length) c14] (b ++ Codec.encInt (xs.length : Int)) := Z.rep_as hr15 (by intro b h1 h2; (try simp only [Z.nt, Z.iv, Z.no, Z.ol] at h1); (try simp only [Z.iv]); omega)
      have hxs24 : b ++ Codec.encInt (xs.length : Int) = (b ++ (Codec.encInt (xs.length : Int) ++ (xs.take 0).flatMap Codec.encChange) : List UInt8) := by first | rfl | (simp; done) | (rw [hfl.1] <;> (simp; done)) | (rw [Codec.fm_all _ (by omega)] <;> (simp [Codec.encList]; done))
      have hr25 := Z.rep_eq hr23 hxs24
      exact ⟨0, A13, c14, rfl, (Z.Ch.refl' _ _), hr25, (Z.Blk.cast (show Z.Blk w12 g 90 [.slice A13 ((b ++ Codec.encInt (xs.length : Int)).length) c14] from hb16) (by first | rfl | (simp only [hxs24]; done) | simp_all)), (by omega), (hf.keep [2, 16, 17, 18])⟩
    · rintro m39 a w26 ⟨k29, A34, c35, hm28, hc27, hr36, hb37, hk38, hf⟩ Q30 hp31 hn32 he33
      have hzhc27 := hc27.size
      refine Z.qseq [.n] [19] [] [(19, .bool (decide ((k29 : Int) < (xs.length : Int))))] Z.k0 hf ?_; clear hf a; intro a hf
      refine Z.seq' hp31 fun Q40 hp41 hn42 he43 => ?_
      refine Z.condp hf rfl ?_ ?_
      · intro hp44
        refine Z.skip ?_
        refine hn42 _ _ ?_
        refine Z.seq' hp31 fun Q45 hp46 hn47 he48 => ?_
        refine Z.block' hp46 fun Q49 hp50 hn51 hx52 he53 => ?_
        refine Z.seq' hp50 fun Q54 hp55 hn56 he57 => ?_
        refine Z.reg ?_
        have hq58 : Z.Ch [g] w w26 := hc17.then hc27
        have hr59 := Z.rep_to (F' := (Z.ol [g] w.heap.size)) ph1o hq58
        have hkx62 : k29 < (xs).length := (by omega)
        obtain ⟨ad60, es61, x62, hA63, hF64, hl65, hx66, hc67, hr68⟩ := Z.rep_el hr59 hkx62
        have hok69 := Z.rep_ok _ hr68
        obtain ⟨ca70, cb71, he72, hr73, hr74⟩ := hr68
        obtain ⟨ca75, cb76, he77, hr78, hr79⟩ := hr73
        have he80 := hr78.1
        have he81 := hr79.1
        obtain ⟨ca82, cb83, he84, hr85, hr86⟩ := hr74
        obtain ⟨ca87, cb88, he89, hr90, hr91⟩ := hr85
        have he92 := hr90.1
        obtain ⟨ca93, cb94, he95, hr96, hr97⟩ := hr91
        have he98 := hr96.1
        obtain ⟨ca99, cb100, he101, hr102, hr103⟩ := hr97
        have he104 := hr102.1
        obtain ⟨ca105, cb106, he107, hr108, hr109⟩ := hr103
        have he110 := hr108.1
        obtain ⟨ca111, cb112, he113, hr114, hr115⟩ := hr109
        have he116 := hr114.1
        have he117 := hr115.1
        have he118 := hr86.1
        have he119 : es61 = [.int .i64 x62.1.1, .int .i64 x62.1.2, .int .i64 x62.2.1.1, .int .i64 x62.2.1.2.1, .int .i64 x62.2.1.2.2.1, .int .i64 x62.2.1.2.2.2.1, .int .i64 x62.2.1.2.2.2.2.1, .int .i64 x62.2.1.2.2.2.2.2, .int .i64 x62.2.2] := by simp only [he72, he77, he80, he81, he84, he89, he92, he95, he98, he101, he104, he107, he110, he113, he116, he117, he118, List.cons_append, List.nil_append]
        rw [he119] at hc67
        have hfl := Codec.fm_step Codec.encChange hx66
        refine Z.val hf rfl (Z.r_indexAddrE Try.underlying28 Try.sizeOf71 (hf.eval rfl) hA63 (hf.eval rfl) (k := k29) (by first | rfl | omega) (by omega)) ?_; clear hf a; intro a hf
        refine Z.qr [.e 0 0] [21] [] [(21, .agg #[.int .i64 x62.1.1, .int .i64 x62.1.2, .int .i64 x62.2.1.1, .int .i64 x62.2.1.2.1, .int .i64 x62.2.1.2.2.1, .int .i64 x62.2.1.2.2.2.1, .int .i64 x62.2.1.2.2.2.2.1, .int .i64 x62.2.1.2.2.2.2.2, .int .i64 x62.2.2])] (Z.ke hc67 Z.k0) hf ?_; clear hf a; intro a hf
        refine Z.st_alloc hf rfl Try.zeroValue71 rfl ?_; clear hf a; intro g120 w121 a hg122 hz123 hb124 hc125 hf
        refine Z.st_store hf hb124 rfl rfl Try.sizeOf71 rfl rfl rfl (by simp [Value.oneCell']) rfl ?_; clear hf a; intro w126 a hz127 hb128 hc129 hf
        refine Z.done ?_
        refine hn56 _ _ ?_
        refine Z.reg ?_
        refine Z.qr [.n, .b 0 0] [22, 23] [] [(22, .func (.func 43) #[.pointer (some ⟨g, 0, none⟩)] #[]), (23, .agg #[.int .i64 x62.1.1, .int .i64 x62.1.2, .int .i64 x62.2.1.1, .int .i64 x62.2.1.2.1, .int .i64 x62.2.1.2.2.1, .int .i64 x62.2.1.2.2.2.1, .int .i64 x62.2.1.2.2.2.2.1, .int .i64 x62.2.1.2.2.2.2.2, .int .i64 x62.2.2])] (Z.kb hb128 Z.k0) hf ?_; clear hf a; intro a hf
        have hq130 : Z.Ch [g120] w26 w126 := hc125.then hc129
        have hb131 := hb37.ch hq130 (by simp only [List.mem_cons, List.mem_append, List.not_mem_nil, or_false, not_or, not_false_eq_true, and_true] <;> omega)
        have hr132 := Z.rep_to (F' := (Z.nt [g])) hr36 hq130
        refine Z.call1 hf rfl (Z.r_callv cf43 hf (first := [.pointer (some ⟨g, 0, none⟩)]) (cap := []) (xs := [.tmp 23]) rfl rfl) (w_change (b ++ (Codec.encInt (xs.length : Int) ++ (xs.take k29).flatMap Codec.encChange)) g x62 w126 A34 c35 hr132 hb131 hok69 (by first | omega | (simp only [List.length_append, List.flatMap_cons, List.flatMap_nil, List.flatten_cons, List.flatten_nil, List.length_nil, List.append_nil]; omega))) ?_; clear hf a
        rintro _ w133 ⟨A134, c135, rfl, hr136, hb137, hc138⟩
        have hzhc138 := hc138.size
        refine ⟨_, rfl, ?_⟩; intro a hf
        refine Z.done ?_
        refine hn51 _ _ ?_
        refine hn47 _ _ ?_
        refine Z.qreg [.n, .n] [18] [Z.R64 ((k29 : Int) + 1)] [(18, .int .i64 ((k29 : Int) + 1))] Z.k0 hf ?_; clear hf a; intro a hf
        refine hn32 (xs.length - (k29 + 1)) _ _ ?_ ?_
        rotate_left
        replace hf := hf.setv (d := 18) (y := .int .i64 ((k29 + 1 : Nat) : Int)) rfl (congrArg (Value.int .i64) (by first | rfl | omega | (simp; done) | (simp; omega)))
        have hr139 : (Z.Ty.slice Z.Ty.byte).rep w133 (Z.iv w.heap.size w133.heap.size) [.slice A134 (((b ++ (Codec.encInt (xs.length : Int) ++ (xs.take k29).flatMap Codec.encChange)) ++ Codec.encChange x62).length) c135] ((b ++ (Codec.encInt (xs.length : Int) ++ (xs.take k29).flatMap Codec.encChange)) ++ Codec.encChange x62) := Z.rep_as hr136 (by intro b h1 h2; (try simp only [Z.nt, Z.iv, Z.no, Z.ol] at h1); (try simp only [Z.iv]); omega)
        have hxs140 : (b ++ (Codec.encInt (xs.length : Int) ++ (xs.take k29).flatMap Codec.encChange)) ++ Codec.encChange x62 = (b ++ (Codec.encInt (xs.length : Int) ++ (xs.take (k29 + 1 : Nat)).flatMap Codec.encChange) : List UInt8) := by first | rfl | (simp; done) | (rw [hfl.1] <;> (simp; done)) | (rw [Codec.fm_all _ (by omega)] <;> (simp [Codec.encList]; done))
        have hr141 := Z.rep_eq hr139 hxs140
        have hq142 : Z.Ch [g] w12 w121 := hc27.then hc125
        have hq143 : Z.Ch [g, g120] w12 w126 := hq142.then hc129
        have hq144 : Z.Ch [g, g120] w12 w133 := hq143.then hc138
        exact ⟨k29 + 1, A134, c135, rfl, (hq144.mono (by intro k hk; (try simp only [List.mem_cons, List.mem_append, List.not_mem_nil, or_false, false_or] at hk ⊢) <;> omega)), hr141, (Z.Blk.cast (show Z.Blk w133 g 90 [.slice A134 (((b ++ (Codec.encInt (xs.length : Int) ++ (xs.take k29).flatMap Codec.encChange)) ++ Codec.encChange x62).length) c135] from hb137) (by first | rfl | (simp only [hxs140]; done) | simp_all)), (by omega), (hf.keep [2, 16, 17, 18])⟩
        rw [hm28]; omega
      · intro hp145
        refine Z.exit ?_
        refine he43 _ _ _ (by simp) ?_
        refine he33 _ _ _ (by simp) ?_
        refine hx21 _ _ ?_
        have hr146 : (Z.Ty.slice Z.Ty.byte).rep w26 (Z.iv w.heap.size w26.heap.size) [.slice A34 ((b ++ (Codec.encInt (xs.length : Int) ++ (xs.take k29).flatMap Codec.encChange)).length) c35] (b ++ (Codec.encInt (xs.length : Int) ++ (xs.take k29).flatMap Codec.encChange)) := Z.rep_as hr36 (by intro b h1 h2; (try simp only [Z.nt, Z.iv, Z.no, Z.ol] at h1); (try simp only [Z.iv]); omega)
        have hxs147 : b ++ (Codec.encInt (xs.length : Int) ++ (xs.take k29).flatMap Codec.encChange) = (b ++ Codec.encList Codec.encChange xs : List UInt8) := by first | rfl | (simp; done) | (rw [hfl.1] <;> (simp; done)) | (rw [Codec.fm_all _ (by omega)] <;> (simp [Codec.encList]; done))
        have hr148 := Z.rep_eq hr146 hxs147
        have hb149 : Z.Blk w26 g 90 [.slice A34 ((b ++ Codec.encList Codec.encChange xs).length) c35] := Z.Blk.cast (show Z.Blk w26 g 90 [.slice A34 ((b ++ (Codec.encInt (xs.length : Int) ++ (xs.take k29).flatMap Codec.encChange)).length) c35] from hb37) (by first | rfl | (simp only [hxs147]; done) | simp_all)
        have hq150 : Z.Ch [g] w w26 := hc17.then hc27
        refine Z.end0 hf Try.results42 ?_
        exact ⟨A34, c35, rfl, hr148, hb149, hq150⟩

set_option maxHeartbeats 400000 in
set_option maxRecDepth 20000 in
theorem p_nodes (b : List UInt8) (g : Nat) (xs : List D85) (w : World) (pA0 : Option Addr) (pc0 : Nat) (pA1 : Option Addr) (pc1 : Nat) (ph0 : (Z.Ty.slice Z.Ty.byte).rep w (Z.nt [g]) [.slice pA0 b.length pc0] b) (pb1 : Z.Blk w g 90 [.slice pA0 b.length pc0]) (ph1 : (Z.Ty.slice T85).rep w (Z.nt [g]) [.slice pA1 xs.length pc1] xs) (hb : b.length + (Codec.encList Codec.encNode xs).length ≤ 70368744177664) (hl : xs.length ≤ 65536) (he : ∀ a ∈ xs, Codec.gNode a) :
    Calls Try.prog 56 #[.pointer (some ⟨g, 0, none⟩), .slice pA1 xs.length pc1, .func (.func 57) #[.pointer (some ⟨g, 0, none⟩)] #[]] w fun e w' => ∃ (rA0 : Option Addr) (rc0 : Nat), e = .returned (.tuple #[]) ∧ (Z.Ty.slice Z.Ty.byte).rep w' (Z.iv w.heap.size w'.heap.size) [.slice rA0 (b ++ Codec.encList Codec.encNode xs).length rc0] (b ++ Codec.encList Codec.encNode xs) ∧ Z.Blk w' g 90 [.slice rA0 (b ++ Codec.encList Codec.encNode xs).length rc0] ∧ Z.Ch [g] w w' := by
  refine Z.enter Try.func56 rfl Try.ntmps56 (Nat.le_of_ble_eq_true rfl) fun a hf => ?_
  have hlt_g := pb1.lt
  have hle_pA1 := Z.rep_le ph1
  have ph1o := Z.rep_ol ph1
  have hle_pA0 := Z.rep_le ph0
  have ph0o := Z.rep_ol ph0
  simp only [Codec.encList, List.length_append] at hb
  refine Z.seq' (Z.Pq.body _ _ _) fun Q1 hp2 hn3 he4 => ?_
  refine Z.qseq [.n, .n, .n] [10] [] [(10, .bool (decide (65536 < (xs.length : Int))))] Z.k0 hf ?_; clear hf a; intro a hf
  refine Z.condp hf rfl ?_ ?_
  · intro hp5
    exfalso; omega
  · intro hp6
    refine Z.skip ?_
    refine hn3 _ _ ?_
    refine Z.seq' (Z.Pq.body _ _ _) fun Q7 hp8 hn9 he10 => ?_
    refine Z.reg ?_
    refine Z.qr [.n, .n, .n] [12, 14] [] [(12, .pointer (some ⟨g, 0, none⟩)), (14, .int .i64 (xs.length : Int))] Z.k0 hf ?_; clear hf a; intro a hf
    have hr11 := Z.rep_to (F' := (Z.nt [g])) ph0o (Z.Ch.refl w)
    refine Z.call1 hf rfl (Z.r_call cf52 hf (xs := [.tmp 12, .tmp 14]) rfl) (w_int b g (xs.length : Int) w pA0 pc0 hr11 pb1 (by first | omega | (simp only [List.length_append, List.flatMap_cons, List.flatMap_nil, List.flatten_cons, List.flatten_nil, List.length_nil, List.append_nil]; omega)) (by first | (exact Z.has_i64 (by assumption)) | (unfold Codec.okInt; omega))) ?_; clear hf a
    rintro _ w12 ⟨A13, c14, rfl, hr15, hb16, hc17⟩
    have hzhc17 := hc17.size
    refine ⟨_, rfl, ?_⟩; intro a hf
    refine Z.done ?_
    refine hn9 _ _ ?_
    refine Z.qseq [.n, .n, .n] [16, 17, 18] [] [(16, .slice pA1 xs.length pc1), (17, .int .i64 (xs.length : Int)), (18, .int .i64 0)] Z.k0 hf ?_; clear hf a; intro a hf
    refine Z.block' (Z.Pq.body _ _ _) fun Q18 hp19 hn20 hx21 he22 => ?_
    refine Z.loop' hp19 (fun m a wl => ∃ (k : Nat), ∃ (lA0 : Option Addr), ∃ (lc0 : Nat), m = xs.length - k ∧ Z.Ch [g] w12 wl ∧ (Z.Ty.slice Z.Ty.byte).rep wl (Z.iv w.heap.size wl.heap.size) [.slice lA0 ((b ++ (Codec.encInt (xs.length : Int) ++ (xs.take k).flatMap Codec.encNode)).length) lc0] (b ++ (Codec.encInt (xs.length : Int) ++ (xs.take k).flatMap Codec.encNode)) ∧ Z.Blk wl g 90 [.slice lA0 ((b ++ (Codec.encInt (xs.length : Int) ++ (xs.take k).flatMap Codec.encNode)).length) lc0] ∧ (k ≤ xs.length) ∧ Z.Fr a 26 [] [(2, .func (.func 57) #[.pointer (some ⟨g, 0, none⟩)] #[]), (16, .slice pA1 xs.length pc1), (17, .int .i64 (xs.length : Int)), (18, .int .i64 (k : Int))]) (xs.length - 0) ?_ ?_
    · replace hf := hf.setv (d := 18) (y := .int .i64 (0 : Int)) rfl (congrArg (Value.int .i64) (by first | rfl | omega | (simp; done) | (simp; omega)))
      have hr23 : (Z.Ty.slice Z.Ty.byte).rep w12 (Z.iv w.heap.size w12.heap.size) [.slice A13 ((b ++ Codec.encInt (xs.length : Int)).length) c14] (b ++ Codec.encInt (xs.length : Int)) := Z.rep_as hr15 (by intro b h1 h2; (try simp only [Z.nt, Z.iv, Z.no, Z.ol] at h1); (try simp only [Z.iv]); omega)
      have hxs24 : b ++ Codec.encInt (xs.length : Int) = (b ++ (Codec.encInt (xs.length : Int) ++ (xs.take 0).flatMap Codec.encNode) : List UInt8) := by first | rfl | (simp; done) | (rw [hfl.1] <;> (simp; done)) | (rw [Codec.fm_all _ (by omega)] <;> (simp [Codec.encList]; done))
      have hr25 := Z.rep_eq hr23 hxs24
      exact ⟨0, A13, c14, rfl, (Z.Ch.refl' _ _), hr25, (Z.Blk.cast (show Z.Blk w12 g 90 [.slice A13 ((b ++ Codec.encInt (xs.length : Int)).length) c14] from hb16) (by first | rfl | (simp only [hxs24]; done) | simp_all)), (by omega), (hf.keep [2, 16, 17, 18])⟩
    · rintro m39 a w26 ⟨k29, A34, c35, hm28, hc27, hr36, hb37, hk38, hf⟩ Q30 hp31 hn32 he33
      have hzhc27 := hc27.size
      refine Z.qseq [.n] [19] [] [(19, .bool (decide ((k29 : Int) < (xs.length : Int))))] Z.k0 hf ?_; clear hf a; intro a hf
      refine Z.seq' hp31 fun Q40 hp41 hn42 he43 => ?_
      refine Z.condp hf rfl ?_ ?_
      · intro hp44
        refine Z.skip ?_
        refine hn42 _ _ ?_
        refine Z.seq' hp31 fun Q45 hp46 hn47 he48 => ?_
        refine Z.block' hp46 fun Q49 hp50 hn51 hx52 he53 => ?_
        refine Z.seq' hp50 fun Q54 hp55 hn56 he57 => ?_
        refine Z.reg ?_
        have hq58 : Z.Ch [g] w w26 := hc17.then hc27
        have hr59 := Z.rep_to (F' := (Z.ol [g] w.heap.size)) ph1o hq58
        have hkx62 : k29 < (xs).length := (by omega)
        obtain ⟨ad60, es61, x62, hA63, hF64, hl65, hx66, hc67, hr68⟩ := Z.rep_el hr59 hkx62
        have hok69 := Z.rep_ok _ hr68
        obtain ⟨ca70, cb71, he72, hr73, hr74⟩ := hr68
        have he75 := hr73.1
        obtain ⟨ca76, cb77, he78, hr79, hr80⟩ := hr74
        have he81 := hr79.1
        obtain ⟨ca82, cb83, he84, hr85, hr86⟩ := hr80
        obtain ⟨A87, c88, he89, hn90, hn91⟩ := Z.rep_slice hr85
        rw [he89] at hr85
        have hle_A87 := Z.rep_le hr85
        obtain ⟨ca92, cb93, he94, hr95, hr96⟩ := hr86
        obtain ⟨ca97, cb98, he99, hr100, hr101⟩ := hr95
        have he102 := hr100.1
        obtain ⟨ca103, cb104, he105, hr106, hr107⟩ := hr101
        have he108 := hr106.1
        have he109 := hr107.1
        obtain ⟨ca110, cb111, he112, hr113, hr114⟩ := hr96
        have he115 := hr113.1
        obtain ⟨ca116, cb117, he118, hr119, hr120⟩ := hr114
        have he121 := hr119.1
        have he122 := hr120.1
        have he123 : es61 = [.int .i64 x62.1, .int .i64 x62.2.1, .slice A87 x62.2.2.1.length c88, .int .i64 x62.2.2.2.1.1, .int .i64 x62.2.2.2.1.2.1, .string x62.2.2.2.1.2.2, .string x62.2.2.2.2.1, .int .i64 x62.2.2.2.2.2.1, .int .i64 x62.2.2.2.2.2.2] := by simp only [he72, he75, he78, he81, he84, he89, he94, he99, he102, he105, he108, he109, he112, he115, he118, he121, he122, List.cons_append, List.nil_append]
        rw [he123] at hc67
        have hfl := Codec.fm_step Codec.encNode hx66
        have hge := he _ (Codec.get_mem hx66)
        refine Z.val hf rfl (Z.r_indexAddrE Try.underlying30 Try.sizeOf86 (hf.eval rfl) hA63 (hf.eval rfl) (k := k29) (by first | rfl | omega) (by omega)) ?_; clear hf a; intro a hf
        refine Z.qr [.e 0 0] [21] [] [(21, .agg #[.int .i64 x62.1, .int .i64 x62.2.1, .slice A87 x62.2.2.1.length c88, .int .i64 x62.2.2.2.1.1, .int .i64 x62.2.2.2.1.2.1, .string x62.2.2.2.1.2.2, .string x62.2.2.2.2.1, .int .i64 x62.2.2.2.2.2.1, .int .i64 x62.2.2.2.2.2.2])] (Z.ke hc67 Z.k0) hf ?_; clear hf a; intro a hf
        refine Z.st_alloc hf rfl Try.zeroValue86 rfl ?_; clear hf a; intro g124 w125 a hg126 hz127 hb128 hc129 hf
        refine Z.st_store hf hb128 rfl rfl Try.sizeOf86 rfl rfl rfl (by simp [Value.oneCell']) rfl ?_; clear hf a; intro w130 a hz131 hb132 hc133 hf
        refine Z.done ?_
        refine hn56 _ _ ?_
        refine Z.reg ?_
        refine Z.qr [.n, .b 0 0] [22, 23] [] [(22, .func (.func 57) #[.pointer (some ⟨g, 0, none⟩)] #[]), (23, .agg #[.int .i64 x62.1, .int .i64 x62.2.1, .slice A87 x62.2.2.1.length c88, .int .i64 x62.2.2.2.1.1, .int .i64 x62.2.2.2.1.2.1, .string x62.2.2.2.1.2.2, .string x62.2.2.2.2.1, .int .i64 x62.2.2.2.2.2.1, .int .i64 x62.2.2.2.2.2.2])] (Z.kb hb132 Z.k0) hf ?_; clear hf a; intro a hf
        have hq134 : Z.Ch [g124] w26 w130 := hc129.then hc133
        have hb135 := hb37.ch hq134 (by simp only [List.mem_cons, List.mem_append, List.not_mem_nil, or_false, not_or, not_false_eq_true, and_true] <;> omega)
        have hr136 := Z.rep_to (F' := (Z.nt [g])) hr36 hq134
        have hr137 := Z.rep_to (F' := (Z.nt [g])) hr85 hq134
        refine Z.call1 hf rfl (Z.r_callv cf57 hf (first := [.pointer (some ⟨g, 0, none⟩)]) (cap := []) (xs := [.tmp 23]) rfl rfl) (w_node (b ++ (Codec.encInt (xs.length : Int) ++ (xs.take k29).flatMap Codec.encNode)) g x62 w130 A34 c35 A87 c88 hr136 hb135 hr137 hok69 (by first | omega | (simp only [List.length_append, List.flatMap_cons, List.flatMap_nil, List.flatten_cons, List.flatten_nil, List.length_nil, List.append_nil]; omega)) (by assumption)) ?_; clear hf a
        rintro _ w138 ⟨A139, c140, rfl, hr141, hb142, hc143⟩
        have hzhc143 := hc143.size
        refine ⟨_, rfl, ?_⟩; intro a hf
        refine Z.done ?_
        refine hn51 _ _ ?_
        refine hn47 _ _ ?_
        refine Z.qreg [.n, .n] [18] [Z.R64 ((k29 : Int) + 1)] [(18, .int .i64 ((k29 : Int) + 1))] Z.k0 hf ?_; clear hf a; intro a hf
        refine hn32 (xs.length - (k29 + 1)) _ _ ?_ ?_
        rotate_left
        replace hf := hf.setv (d := 18) (y := .int .i64 ((k29 + 1 : Nat) : Int)) rfl (congrArg (Value.int .i64) (by first | rfl | omega | (simp; done) | (simp; omega)))
        have hr144 : (Z.Ty.slice Z.Ty.byte).rep w138 (Z.iv w.heap.size w138.heap.size) [.slice A139 (((b ++ (Codec.encInt (xs.length : Int) ++ (xs.take k29).flatMap Codec.encNode)) ++ Codec.encNode x62).length) c140] ((b ++ (Codec.encInt (xs.length : Int) ++ (xs.take k29).flatMap Codec.encNode)) ++ Codec.encNode x62) := Z.rep_as hr141 (by intro b h1 h2; (try simp only [Z.nt, Z.iv, Z.no, Z.ol] at h1); (try simp only [Z.iv]); omega)
        have hxs145 : (b ++ (Codec.encInt (xs.length : Int) ++ (xs.take k29).flatMap Codec.encNode)) ++ Codec.encNode x62 = (b ++ (Codec.encInt (xs.length : Int) ++ (xs.take (k29 + 1 : Nat)).flatMap Codec.encNode) : List UInt8) := by first | rfl | (simp; done) | (rw [hfl.1] <;> (simp; done)) | (rw [Codec.fm_all _ (by omega)] <;> (simp [Codec.encList]; done))
        have hr146 := Z.rep_eq hr144 hxs145
        have hq147 : Z.Ch [g] w12 w125 := hc27.then hc129
        have hq148 : Z.Ch [g, g124] w12 w130 := hq147.then hc133
        have hq149 : Z.Ch [g, g124] w12 w138 := hq148.then hc143
        exact ⟨k29 + 1, A139, c140, rfl, (hq149.mono (by intro k hk; (try simp only [List.mem_cons, List.mem_append, List.not_mem_nil, or_false, false_or] at hk ⊢) <;> omega)), hr146, (Z.Blk.cast (show Z.Blk w138 g 90 [.slice A139 (((b ++ (Codec.encInt (xs.length : Int) ++ (xs.take k29).flatMap Codec.encNode)) ++ Codec.encNode x62).length) c140] from hb142) (by first | rfl | (simp only [hxs145]; done) | simp_all)), (by omega), (hf.keep [2, 16, 17, 18])⟩
        rw [hm28]; omega
      · intro hp150
        refine Z.exit ?_
        refine he43 _ _ _ (by simp) ?_
        refine he33 _ _ _ (by simp) ?_
        refine hx21 _ _ ?_
        have hr151 : (Z.Ty.slice Z.Ty.byte).rep w26 (Z.iv w.heap.size w26.heap.size) [.slice A34 ((b ++ (Codec.encInt (xs.length : Int) ++ (xs.take k29).flatMap Codec.encNode)).length) c35] (b ++ (Codec.encInt (xs.length : Int) ++ (xs.take k29).flatMap Codec.encNode)) := Z.rep_as hr36 (by intro b h1 h2; (try simp only [Z.nt, Z.iv, Z.no, Z.ol] at h1); (try simp only [Z.iv]); omega)
        have hxs152 : b ++ (Codec.encInt (xs.length : Int) ++ (xs.take k29).flatMap Codec.encNode) = (b ++ Codec.encList Codec.encNode xs : List UInt8) := by first | rfl | (simp; done) | (rw [hfl.1] <;> (simp; done)) | (rw [Codec.fm_all _ (by omega)] <;> (simp [Codec.encList]; done))
        have hr153 := Z.rep_eq hr151 hxs152
        have hb154 : Z.Blk w26 g 90 [.slice A34 ((b ++ Codec.encList Codec.encNode xs).length) c35] := Z.Blk.cast (show Z.Blk w26 g 90 [.slice A34 ((b ++ (Codec.encInt (xs.length : Int) ++ (xs.take k29).flatMap Codec.encNode)).length) c35] from hb37) (by first | rfl | (simp only [hxs152]; done) | simp_all)
        have hq155 : Z.Ch [g] w w26 := hc17.then hc27
        refine Z.end0 hf Try.results56 ?_
        exact ⟨A34, c35, rfl, hr153, hb154, hq155⟩

set_option maxHeartbeats 400000 in
set_option maxRecDepth 20000 in
theorem p_moves (b : List UInt8) (g : Nat) (xs : List D63) (w : World) (pA0 : Option Addr) (pc0 : Nat) (pA1 : Option Addr) (pc1 : Nat) (ph0 : (Z.Ty.slice Z.Ty.byte).rep w (Z.nt [g]) [.slice pA0 b.length pc0] b) (pb1 : Z.Blk w g 90 [.slice pA0 b.length pc0]) (ph1 : (Z.Ty.slice T63).rep w (Z.nt [g]) [.slice pA1 xs.length pc1] xs) (hb : b.length + (Codec.encList Codec.encMove xs).length ≤ 70368744177664) (hl : xs.length ≤ 65536) (he : ∀ a ∈ xs, Codec.gMove a) :
    Calls Try.prog 58 #[.pointer (some ⟨g, 0, none⟩), .slice pA1 xs.length pc1, .func (.func 59) #[.pointer (some ⟨g, 0, none⟩)] #[]] w fun e w' => ∃ (rA0 : Option Addr) (rc0 : Nat), e = .returned (.tuple #[]) ∧ (Z.Ty.slice Z.Ty.byte).rep w' (Z.iv w.heap.size w'.heap.size) [.slice rA0 (b ++ Codec.encList Codec.encMove xs).length rc0] (b ++ Codec.encList Codec.encMove xs) ∧ Z.Blk w' g 90 [.slice rA0 (b ++ Codec.encList Codec.encMove xs).length rc0] ∧ Z.Ch [g] w w' := by
  refine Z.enter Try.func58 rfl Try.ntmps58 (Nat.le_of_ble_eq_true rfl) fun a hf => ?_
  have hlt_g := pb1.lt
  have hle_pA1 := Z.rep_le ph1
  have ph1o := Z.rep_ol ph1
  have hle_pA0 := Z.rep_le ph0
  have ph0o := Z.rep_ol ph0
  simp only [Codec.encList, List.length_append] at hb
  refine Z.seq' (Z.Pq.body _ _ _) fun Q1 hp2 hn3 he4 => ?_
  refine Z.qseq [.n, .n, .n] [10] [] [(10, .bool (decide (65536 < (xs.length : Int))))] Z.k0 hf ?_; clear hf a; intro a hf
  refine Z.condp hf rfl ?_ ?_
  · intro hp5
    exfalso; omega
  · intro hp6
    refine Z.skip ?_
    refine hn3 _ _ ?_
    refine Z.seq' (Z.Pq.body _ _ _) fun Q7 hp8 hn9 he10 => ?_
    refine Z.reg ?_
    refine Z.qr [.n, .n, .n] [12, 14] [] [(12, .pointer (some ⟨g, 0, none⟩)), (14, .int .i64 (xs.length : Int))] Z.k0 hf ?_; clear hf a; intro a hf
    have hr11 := Z.rep_to (F' := (Z.nt [g])) ph0o (Z.Ch.refl w)
    refine Z.call1 hf rfl (Z.r_call cf52 hf (xs := [.tmp 12, .tmp 14]) rfl) (w_int b g (xs.length : Int) w pA0 pc0 hr11 pb1 (by first | omega | (simp only [List.length_append, List.flatMap_cons, List.flatMap_nil, List.flatten_cons, List.flatten_nil, List.length_nil, List.append_nil]; omega)) (by first | (exact Z.has_i64 (by assumption)) | (unfold Codec.okInt; omega))) ?_; clear hf a
    rintro _ w12 ⟨A13, c14, rfl, hr15, hb16, hc17⟩
    have hzhc17 := hc17.size
    refine ⟨_, rfl, ?_⟩; intro a hf
    refine Z.done ?_
    refine hn9 _ _ ?_
    refine Z.qseq [.n, .n, .n] [16, 17, 18] [] [(16, .slice pA1 xs.length pc1), (17, .int .i64 (xs.length : Int)), (18, .int .i64 0)] Z.k0 hf ?_; clear hf a; intro a hf
    refine Z.block' (Z.Pq.body _ _ _) fun Q18 hp19 hn20 hx21 he22 => ?_
    refine Z.loop' hp19 (fun m a wl => ∃ (k : Nat), ∃ (lA0 : Option Addr), ∃ (lc0 : Nat), m = xs.length - k ∧ Z.Ch [g] w12 wl ∧ (Z.Ty.slice Z.Ty.byte).rep wl (Z.iv w.heap.size wl.heap.size) [.slice lA0 ((b ++ (Codec.encInt (xs.length : Int) ++ (xs.take k).flatMap Codec.encMove)).length) lc0] (b ++ (Codec.encInt (xs.length : Int) ++ (xs.take k).flatMap Codec.encMove)) ∧ Z.Blk wl g 90 [.slice lA0 ((b ++ (Codec.encInt (xs.length : Int) ++ (xs.take k).flatMap Codec.encMove)).length) lc0] ∧ (k ≤ xs.length) ∧ Z.Fr a 26 [] [(2, .func (.func 59) #[.pointer (some ⟨g, 0, none⟩)] #[]), (16, .slice pA1 xs.length pc1), (17, .int .i64 (xs.length : Int)), (18, .int .i64 (k : Int))]) (xs.length - 0) ?_ ?_
    · replace hf := hf.setv (d := 18) (y := .int .i64 (0 : Int)) rfl (congrArg (Value.int .i64) (by first | rfl | omega | (simp; done) | (simp; omega)))
      have hr23 : (Z.Ty.slice Z.Ty.byte).rep w12 (Z.iv w.heap.size w12.heap.size) [.slice A13 ((b ++ Codec.encInt (xs.length : Int)).length) c14] (b ++ Codec.encInt (xs.length : Int)) := Z.rep_as hr15 (by intro b h1 h2; (try simp only [Z.nt, Z.iv, Z.no, Z.ol] at h1); (try simp only [Z.iv]); omega)
      have hxs24 : b ++ Codec.encInt (xs.length : Int) = (b ++ (Codec.encInt (xs.length : Int) ++ (xs.take 0).flatMap Codec.encMove) : List UInt8) := by first | rfl | (simp; done) | (rw [hfl.1] <;> (simp; done)) | (rw [Codec.fm_all _ (by omega)] <;> (simp [Codec.encList]; done))
      have hr25 := Z.rep_eq hr23 hxs24
      exact ⟨0, A13, c14, rfl, (Z.Ch.refl' _ _), hr25, (Z.Blk.cast (show Z.Blk w12 g 90 [.slice A13 ((b ++ Codec.encInt (xs.length : Int)).length) c14] from hb16) (by first | rfl | (simp only [hxs24]; done) | simp_all)), (by omega), (hf.keep [2, 16, 17, 18])⟩
    · rintro m39 a w26 ⟨k29, A34, c35, hm28, hc27, hr36, hb37, hk38, hf⟩ Q30 hp31 hn32 he33
      have hzhc27 := hc27.size
      refine Z.qseq [.n] [19] [] [(19, .bool (decide ((k29 : Int) < (xs.length : Int))))] Z.k0 hf ?_; clear hf a; intro a hf
      refine Z.seq' hp31 fun Q40 hp41 hn42 he43 => ?_
      refine Z.condp hf rfl ?_ ?_
      · intro hp44
        refine Z.skip ?_
        refine hn42 _ _ ?_
        refine Z.seq' hp31 fun Q45 hp46 hn47 he48 => ?_
        refine Z.block' hp46 fun Q49 hp50 hn51 hx52 he53 => ?_
        refine Z.seq' hp50 fun Q54 hp55 hn56 he57 => ?_
        refine Z.reg ?_
        have hq58 : Z.Ch [g] w w26 := hc17.then hc27
        have hr59 := Z.rep_to (F' := (Z.ol [g] w.heap.size)) ph1o hq58
        have hkx62 : k29 < (xs).length := (by omega)
        obtain ⟨ad60, es61, x62, hA63, hF64, hl65, hx66, hc67, hr68⟩ := Z.rep_el hr59 hkx62
        have hok69 := Z.rep_ok _ hr68
        obtain ⟨ca70, cb71, he72, hr73, hr74⟩ := hr68
        have he75 := hr73.1
        obtain ⟨ca76, cb77, he78, hr79, hr80⟩ := hr74
        have he81 := hr79.1
        obtain ⟨ca82, cb83, he84, hr85, hr86⟩ := hr80
        have he87 := hr85.1
        obtain ⟨ca88, cb89, he90, hr91, hr92⟩ := hr86
        have he93 := hr91.1
        obtain ⟨ca94, cb95, he96, hr97, hr98⟩ := hr92
        have he99 := hr97.1
        obtain ⟨ca100, cb101, he102, hr103, hr104⟩ := hr98
        have he105 := hr103.1
        have he106 := hr104.1
        have he107 : es61 = [.int .i64 x62.1, .int .i64 x62.2.1, .int .i64 x62.2.2.1, .int .i64 x62.2.2.2.1, .int .i64 x62.2.2.2.2.1, .int .i64 x62.2.2.2.2.2.1, .string x62.2.2.2.2.2.2] := by simp only [he72, he75, he78, he81, he84, he87, he90, he93, he96, he99, he102, he105, he106, List.cons_append, List.nil_append]
        rw [he107] at hc67
        have hfl := Codec.fm_step Codec.encMove hx66
        have hge := he _ (Codec.get_mem hx66)
        refine Z.val hf rfl (Z.r_indexAddrE Try.underlying31 Try.sizeOf64 (hf.eval rfl) hA63 (hf.eval rfl) (k := k29) (by first | rfl | omega) (by omega)) ?_; clear hf a; intro a hf
        refine Z.qr [.e 0 0] [21] [] [(21, .agg #[.int .i64 x62.1, .int .i64 x62.2.1, .int .i64 x62.2.2.1, .int .i64 x62.2.2.2.1, .int .i64 x62.2.2.2.2.1, .int .i64 x62.2.2.2.2.2.1, .string x62.2.2.2.2.2.2])] (Z.ke hc67 Z.k0) hf ?_; clear hf a; intro a hf
        refine Z.st_alloc hf rfl Try.zeroValue64 rfl ?_; clear hf a; intro g108 w109 a hg110 hz111 hb112 hc113 hf
        refine Z.st_store hf hb112 rfl rfl Try.sizeOf64 rfl rfl rfl (by simp [Value.oneCell']) rfl ?_; clear hf a; intro w114 a hz115 hb116 hc117 hf
        refine Z.done ?_
        refine hn56 _ _ ?_
        refine Z.reg ?_
        refine Z.qr [.n, .b 0 0] [22, 23] [] [(22, .func (.func 59) #[.pointer (some ⟨g, 0, none⟩)] #[]), (23, .agg #[.int .i64 x62.1, .int .i64 x62.2.1, .int .i64 x62.2.2.1, .int .i64 x62.2.2.2.1, .int .i64 x62.2.2.2.2.1, .int .i64 x62.2.2.2.2.2.1, .string x62.2.2.2.2.2.2])] (Z.kb hb116 Z.k0) hf ?_; clear hf a; intro a hf
        have hq118 : Z.Ch [g108] w26 w114 := hc113.then hc117
        have hb119 := hb37.ch hq118 (by simp only [List.mem_cons, List.mem_append, List.not_mem_nil, or_false, not_or, not_false_eq_true, and_true] <;> omega)
        have hr120 := Z.rep_to (F' := (Z.nt [g])) hr36 hq118
        refine Z.call1 hf rfl (Z.r_callv cf59 hf (first := [.pointer (some ⟨g, 0, none⟩)]) (cap := []) (xs := [.tmp 23]) rfl rfl) (w_move (b ++ (Codec.encInt (xs.length : Int) ++ (xs.take k29).flatMap Codec.encMove)) g x62 w114 A34 c35 hr120 hb119 hok69 (by first | omega | (simp only [List.length_append, List.flatMap_cons, List.flatMap_nil, List.flatten_cons, List.flatten_nil, List.length_nil, List.append_nil]; omega)) (by assumption)) ?_; clear hf a
        rintro _ w121 ⟨A122, c123, rfl, hr124, hb125, hc126⟩
        have hzhc126 := hc126.size
        refine ⟨_, rfl, ?_⟩; intro a hf
        refine Z.done ?_
        refine hn51 _ _ ?_
        refine hn47 _ _ ?_
        refine Z.qreg [.n, .n] [18] [Z.R64 ((k29 : Int) + 1)] [(18, .int .i64 ((k29 : Int) + 1))] Z.k0 hf ?_; clear hf a; intro a hf
        refine hn32 (xs.length - (k29 + 1)) _ _ ?_ ?_
        rotate_left
        replace hf := hf.setv (d := 18) (y := .int .i64 ((k29 + 1 : Nat) : Int)) rfl (congrArg (Value.int .i64) (by first | rfl | omega | (simp; done) | (simp; omega)))
        have hr127 : (Z.Ty.slice Z.Ty.byte).rep w121 (Z.iv w.heap.size w121.heap.size) [.slice A122 (((b ++ (Codec.encInt (xs.length : Int) ++ (xs.take k29).flatMap Codec.encMove)) ++ Codec.encMove x62).length) c123] ((b ++ (Codec.encInt (xs.length : Int) ++ (xs.take k29).flatMap Codec.encMove)) ++ Codec.encMove x62) := Z.rep_as hr124 (by intro b h1 h2; (try simp only [Z.nt, Z.iv, Z.no, Z.ol] at h1); (try simp only [Z.iv]); omega)
        have hxs128 : (b ++ (Codec.encInt (xs.length : Int) ++ (xs.take k29).flatMap Codec.encMove)) ++ Codec.encMove x62 = (b ++ (Codec.encInt (xs.length : Int) ++ (xs.take (k29 + 1 : Nat)).flatMap Codec.encMove) : List UInt8) := by first | rfl | (simp; done) | (rw [hfl.1] <;> (simp; done)) | (rw [Codec.fm_all _ (by omega)] <;> (simp [Codec.encList]; done))
        have hr129 := Z.rep_eq hr127 hxs128
        have hq130 : Z.Ch [g] w12 w109 := hc27.then hc113
        have hq131 : Z.Ch [g, g108] w12 w114 := hq130.then hc117
        have hq132 : Z.Ch [g, g108] w12 w121 := hq131.then hc126
        exact ⟨k29 + 1, A122, c123, rfl, (hq132.mono (by intro k hk; (try simp only [List.mem_cons, List.mem_append, List.not_mem_nil, or_false, false_or] at hk ⊢) <;> omega)), hr129, (Z.Blk.cast (show Z.Blk w121 g 90 [.slice A122 (((b ++ (Codec.encInt (xs.length : Int) ++ (xs.take k29).flatMap Codec.encMove)) ++ Codec.encMove x62).length) c123] from hb125) (by first | rfl | (simp only [hxs128]; done) | simp_all)), (by omega), (hf.keep [2, 16, 17, 18])⟩
        rw [hm28]; omega
      · intro hp133
        refine Z.exit ?_
        refine he43 _ _ _ (by simp) ?_
        refine he33 _ _ _ (by simp) ?_
        refine hx21 _ _ ?_
        have hr134 : (Z.Ty.slice Z.Ty.byte).rep w26 (Z.iv w.heap.size w26.heap.size) [.slice A34 ((b ++ (Codec.encInt (xs.length : Int) ++ (xs.take k29).flatMap Codec.encMove)).length) c35] (b ++ (Codec.encInt (xs.length : Int) ++ (xs.take k29).flatMap Codec.encMove)) := Z.rep_as hr36 (by intro b h1 h2; (try simp only [Z.nt, Z.iv, Z.no, Z.ol] at h1); (try simp only [Z.iv]); omega)
        have hxs135 : b ++ (Codec.encInt (xs.length : Int) ++ (xs.take k29).flatMap Codec.encMove) = (b ++ Codec.encList Codec.encMove xs : List UInt8) := by first | rfl | (simp; done) | (rw [hfl.1] <;> (simp; done)) | (rw [Codec.fm_all _ (by omega)] <;> (simp [Codec.encList]; done))
        have hr136 := Z.rep_eq hr134 hxs135
        have hb137 : Z.Blk w26 g 90 [.slice A34 ((b ++ Codec.encList Codec.encMove xs).length) c35] := Z.Blk.cast (show Z.Blk w26 g 90 [.slice A34 ((b ++ (Codec.encInt (xs.length : Int) ++ (xs.take k29).flatMap Codec.encMove)).length) c35] from hb37) (by first | rfl | (simp only [hxs135]; done) | simp_all)
        have hq138 : Z.Ch [g] w w26 := hc17.then hc27
        refine Z.end0 hf Try.results58 ?_
        exact ⟨A34, c35, rfl, hr136, hb137, hq138⟩

set_option maxHeartbeats 400000 in
set_option maxRecDepth 20000 in
theorem p_entries (b : List UInt8) (g : Nat) (xs : List D57) (w : World) (pA0 : Option Addr) (pc0 : Nat) (pA1 : Option Addr) (pc1 : Nat) (ph0 : (Z.Ty.slice Z.Ty.byte).rep w (Z.nt [g]) [.slice pA0 b.length pc0] b) (pb1 : Z.Blk w g 90 [.slice pA0 b.length pc0]) (ph1 : (Z.Ty.slice T57).rep w (Z.nt [g]) [.slice pA1 xs.length pc1] xs) (hb : b.length + (Codec.encList Codec.encEntry xs).length ≤ 70368744177664) (hl : xs.length ≤ 65536) (he : ∀ a ∈ xs, Codec.gEntry a) :
    Calls Try.prog 34 #[.pointer (some ⟨g, 0, none⟩), .slice pA1 xs.length pc1, .func (.func 35) #[.pointer (some ⟨g, 0, none⟩)] #[]] w fun e w' => ∃ (rA0 : Option Addr) (rc0 : Nat), e = .returned (.tuple #[]) ∧ (Z.Ty.slice Z.Ty.byte).rep w' (Z.iv w.heap.size w'.heap.size) [.slice rA0 (b ++ Codec.encList Codec.encEntry xs).length rc0] (b ++ Codec.encList Codec.encEntry xs) ∧ Z.Blk w' g 90 [.slice rA0 (b ++ Codec.encList Codec.encEntry xs).length rc0] ∧ Z.Ch [g] w w' := by
  refine Z.enter Try.func34 rfl Try.ntmps34 (Nat.le_of_ble_eq_true rfl) fun a hf => ?_
  have hlt_g := pb1.lt
  have hle_pA1 := Z.rep_le ph1
  have ph1o := Z.rep_ol ph1
  have hle_pA0 := Z.rep_le ph0
  have ph0o := Z.rep_ol ph0
  simp only [Codec.encList, List.length_append] at hb
  refine Z.seq' (Z.Pq.body _ _ _) fun Q1 hp2 hn3 he4 => ?_
  refine Z.qseq [.n, .n, .n] [10] [] [(10, .bool (decide (65536 < (xs.length : Int))))] Z.k0 hf ?_; clear hf a; intro a hf
  refine Z.condp hf rfl ?_ ?_
  · intro hp5
    exfalso; omega
  · intro hp6
    refine Z.skip ?_
    refine hn3 _ _ ?_
    refine Z.seq' (Z.Pq.body _ _ _) fun Q7 hp8 hn9 he10 => ?_
    refine Z.reg ?_
    refine Z.qr [.n, .n, .n] [12, 14] [] [(12, .pointer (some ⟨g, 0, none⟩)), (14, .int .i64 (xs.length : Int))] Z.k0 hf ?_; clear hf a; intro a hf
    have hr11 := Z.rep_to (F' := (Z.nt [g])) ph0o (Z.Ch.refl w)
    refine Z.call1 hf rfl (Z.r_call cf52 hf (xs := [.tmp 12, .tmp 14]) rfl) (w_int b g (xs.length : Int) w pA0 pc0 hr11 pb1 (by first | omega | (simp only [List.length_append, List.flatMap_cons, List.flatMap_nil, List.flatten_cons, List.flatten_nil, List.length_nil, List.append_nil]; omega)) (by first | (exact Z.has_i64 (by assumption)) | (unfold Codec.okInt; omega))) ?_; clear hf a
    rintro _ w12 ⟨A13, c14, rfl, hr15, hb16, hc17⟩
    have hzhc17 := hc17.size
    refine ⟨_, rfl, ?_⟩; intro a hf
    refine Z.done ?_
    refine hn9 _ _ ?_
    refine Z.qseq [.n, .n, .n] [16, 17, 18] [] [(16, .slice pA1 xs.length pc1), (17, .int .i64 (xs.length : Int)), (18, .int .i64 0)] Z.k0 hf ?_; clear hf a; intro a hf
    refine Z.block' (Z.Pq.body _ _ _) fun Q18 hp19 hn20 hx21 he22 => ?_
    refine Z.loop' hp19 (fun m a wl => ∃ (k : Nat), ∃ (lA0 : Option Addr), ∃ (lc0 : Nat), m = xs.length - k ∧ Z.Ch [g] w12 wl ∧ (Z.Ty.slice Z.Ty.byte).rep wl (Z.iv w.heap.size wl.heap.size) [.slice lA0 ((b ++ (Codec.encInt (xs.length : Int) ++ (xs.take k).flatMap Codec.encEntry)).length) lc0] (b ++ (Codec.encInt (xs.length : Int) ++ (xs.take k).flatMap Codec.encEntry)) ∧ Z.Blk wl g 90 [.slice lA0 ((b ++ (Codec.encInt (xs.length : Int) ++ (xs.take k).flatMap Codec.encEntry)).length) lc0] ∧ (k ≤ xs.length) ∧ Z.Fr a 26 [] [(2, .func (.func 35) #[.pointer (some ⟨g, 0, none⟩)] #[]), (16, .slice pA1 xs.length pc1), (17, .int .i64 (xs.length : Int)), (18, .int .i64 (k : Int))]) (xs.length - 0) ?_ ?_
    · replace hf := hf.setv (d := 18) (y := .int .i64 (0 : Int)) rfl (congrArg (Value.int .i64) (by first | rfl | omega | (simp; done) | (simp; omega)))
      have hr23 : (Z.Ty.slice Z.Ty.byte).rep w12 (Z.iv w.heap.size w12.heap.size) [.slice A13 ((b ++ Codec.encInt (xs.length : Int)).length) c14] (b ++ Codec.encInt (xs.length : Int)) := Z.rep_as hr15 (by intro b h1 h2; (try simp only [Z.nt, Z.iv, Z.no, Z.ol] at h1); (try simp only [Z.iv]); omega)
      have hxs24 : b ++ Codec.encInt (xs.length : Int) = (b ++ (Codec.encInt (xs.length : Int) ++ (xs.take 0).flatMap Codec.encEntry) : List UInt8) := by first | rfl | (simp; done) | (rw [hfl.1] <;> (simp; done)) | (rw [Codec.fm_all _ (by omega)] <;> (simp [Codec.encList]; done))
      have hr25 := Z.rep_eq hr23 hxs24
      exact ⟨0, A13, c14, rfl, (Z.Ch.refl' _ _), hr25, (Z.Blk.cast (show Z.Blk w12 g 90 [.slice A13 ((b ++ Codec.encInt (xs.length : Int)).length) c14] from hb16) (by first | rfl | (simp only [hxs24]; done) | simp_all)), (by omega), (hf.keep [2, 16, 17, 18])⟩
    · rintro m39 a w26 ⟨k29, A34, c35, hm28, hc27, hr36, hb37, hk38, hf⟩ Q30 hp31 hn32 he33
      have hzhc27 := hc27.size
      refine Z.qseq [.n] [19] [] [(19, .bool (decide ((k29 : Int) < (xs.length : Int))))] Z.k0 hf ?_; clear hf a; intro a hf
      refine Z.seq' hp31 fun Q40 hp41 hn42 he43 => ?_
      refine Z.condp hf rfl ?_ ?_
      · intro hp44
        refine Z.skip ?_
        refine hn42 _ _ ?_
        refine Z.seq' hp31 fun Q45 hp46 hn47 he48 => ?_
        refine Z.block' hp46 fun Q49 hp50 hn51 hx52 he53 => ?_
        refine Z.seq' hp50 fun Q54 hp55 hn56 he57 => ?_
        refine Z.reg ?_
        have hq58 : Z.Ch [g] w w26 := hc17.then hc27
        have hr59 := Z.rep_to (F' := (Z.ol [g] w.heap.size)) ph1o hq58
        have hkx62 : k29 < (xs).length := (by omega)
        obtain ⟨ad60, es61, x62, hA63, hF64, hl65, hx66, hc67, hr68⟩ := Z.rep_el hr59 hkx62
        have hok69 := Z.rep_ok _ hr68
        obtain ⟨ca70, cb71, he72, hr73, hr74⟩ := hr68
        have he75 := hr73.1
        obtain ⟨ca76, cb77, he78, hr79, hr80⟩ := hr74
        have he81 := hr79.1
        obtain ⟨ca82, cb83, he84, hr85, hr86⟩ := hr80
        have he87 := hr85.1
        have he88 := hr86.1
        have he89 : es61 = [.int .i64 x62.1, .int .i64 x62.2.1, .string x62.2.2.1, .int .i64 x62.2.2.2] := by simp only [he72, he75, he78, he81, he84, he87, he88, List.cons_append, List.nil_append]
        rw [he89] at hc67
        have hfl := Codec.fm_step Codec.encEntry hx66
        have hge := he _ (Codec.get_mem hx66)
        refine Z.val hf rfl (Z.r_indexAddrE Try.underlying34 Try.sizeOf58 (hf.eval rfl) hA63 (hf.eval rfl) (k := k29) (by first | rfl | omega) (by omega)) ?_; clear hf a; intro a hf
        refine Z.qr [.e 0 0] [21] [] [(21, .agg #[.int .i64 x62.1, .int .i64 x62.2.1, .string x62.2.2.1, .int .i64 x62.2.2.2])] (Z.ke hc67 Z.k0) hf ?_; clear hf a; intro a hf
        refine Z.st_alloc hf rfl Try.zeroValue58 rfl ?_; clear hf a; intro g90 w91 a hg92 hz93 hb94 hc95 hf
        refine Z.st_store hf hb94 rfl rfl Try.sizeOf58 rfl rfl rfl (by simp [Value.oneCell']) rfl ?_; clear hf a; intro w96 a hz97 hb98 hc99 hf
        refine Z.done ?_
        refine hn56 _ _ ?_
        refine Z.reg ?_
        refine Z.qr [.n, .b 0 0] [22, 23] [] [(22, .func (.func 35) #[.pointer (some ⟨g, 0, none⟩)] #[]), (23, .agg #[.int .i64 x62.1, .int .i64 x62.2.1, .string x62.2.2.1, .int .i64 x62.2.2.2])] (Z.kb hb98 Z.k0) hf ?_; clear hf a; intro a hf
        have hq100 : Z.Ch [g90] w26 w96 := hc95.then hc99
        have hb101 := hb37.ch hq100 (by simp only [List.mem_cons, List.mem_append, List.not_mem_nil, or_false, not_or, not_false_eq_true, and_true] <;> omega)
        have hr102 := Z.rep_to (F' := (Z.nt [g])) hr36 hq100
        refine Z.call1 hf rfl (Z.r_callv cf35 hf (first := [.pointer (some ⟨g, 0, none⟩)]) (cap := []) (xs := [.tmp 23]) rfl rfl) (w_entry (b ++ (Codec.encInt (xs.length : Int) ++ (xs.take k29).flatMap Codec.encEntry)) g x62 w96 A34 c35 hr102 hb101 hok69 (by first | omega | (simp only [List.length_append, List.flatMap_cons, List.flatMap_nil, List.flatten_cons, List.flatten_nil, List.length_nil, List.append_nil]; omega)) (by assumption)) ?_; clear hf a
        rintro _ w103 ⟨A104, c105, rfl, hr106, hb107, hc108⟩
        have hzhc108 := hc108.size
        refine ⟨_, rfl, ?_⟩; intro a hf
        refine Z.done ?_
        refine hn51 _ _ ?_
        refine hn47 _ _ ?_
        refine Z.qreg [.n, .n] [18] [Z.R64 ((k29 : Int) + 1)] [(18, .int .i64 ((k29 : Int) + 1))] Z.k0 hf ?_; clear hf a; intro a hf
        refine hn32 (xs.length - (k29 + 1)) _ _ ?_ ?_
        rotate_left
        replace hf := hf.setv (d := 18) (y := .int .i64 ((k29 + 1 : Nat) : Int)) rfl (congrArg (Value.int .i64) (by first | rfl | omega | (simp; done) | (simp; omega)))
        have hr109 : (Z.Ty.slice Z.Ty.byte).rep w103 (Z.iv w.heap.size w103.heap.size) [.slice A104 (((b ++ (Codec.encInt (xs.length : Int) ++ (xs.take k29).flatMap Codec.encEntry)) ++ Codec.encEntry x62).length) c105] ((b ++ (Codec.encInt (xs.length : Int) ++ (xs.take k29).flatMap Codec.encEntry)) ++ Codec.encEntry x62) := Z.rep_as hr106 (by intro b h1 h2; (try simp only [Z.nt, Z.iv, Z.no, Z.ol] at h1); (try simp only [Z.iv]); omega)
        have hxs110 : (b ++ (Codec.encInt (xs.length : Int) ++ (xs.take k29).flatMap Codec.encEntry)) ++ Codec.encEntry x62 = (b ++ (Codec.encInt (xs.length : Int) ++ (xs.take (k29 + 1 : Nat)).flatMap Codec.encEntry) : List UInt8) := by first | rfl | (simp; done) | (rw [hfl.1] <;> (simp; done)) | (rw [Codec.fm_all _ (by omega)] <;> (simp [Codec.encList]; done))
        have hr111 := Z.rep_eq hr109 hxs110
        have hq112 : Z.Ch [g] w12 w91 := hc27.then hc95
        have hq113 : Z.Ch [g, g90] w12 w96 := hq112.then hc99
        have hq114 : Z.Ch [g, g90] w12 w103 := hq113.then hc108
        exact ⟨k29 + 1, A104, c105, rfl, (hq114.mono (by intro k hk; (try simp only [List.mem_cons, List.mem_append, List.not_mem_nil, or_false, false_or] at hk ⊢) <;> omega)), hr111, (Z.Blk.cast (show Z.Blk w103 g 90 [.slice A104 (((b ++ (Codec.encInt (xs.length : Int) ++ (xs.take k29).flatMap Codec.encEntry)) ++ Codec.encEntry x62).length) c105] from hb107) (by first | rfl | (simp only [hxs110]; done) | simp_all)), (by omega), (hf.keep [2, 16, 17, 18])⟩
        rw [hm28]; omega
      · intro hp115
        refine Z.exit ?_
        refine he43 _ _ _ (by simp) ?_
        refine he33 _ _ _ (by simp) ?_
        refine hx21 _ _ ?_
        have hr116 : (Z.Ty.slice Z.Ty.byte).rep w26 (Z.iv w.heap.size w26.heap.size) [.slice A34 ((b ++ (Codec.encInt (xs.length : Int) ++ (xs.take k29).flatMap Codec.encEntry)).length) c35] (b ++ (Codec.encInt (xs.length : Int) ++ (xs.take k29).flatMap Codec.encEntry)) := Z.rep_as hr36 (by intro b h1 h2; (try simp only [Z.nt, Z.iv, Z.no, Z.ol] at h1); (try simp only [Z.iv]); omega)
        have hxs117 : b ++ (Codec.encInt (xs.length : Int) ++ (xs.take k29).flatMap Codec.encEntry) = (b ++ Codec.encList Codec.encEntry xs : List UInt8) := by first | rfl | (simp; done) | (rw [hfl.1] <;> (simp; done)) | (rw [Codec.fm_all _ (by omega)] <;> (simp [Codec.encList]; done))
        have hr118 := Z.rep_eq hr116 hxs117
        have hb119 : Z.Blk w26 g 90 [.slice A34 ((b ++ Codec.encList Codec.encEntry xs).length) c35] := Z.Blk.cast (show Z.Blk w26 g 90 [.slice A34 ((b ++ (Codec.encInt (xs.length : Int) ++ (xs.take k29).flatMap Codec.encEntry)).length) c35] from hb37) (by first | rfl | (simp only [hxs117]; done) | simp_all)
        have hq120 : Z.Ch [g] w w26 := hc17.then hc27
        refine Z.end0 hf Try.results34 ?_
        exact ⟨A34, c35, rfl, hr118, hb119, hq120⟩

set_option maxHeartbeats 400000 in
set_option maxRecDepth 20000 in
theorem w_delta (b : List UInt8) (g : Nat) (x : D32) (w : World) (pA0 : Option Addr) (pc0 : Nat) (pA1 : Option Addr) (pc1 : Nat) (pA2 : Option Addr) (pc2 : Nat) (pA3 : Option Addr) (pc3 : Nat) (ph0 : (Z.Ty.slice Z.Ty.byte).rep w (Z.nt [g]) [.slice pA0 b.length pc0] b) (pb1 : Z.Blk w g 90 [.slice pA0 b.length pc0]) (ph1 : (Z.Ty.slice (Z.Ty.int .i64)).rep w (Z.nt [g]) [.slice pA1 x.1.length pc1] x.1) (ph2 : (Z.Ty.slice T85).rep w (Z.nt [g]) [.slice pA2 x.2.1.length pc2] x.2.1) (ph3 : (Z.Ty.slice T63).rep w (Z.nt [g]) [.slice pA3 x.2.2.length pc3] x.2.2) (pk5 : Z.Ty.ok T32 x) (hb : b.length + (Codec.encDelta x).length ≤ 70368744177664) (hg : Codec.gDelta x) :
    Calls Try.prog 44 #[.pointer (some ⟨g, 0, none⟩), .agg #[.slice pA1 x.1.length pc1, .slice pA2 x.2.1.length pc2, .slice pA3 x.2.2.length pc3]] w fun e w' => ∃ (rA0 : Option Addr) (rc0 : Nat), e = .returned (.tuple #[]) ∧ (Z.Ty.slice Z.Ty.byte).rep w' (Z.iv w.heap.size w'.heap.size) [.slice rA0 (b ++ Codec.encDelta x).length rc0] (b ++ Codec.encDelta x) ∧ Z.Blk w' g 90 [.slice rA0 (b ++ Codec.encDelta x).length rc0] ∧ Z.Ch [g] w w' := by
  refine Z.enter Try.func44 rfl Try.ntmps44 (Nat.le_of_ble_eq_true rfl) fun a hf => ?_
  have hlt_g := pb1.lt
  have hle_pA1 := Z.rep_le ph1
  have ph1o := Z.rep_ol ph1
  have hle_pA2 := Z.rep_le ph2
  have ph2o := Z.rep_ol ph2
  have hle_pA3 := Z.rep_le ph3
  have ph3o := Z.rep_ol ph3
  have hle_pA0 := Z.rep_le ph0
  have ph0o := Z.rep_ol ph0
  simp only [Codec.encDelta, List.length_append] at hb
  obtain ⟨hg1, ⟨hg2, hg3⟩, hg4, hg5⟩ := hg
  refine Z.seq' (Z.Pq.body _ _ _) fun Q1 hp2 hn3 he4 => ?_
  refine Z.reg ?_
  refine Z.st_box hf rfl rfl rfl ?_; clear hf a; intro g5 w6 a hg7 hz8 hb9 hc10 hf
  refine Z.done ?_
  refine hn3 _ _ ?_
  refine Z.seq' (Z.Pq.body _ _ _) fun Q11 hp12 hn13 he14 => ?_
  refine Z.reg ?_
  refine Z.qr [.n, .n, .b 0 0, .n, .n] [4, 6, 8] [] [(4, .pointer (some ⟨g, 0, none⟩)), (6, .slice pA1 x.1.length pc1), (8, .func (.func 52) #[.pointer (some ⟨g, 0, none⟩)] #[])] (Z.kb hb9 Z.k0) hf ?_; clear hf a; intro a hf
  have hb15 := pb1.ch0 hc10
  have hr16 := Z.rep_to (F' := (Z.nt [g])) ph0o hc10
  have hr17 := Z.rep_to (F' := (Z.nt [g])) ph1o hc10
  refine Z.call1 hf rfl (Z.r_call cf55 hf (xs := [.tmp 4, .tmp 6, .tmp 8]) rfl) (p_ints b g x.1 w6 pA0 pc0 pA1 pc1 hr16 hb15 hr17 (by first | omega | (simp only [List.length_append, List.flatMap_cons, List.flatMap_nil, List.flatten_cons, List.flatten_nil, List.length_nil, List.append_nil]; omega)) (by assumption)) ?_; clear hf a
  rintro _ w18 ⟨A19, c20, rfl, hr21, hb22, hc23⟩
  have hzhc23 := hc23.size
  refine ⟨_, rfl, ?_⟩; intro a hf
  refine Z.done ?_
  refine hn13 _ _ ?_
  refine Z.seq' (Z.Pq.body _ _ _) fun Q24 hp25 hn26 he27 => ?_
  refine Z.reg ?_
  have hb28 := hb9.ch hc23 (by simp only [List.mem_cons, List.mem_append, List.not_mem_nil, or_false, not_or, not_false_eq_true, and_true] <;> omega)
  refine Z.qr [.n, .n, .b 0 1, .n, .n] [10, 12, 14] [] [(10, .pointer (some ⟨g, 0, none⟩)), (12, .slice pA2 x.2.1.length pc2), (14, .func (.func 57) #[.pointer (some ⟨g, 0, none⟩)] #[])] (Z.kb hb28 Z.k0) hf ?_; clear hf a; intro a hf
  have hr29 := Z.rep_to (F' := (Z.nt [g])) hr21 (Z.Ch.refl w18)
  have hq30 : Z.Ch [g] w w18 := hc10.then hc23
  have hr31 := Z.rep_to (F' := (Z.nt [g])) ph2o hq30
  refine Z.call1 hf rfl (Z.r_call cf56 hf (xs := [.tmp 10, .tmp 12, .tmp 14]) rfl) (p_nodes (b ++ Codec.encList Codec.encInt x.1) g x.2.1 w18 A19 c20 pA2 pc2 hr29 hb22 hr31 (by first | omega | (simp only [List.length_append, List.flatMap_cons, List.flatMap_nil, List.flatten_cons, List.flatten_nil, List.length_nil, List.append_nil]; omega)) (by assumption) (by assumption)) ?_; clear hf a
  rintro _ w32 ⟨A33, c34, rfl, hr35, hb36, hc37⟩
  have hzhc37 := hc37.size
  refine ⟨_, rfl, ?_⟩; intro a hf
  refine Z.done ?_
  refine hn26 _ _ ?_
  refine Z.reg ?_
  have hb38 := hb28.ch hc37 (by simp only [List.mem_cons, List.mem_append, List.not_mem_nil, or_false, not_or, not_false_eq_true, and_true] <;> omega)
  refine Z.qr [.n, .n, .b 0 2, .n, .n] [16, 18, 20] [] [(16, .pointer (some ⟨g, 0, none⟩)), (18, .slice pA3 x.2.2.length pc3), (20, .func (.func 59) #[.pointer (some ⟨g, 0, none⟩)] #[])] (Z.kb hb38 Z.k0) hf ?_; clear hf a; intro a hf
  have hr39 := Z.rep_to (F' := (Z.nt [g])) hr35 (Z.Ch.refl w32)
  have hq40 : Z.Ch [g] w w32 := hq30.then hc37
  have hr41 := Z.rep_to (F' := (Z.nt [g])) ph3o hq40
  refine Z.call1 hf rfl (Z.r_call cf58 hf (xs := [.tmp 16, .tmp 18, .tmp 20]) rfl) (p_moves ((b ++ Codec.encList Codec.encInt x.1) ++ Codec.encList Codec.encNode x.2.1) g x.2.2 w32 A33 c34 pA3 pc3 hr39 hb36 hr41 (by first | omega | (simp only [List.length_append, List.flatMap_cons, List.flatMap_nil, List.flatten_cons, List.flatten_nil, List.length_nil, List.append_nil]; omega)) (by assumption) (by assumption)) ?_; clear hf a
  rintro _ w42 ⟨A43, c44, rfl, hr45, hb46, hc47⟩
  have hzhc47 := hc47.size
  refine ⟨_, rfl, ?_⟩; intro a hf
  refine Z.done ?_
  have hr48 : (Z.Ty.slice Z.Ty.byte).rep w42 (Z.iv w.heap.size w42.heap.size) [.slice A43 ((((b ++ Codec.encList Codec.encInt x.1) ++ Codec.encList Codec.encNode x.2.1) ++ Codec.encList Codec.encMove x.2.2).length) c44] (((b ++ Codec.encList Codec.encInt x.1) ++ Codec.encList Codec.encNode x.2.1) ++ Codec.encList Codec.encMove x.2.2) := Z.rep_as hr45 (by intro b h1 h2; (try simp only [Z.nt, Z.iv, Z.no, Z.ol] at h1); (try simp only [Z.iv]); omega)
  have hxs49 : ((b ++ Codec.encList Codec.encInt x.1) ++ Codec.encList Codec.encNode x.2.1) ++ Codec.encList Codec.encMove x.2.2 = (b ++ Codec.encDelta x : List UInt8) := by first | rfl | (simp [Codec.encDelta]; done)
  have hr50 := Z.rep_eq hr48 hxs49
  have hb51 : Z.Blk w42 g 90 [.slice A43 ((b ++ Codec.encDelta x).length) c44] := Z.Blk.cast (show Z.Blk w42 g 90 [.slice A43 ((((b ++ Codec.encList Codec.encInt x.1) ++ Codec.encList Codec.encNode x.2.1) ++ Codec.encList Codec.encMove x.2.2).length) c44] from hb46) (by first | rfl | (simp only [hxs49]; done) | simp_all)
  have hq52 : Z.Ch [g] w w42 := hq40.then hc47
  refine Z.end0 hf Try.results44 ?_
  exact ⟨A43, c44, rfl, hr50, hb51, hq52⟩

set_option maxHeartbeats 400000 in
set_option maxRecDepth 20000 in
theorem w_msg (b : List UInt8) (g : Nat) (x : D36) (w : World) (pA0 : Option Addr) (pc0 : Nat) (pA1 : Option Addr) (pc1 : Nat) (pA2 : Option Addr) (pc2 : Nat) (pA3 : Option Addr) (pc3 : Nat) (pA4 : Option Addr) (pc4 : Nat) (pA5 : Option Addr) (pc5 : Nat) (pA6 : Option Addr) (pc6 : Nat) (ph0 : (Z.Ty.slice Z.Ty.byte).rep w (Z.nt [g]) [.slice pA0 b.length pc0] b) (pb1 : Z.Blk w g 90 [.slice pA0 b.length pc0]) (ph1 : (Z.Ty.slice T59).rep w (Z.nt [g]) [.slice pA1 x.2.2.2.2.1.length pc1] x.2.2.2.2.1) (ph2 : (Z.Ty.slice T70).rep w (Z.nt [g]) [.slice pA2 x.2.2.2.2.2.1.length pc2] x.2.2.2.2.2.1) (ph3 : (Z.Ty.slice (Z.Ty.int .i64)).rep w (Z.nt [g]) [.slice pA3 x.2.2.2.2.2.2.1.1.length pc3] x.2.2.2.2.2.2.1.1) (ph4 : (Z.Ty.slice T85).rep w (Z.nt [g]) [.slice pA4 x.2.2.2.2.2.2.1.2.1.length pc4] x.2.2.2.2.2.2.1.2.1) (ph5 : (Z.Ty.slice T63).rep w (Z.nt [g]) [.slice pA5 x.2.2.2.2.2.2.1.2.2.length pc5] x.2.2.2.2.2.2.1.2.2) (ph6 : (Z.Ty.slice T57).rep w (Z.nt [g]) [.slice pA6 x.2.2.2.2.2.2.2.2.1.length pc6] x.2.2.2.2.2.2.2.2.1) (pk8 : Z.Ty.ok T36 x) (hb : b.length + (Codec.encMsg x).length ≤ 70368744177664) (hg : Codec.gMsg x) :
    Calls Try.prog 21 #[.pointer (some ⟨g, 0, none⟩), .agg #[.int .i64 x.1, .int .i64 x.2.1, .int .i64 x.2.2.1.1, .int .i64 x.2.2.1.2, .int .i64 x.2.2.2.1.1, .int .i64 x.2.2.2.1.2.1, .int .i64 x.2.2.2.1.2.2.1, .int .i64 x.2.2.2.1.2.2.2.1, .int .i64 x.2.2.2.1.2.2.2.2.1, .int .i64 x.2.2.2.1.2.2.2.2.2, .slice pA1 x.2.2.2.2.1.length pc1, .slice pA2 x.2.2.2.2.2.1.length pc2, .slice pA3 x.2.2.2.2.2.2.1.1.length pc3, .slice pA4 x.2.2.2.2.2.2.1.2.1.length pc4, .slice pA5 x.2.2.2.2.2.2.1.2.2.length pc5, .int .i64 x.2.2.2.2.2.2.2.1, .slice pA6 x.2.2.2.2.2.2.2.2.1.length pc6, .bool x.2.2.2.2.2.2.2.2.2.1, .int .i64 x.2.2.2.2.2.2.2.2.2.2]] w fun e w' => ∃ (rA0 : Option Addr) (rc0 : Nat), e = .returned (.tuple #[]) ∧ (Z.Ty.slice Z.Ty.byte).rep w' (Z.iv w.heap.size w'.heap.size) [.slice rA0 (b ++ Codec.encMsg x).length rc0] (b ++ Codec.encMsg x) ∧ Z.Blk w' g 90 [.slice rA0 (b ++ Codec.encMsg x).length rc0] ∧ Z.Ch [g] w w' := by
  refine Z.enter Try.func21 rfl Try.ntmps21 (Nat.le_of_ble_eq_true rfl) fun a hf => ?_
  have hlt_g := pb1.lt
  have hle_pA1 := Z.rep_le ph1
  have ph1o := Z.rep_ol ph1
  have hle_pA2 := Z.rep_le ph2
  have ph2o := Z.rep_ol ph2
  have hle_pA3 := Z.rep_le ph3
  have ph3o := Z.rep_ol ph3
  have hle_pA4 := Z.rep_le ph4
  have ph4o := Z.rep_ol ph4
  have hle_pA5 := Z.rep_le ph5
  have ph5o := Z.rep_ol ph5
  have hle_pA6 := Z.rep_le ph6
  have ph6o := Z.rep_ol ph6
  have hle_pA0 := Z.rep_le ph0
  have ph0o := Z.rep_ol ph0
  simp only [Codec.encMsg, List.length_append] at hb
  obtain ⟨⟨hg1, hg2⟩, hg3, hg4, hg5, hg6⟩ := hg
  refine Z.seq' (Z.Pq.body _ _ _) fun Q1 hp2 hn3 he4 => ?_
  refine Z.reg ?_
  refine Z.st_box hf rfl rfl rfl ?_; clear hf a; intro g5 w6 a hg7 hz8 hb9 hc10 hf
  refine Z.done ?_
  refine hn3 _ _ ?_
  refine Z.seq' (Z.Pq.body _ _ _) fun Q11 hp12 hn13 he14 => ?_
  refine Z.reg ?_
  refine Z.qr [.n, .n, .b 0 0, .n, .b 0 1] [5, 7, 9] [] [(5, .pointer (some ⟨g, 0, none⟩)), (7, .int .i64 x.1), (9, .int .i64 x.2.1)] (Z.kb hb9 Z.k0) hf ?_; clear hf a; intro a hf
  refine Z.st_bslice hf rfl Try.underlying117 Try.sizeOf2 Try.zeroValue2 (parts := [(0, .tmp 7), (1, .tmp 9)]) (cs := [.int .i64 x.1, .int .i64 x.2.1]) rfl rfl rfl (by kernel_rfl) ?_; clear hf a; intro g15 w16 a hg17 hz18 hb19 hc20 hf
  have ho21 : Z.Own (Z.Ty.int .i64) 2 g15 w16 Z.no (some ⟨g15, 0, none⟩) 2 ([x.1, x.2.1] : List Int) := Z.Own.made (t := (Z.Ty.int .i64)) (xs := ([x.1, x.2.1] : List Int)) hb19 (Nat.le_refl _) rfl (by simp [maxLen]) (by simp [Value.oneCell']) (fun i x hi => by match i, hi with | 0, hi => (injection hi with hi; subst hi; exact (show (Z.Ty.int .i64).rep w16 (Z.nt []) [.int .i64 x.1] x.1 from ⟨rfl, pk8.1⟩)) | 1, hi => (injection hi with hi; subst hi; exact (show (Z.Ty.int .i64).rep w16 (Z.nt []) [.int .i64 x.2.1] x.2.1 from ⟨rfl, pk8.2.1⟩)) | (j + 2), hi => simp at hi)
  have hq22 : Z.Ch [] w w16 := hc10.then hc20
  have hb23 := pb1.ch0 hq22
  have hr24 := Z.rep_to (F' := (Z.nt [g])) ph0o hq22
  have hr25 := ho21.riv
  have hr26 := Z.rep_to (F' := (Z.nt [g])) hr25 (Z.Ch.refl w16)
  refine Z.call1 hf rfl (Z.r_call cf37 hf (xs := [.tmp 5, .tmp 10]) rfl) (w_ints b g ([x.1, x.2.1] : List Int) w16 pA0 pc0 (some ⟨g15, 0, none⟩) 2 hr24 hb23 hr26 (by first | omega | (simp only [List.length_append, List.flatMap_cons, List.flatMap_nil, List.flatten_cons, List.flatten_nil, List.length_nil, List.append_nil]; omega) | (simp [Codec.b01, hcond] at hb; simp only [List.length_append, List.flatMap_cons, List.flatMap_nil, List.flatten_cons, List.flatten_nil, List.length_nil, List.append_nil]; omega))) ?_; clear hf a
  rintro _ w27 ⟨A28, c29, rfl, hr30, hb31, hc32⟩
  have hzhc32 := hc32.size
  refine ⟨_, rfl, ?_⟩; intro a hf
  refine Z.done ?_
  refine hn13 _ _ ?_
  refine Z.seq' (Z.Pq.body _ _ _) fun Q33 hp34 hn35 he36 => ?_
  refine Z.reg ?_
  have hq37 : Z.Ch [g] w6 w27 := hc20.then hc32
  have hb38 := hb9.ch hq37 (by simp only [List.mem_cons, List.mem_append, List.not_mem_nil, or_false, not_or, not_false_eq_true, and_true] <;> omega)
  refine Z.qr [.n, .n, .b 0 2] [12, 14] [] [(12, .pointer (some ⟨g, 0, none⟩)), (14, .agg #[.int .i64 x.2.2.1.1, .int .i64 x.2.2.1.2])] (Z.kb hb38 Z.k0) hf ?_; clear hf a; intro a hf
  have hr39 := Z.rep_to (F' := (Z.nt [g])) hr30 (Z.Ch.refl w27)
  refine Z.call1 hf rfl (Z.r_call cf38 hf (xs := [.tmp 12, .tmp 14]) rfl) (w_place (b ++ ([x.1, x.2.1] : List Int).flatMap Codec.encInt) g x.2.2.1 w27 A28 c29 hr39 hb31 pk8.2.2.1 (by first | omega | (simp only [List.length_append, List.flatMap_cons, List.flatMap_nil, List.flatten_cons, List.flatten_nil, List.length_nil, List.append_nil]; omega))) ?_; clear hf a
  rintro _ w40 ⟨A41, c42, rfl, hr43, hb44, hc45⟩
  have hzhc45 := hc45.size
  refine ⟨_, rfl, ?_⟩; intro a hf
  refine Z.done ?_
  refine hn35 _ _ ?_
  refine Z.seq' (Z.Pq.body _ _ _) fun Q46 hp47 hn48 he49 => ?_
  refine Z.reg ?_
  have hb50 := hb38.ch hc45 (by simp only [List.mem_cons, List.mem_append, List.not_mem_nil, or_false, not_or, not_false_eq_true, and_true] <;> omega)
  refine Z.qr [.n, .n, .b 0 4] [16, 18] [] [(16, .pointer (some ⟨g, 0, none⟩)), (18, .agg #[.int .i64 x.2.2.2.1.1, .int .i64 x.2.2.2.1.2.1, .int .i64 x.2.2.2.1.2.2.1, .int .i64 x.2.2.2.1.2.2.2.1, .int .i64 x.2.2.2.1.2.2.2.2.1, .int .i64 x.2.2.2.1.2.2.2.2.2])] (Z.kb hb50 Z.k0) hf ?_; clear hf a; intro a hf
  have hr51 := Z.rep_to (F' := (Z.nt [g])) hr43 (Z.Ch.refl w40)
  refine Z.call1 hf rfl (Z.r_call cf39 hf (xs := [.tmp 16, .tmp 18]) rfl) (w_time ((b ++ ([x.1, x.2.1] : List Int).flatMap Codec.encInt) ++ Codec.encPlace x.2.2.1) g x.2.2.2.1 w40 A41 c42 hr51 hb44 pk8.2.2.2.1 (by first | omega | (simp only [List.length_append, List.flatMap_cons, List.flatMap_nil, List.flatten_cons, List.flatten_nil, List.length_nil, List.append_nil]; omega))) ?_; clear hf a
  rintro _ w52 ⟨A53, c54, rfl, hr55, hb56, hc57⟩
  have hzhc57 := hc57.size
  refine ⟨_, rfl, ?_⟩; intro a hf
  refine Z.done ?_
  refine hn48 _ _ ?_
  refine Z.seq' (Z.Pq.body _ _ _) fun Q58 hp59 hn60 he61 => ?_
  refine Z.reg ?_
  have hb62 := hb50.ch hc57 (by simp only [List.mem_cons, List.mem_append, List.not_mem_nil, or_false, not_or, not_false_eq_true, and_true] <;> omega)
  refine Z.qr [.n, .n, .b 0 10, .n, .n] [20, 22, 24] [] [(20, .pointer (some ⟨g, 0, none⟩)), (22, .slice pA1 x.2.2.2.2.1.length pc1), (24, .func (.func 41) #[.pointer (some ⟨g, 0, none⟩)] #[])] (Z.kb hb62 Z.k0) hf ?_; clear hf a; intro a hf
  have hr63 := Z.rep_to (F' := (Z.nt [g])) hr55 (Z.Ch.refl w52)
  have hq64 : Z.Ch [g] w w27 := hq22.then hc32
  have hq65 : Z.Ch [g] w w40 := hq64.then hc45
  have hq66 : Z.Ch [g] w w52 := hq65.then hc57
  have hr67 := Z.rep_to (F' := (Z.nt [g])) ph1o hq66
  refine Z.call1 hf rfl (Z.r_call cf40 hf (xs := [.tmp 20, .tmp 22, .tmp 24]) rfl) (p_recs (((b ++ ([x.1, x.2.1] : List Int).flatMap Codec.encInt) ++ Codec.encPlace x.2.2.1) ++ Codec.encTime x.2.2.2.1) g x.2.2.2.2.1 w52 A53 c54 pA1 pc1 hr63 hb56 hr67 (by first | omega | (simp only [List.length_append, List.flatMap_cons, List.flatMap_nil, List.flatten_cons, List.flatten_nil, List.length_nil, List.append_nil]; omega)) (by assumption) (by assumption)) ?_; clear hf a
  rintro _ w68 ⟨A69, c70, rfl, hr71, hb72, hc73⟩
  have hzhc73 := hc73.size
  refine ⟨_, rfl, ?_⟩; intro a hf
  refine Z.done ?_
  refine hn60 _ _ ?_
  refine Z.seq' (Z.Pq.body _ _ _) fun Q74 hp75 hn76 he77 => ?_
  refine Z.reg ?_
  have hb78 := hb62.ch hc73 (by simp only [List.mem_cons, List.mem_append, List.not_mem_nil, or_false, not_or, not_false_eq_true, and_true] <;> omega)
  refine Z.qr [.n, .n, .b 0 11, .n, .n] [26, 28, 30] [] [(26, .pointer (some ⟨g, 0, none⟩)), (28, .slice pA2 x.2.2.2.2.2.1.length pc2), (30, .func (.func 43) #[.pointer (some ⟨g, 0, none⟩)] #[])] (Z.kb hb78 Z.k0) hf ?_; clear hf a; intro a hf
  have hr79 := Z.rep_to (F' := (Z.nt [g])) hr71 (Z.Ch.refl w68)
  have hq80 : Z.Ch [g] w w68 := hq66.then hc73
  have hr81 := Z.rep_to (F' := (Z.nt [g])) ph2o hq80
  refine Z.call1 hf rfl (Z.r_call cf42 hf (xs := [.tmp 26, .tmp 28, .tmp 30]) rfl) (p_changes ((((b ++ ([x.1, x.2.1] : List Int).flatMap Codec.encInt) ++ Codec.encPlace x.2.2.1) ++ Codec.encTime x.2.2.2.1) ++ Codec.encList Codec.encRec x.2.2.2.2.1) g x.2.2.2.2.2.1 w68 A69 c70 pA2 pc2 hr79 hb72 hr81 (by first | omega | (simp only [List.length_append, List.flatMap_cons, List.flatMap_nil, List.flatten_cons, List.flatten_nil, List.length_nil, List.append_nil]; omega)) (by assumption)) ?_; clear hf a
  rintro _ w82 ⟨A83, c84, rfl, hr85, hb86, hc87⟩
  have hzhc87 := hc87.size
  refine ⟨_, rfl, ?_⟩; intro a hf
  refine Z.done ?_
  refine hn76 _ _ ?_
  refine Z.seq' (Z.Pq.body _ _ _) fun Q88 hp89 hn90 he91 => ?_
  refine Z.reg ?_
  have hb92 := hb78.ch hc87 (by simp only [List.mem_cons, List.mem_append, List.not_mem_nil, or_false, not_or, not_false_eq_true, and_true] <;> omega)
  refine Z.qr [.n, .n, .b 0 12] [32, 34] [] [(32, .pointer (some ⟨g, 0, none⟩)), (34, .agg #[.slice pA3 x.2.2.2.2.2.2.1.1.length pc3, .slice pA4 x.2.2.2.2.2.2.1.2.1.length pc4, .slice pA5 x.2.2.2.2.2.2.1.2.2.length pc5])] (Z.kb hb92 Z.k0) hf ?_; clear hf a; intro a hf
  have hr93 := Z.rep_to (F' := (Z.nt [g])) hr85 (Z.Ch.refl w82)
  have hq94 : Z.Ch [g] w w82 := hq80.then hc87
  have hr95 := Z.rep_to (F' := (Z.nt [g])) ph3o hq94
  have hr96 := Z.rep_to (F' := (Z.nt [g])) ph4o hq94
  have hr97 := Z.rep_to (F' := (Z.nt [g])) ph5o hq94
  refine Z.call1 hf rfl (Z.r_call cf44 hf (xs := [.tmp 32, .tmp 34]) rfl) (w_delta (((((b ++ ([x.1, x.2.1] : List Int).flatMap Codec.encInt) ++ Codec.encPlace x.2.2.1) ++ Codec.encTime x.2.2.2.1) ++ Codec.encList Codec.encRec x.2.2.2.2.1) ++ Codec.encList Codec.encChange x.2.2.2.2.2.1) g x.2.2.2.2.2.2.1 w82 A83 c84 pA3 pc3 pA4 pc4 pA5 pc5 hr93 hb86 hr95 hr96 hr97 pk8.2.2.2.2.2.2.1 (by first | omega | (simp only [List.length_append, List.flatMap_cons, List.flatMap_nil, List.flatten_cons, List.flatten_nil, List.length_nil, List.append_nil]; omega)) (by assumption)) ?_; clear hf a
  rintro _ w98 ⟨A99, c100, rfl, hr101, hb102, hc103⟩
  have hzhc103 := hc103.size
  refine ⟨_, rfl, ?_⟩; intro a hf
  refine Z.done ?_
  refine hn90 _ _ ?_
  refine Z.seq' (Z.Pq.body _ _ _) fun Q104 hp105 hn106 he107 => ?_
  refine Z.reg ?_
  have hb108 := hb92.ch hc103 (by simp only [List.mem_cons, List.mem_append, List.not_mem_nil, or_false, not_or, not_false_eq_true, and_true] <;> omega)
  refine Z.qr [.n, .n, .b 0 15] [36, 38] [] [(36, .pointer (some ⟨g, 0, none⟩)), (38, .int .i64 x.2.2.2.2.2.2.2.1)] (Z.kb hb108 Z.k0) hf ?_; clear hf a; intro a hf
  refine Z.st_bslice hf rfl Try.underlying117 Try.sizeOf2 Try.zeroValue2 (parts := [(0, .tmp 38)]) (cs := [.int .i64 x.2.2.2.2.2.2.2.1]) rfl rfl rfl (by kernel_rfl) ?_; clear hf a; intro g109 w110 a hg111 hz112 hb113 hc114 hf
  have ho115 : Z.Own (Z.Ty.int .i64) 2 g109 w110 Z.no (some ⟨g109, 0, none⟩) 1 ([x.2.2.2.2.2.2.2.1] : List Int) := Z.Own.made (t := (Z.Ty.int .i64)) (xs := ([x.2.2.2.2.2.2.2.1] : List Int)) hb113 (Nat.le_refl _) rfl (by simp [maxLen]) (by simp [Value.oneCell']) (fun i x hi => by match i, hi with | 0, hi => (injection hi with hi; subst hi; exact (show (Z.Ty.int .i64).rep w110 (Z.nt []) [.int .i64 x.2.2.2.2.2.2.2.1] x.2.2.2.2.2.2.2.1 from ⟨rfl, pk8.2.2.2.2.2.2.2.1⟩)) | (j + 1), hi => simp at hi)
  have hb116 := hb102.ch0 hc114
  have hr117 := Z.rep_to (F' := (Z.nt [g])) hr101 hc114
  have hr118 := ho115.riv
  have hr119 := Z.rep_to (F' := (Z.nt [g])) hr118 (Z.Ch.refl w110)
  refine Z.call1 hf rfl (Z.r_call cf37 hf (xs := [.tmp 36, .tmp 39]) rfl) (w_ints ((((((b ++ ([x.1, x.2.1] : List Int).flatMap Codec.encInt) ++ Codec.encPlace x.2.2.1) ++ Codec.encTime x.2.2.2.1) ++ Codec.encList Codec.encRec x.2.2.2.2.1) ++ Codec.encList Codec.encChange x.2.2.2.2.2.1) ++ Codec.encDelta x.2.2.2.2.2.2.1) g ([x.2.2.2.2.2.2.2.1] : List Int) w110 A99 c100 (some ⟨g109, 0, none⟩) 1 hr117 hb116 hr119 (by first | omega | (simp only [List.length_append, List.flatMap_cons, List.flatMap_nil, List.flatten_cons, List.flatten_nil, List.length_nil, List.append_nil]; omega) | (simp [Codec.b01, hcond] at hb; simp only [List.length_append, List.flatMap_cons, List.flatMap_nil, List.flatten_cons, List.flatten_nil, List.length_nil, List.append_nil]; omega))) ?_; clear hf a
  rintro _ w120 ⟨A121, c122, rfl, hr123, hb124, hc125⟩
  have hzhc125 := hc125.size
  refine ⟨_, rfl, ?_⟩; intro a hf
  refine Z.done ?_
  refine hn106 _ _ ?_
  refine Z.seq' (Z.Pq.body _ _ _) fun Q126 hp127 hn128 he129 => ?_
  refine Z.reg ?_
  have hq130 : Z.Ch [g] w98 w120 := hc114.then hc125
  have hb131 := hb108.ch hq130 (by simp only [List.mem_cons, List.mem_append, List.not_mem_nil, or_false, not_or, not_false_eq_true, and_true] <;> omega)
  refine Z.qr [.n, .n, .b 0 16, .n, .n] [41, 43, 45] [] [(41, .pointer (some ⟨g, 0, none⟩)), (43, .slice pA6 x.2.2.2.2.2.2.2.2.1.length pc6), (45, .func (.func 35) #[.pointer (some ⟨g, 0, none⟩)] #[])] (Z.kb hb131 Z.k0) hf ?_; clear hf a; intro a hf
  have hr132 := Z.rep_to (F' := (Z.nt [g])) hr123 (Z.Ch.refl w120)
  have hq133 : Z.Ch [g] w w98 := hq94.then hc103
  have hq134 : Z.Ch [g] w w110 := hq133.then hc114
  have hq135 : Z.Ch [g] w w120 := hq134.then hc125
  have hr136 := Z.rep_to (F' := (Z.nt [g])) ph6o hq135
  refine Z.call1 hf rfl (Z.r_call cf34 hf (xs := [.tmp 41, .tmp 43, .tmp 45]) rfl) (p_entries (((((((b ++ ([x.1, x.2.1] : List Int).flatMap Codec.encInt) ++ Codec.encPlace x.2.2.1) ++ Codec.encTime x.2.2.2.1) ++ Codec.encList Codec.encRec x.2.2.2.2.1) ++ Codec.encList Codec.encChange x.2.2.2.2.2.1) ++ Codec.encDelta x.2.2.2.2.2.2.1) ++ ([x.2.2.2.2.2.2.2.1] : List Int).flatMap Codec.encInt) g x.2.2.2.2.2.2.2.2.1 w120 A121 c122 pA6 pc6 hr132 hb124 hr136 (by first | omega | (simp only [List.length_append, List.flatMap_cons, List.flatMap_nil, List.flatten_cons, List.flatten_nil, List.length_nil, List.append_nil]; omega)) (by assumption) (by assumption)) ?_; clear hf a
  rintro _ w137 ⟨A138, c139, rfl, hr140, hb141, hc142⟩
  have hzhc142 := hc142.size
  refine ⟨_, rfl, ?_⟩; intro a hf
  refine Z.done ?_
  refine hn128 _ _ ?_
  refine Z.qseq [.n] [4] [] [(4, .int .i64 0)] Z.k0 hf ?_; clear hf a; intro a hf
  refine Z.seq' (Z.Pq.body _ _ _) fun Q143 hp144 hn145 he146 => ?_
  have hb147 := hb131.ch hc142 (by simp only [List.mem_cons, List.mem_append, List.not_mem_nil, or_false, not_or, not_false_eq_true, and_true] <;> omega)
  refine Z.qseq [.n, .b 0 17] [48] [] [(48, .bool x.2.2.2.2.2.2.2.2.2.1)] (Z.kb hb147 Z.k0) hf ?_; clear hf a; intro a hf
  refine Z.cond hf rfl ?_ ?_
  · intro hp148
    have hcond := hp148
    refine Z.qreg [.n] [4] [] [(4, .int .i64 1)] Z.k0 hf ?_; clear hf a; intro a hf
    refine hn145 _ _ ?_
    refine Z.reg ?_
    refine Z.qr [.n, .n, .n, .b 0 18] [49, 50, 52] [] [(49, .pointer (some ⟨g, 0, none⟩)), (50, .int .i64 1), (52, .int .i64 x.2.2.2.2.2.2.2.2.2.2)] (Z.kb hb147 Z.k0) hf ?_; clear hf a; intro a hf
    refine Z.st_bslice hf rfl Try.underlying117 Try.sizeOf2 Try.zeroValue2 (parts := [(0, .tmp 50), (1, .tmp 52)]) (cs := [.int .i64 1, .int .i64 x.2.2.2.2.2.2.2.2.2.2]) rfl rfl rfl (by kernel_rfl) ?_; clear hf a; intro g149 w150 a hg151 hz152 hb153 hc154 hf
    have ho155 : Z.Own (Z.Ty.int .i64) 2 g149 w150 Z.no (some ⟨g149, 0, none⟩) 2 ([1, x.2.2.2.2.2.2.2.2.2.2] : List Int) := Z.Own.made (t := (Z.Ty.int .i64)) (xs := ([1, x.2.2.2.2.2.2.2.2.2.2] : List Int)) hb153 (Nat.le_refl _) rfl (by simp [maxLen]) (by simp [Value.oneCell']) (fun i x hi => by match i, hi with | 0, hi => (injection hi with hi; subst hi; exact (show (Z.Ty.int .i64).rep w150 (Z.nt []) [.int .i64 1] 1 from ⟨rfl, (Z.i64_has (by omega))⟩)) | 1, hi => (injection hi with hi; subst hi; exact (show (Z.Ty.int .i64).rep w150 (Z.nt []) [.int .i64 x.2.2.2.2.2.2.2.2.2.2] x.2.2.2.2.2.2.2.2.2.2 from ⟨rfl, pk8.2.2.2.2.2.2.2.2.2.2⟩)) | (j + 2), hi => simp at hi)
    have hb156 := hb141.ch0 hc154
    have hr157 := Z.rep_to (F' := (Z.nt [g])) hr140 hc154
    have hr158 := ho155.riv
    have hr159 := Z.rep_to (F' := (Z.nt [g])) hr158 (Z.Ch.refl w150)
    refine Z.call1 hf rfl (Z.r_call cf37 hf (xs := [.tmp 49, .tmp 53]) rfl) (w_ints ((((((((b ++ ([x.1, x.2.1] : List Int).flatMap Codec.encInt) ++ Codec.encPlace x.2.2.1) ++ Codec.encTime x.2.2.2.1) ++ Codec.encList Codec.encRec x.2.2.2.2.1) ++ Codec.encList Codec.encChange x.2.2.2.2.2.1) ++ Codec.encDelta x.2.2.2.2.2.2.1) ++ ([x.2.2.2.2.2.2.2.1] : List Int).flatMap Codec.encInt) ++ Codec.encList Codec.encEntry x.2.2.2.2.2.2.2.2.1) g ([1, x.2.2.2.2.2.2.2.2.2.2] : List Int) w150 A138 c139 (some ⟨g149, 0, none⟩) 2 hr157 hb156 hr159 (by first | omega | (simp only [List.length_append, List.flatMap_cons, List.flatMap_nil, List.flatten_cons, List.flatten_nil, List.length_nil, List.append_nil]; omega) | (simp [Codec.b01, hcond] at hb; simp only [List.length_append, List.flatMap_cons, List.flatMap_nil, List.flatten_cons, List.flatten_nil, List.length_nil, List.append_nil]; omega))) ?_; clear hf a
    rintro _ w160 ⟨A161, c162, rfl, hr163, hb164, hc165⟩
    have hzhc165 := hc165.size
    refine ⟨_, rfl, ?_⟩; intro a hf
    refine Z.done ?_
    have hr166 : (Z.Ty.slice Z.Ty.byte).rep w160 (Z.iv w.heap.size w160.heap.size) [.slice A161 ((((((((((b ++ ([x.1, x.2.1] : List Int).flatMap Codec.encInt) ++ Codec.encPlace x.2.2.1) ++ Codec.encTime x.2.2.2.1) ++ Codec.encList Codec.encRec x.2.2.2.2.1) ++ Codec.encList Codec.encChange x.2.2.2.2.2.1) ++ Codec.encDelta x.2.2.2.2.2.2.1) ++ ([x.2.2.2.2.2.2.2.1] : List Int).flatMap Codec.encInt) ++ Codec.encList Codec.encEntry x.2.2.2.2.2.2.2.2.1) ++ ([1, x.2.2.2.2.2.2.2.2.2.2] : List Int).flatMap Codec.encInt).length) c162] (((((((((b ++ ([x.1, x.2.1] : List Int).flatMap Codec.encInt) ++ Codec.encPlace x.2.2.1) ++ Codec.encTime x.2.2.2.1) ++ Codec.encList Codec.encRec x.2.2.2.2.1) ++ Codec.encList Codec.encChange x.2.2.2.2.2.1) ++ Codec.encDelta x.2.2.2.2.2.2.1) ++ ([x.2.2.2.2.2.2.2.1] : List Int).flatMap Codec.encInt) ++ Codec.encList Codec.encEntry x.2.2.2.2.2.2.2.2.1) ++ ([1, x.2.2.2.2.2.2.2.2.2.2] : List Int).flatMap Codec.encInt) := Z.rep_as hr163 (by intro b h1 h2; (try simp only [Z.nt, Z.iv, Z.no, Z.ol] at h1); (try simp only [Z.iv]); omega)
    have hxs167 : ((((((((b ++ ([x.1, x.2.1] : List Int).flatMap Codec.encInt) ++ Codec.encPlace x.2.2.1) ++ Codec.encTime x.2.2.2.1) ++ Codec.encList Codec.encRec x.2.2.2.2.1) ++ Codec.encList Codec.encChange x.2.2.2.2.2.1) ++ Codec.encDelta x.2.2.2.2.2.2.1) ++ ([x.2.2.2.2.2.2.2.1] : List Int).flatMap Codec.encInt) ++ Codec.encList Codec.encEntry x.2.2.2.2.2.2.2.2.1) ++ ([1, x.2.2.2.2.2.2.2.2.2.2] : List Int).flatMap Codec.encInt = (b ++ Codec.encMsg x : List UInt8) := by first | rfl | (simp [Codec.encMsg, Codec.b01, hcond]; done)
    have hr168 := Z.rep_eq hr166 hxs167
    have hb169 : Z.Blk w160 g 90 [.slice A161 ((b ++ Codec.encMsg x).length) c162] := Z.Blk.cast (show Z.Blk w160 g 90 [.slice A161 ((((((((((b ++ ([x.1, x.2.1] : List Int).flatMap Codec.encInt) ++ Codec.encPlace x.2.2.1) ++ Codec.encTime x.2.2.2.1) ++ Codec.encList Codec.encRec x.2.2.2.2.1) ++ Codec.encList Codec.encChange x.2.2.2.2.2.1) ++ Codec.encDelta x.2.2.2.2.2.2.1) ++ ([x.2.2.2.2.2.2.2.1] : List Int).flatMap Codec.encInt) ++ Codec.encList Codec.encEntry x.2.2.2.2.2.2.2.2.1) ++ ([1, x.2.2.2.2.2.2.2.2.2.2] : List Int).flatMap Codec.encInt).length) c162] from hb164) (by first | rfl | (simp only [hxs167]; done) | simp_all)
    have hq170 : Z.Ch [g] w w137 := hq135.then hc142
    have hq171 : Z.Ch [g] w w150 := hq170.then hc154
    have hq172 : Z.Ch [g] w w160 := hq171.then hc165
    refine Z.end0 hf Try.results21 ?_
    exact ⟨A161, c162, rfl, hr168, hb169, hq172⟩
  · intro hp173
    have hcond := hp173
    refine Z.skip ?_
    refine hn145 _ _ ?_
    refine Z.reg ?_
    refine Z.qr [.n, .n, .n, .b 0 18] [49, 50, 52] [] [(49, .pointer (some ⟨g, 0, none⟩)), (50, .int .i64 0), (52, .int .i64 x.2.2.2.2.2.2.2.2.2.2)] (Z.kb hb147 Z.k0) hf ?_; clear hf a; intro a hf
    refine Z.st_bslice hf rfl Try.underlying117 Try.sizeOf2 Try.zeroValue2 (parts := [(0, .tmp 50), (1, .tmp 52)]) (cs := [.int .i64 0, .int .i64 x.2.2.2.2.2.2.2.2.2.2]) rfl rfl rfl (by kernel_rfl) ?_; clear hf a; intro g174 w175 a hg176 hz177 hb178 hc179 hf
    have ho180 : Z.Own (Z.Ty.int .i64) 2 g174 w175 Z.no (some ⟨g174, 0, none⟩) 2 ([0, x.2.2.2.2.2.2.2.2.2.2] : List Int) := Z.Own.made (t := (Z.Ty.int .i64)) (xs := ([0, x.2.2.2.2.2.2.2.2.2.2] : List Int)) hb178 (Nat.le_refl _) rfl (by simp [maxLen]) (by simp [Value.oneCell']) (fun i x hi => by match i, hi with | 0, hi => (injection hi with hi; subst hi; exact (show (Z.Ty.int .i64).rep w175 (Z.nt []) [.int .i64 0] 0 from ⟨rfl, (Z.i64_has (by omega))⟩)) | 1, hi => (injection hi with hi; subst hi; exact (show (Z.Ty.int .i64).rep w175 (Z.nt []) [.int .i64 x.2.2.2.2.2.2.2.2.2.2] x.2.2.2.2.2.2.2.2.2.2 from ⟨rfl, pk8.2.2.2.2.2.2.2.2.2.2⟩)) | (j + 2), hi => simp at hi)
    have hb181 := hb141.ch0 hc179
    have hr182 := Z.rep_to (F' := (Z.nt [g])) hr140 hc179
    have hr183 := ho180.riv
    have hr184 := Z.rep_to (F' := (Z.nt [g])) hr183 (Z.Ch.refl w175)
    refine Z.call1 hf rfl (Z.r_call cf37 hf (xs := [.tmp 49, .tmp 53]) rfl) (w_ints ((((((((b ++ ([x.1, x.2.1] : List Int).flatMap Codec.encInt) ++ Codec.encPlace x.2.2.1) ++ Codec.encTime x.2.2.2.1) ++ Codec.encList Codec.encRec x.2.2.2.2.1) ++ Codec.encList Codec.encChange x.2.2.2.2.2.1) ++ Codec.encDelta x.2.2.2.2.2.2.1) ++ ([x.2.2.2.2.2.2.2.1] : List Int).flatMap Codec.encInt) ++ Codec.encList Codec.encEntry x.2.2.2.2.2.2.2.2.1) g ([0, x.2.2.2.2.2.2.2.2.2.2] : List Int) w175 A138 c139 (some ⟨g174, 0, none⟩) 2 hr182 hb181 hr184 (by first | omega | (simp only [List.length_append, List.flatMap_cons, List.flatMap_nil, List.flatten_cons, List.flatten_nil, List.length_nil, List.append_nil]; omega) | (simp [Codec.b01, hcond] at hb; simp only [List.length_append, List.flatMap_cons, List.flatMap_nil, List.flatten_cons, List.flatten_nil, List.length_nil, List.append_nil]; omega))) ?_; clear hf a
    rintro _ w185 ⟨A186, c187, rfl, hr188, hb189, hc190⟩
    have hzhc190 := hc190.size
    refine ⟨_, rfl, ?_⟩; intro a hf
    refine Z.done ?_
    have hr191 : (Z.Ty.slice Z.Ty.byte).rep w185 (Z.iv w.heap.size w185.heap.size) [.slice A186 ((((((((((b ++ ([x.1, x.2.1] : List Int).flatMap Codec.encInt) ++ Codec.encPlace x.2.2.1) ++ Codec.encTime x.2.2.2.1) ++ Codec.encList Codec.encRec x.2.2.2.2.1) ++ Codec.encList Codec.encChange x.2.2.2.2.2.1) ++ Codec.encDelta x.2.2.2.2.2.2.1) ++ ([x.2.2.2.2.2.2.2.1] : List Int).flatMap Codec.encInt) ++ Codec.encList Codec.encEntry x.2.2.2.2.2.2.2.2.1) ++ ([0, x.2.2.2.2.2.2.2.2.2.2] : List Int).flatMap Codec.encInt).length) c187] (((((((((b ++ ([x.1, x.2.1] : List Int).flatMap Codec.encInt) ++ Codec.encPlace x.2.2.1) ++ Codec.encTime x.2.2.2.1) ++ Codec.encList Codec.encRec x.2.2.2.2.1) ++ Codec.encList Codec.encChange x.2.2.2.2.2.1) ++ Codec.encDelta x.2.2.2.2.2.2.1) ++ ([x.2.2.2.2.2.2.2.1] : List Int).flatMap Codec.encInt) ++ Codec.encList Codec.encEntry x.2.2.2.2.2.2.2.2.1) ++ ([0, x.2.2.2.2.2.2.2.2.2.2] : List Int).flatMap Codec.encInt) := Z.rep_as hr188 (by intro b h1 h2; (try simp only [Z.nt, Z.iv, Z.no, Z.ol] at h1); (try simp only [Z.iv]); omega)
    have hxs192 : ((((((((b ++ ([x.1, x.2.1] : List Int).flatMap Codec.encInt) ++ Codec.encPlace x.2.2.1) ++ Codec.encTime x.2.2.2.1) ++ Codec.encList Codec.encRec x.2.2.2.2.1) ++ Codec.encList Codec.encChange x.2.2.2.2.2.1) ++ Codec.encDelta x.2.2.2.2.2.2.1) ++ ([x.2.2.2.2.2.2.2.1] : List Int).flatMap Codec.encInt) ++ Codec.encList Codec.encEntry x.2.2.2.2.2.2.2.2.1) ++ ([0, x.2.2.2.2.2.2.2.2.2.2] : List Int).flatMap Codec.encInt = (b ++ Codec.encMsg x : List UInt8) := by first | rfl | (simp [Codec.encMsg, Codec.b01, hcond]; done)
    have hr193 := Z.rep_eq hr191 hxs192
    have hb194 : Z.Blk w185 g 90 [.slice A186 ((b ++ Codec.encMsg x).length) c187] := Z.Blk.cast (show Z.Blk w185 g 90 [.slice A186 ((((((((((b ++ ([x.1, x.2.1] : List Int).flatMap Codec.encInt) ++ Codec.encPlace x.2.2.1) ++ Codec.encTime x.2.2.2.1) ++ Codec.encList Codec.encRec x.2.2.2.2.1) ++ Codec.encList Codec.encChange x.2.2.2.2.2.1) ++ Codec.encDelta x.2.2.2.2.2.2.1) ++ ([x.2.2.2.2.2.2.2.1] : List Int).flatMap Codec.encInt) ++ Codec.encList Codec.encEntry x.2.2.2.2.2.2.2.2.1) ++ ([0, x.2.2.2.2.2.2.2.2.2.2] : List Int).flatMap Codec.encInt).length) c187] from hb189) (by first | rfl | (simp only [hxs192]; done) | simp_all)
    have hq195 : Z.Ch [g] w w137 := hq135.then hc142
    have hq196 : Z.Ch [g] w w175 := hq195.then hc179
    have hq197 : Z.Ch [g] w w185 := hq196.then hc190
    refine Z.end0 hf Try.results21 ?_
    exact ⟨A186, c187, rfl, hr193, hb194, hq197⟩

end Go.Proofs.Ytlhpkogdcgebeaa
