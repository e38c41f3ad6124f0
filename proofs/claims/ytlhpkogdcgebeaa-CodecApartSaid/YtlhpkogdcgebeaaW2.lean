/- Walks: the writers of messages. -/
import Derived.Test.YtlhpkogdcgebeaaFn
import Derived.Test.YtlhpkogdcgebeaaZg
import Derived.Test.YtlhpkogdcgebeaaEo
import Derived.Test.YtlhpkogdcgebeaaW1
set_option linter.unusedVariables false
set_option linter.unusedSimpArgs false
namespace Go.Proofs.Ytlhpkogdcgebeaa
open Go.RowKit
set_option maxHeartbeats 400000 in
set_option maxRecDepth 20000 in
theorem WJoin_spec (xss : List (List UInt8)) (w : World) (pA0 : Option Addr) (pc0 : Nat) (ph0 : (Z.Ty.slice (Z.Ty.slice Z.Ty.byte)).rep w (Z.nt []) [.slice pA0 xss.length pc0] xss) (hlen : xss.flatten.length ≤ 70368744177664) :
    Calls Try.prog 25 #[.slice pA0 xss.length pc0] w fun e w' => ∃ (rA0 : Option Addr) (rc0 : Nat), e = .returned (.slice rA0 xss.flatten.length rc0) ∧ (Z.Ty.slice Z.Ty.byte).rep w' (Z.iv w.heap.size w'.heap.size) [.slice rA0 xss.flatten.length rc0] xss.flatten ∧ Z.Ch [] w w' := by
  refine Z.enter Try.func25 rfl Try.ntmps25 (Nat.le_of_ble_eq_true rfl) fun a hf => ?_
  replace hf : Z.Fr a 5 [] [(0, .slice pA0 xss.length pc0)] := hf
  have hle_pA0 := Z.rep_le ph0
  have ph0o := Z.rep_ol ph0
  refine Z.seq' (Z.Pq.body _ _ _) fun Q1 hp2 hn3 he4 => ?_
  refine Z.reg ?_
  refine Z.val hf rfl (Z.r_assign (hf.eval rfl)) ?_; clear hf a; intro a hf
  refine Z.done ?_
  refine hn3 _ _ ?_
  replace hf : Z.Fr a 5 [] [(0, .slice pA0 xss.length pc0)] := hf.keep [0]
  refine Z.seq' (Z.Pq.body _ _ _) fun Q5 hp6 hn7 he8 => ?_
  refine Z.reg ?_
  refine Z.val hf rfl (Z.r_move (hf.eval rfl)) ?_; clear hf a; intro a hf
  have hr9 : (Z.Ty.slice (Z.Ty.slice Z.Ty.byte)).rep w (Z.nt []) [.slice pA0 xss.length pc0] xss := Z.rep_to ph0o (Z.Ch.refl w) (by intro b h1 h2; (try simp only [Z.nt, Z.iv, Z.no, Z.ol, List.mem_cons, List.not_mem_nil, or_false, not_or, not_false_eq_true] at h1); (try simp only [Z.nt, Z.iv, Z.no, Z.ol, List.mem_cons, List.mem_append, List.not_mem_nil, or_false, not_or, not_false_eq_true, true_and, and_true]) <;> omega)
  have hcall := Join_spec (xss) w (pA0) (pc0) hr9 (by omega)
  refine Z.call1 hf rfl (Z.r_call cf47 hf (xs := [.tmp 3, .const (.slice none 0 0)]) rfl) hcall ?_; clear hcall hf a
  rintro _ w10 ⟨A11, c12, rfl, hr13, hc14⟩
  have hzhc14 := hc14.size
  refine ⟨_, rfl, ?_⟩; intro a hf
  refine Z.val hf rfl (Z.r_assign (hf.eval rfl)) ?_; clear hf a; intro a hf
  refine Z.done ?_
  refine hn7 _ _ ?_
  replace hf : Z.Fr a 5 [] [(2, .slice A11 ((xss.flatten).length) c12)] := hf.keep [2]
  refine wp_ret ?_
  have hr15 : (Z.Ty.slice Z.Ty.byte).rep w10 (Z.iv w.heap.size w10.heap.size) [.slice A11 ((xss.flatten).length) c12] xss.flatten := Z.rep_as hr13 (by intro b h1 h2; (try simp only [Z.nt, Z.iv, Z.no, Z.ol] at h1); (try simp only [Z.iv]); omega)
  replace hf := hf.setv (d := 2) (y := .slice A11 xss.flatten.length c12) rfl (by first | rfl | (congr 1; first | rfl | omega | (simp; done) | (simp; omega)))
  refine Z.ret1 hf Try.results25 rfl ?_
  exact ⟨A11, c12, rfl, hr15, hc14⟩

set_option maxHeartbeats 400000 in
set_option maxRecDepth 20000 in
theorem Ints_spec (ns : List Int) (w : World) (pA0 : Option Addr) (pc0 : Nat) (ph0 : (Z.Ty.slice (Z.Ty.int .i64)).rep w (Z.nt []) [.slice pA0 ns.length pc0] ns) (hb : (ns.flatMap Codec.encInt).length ≤ 70368744177664) :
    Calls Try.prog 54 #[.slice pA0 ns.length pc0] w fun e w' => ∃ (rA0 : Option Addr) (rc0 : Nat), e = .returned (.slice rA0 (ns.flatMap Codec.encInt).length rc0) ∧ Z.Own Z.Ty.byte 5 w.heap.size w' Z.no rA0 rc0 (ns.flatMap Codec.encInt) ∧ Z.Ch [] w w' := by
  refine Z.enter Try.func54 rfl Try.ntmps54 (Nat.le_of_ble_eq_true rfl) fun a hf => ?_
  replace hf : Z.Fr a 18 [] [(0, .slice pA0 ns.length pc0)] := hf
  have hle_pA0 := Z.rep_le ph0
  have ph0o := Z.rep_ol ph0
  refine Z.seq' (Z.Pq.body _ _ _) fun Q1 hp2 hn3 he4 => ?_
  refine Z.reg ?_
  refine Z.val hf rfl (Z.r_assign (hf.eval rfl)) ?_; clear hf a; intro a hf
  refine Z.done ?_
  refine hn3 _ _ ?_
  replace hf : Z.Fr a 18 [] [(0, .slice pA0 ns.length pc0)] := hf.keep [0]
  refine Z.seq' (Z.Pq.body _ _ _) fun Q5 hp6 hn7 he8 => ?_
  refine Z.reg ?_
  refine Z.val hf rfl (Z.r_assign (hf.eval rfl)) ?_; clear hf a; intro a hf
  refine Z.done ?_
  refine hn7 _ _ ?_
  replace hf : Z.Fr a 18 [] [(0, .slice pA0 ns.length pc0), (3, .slice none 0 0)] := hf.keep [0, 3]
  refine Z.seq' (Z.Pq.body _ _ _) fun Q9 hp10 hn11 he12 => ?_
  refine Z.seq' hp10 fun Q13 hp14 hn15 he16 => ?_
  refine Z.reg ?_
  refine Z.val hf rfl (Z.r_move (hf.eval rfl)) ?_; clear hf a; intro a hf
  refine Z.val hf rfl (Z.r_len Try.underlying117 (hf.eval rfl)) ?_; clear hf a; intro a hf
  refine Z.val hf rfl (Z.r_move (hf.eval rfl)) ?_; clear hf a; intro a hf
  refine Z.done ?_
  refine hn15 _ _ ?_
  replace hf : Z.Fr a 18 [] [(3, .slice none 0 0), (6, .slice pA0 ns.length pc0), (7, .int .i64 (ns.length : Int)), (8, .int .i64 0)] := hf.keep [3, 6, 7, 8]
  refine Z.block' hp10 fun Q17 hp18 hn19 hx20 he21 => ?_
  refine Z.loop' hp18 (fun m a wl => ∃ (k : Nat), ∃ (lA0 : Option Addr), ∃ (lc0 : Nat), m = ns.length - k ∧ Z.Ch [] w wl ∧ Z.Own Z.Ty.byte 5 w.heap.size wl Z.no lA0 lc0 ((ns.take k).flatMap Codec.encInt) ∧ k ≤ ns.length ∧ Z.Fr a 18 [] [(3, .slice lA0 (((ns.take k).flatMap Codec.encInt).length) lc0), (6, .slice pA0 ns.length pc0), (7, .int .i64 (ns.length : Int)), (8, .int .i64 (k : Int))]) (ns.length - 0) ?_ ?_
  · have hxs22 : ([] : List UInt8) = ((ns.take 0).flatMap Codec.encInt : List UInt8) := by first | rfl | (simp; done) | (rw [hfl.1] <;> (simp; done)) | (rw [Codec.fm_all _ (by omega)] <;> (simp; done))
    have ho23 := hxs22 ▸ (Z.Own.nil Z.Ty.byte 5 w.heap.size w Z.no)
    replace hf := hf.setv (d := 3) (y := .slice none (((ns.take 0).flatMap Codec.encInt).length) 0) rfl (by rw [← hxs22] <;> first | done | rfl)
    replace hf := hf.setv (d := 8) (y := .int .i64 (0 : Int)) rfl (congrArg (Value.int .i64) (by first | rfl | omega | (simp; done) | (simp; omega)))
    replace hf : Z.Fr a 18 [] [(3, .slice none (((ns.take 0).flatMap Codec.encInt).length) 0), (6, .slice pA0 ns.length pc0), (7, .int .i64 (ns.length : Int)), (8, .int .i64 (0 : Int))] := hf.keep [3, 6, 7, 8]
    exact ⟨0, none, 0, rfl, (Z.Ch.refl w), ho23, (by omega), hf⟩
  · rintro m36 a w24 ⟨k27, A32, c33, hm26, hc25, ho34, hk35, hf⟩ Q28 hp29 hn30 he31
    have hzhc25 := hc25.size
    refine Z.seq' hp29 fun Q37 hp38 hn39 he40 => ?_
    refine Z.reg ?_
    refine Z.val hf rfl (Z.r_lss (hf.eval rfl) (hf.eval rfl)) ?_; clear hf a; intro a hf
    refine Z.done ?_
    refine hn39 _ _ ?_
    replace hf : Z.Fr a 18 [] [(3, .slice A32 (((ns.take k27).flatMap Codec.encInt).length) c33), (6, .slice pA0 ns.length pc0), (7, .int .i64 (ns.length : Int)), (8, .int .i64 (k27 : Int)), (9, .bool (decide ((k27 : Int) < (ns.length : Int))))] := hf.keep [3, 6, 7, 8, 9]
    refine Z.seq' hp29 fun Q41 hp42 hn43 he44 => ?_
    refine Z.condp hf rfl ?_ ?_
    · intro hp45
      refine wp_skip ?_
      refine hn43 _ _ ?_
      replace hf : Z.Fr a 18 [] [(3, .slice A32 (((ns.take k27).flatMap Codec.encInt).length) c33), (6, .slice pA0 ns.length pc0), (7, .int .i64 (ns.length : Int)), (8, .int .i64 (k27 : Int))] := hf.keep [3, 6, 7, 8]
      refine Z.seq' hp29 fun Q46 hp47 hn48 he49 => ?_
      refine Z.block' hp47 fun Q50 hp51 hn52 hx53 he54 => ?_
      refine Z.seq' hp51 fun Q55 hp56 hn57 he58 => ?_
      refine Z.reg ?_
      have hr59 : (Z.Ty.slice (Z.Ty.int .i64)).rep w24 (Z.ol [] w.heap.size) [.slice pA0 ns.length pc0] ns := Z.rep_to ph0o hc25 (by intro b h1 h2; (try simp only [Z.nt, Z.iv, Z.no, Z.ol, List.mem_cons, List.not_mem_nil, or_false, not_or, not_false_eq_true] at h1); (try simp only [Z.nt, Z.iv, Z.no, Z.ol, List.mem_cons, List.mem_append, List.not_mem_nil, or_false, not_or, not_false_eq_true, true_and, and_true]) <;> omega)
      have hkx62 : k27 < (ns).length := (by omega)
      obtain ⟨ad60, es61, x62, hA63, hF64, hl65, hx66, hc67, hr68⟩ := Z.rep_el hr59 hkx62
      have hok69 := Z.rep_ok _ hr68
      have he70 := hr68.1
      have he71 : es61 = [.int .i64 x62] := by simp only [he70, List.cons_append, List.nil_append]
      rw [he71] at hc67
      have hfl := Codec.fm_step Codec.encInt hx66
      refine Z.val hf rfl (Z.r_indexAddrE Try.underlying117 Try.sizeOf2 (hf.eval rfl) hA63 (hf.eval rfl) (k := k27) (by first | rfl | omega) (by omega)) ?_; clear hf a; intro a hf
      refine Z.val hf rfl (Z.r_loadE1 Try.isAgg2 (hf.eval rfl) hc67 rfl) ?_; clear hf a; intro a hf
      refine Z.val hf rfl (Z.r_assign (hf.eval rfl)) ?_; clear hf a; intro a hf
      refine Z.done ?_
      refine hn57 _ _ ?_
      replace hf : Z.Fr a 18 [] [(3, .slice A32 (((ns.take k27).flatMap Codec.encInt).length) c33), (5, .int .i64 x62), (6, .slice pA0 ns.length pc0), (7, .int .i64 (ns.length : Int)), (8, .int .i64 (k27 : Int))] := hf.keep [3, 5, 6, 7, 8]
      refine Z.reg ?_
      refine Z.val hf rfl (Z.r_move (hf.eval rfl)) ?_; clear hf a; intro a hf
      refine Z.val hf rfl (Z.r_move (hf.eval rfl)) ?_; clear hf a; intro a hf
      have hcall := Int_spec (x62) w24  (by exact Z.has_i64 (by assumption))
      refine Z.call1 hf rfl (Z.r_call cf26 hf (xs := [.tmp 13]) rfl) hcall ?_; clear hcall hf a
      rintro _ w72 ⟨A73, c74, rfl, ho75, hc77⟩
      have hzhc77 := hc77.size
      refine ⟨_, rfl, ?_⟩; intro a hf
      have ho78 := ho34.ch0 hc77
      have hr79 := ho75.riv
      refine Z.st_append_flat (t := Z.Ty.byte) hf rfl Try.underlying40 inf5.1 inf5.2.1 inf5.2.2.1 inf5.2.2.2.1 inf5.2.2.2.2 (by decide) (by decide) rfl rfl (by first | rfl | omega) ho78 rfl hr79 (by first | omega | (simp only [List.length_cons, List.length_nil, List.length_append]; omega) | (simp; done))  (by omega) ?_; clear hf a; intro A80 c81 w82 a ho83 hc84 hcas85 hf
      have hzhc84 := hc84.size
      have hob86 : ∀ k, k ∈ Z.obl A80 → w.heap.size ≤ k ∧ k < w24.heap.size ∨ k = w72.heap.size := fun k hk => by rcases hcas85 k hk with h | h; (have := ho34.lt k h; omega); omega
      refine Z.val hf rfl (Z.r_assign (hf.eval rfl)) ?_; clear hf a; intro a hf
      refine Z.done ?_
      refine hn52 _ _ ?_
      refine hn48 _ _ ?_
      replace hf : Z.Fr a 18 [] [(3, .slice A80 ((((ns.take k27).flatMap Codec.encInt) ++ (Codec.encInt x62)).length) c81), (6, .slice pA0 ns.length pc0), (7, .int .i64 (ns.length : Int)), (8, .int .i64 (k27 : Int))] := hf.keep [3, 6, 7, 8]
      refine Z.reg ?_
      refine Z.val hf rfl (Z.r_add64 (hf.eval rfl) (hf.eval rfl) (by omega)) ?_; clear hf a; intro a hf
      refine Z.val hf rfl (Z.r_move (hf.eval rfl)) ?_; clear hf a; intro a hf
      refine Z.done ?_
      refine hn30 (ns.length - (k27 + 1)) _ _ ?_ ?_
      rotate_left
      have hxs88 : ((ns.take k27).flatMap Codec.encInt) ++ (Codec.encInt x62) = ((ns.take (k27 + 1 : Nat)).flatMap Codec.encInt : List UInt8) := by first | rfl | (simp; done) | (rw [hfl.1] <;> (simp; done)) | (rw [Codec.fm_all _ (by omega)] <;> (simp; done))
      have ho89 := hxs88 ▸ ho83
      replace hf := hf.setv (d := 3) (y := .slice A80 (((ns.take (k27 + 1 : Nat)).flatMap Codec.encInt).length) c81) rfl (by rw [← hxs88] <;> first | done | rfl)
      replace hf := hf.setv (d := 8) (y := .int .i64 ((k27 + 1 : Nat) : Int)) rfl (congrArg (Value.int .i64) (by first | rfl | omega | (simp; done) | (simp; omega)))
      have hq90 : Z.Ch [] w w72 := hc25.then hc77 (by simp) (by simp)
      have hq91 : Z.Ch ([] ++ Z.obl A32) w w82 := hq90.then hc84 (by simp) (by first | (intro k hk; simp [hk]; done) | (intro k hk; simp at hk; simp [hk]; done) | (intro k hk; simp at hk; rcases hk with hk | hk <;> simp [hk]))
      replace hf : Z.Fr a 18 [] [(3, .slice A80 (((ns.take (k27 + 1 : Nat)).flatMap Codec.encInt).length) c81), (6, .slice pA0 ns.length pc0), (7, .int .i64 (ns.length : Int)), (8, .int .i64 ((k27 + 1 : Nat) : Int))] := hf.keep [3, 6, 7, 8]
      exact ⟨k27 + 1, A80, c81, rfl, (hq91.mono (by intro k hk; exact (Classical.em (k ∈ Z.obl A32)).elim (fun hm0 => by have hob := ho34.lt k hm0; (try simp only [List.mem_cons, List.mem_append, List.not_mem_nil, or_false, false_or]) <;> omega) (fun hm0 => by (try simp only [hm0, List.mem_cons, List.mem_append, List.not_mem_nil, or_false, false_or] at hk ⊢) <;> omega))), ho89, (by omega), hf⟩
      rw [hm26]; omega
    · intro hp92
      refine wp_exit ?_
      refine he44 _ _ _ (by simp) ?_
      refine he31 _ _ _ (by simp) ?_
      refine hx20 _ _ ?_
      refine hn11 _ _ ?_
      replace hf : Z.Fr a 18 [] [(3, .slice A32 (((ns.take k27).flatMap Codec.encInt).length) c33)] := hf.keep [3]
      refine Z.seq' (Z.Pq.body _ _ _) fun Q93 hp94 hn95 he96 => ?_
      refine Z.reg ?_
      refine Z.val hf rfl (Z.r_move (hf.eval rfl)) ?_; clear hf a; intro a hf
      refine Z.val hf rfl (Z.r_assign (hf.eval rfl)) ?_; clear hf a; intro a hf
      refine Z.done ?_
      refine hn95 _ _ ?_
      replace hf : Z.Fr a 18 [] [(2, .slice A32 (((ns.take k27).flatMap Codec.encInt).length) c33)] := hf.keep [2]
      refine wp_ret ?_
      have hxs97 : (ns.take k27).flatMap Codec.encInt = (ns.flatMap Codec.encInt : List UInt8) := by first | rfl | (simp; done) | (rw [hfl.1] <;> (simp; done)) | (rw [Codec.fm_all _ (by omega)] <;> (simp; done))
      have ho98 := hxs97 ▸ ho34
      replace hf := hf.setv (d := 2) (y := .slice A32 ((ns.flatMap Codec.encInt).length) c33) rfl (by rw [← hxs97] <;> first | done | rfl)
      refine Z.ret1 hf Try.results54 rfl ?_
      exact ⟨A32, c33, rfl, ho98, hc25⟩

set_option maxHeartbeats 400000 in
set_option maxRecDepth 20000 in
theorem Text_spec (s : ByteArray) (w : World)   (hg : Codec.gText s) :
    Calls Try.prog 64 #[.string s] w fun e w' => ∃ (rA0 : Option Addr) (rc0 : Nat), e = .returned (.tuple #[.slice rA0 (Codec.encText s).length rc0, .int .i64 0]) ∧ Z.Own Z.Ty.byte 5 w.heap.size w' Z.no rA0 rc0 (Codec.encText s) ∧ Z.Ch [] w w' := by
  refine Z.enter Try.func64 rfl Try.ntmps64 (Nat.le_of_ble_eq_true rfl) fun a hf => ?_
  replace hf : Z.Fr a 12 [] [(0, .string s)] := hf
  have hg' := hg; unfold Codec.gText at hg'; have hil := Codec.encInt_length (s.size : Int)
  refine Z.seq' (Z.Pq.body _ _ _) fun Q1 hp2 hn3 he4 => ?_
  refine Z.reg ?_
  refine Z.val hf rfl (Z.r_assign (hf.eval rfl)) ?_; clear hf a; intro a hf
  refine Z.val hf rfl (Z.r_assign (hf.eval rfl)) ?_; clear hf a; intro a hf
  refine Z.done ?_
  refine hn3 _ _ ?_
  replace hf : Z.Fr a 12 [] [(0, .string s)] := hf.keep [0]
  refine Z.seq' (Z.Pq.body _ _ _) fun Q5 hp6 hn7 he8 => ?_
  refine Z.seq' hp6 fun Q9 hp10 hn11 he12 => ?_
  refine Z.reg ?_
  refine Z.val hf rfl (Z.r_move (hf.eval rfl)) ?_; clear hf a; intro a hf
  refine Z.val hf rfl (Z.r_lens Try.underlying9 (hf.eval rfl)) ?_; clear hf a; intro a hf
  refine Z.val hf rfl (Z.r_gtr (hf.eval rfl) (hf.eval rfl)) ?_; clear hf a; intro a hf
  refine Z.done ?_
  refine hn11 _ _ ?_
  replace hf : Z.Fr a 12 [] [(0, .string s), (6, .bool (decide (65536 < (s.size : Int))))] := hf.keep [0, 6]
  refine Z.condp hf rfl ?_ ?_
  · intro hp13
    exfalso; omega
  · intro hp14
    refine wp_skip ?_
    refine hn7 _ _ ?_
    replace hf : Z.Fr a 12 [] [(0, .string s)] := hf.keep [0]
    refine Z.seq' (Z.Pq.body _ _ _) fun Q15 hp16 hn17 he18 => ?_
    refine Z.reg ?_
    refine Z.val hf rfl (Z.r_move (hf.eval rfl)) ?_; clear hf a; intro a hf
    refine Z.val hf rfl (Z.r_lens Try.underlying9 (hf.eval rfl)) ?_; clear hf a; intro a hf
    have hcall := Int_spec ((s.size : Int)) w  (by unfold Codec.okInt; omega)
    refine Z.call1 hf rfl (Z.r_call cf26 hf (xs := [.tmp 8]) rfl) hcall ?_; clear hcall hf a
    rintro _ w19 ⟨A20, c21, rfl, ho22, hc24⟩
    have hzhc24 := hc24.size
    refine ⟨_, rfl, ?_⟩; intro a hf
    refine Z.val hf rfl (Z.r_move (hf.eval rfl)) ?_; clear hf a; intro a hf
    refine Z.st_append_str hf rfl Try.underlying40 Try.underlying9 inf5.1 inf5.2.1 inf5.2.2.1 inf5.2.2.2.1 rfl (by first | rfl | omega) ho22 rfl (by first | omega | (simp only [List.length_cons, List.length_nil, List.length_append]; omega) | (simp; done)) (by omega) ?_; clear hf a; intro A25 c26 w27 a ho28 hc29 hf
    have hzhc29 := hc29.size
    refine Z.val hf rfl (Z.r_assign (hf.eval rfl)) ?_; clear hf a; intro a hf
    refine Z.val hf rfl (Z.r_assign (hf.eval rfl)) ?_; clear hf a; intro a hf
    refine Z.done ?_
    refine hn17 _ _ ?_
    replace hf : Z.Fr a 12 [] [(2, .slice A25 (((Codec.encInt (s.size : Int)) ++ s.data.toList).length) c26), (3, .int .i64 0)] := hf.keep [2, 3]
    refine wp_ret ?_
    have hxs30 : (Codec.encInt (s.size : Int)) ++ s.data.toList = (Codec.encText s : List UInt8) := by first | rfl | (simp [Codec.encText]; done)
    have ho31 := hxs30 ▸ ho28
    replace hf := hf.setv (d := 2) (y := .slice A25 ((Codec.encText s).length) c26) rfl (by rw [← hxs30] <;> first | done | rfl)
    have hq32 : Z.Ch ([] ++ Z.obl A20) w w27 := hc24.then hc29 (by simp) (by first | (intro k hk; simp [hk]; done) | (intro k hk; simp at hk; simp [hk]; done) | (intro k hk; simp at hk; rcases hk with hk | hk <;> simp [hk]))
    refine Z.ret2 hf Try.results64 rfl rfl ?_
    exact ⟨A25, c26, rfl, ho31, (Z.Ch.mono hq32 (by intro k hk; exact (Classical.em (k ∈ Z.obl A20)).elim (fun hm0 => by have hob := ho22.lt k hm0; (try simp only [List.mem_cons, List.mem_append, List.not_mem_nil, or_false, false_or]) <;> omega) (fun hm0 => by (try simp only [hm0, List.mem_cons, List.mem_append, List.not_mem_nil, or_false, false_or] at hk ⊢) <;> omega)))⟩

set_option maxHeartbeats 400000 in
set_option maxRecDepth 20000 in
theorem w_ints (b : List UInt8) (g : Nat) (ns : List Int) (w : World) (pA0 : Option Addr) (pc0 : Nat) (pA1 : Option Addr) (pc1 : Nat) (ph0 : (Z.Ty.slice Z.Ty.byte).rep w (Z.nt [g]) [.slice pA0 b.length pc0] b) (pb1 : Z.Blk w g 90 [.slice pA0 b.length pc0]) (ph1 : (Z.Ty.slice (Z.Ty.int .i64)).rep w (Z.nt [g]) [.slice pA1 ns.length pc1] ns) (hb : b.length + (ns.flatMap Codec.encInt).length ≤ 70368744177664) :
    Calls Try.prog 37 #[.pointer (some ⟨g, 0, none⟩), .slice pA1 ns.length pc1] w fun e w' => ∃ (rA0 : Option Addr) (rc0 : Nat), e = .returned (.tuple #[]) ∧ (Z.Ty.slice Z.Ty.byte).rep w' (Z.iv w.heap.size w'.heap.size) [.slice rA0 (b ++ ns.flatMap Codec.encInt).length rc0] (b ++ ns.flatMap Codec.encInt) ∧ Z.Blk w' g 90 [.slice rA0 (b ++ ns.flatMap Codec.encInt).length rc0] ∧ Z.Ch [g] w w' := by
  refine Z.enter Try.func37 rfl Try.ntmps37 (Nat.le_of_ble_eq_true rfl) fun a hf => ?_
  replace hf : Z.Fr a 15 [] [(0, .pointer (some ⟨g, 0, none⟩)), (1, .slice pA1 ns.length pc1)] := hf
  have hlt_g := pb1.lt
  have hle_pA1 := Z.rep_le ph1
  have ph1o := Z.rep_ol ph1
  have hle_pA0 := Z.rep_le ph0
  have ph0o := Z.rep_ol ph0
  refine Z.dr_reg (S := fun w' => Z.Ch [g] w w') mixed ?_; intro w1 hc2 hz3
  refine Z.dr_val 0 hf rfl rfl (by kernel_rfl) (by kernel_rfl) (by kernel_rfl) (fun _ _ _ h => (Z.Pq.body _ _ _) _ _ _ _ _ h) (hc2.mono (by simp)) Z.wanted_none (fun _ hw => Z.r_move (hf.eval rfl)) ?_; clear hf a; intro a hf
  refine Z.dr_val 1 hf rfl rfl (by kernel_rfl) (by kernel_rfl) (by kernel_rfl) (fun _ _ _ h => (Z.Pq.body _ _ _) _ _ _ _ _ h) (hc2.mono (by simp)) Z.wanted_none (fun _ hw => Z.r_move (hf.eval rfl)) ?_; clear hf a; intro a hf
  refine Z.dr_val 2 hf rfl rfl (by kernel_rfl) (by kernel_rfl) (by kernel_rfl) (fun _ _ _ h => (Z.Pq.body _ _ _) _ _ _ _ _ h) (hc2.mono (by simp)) Z.wanted_none (fun _ hw => Z.r_nilCheck (hf.eval rfl)) ?_; clear hf a; intro a hf
  refine Z.dr_val 3 hf rfl rfl (by kernel_rfl) (by kernel_rfl) (by kernel_rfl) (fun _ _ _ h => (Z.Pq.body _ _ _) _ _ _ _ _ h) (hc2.mono (by simp)) Z.wanted_none (fun _ hw => Z.r_fieldAddrB Try.underlying90 rfl Try.sizeOf40 (hf.eval rfl) rfl) ?_; clear hf a; intro a hf
  refine Z.dr_val 5 hf rfl rfl (by kernel_rfl) (by kernel_rfl) (by kernel_rfl) (fun _ _ _ h => (Z.Pq.body _ _ _) _ _ _ _ _ h) (hc2.mono (by simp)) Z.wanted_none (fun _ hw => Z.r_move (hf.eval rfl)) ?_; clear hf a; intro a hf
  refine Z.dr_two 4 6 rfl rfl (by kernel_rfl) ?_ ?_
  · have hb4 := pb1.ch0 hc2
    refine Z.val hf rfl (Z.r_loadB Try.isAgg40 (hf.eval rfl) hb4 rfl) ?_; clear hf a; intro a hf
    refine Z.done ?_
    refine And.intro (hc2.mono (by simp)) ?_
    refine Z.dr_one 6 rfl (by kernel_rfl) ?_
    have hr5 : (Z.Ty.slice (Z.Ty.int .i64)).rep w1 (Z.nt []) [.slice pA1 ns.length pc1] ns := Z.rep_to ph1o hc2 (by intro b h1 h2; (try simp only [Z.nt, Z.iv, Z.no, Z.ol, List.mem_cons, List.not_mem_nil, or_false, not_or, not_false_eq_true] at h1); (try simp only [Z.nt, Z.iv, Z.no, Z.ol, List.mem_cons, List.mem_append, List.not_mem_nil, or_false, not_or, not_false_eq_true, true_and, and_true]) <;> omega)
    have hcall := Ints_spec (ns) w1 (pA1) (pc1) hr5 (by first | omega | (simp only [List.length_append, List.flatMap_cons, List.flatMap_nil, List.flatten_cons, List.flatten_nil, List.length_nil, List.append_nil]; omega))
    refine Z.call1 hf rfl (Z.r_call cf54 hf (xs := [.tmp 9]) rfl) hcall ?_; clear hcall hf a
    rintro _ w6 ⟨A7, c8, rfl, ho9, hc11⟩
    have hzhc11 := hc11.size
    refine ⟨_, rfl, ?_⟩; intro a hf
    refine Z.done ?_
    have hq12 : Z.Ch [] w w6 := hc2.then hc11 (by simp) (by simp)
    refine And.intro (hq12.mono (by simp)) ?_
    refine Z.dr_one 7 rfl (by kernel_rfl) ?_
    refine Z.st_bslice hf rfl Try.underlying46 Try.sizeOf40 Try.zeroValue40 (parts := [(0, .tmp 8), (1, .tmp 10)]) (cs := [.slice pA0 b.length pc0, .slice A7 ((ns.flatMap Codec.encInt).length) c8]) rfl rfl rfl (by kernel_rfl) ?_; clear hf a; intro g13 w14 a hg15 hz16 hb17 hc18 hf
    have hq20 : Z.Ch [] w w14 := hq12.then hc18 (by simp) (by simp)
    have hr21 : (Z.Ty.slice Z.Ty.byte).rep w14 (Z.nt []) [.slice pA0 b.length pc0] b := Z.rep_to ph0o hq20 (by intro b h1 h2; (try simp only [Z.nt, Z.iv, Z.no, Z.ol, List.mem_cons, List.not_mem_nil, or_false, not_or, not_false_eq_true] at h1); (try simp only [Z.nt, Z.iv, Z.no, Z.ol, List.mem_cons, List.mem_append, List.not_mem_nil, or_false, not_or, not_false_eq_true, true_and, and_true]) <;> omega)
    have hr22 := ho9.riv
    have hr23 : (Z.Ty.slice Z.Ty.byte).rep w14 (Z.nt []) [.slice A7 ((ns.flatMap Codec.encInt).length) c8] (ns.flatMap Codec.encInt) := Z.rep_to hr22 hc18 (by intro b h1 h2; (try simp only [Z.nt, Z.iv, Z.no, Z.ol, List.mem_cons, List.not_mem_nil, or_false, not_or, not_false_eq_true] at h1); (try simp only [Z.nt, Z.iv, Z.no, Z.ol, List.mem_cons, List.mem_append, List.not_mem_nil, or_false, not_or, not_false_eq_true, true_and, and_true]) <;> omega)
    have ho19 : Z.Own (Z.Ty.slice Z.Ty.byte) 40 g13 w14 (Z.nt []) (some ⟨g13, 0, none⟩) 2 ([b, ns.flatMap Codec.encInt] : List (List UInt8)) := Z.Own.made (t := (Z.Ty.slice Z.Ty.byte)) (xs := ([b, ns.flatMap Codec.encInt] : List (List UInt8))) hb17 (Nat.le_refl _) rfl (by simp [maxLen]) (by simp [Value.oneCell']) (fun i x hi => by match i, hi with | 0, hi => (injection hi with hi; subst hi; exact hr21) | 1, hi => (injection hi with hi; subst hi; exact hr23) | (j + 2), hi => simp at hi)
    refine Z.done ?_
    refine And.intro (hq20.mono (by simp)) ?_
    refine Z.dr_one 8 rfl (by kernel_rfl) ?_
    have hr24 := (ho19.rep' (F' := Z.nt []) (fun _ h => h) (fun _ _ _ => by simp [Z.nt]))
    have hcall := WJoin_spec (([b, ns.flatMap Codec.encInt] : List (List UInt8))) w14 (some ⟨g13, 0, none⟩) (2) hr24 (by first | omega | (simp only [List.length_append, List.flatMap_cons, List.flatMap_nil, List.flatten_cons, List.flatten_nil, List.length_nil, List.append_nil]; omega))
    refine Z.call1 hf rfl (Z.r_call cf25 hf (xs := [.tmp 11]) rfl) hcall ?_; clear hcall hf a
    rintro _ w25 ⟨A26, c27, rfl, hr28, hc29⟩
    have hzhc29 := hc29.size
    refine ⟨_, rfl, ?_⟩; intro a hf
    refine Z.done ?_
    have hq30 : Z.Ch [] w w25 := hq20.then hc29 (by simp) (by simp)
    refine And.intro (hq30.mono (by simp)) ?_
    refine Z.dr_val 9 hf rfl rfl (by kernel_rfl) (by kernel_rfl) (by kernel_rfl) (fun _ _ _ h => (Z.Pq.body _ _ _) _ _ _ _ _ h) (hq30.mono (by simp)) Z.wanted_none (fun _ hw => Z.r_nilCheck (hf.eval rfl)) ?_; clear hf a; intro a hf
    refine Z.dr_val 10 hf rfl rfl (by kernel_rfl) (by kernel_rfl) (by kernel_rfl) (fun _ _ _ h => (Z.Pq.body _ _ _) _ _ _ _ _ h) (hq30.mono (by simp)) Z.wanted_none (fun _ hw => Z.r_fieldAddrB Try.underlying90 rfl Try.sizeOf40 (hf.eval rfl) rfl) ?_; clear hf a; intro a hf
    refine Z.dr_one 11 rfl (by kernel_rfl) ?_
    have hq31 : Z.Ch [] w1 w14 := hc11.then hc18 (by simp) (by simp)
    have hq32 : Z.Ch [] w1 w25 := hq31.then hc29 (by simp) (by simp)
    have hb33 := hb4.ch0 hq32
    refine Z.st_store hf hb33 rfl rfl Try.sizeOf40 rfl rfl rfl (by simp [Value.oneCell']) rfl ?_; clear hf a; intro w34 a hz35 hb36 hc37 hf
    refine Z.done ?_
    have hq38 : Z.Ch [g] w w34 := hq30.then hc37 (by simp) (by simp)
    refine And.intro hq38 ?_
    refine Z.dr_done (by kernel_rfl) ?_
    have hr39 : (Z.Ty.slice Z.Ty.byte).rep w34 (Z.iv w14.heap.size w25.heap.size) [.slice A26 ((([b, ns.flatMap Codec.encInt] : List (List UInt8)).flatten).length) c27] (([b, ns.flatMap Codec.encInt] : List (List UInt8)).flatten) := Z.rep_to hr28 hc37 (by intro b h1 h2; (try simp only [Z.nt, Z.iv, Z.no, Z.ol, List.mem_cons, List.not_mem_nil, or_false, not_or, not_false_eq_true] at h1); (try simp only [Z.nt, Z.iv, Z.no, Z.ol, List.mem_cons, List.mem_append, List.not_mem_nil, or_false, not_or, not_false_eq_true, true_and, and_true]) <;> omega)
    have hr40 : (Z.Ty.slice Z.Ty.byte).rep w34 (Z.iv w.heap.size w34.heap.size) [.slice A26 ((([b, ns.flatMap Codec.encInt] : List (List UInt8)).flatten).length) c27] (([b, ns.flatMap Codec.encInt] : List (List UInt8)).flatten) := Z.rep_as hr39 (by intro b h1 h2; (try simp only [Z.nt, Z.iv, Z.no, Z.ol] at h1); (try simp only [Z.iv]); omega)
    have hxs41 : ([b, ns.flatMap Codec.encInt] : List (List UInt8)).flatten = (b ++ ns.flatMap Codec.encInt : List UInt8) := by first | rfl | (simp; done)
    have hr42 := Z.rep_eq hr40 hxs41
    have hb43 : Z.Blk w34 g 90 [.slice A26 ((b ++ ns.flatMap Codec.encInt).length) c27] := Z.Blk.cast hb36 (by first | rfl | (simp only [hxs41]; done) | simp_all)
    refine Z.end0 hf Try.results37 ?_
    exact ⟨A26, c27, rfl, hr42, hb43, hq38⟩
  · have hr44 : (Z.Ty.slice (Z.Ty.int .i64)).rep w1 (Z.nt []) [.slice pA1 ns.length pc1] ns := Z.rep_to ph1o hc2 (by intro b h1 h2; (try simp only [Z.nt, Z.iv, Z.no, Z.ol, List.mem_cons, List.not_mem_nil, or_false, not_or, not_false_eq_true] at h1); (try simp only [Z.nt, Z.iv, Z.no, Z.ol, List.mem_cons, List.mem_append, List.not_mem_nil, or_false, not_or, not_false_eq_true, true_and, and_true]) <;> omega)
    have hcall := Ints_spec (ns) w1 (pA1) (pc1) hr44 (by first | omega | (simp only [List.length_append, List.flatMap_cons, List.flatMap_nil, List.flatten_cons, List.flatten_nil, List.length_nil, List.append_nil]; omega))
    refine Z.call1 hf rfl (Z.r_call cf54 hf (xs := [.tmp 9]) rfl) hcall ?_; clear hcall hf a
    rintro _ w45 ⟨A46, c47, rfl, ho48, hc50⟩
    have hzhc50 := hc50.size
    refine ⟨_, rfl, ?_⟩; intro a hf
    refine Z.done ?_
    have hq51 : Z.Ch [] w w45 := hc2.then hc50 (by simp) (by simp)
    refine And.intro (hq51.mono (by simp)) ?_
    refine Z.dr_one 4 rfl (by kernel_rfl) ?_
    have hb52 := pb1.ch0 hq51
    refine Z.val hf rfl (Z.r_loadB Try.isAgg40 (hf.eval rfl) hb52 rfl) ?_; clear hf a; intro a hf
    refine Z.done ?_
    refine And.intro (hq51.mono (by simp)) ?_
    refine Z.dr_one 7 rfl (by kernel_rfl) ?_
    refine Z.st_bslice hf rfl Try.underlying46 Try.sizeOf40 Try.zeroValue40 (parts := [(0, .tmp 8), (1, .tmp 10)]) (cs := [.slice pA0 b.length pc0, .slice A46 ((ns.flatMap Codec.encInt).length) c47]) rfl rfl rfl (by kernel_rfl) ?_; clear hf a; intro g53 w54 a hg55 hz56 hb57 hc58 hf
    have hq60 : Z.Ch [] w w54 := hq51.then hc58 (by simp) (by simp)
    have hr61 : (Z.Ty.slice Z.Ty.byte).rep w54 (Z.nt []) [.slice pA0 b.length pc0] b := Z.rep_to ph0o hq60 (by intro b h1 h2; (try simp only [Z.nt, Z.iv, Z.no, Z.ol, List.mem_cons, List.not_mem_nil, or_false, not_or, not_false_eq_true] at h1); (try simp only [Z.nt, Z.iv, Z.no, Z.ol, List.mem_cons, List.mem_append, List.not_mem_nil, or_false, not_or, not_false_eq_true, true_and, and_true]) <;> omega)
    have hr62 := ho48.riv
    have hr63 : (Z.Ty.slice Z.Ty.byte).rep w54 (Z.nt []) [.slice A46 ((ns.flatMap Codec.encInt).length) c47] (ns.flatMap Codec.encInt) := Z.rep_to hr62 hc58 (by intro b h1 h2; (try simp only [Z.nt, Z.iv, Z.no, Z.ol, List.mem_cons, List.not_mem_nil, or_false, not_or, not_false_eq_true] at h1); (try simp only [Z.nt, Z.iv, Z.no, Z.ol, List.mem_cons, List.mem_append, List.not_mem_nil, or_false, not_or, not_false_eq_true, true_and, and_true]) <;> omega)
    have ho59 : Z.Own (Z.Ty.slice Z.Ty.byte) 40 g53 w54 (Z.nt []) (some ⟨g53, 0, none⟩) 2 ([b, ns.flatMap Codec.encInt] : List (List UInt8)) := Z.Own.made (t := (Z.Ty.slice Z.Ty.byte)) (xs := ([b, ns.flatMap Codec.encInt] : List (List UInt8))) hb57 (Nat.le_refl _) rfl (by simp [maxLen]) (by simp [Value.oneCell']) (fun i x hi => by match i, hi with | 0, hi => (injection hi with hi; subst hi; exact hr61) | 1, hi => (injection hi with hi; subst hi; exact hr63) | (j + 2), hi => simp at hi)
    refine Z.done ?_
    refine And.intro (hq60.mono (by simp)) ?_
    refine Z.dr_one 8 rfl (by kernel_rfl) ?_
    have hr64 := (ho59.rep' (F' := Z.nt []) (fun _ h => h) (fun _ _ _ => by simp [Z.nt]))
    have hcall := WJoin_spec (([b, ns.flatMap Codec.encInt] : List (List UInt8))) w54 (some ⟨g53, 0, none⟩) (2) hr64 (by first | omega | (simp only [List.length_append, List.flatMap_cons, List.flatMap_nil, List.flatten_cons, List.flatten_nil, List.length_nil, List.append_nil]; omega))
    refine Z.call1 hf rfl (Z.r_call cf25 hf (xs := [.tmp 11]) rfl) hcall ?_; clear hcall hf a
    rintro _ w65 ⟨A66, c67, rfl, hr68, hc69⟩
    have hzhc69 := hc69.size
    refine ⟨_, rfl, ?_⟩; intro a hf
    refine Z.done ?_
    have hq70 : Z.Ch [] w w65 := hq60.then hc69 (by simp) (by simp)
    refine And.intro (hq70.mono (by simp)) ?_
    refine Z.dr_val 9 hf rfl rfl (by kernel_rfl) (by kernel_rfl) (by kernel_rfl) (fun _ _ _ h => (Z.Pq.body _ _ _) _ _ _ _ _ h) (hq70.mono (by simp)) Z.wanted_none (fun _ hw => Z.r_nilCheck (hf.eval rfl)) ?_; clear hf a; intro a hf
    refine Z.dr_val 10 hf rfl rfl (by kernel_rfl) (by kernel_rfl) (by kernel_rfl) (fun _ _ _ h => (Z.Pq.body _ _ _) _ _ _ _ _ h) (hq70.mono (by simp)) Z.wanted_none (fun _ hw => Z.r_fieldAddrB Try.underlying90 rfl Try.sizeOf40 (hf.eval rfl) rfl) ?_; clear hf a; intro a hf
    refine Z.dr_one 11 rfl (by kernel_rfl) ?_
    have hq71 : Z.Ch [] w45 w65 := hc58.then hc69 (by simp) (by simp)
    have hb72 := hb52.ch0 hq71
    refine Z.st_store hf hb72 rfl rfl Try.sizeOf40 rfl rfl rfl (by simp [Value.oneCell']) rfl ?_; clear hf a; intro w73 a hz74 hb75 hc76 hf
    refine Z.done ?_
    have hq77 : Z.Ch [g] w w73 := hq70.then hc76 (by simp) (by simp)
    refine And.intro hq77 ?_
    refine Z.dr_done (by kernel_rfl) ?_
    have hr78 : (Z.Ty.slice Z.Ty.byte).rep w73 (Z.iv w54.heap.size w65.heap.size) [.slice A66 ((([b, ns.flatMap Codec.encInt] : List (List UInt8)).flatten).length) c67] (([b, ns.flatMap Codec.encInt] : List (List UInt8)).flatten) := Z.rep_to hr68 hc76 (by intro b h1 h2; (try simp only [Z.nt, Z.iv, Z.no, Z.ol, List.mem_cons, List.not_mem_nil, or_false, not_or, not_false_eq_true] at h1); (try simp only [Z.nt, Z.iv, Z.no, Z.ol, List.mem_cons, List.mem_append, List.not_mem_nil, or_false, not_or, not_false_eq_true, true_and, and_true]) <;> omega)
    have hr79 : (Z.Ty.slice Z.Ty.byte).rep w73 (Z.iv w.heap.size w73.heap.size) [.slice A66 ((([b, ns.flatMap Codec.encInt] : List (List UInt8)).flatten).length) c67] (([b, ns.flatMap Codec.encInt] : List (List UInt8)).flatten) := Z.rep_as hr78 (by intro b h1 h2; (try simp only [Z.nt, Z.iv, Z.no, Z.ol] at h1); (try simp only [Z.iv]); omega)
    have hxs80 : ([b, ns.flatMap Codec.encInt] : List (List UInt8)).flatten = (b ++ ns.flatMap Codec.encInt : List UInt8) := by first | rfl | (simp; done)
    have hr81 := Z.rep_eq hr79 hxs80
    have hb82 : Z.Blk w73 g 90 [.slice A66 ((b ++ ns.flatMap Codec.encInt).length) c67] := Z.Blk.cast hb75 (by first | rfl | (simp only [hxs80]; done) | simp_all)
    refine Z.end0 hf Try.results37 ?_
    exact ⟨A66, c67, rfl, hr81, hb82, hq77⟩

set_option maxHeartbeats 400000 in
set_option maxRecDepth 20000 in
theorem w_int (b : List UInt8) (g : Nat) (n : Int) (w : World) (pA0 : Option Addr) (pc0 : Nat) (ph0 : (Z.Ty.slice Z.Ty.byte).rep w (Z.nt [g]) [.slice pA0 b.length pc0] b) (pb1 : Z.Blk w g 90 [.slice pA0 b.length pc0]) (hb : b.length + (Codec.encInt n).length ≤ 70368744177664) (hn : Codec.okInt n) :
    Calls Try.prog 52 #[.pointer (some ⟨g, 0, none⟩), .int .i64 n] w fun e w' => ∃ (rA0 : Option Addr) (rc0 : Nat), e = .returned (.tuple #[]) ∧ (Z.Ty.slice Z.Ty.byte).rep w' (Z.iv w.heap.size w'.heap.size) [.slice rA0 (b ++ Codec.encInt n).length rc0] (b ++ Codec.encInt n) ∧ Z.Blk w' g 90 [.slice rA0 (b ++ Codec.encInt n).length rc0] ∧ Z.Ch [g] w w' := by
  refine Z.enter Try.func52 rfl Try.ntmps52 (Nat.le_of_ble_eq_true rfl) fun a hf => ?_
  replace hf : Z.Fr a 8 [] [(0, .pointer (some ⟨g, 0, none⟩)), (1, .int .i64 n)] := hf
  have hlt_g := pb1.lt
  have hle_pA0 := Z.rep_le ph0
  have ph0o := Z.rep_ol ph0
  have hn' := hn; unfold Codec.okInt at hn'
  refine Z.reg ?_
  refine Z.val hf rfl (Z.r_move (hf.eval rfl)) ?_; clear hf a; intro a hf
  refine Z.val hf rfl (Z.r_move (hf.eval rfl)) ?_; clear hf a; intro a hf
  refine Z.st_bslice hf rfl Try.underlying117 Try.sizeOf2 Try.zeroValue2 (parts := [(0, .tmp 5)]) (cs := [.int .i64 n]) rfl rfl rfl (by kernel_rfl) ?_; clear hf a; intro g1 w2 a hg3 hz4 hb5 hc6 hf
  have ho7 : Z.Own (Z.Ty.int .i64) 2 g1 w2 Z.no (some ⟨g1, 0, none⟩) 1 ([n] : List Int) := Z.Own.made (t := (Z.Ty.int .i64)) (xs := ([n] : List Int)) hb5 (Nat.le_refl _) rfl (by simp [maxLen]) (by simp [Value.oneCell']) (fun i x hi => by match i, hi with | 0, hi => (injection hi with hi; subst hi; exact ⟨rfl, (Z.i64_has (by omega))⟩) | (j + 1), hi => simp at hi)
  have hb8 := pb1.ch0 hc6
  have hr9 : (Z.Ty.slice Z.Ty.byte).rep w2 (Z.nt [g]) [.slice pA0 b.length pc0] b := Z.rep_to ph0o hc6 (by intro b h1 h2; (try simp only [Z.nt, Z.iv, Z.no, Z.ol, List.mem_cons, List.not_mem_nil, or_false, not_or, not_false_eq_true] at h1); (try simp only [Z.nt, Z.iv, Z.no, Z.ol, List.mem_cons, List.mem_append, List.not_mem_nil, or_false, not_or, not_false_eq_true, true_and, and_true]) <;> omega)
  have hr10 := ho7.riv
  have hr11 : (Z.Ty.slice (Z.Ty.int .i64)).rep w2 (Z.nt [g]) [.slice (some ⟨g1, 0, none⟩) 1 1] ([n] : List Int) := Z.rep_to hr10 (Z.Ch.refl w2) (by intro b h1 h2; (try simp only [Z.nt, Z.iv, Z.no, Z.ol, List.mem_cons, List.not_mem_nil, or_false, not_or, not_false_eq_true] at h1); (try simp only [Z.nt, Z.iv, Z.no, Z.ol, List.mem_cons, List.mem_append, List.not_mem_nil, or_false, not_or, not_false_eq_true, true_and, and_true]) <;> omega)
  have hcall := w_ints (b) (g) (([n] : List Int)) w2 (pA0) (pc0) (some ⟨g1, 0, none⟩) (1) hr9 hb8 hr11 (by first | omega | (simp only [List.length_append, List.flatMap_cons, List.flatMap_nil, List.flatten_cons, List.flatten_nil, List.length_nil, List.append_nil]; omega))
  refine Z.call1 hf rfl (Z.r_call cf37 hf (xs := [.tmp 4, .tmp 6]) rfl) hcall ?_; clear hcall hf a
  rintro _ w12 ⟨A13, c14, rfl, hr15, hb16, hc17⟩
  have hzhc17 := hc17.size
  refine ⟨_, rfl, ?_⟩; intro a hf
  refine Z.done ?_
  have hr18 : (Z.Ty.slice Z.Ty.byte).rep w12 (Z.iv w.heap.size w12.heap.size) [.slice A13 ((b ++ ([n] : List Int).flatMap Codec.encInt).length) c14] (b ++ ([n] : List Int).flatMap Codec.encInt) := Z.rep_as hr15 (by intro b h1 h2; (try simp only [Z.nt, Z.iv, Z.no, Z.ol] at h1); (try simp only [Z.iv]); omega)
  have hxs19 : b ++ ([n] : List Int).flatMap Codec.encInt = (b ++ Codec.encInt n : List UInt8) := by first | rfl | (simp; done)
  have hr20 := Z.rep_eq hr18 hxs19
  have hb21 : Z.Blk w12 g 90 [.slice A13 ((b ++ Codec.encInt n).length) c14] := Z.Blk.cast hb16 (by first | rfl | (simp only [hxs19]; done) | simp_all)
  have hq22 : Z.Ch [g] w w12 := hc6.then hc17 (by simp) (by simp)
  refine Z.end0 hf Try.results52 ?_
  exact ⟨A13, c14, rfl, hr20, hb21, hq22⟩

set_option maxHeartbeats 400000 in
set_option maxRecDepth 20000 in
theorem fails_none  (w : World)    :
    Calls Try.prog 51 #[.int .i64 0] w fun e w' => e = .returned (.tuple #[]) ∧ Z.Ch [] w w' := by
  refine Z.enter Try.func51 rfl Try.ntmps51 (Nat.le_of_ble_eq_true rfl) fun a hf => ?_
  replace hf : Z.Fr a 7 [] [(0, .int .i64 0)] := hf
  refine Z.seq' (Z.Pq.body _ _ _) fun Q1 hp2 hn3 he4 => ?_
  refine Z.reg ?_
  refine Z.val hf rfl (Z.r_move (hf.eval rfl)) ?_; clear hf a; intro a hf
  refine Z.val hf rfl (Z.r_neq (hf.eval rfl) (hf.eval rfl)) ?_; clear hf a; intro a hf
  refine Z.done ?_
  refine hn3 _ _ ?_
  replace hf : Z.Fr a 7 [] [(0, .int .i64 0), (3, .bool (decide (0 ≠ 0)))] := hf.keep [0, 3]
  refine Z.condp hf rfl ?_ ?_
  · intro hp5
    exfalso; omega
  · intro hp6
    refine wp_skip ?_
    refine Z.end0 hf Try.results51 ?_
    exact ⟨rfl, (Z.Ch.refl w)⟩

set_option maxHeartbeats 400000 in
set_option maxRecDepth 20000 in
theorem w_text (b : List UInt8) (g : Nat) (s : ByteArray) (w : World) (pA0 : Option Addr) (pc0 : Nat) (ph0 : (Z.Ty.slice Z.Ty.byte).rep w (Z.nt [g]) [.slice pA0 b.length pc0] b) (pb1 : Z.Blk w g 90 [.slice pA0 b.length pc0]) (hb : b.length + (Codec.encText s).length ≤ 70368744177664) (hg : Codec.gText s) :
    Calls Try.prog 53 #[.pointer (some ⟨g, 0, none⟩), .string s] w fun e w' => ∃ (rA0 : Option Addr) (rc0 : Nat), e = .returned (.tuple #[]) ∧ (Z.Ty.slice Z.Ty.byte).rep w' (Z.iv w.heap.size w'.heap.size) [.slice rA0 (b ++ Codec.encText s).length rc0] (b ++ Codec.encText s) ∧ Z.Blk w' g 90 [.slice rA0 (b ++ Codec.encText s).length rc0] ∧ Z.Ch [g] w w' := by
  refine Z.enter Try.func53 rfl Try.ntmps53 (Nat.le_of_ble_eq_true rfl) fun a hf => ?_
  replace hf : Z.Fr a 23 [] [(0, .pointer (some ⟨g, 0, none⟩)), (1, .string s)] := hf
  have hlt_g := pb1.lt
  have hle_pA0 := Z.rep_le ph0
  have ph0o := Z.rep_ol ph0
  refine Z.seq' (Z.Pq.body _ _ _) fun Q1 hp2 hn3 he4 => ?_
  refine Z.reg ?_
  refine Z.val hf rfl (Z.r_move (hf.eval rfl)) ?_; clear hf a; intro a hf
  have hcall := Text_spec (s) w  (by assumption)
  refine Z.call1 hf rfl (Z.r_call cf64 hf (xs := [.tmp 7]) rfl) hcall ?_; clear hcall hf a
  rintro _ w5 ⟨A6, c7, rfl, ho8, hc10⟩
  have hzhc10 := hc10.size
  refine ⟨_, rfl, ?_⟩; intro a hf
  refine Z.val hf rfl (Z.r_move (hf.eval rfl)) ?_; clear hf a; intro a hf
  refine Z.val hf rfl (Z.r_extract (hf.eval rfl) rfl) ?_; clear hf a; intro a hf
  refine Z.val hf rfl (Z.r_extract (hf.eval rfl) rfl) ?_; clear hf a; intro a hf
  refine Z.val hf rfl (Z.r_assign (hf.eval rfl)) ?_; clear hf a; intro a hf
  refine Z.val hf rfl (Z.r_assign (hf.eval rfl)) ?_; clear hf a; intro a hf
  refine Z.done ?_
  refine hn3 _ _ ?_
  replace hf : Z.Fr a 23 [] [(0, .pointer (some ⟨g, 0, none⟩)), (4, .slice A6 ((Codec.encText s).length) c7), (5, .int .i64 0)] := hf.keep [0, 4, 5]
  refine Z.seq' (Z.Pq.body _ _ _) fun Q11 hp12 hn13 he14 => ?_
  refine Z.reg ?_
  refine Z.val hf rfl (Z.r_move (hf.eval rfl)) ?_; clear hf a; intro a hf
  have hcall := fails_none  w5  
  refine Z.call1 hf rfl (Z.r_call cf51 hf (xs := [.tmp 11]) rfl) hcall ?_; clear hcall hf a
  rintro _ w15 ⟨rfl, hc16⟩
  have hzhc16 := hc16.size
  refine ⟨_, rfl, ?_⟩; intro a hf
  refine Z.done ?_
  refine hn13 _ _ ?_
  replace hf : Z.Fr a 23 [] [(0, .pointer (some ⟨g, 0, none⟩)), (4, .slice A6 ((Codec.encText s).length) c7)] := hf.keep [0, 4]
  refine Z.reg ?_
  refine Z.val hf rfl (Z.r_move (hf.eval rfl)) ?_; clear hf a; intro a hf
  refine Z.val hf rfl (Z.r_move (hf.eval rfl)) ?_; clear hf a; intro a hf
  refine Z.val hf rfl (Z.r_nilCheck (hf.eval rfl)) ?_; clear hf a; intro a hf
  refine Z.val hf rfl (Z.r_fieldAddrB Try.underlying90 rfl Try.sizeOf40 (hf.eval rfl) rfl) ?_; clear hf a; intro a hf
  have hq17 : Z.Ch [] w w15 := hc10.then hc16 (by simp) (by simp)
  have hb18 := pb1.ch0 hq17
  refine Z.val hf rfl (Z.r_loadB Try.isAgg40 (hf.eval rfl) hb18 rfl) ?_; clear hf a; intro a hf
  refine Z.val hf rfl (Z.r_move (hf.eval rfl)) ?_; clear hf a; intro a hf
  refine Z.st_bslice hf rfl Try.underlying46 Try.sizeOf40 Try.zeroValue40 (parts := [(0, .tmp 17), (1, .tmp 18)]) (cs := [.slice pA0 b.length pc0, .slice A6 ((Codec.encText s).length) c7]) rfl rfl rfl (by kernel_rfl) ?_; clear hf a; intro g19 w20 a hg21 hz22 hb23 hc24 hf
  have hq26 : Z.Ch [] w w20 := hq17.then hc24 (by simp) (by simp)
  have hr27 : (Z.Ty.slice Z.Ty.byte).rep w20 (Z.nt []) [.slice pA0 b.length pc0] b := Z.rep_to ph0o hq26 (by intro b h1 h2; (try simp only [Z.nt, Z.iv, Z.no, Z.ol, List.mem_cons, List.not_mem_nil, or_false, not_or, not_false_eq_true] at h1); (try simp only [Z.nt, Z.iv, Z.no, Z.ol, List.mem_cons, List.mem_append, List.not_mem_nil, or_false, not_or, not_false_eq_true, true_and, and_true]) <;> omega)
  have hr28 := ho8.riv
  have hq29 : Z.Ch [] w5 w20 := hc16.then hc24 (by simp) (by simp)
  have hr30 : (Z.Ty.slice Z.Ty.byte).rep w20 (Z.nt []) [.slice A6 ((Codec.encText s).length) c7] (Codec.encText s) := Z.rep_to hr28 hq29 (by intro b h1 h2; (try simp only [Z.nt, Z.iv, Z.no, Z.ol, List.mem_cons, List.not_mem_nil, or_false, not_or, not_false_eq_true] at h1); (try simp only [Z.nt, Z.iv, Z.no, Z.ol, List.mem_cons, List.mem_append, List.not_mem_nil, or_false, not_or, not_false_eq_true, true_and, and_true]) <;> omega)
  have ho25 : Z.Own (Z.Ty.slice Z.Ty.byte) 40 g19 w20 (Z.nt []) (some ⟨g19, 0, none⟩) 2 ([b, Codec.encText s] : List (List UInt8)) := Z.Own.made (t := (Z.Ty.slice Z.Ty.byte)) (xs := ([b, Codec.encText s] : List (List UInt8))) hb23 (Nat.le_refl _) rfl (by simp [maxLen]) (by simp [Value.oneCell']) (fun i x hi => by match i, hi with | 0, hi => (injection hi with hi; subst hi; exact hr27) | 1, hi => (injection hi with hi; subst hi; exact hr30) | (j + 2), hi => simp at hi)
  have hr31 := (ho25.rep' (F' := Z.nt []) (fun _ h => h) (fun _ _ _ => by simp [Z.nt]))
  have hcall := WJoin_spec (([b, Codec.encText s] : List (List UInt8))) w20 (some ⟨g19, 0, none⟩) (2) hr31 (by first | omega | (simp only [List.length_append, List.flatMap_cons, List.flatMap_nil, List.flatten_cons, List.flatten_nil, List.length_nil, List.append_nil]; omega))
  refine Z.call1 hf rfl (Z.r_call cf25 hf (xs := [.tmp 19]) rfl) hcall ?_; clear hcall hf a
  rintro _ w32 ⟨A33, c34, rfl, hr35, hc36⟩
  have hzhc36 := hc36.size
  refine ⟨_, rfl, ?_⟩; intro a hf
  refine Z.val hf rfl (Z.r_nilCheck (hf.eval rfl)) ?_; clear hf a; intro a hf
  refine Z.val hf rfl (Z.r_fieldAddrB Try.underlying90 rfl Try.sizeOf40 (hf.eval rfl) rfl) ?_; clear hf a; intro a hf
  have hq37 : Z.Ch [] w15 w32 := hc24.then hc36 (by simp) (by simp)
  have hb38 := hb18.ch0 hq37
  refine Z.st_store hf hb38 rfl rfl Try.sizeOf40 rfl rfl rfl (by simp [Value.oneCell']) rfl ?_; clear hf a; intro w39 a hz40 hb41 hc42 hf
  refine Z.done ?_
  have hr43 : (Z.Ty.slice Z.Ty.byte).rep w39 (Z.iv w20.heap.size w32.heap.size) [.slice A33 ((([b, Codec.encText s] : List (List UInt8)).flatten).length) c34] (([b, Codec.encText s] : List (List UInt8)).flatten) := Z.rep_to hr35 hc42 (by intro b h1 h2; (try simp only [Z.nt, Z.iv, Z.no, Z.ol, List.mem_cons, List.not_mem_nil, or_false, not_or, not_false_eq_true] at h1); (try simp only [Z.nt, Z.iv, Z.no, Z.ol, List.mem_cons, List.mem_append, List.not_mem_nil, or_false, not_or, not_false_eq_true, true_and, and_true]) <;> omega)
  have hr44 : (Z.Ty.slice Z.Ty.byte).rep w39 (Z.iv w.heap.size w39.heap.size) [.slice A33 ((([b, Codec.encText s] : List (List UInt8)).flatten).length) c34] (([b, Codec.encText s] : List (List UInt8)).flatten) := Z.rep_as hr43 (by intro b h1 h2; (try simp only [Z.nt, Z.iv, Z.no, Z.ol] at h1); (try simp only [Z.iv]); omega)
  have hxs45 : ([b, Codec.encText s] : List (List UInt8)).flatten = (b ++ Codec.encText s : List UInt8) := by first | rfl | (simp; done)
  have hr46 := Z.rep_eq hr44 hxs45
  have hb47 : Z.Blk w39 g 90 [.slice A33 ((b ++ Codec.encText s).length) c34] := Z.Blk.cast hb41 (by first | rfl | (simp only [hxs45]; done) | simp_all)
  have hq48 : Z.Ch [] w w32 := hq26.then hc36 (by simp) (by simp)
  have hq49 : Z.Ch [g] w w39 := hq48.then hc42 (by simp) (by simp)
  refine Z.end0 hf Try.results53 ?_
  exact ⟨A33, c34, rfl, hr46, hb47, hq49⟩

set_option maxHeartbeats 400000 in
set_option maxRecDepth 20000 in
theorem w_place (b : List UInt8) (g : Nat) (x : (Int × Int)) (w : World) (pA0 : Option Addr) (pc0 : Nat) (ph0 : (Z.Ty.slice Z.Ty.byte).rep w (Z.nt [g]) [.slice pA0 b.length pc0] b) (pb1 : Z.Blk w g 90 [.slice pA0 b.length pc0]) (pk2 : Z.Ty.ok (Z.Ty.pair (Z.Ty.int .i64) (Z.Ty.int .i64)) x) (hb : b.length + (Codec.encPlace x).length ≤ 70368744177664) :
    Calls Try.prog 38 #[.pointer (some ⟨g, 0, none⟩), .agg #[.int .i64 x.1, .int .i64 x.2]] w fun e w' => ∃ (rA0 : Option Addr) (rc0 : Nat), e = .returned (.tuple #[]) ∧ (Z.Ty.slice Z.Ty.byte).rep w' (Z.iv w.heap.size w'.heap.size) [.slice rA0 (b ++ Codec.encPlace x).length rc0] (b ++ Codec.encPlace x) ∧ Z.Blk w' g 90 [.slice rA0 (b ++ Codec.encPlace x).length rc0] ∧ Z.Ch [g] w w' := by
  refine Z.enter Try.func38 rfl Try.ntmps38 (Nat.le_of_ble_eq_true rfl) fun a hf => ?_
  replace hf : Z.Fr a 11 [] [(0, .pointer (some ⟨g, 0, none⟩)), (1, .agg #[.int .i64 x.1, .int .i64 x.2])] := hf
  have hlt_g := pb1.lt
  have hle_pA0 := Z.rep_le ph0
  have ph0o := Z.rep_ol ph0
  simp only [Codec.encPlace, List.length_append] at hb
  refine Z.seq' (Z.Pq.body _ _ _) fun Q1 hp2 hn3 he4 => ?_
  refine Z.reg ?_
  refine Z.st_box hf rfl rfl rfl ?_; clear hf a; intro g5 w6 a hg7 hz8 hb9 hc10 hf
  refine Z.done ?_
  refine hn3 _ _ ?_
  replace hf : Z.Fr a 11 [] [(0, .pointer (some ⟨g, 0, none⟩)), (3, .pointer (some ⟨g5, 0, none⟩))] := hf.keep [0, 3]
  refine Z.reg ?_
  refine Z.val hf rfl (Z.r_move (hf.eval rfl)) ?_; clear hf a; intro a hf
  refine Z.val hf rfl (Z.r_fieldAddrB Try.underlying23 rfl Try.sizeOf3 (hf.eval rfl) rfl) ?_; clear hf a; intro a hf
  refine Z.val hf rfl (Z.r_loadB Try.isAgg3 (hf.eval rfl) hb9 rfl) ?_; clear hf a; intro a hf
  refine Z.val hf rfl (Z.r_fieldAddrB Try.underlying23 rfl Try.sizeOf3 (hf.eval rfl) rfl) ?_; clear hf a; intro a hf
  refine Z.val hf rfl (Z.r_loadB Try.isAgg3 (hf.eval rfl) hb9 rfl) ?_; clear hf a; intro a hf
  refine Z.st_bslice hf rfl Try.underlying117 Try.sizeOf2 Try.zeroValue2 (parts := [(0, .tmp 6), (1, .tmp 8)]) (cs := [.int .i64 x.1, .int .i64 x.2]) rfl rfl rfl (by kernel_rfl) ?_; clear hf a; intro g11 w12 a hg13 hz14 hb15 hc16 hf
  have ho17 : Z.Own (Z.Ty.int .i64) 2 g11 w12 Z.no (some ⟨g11, 0, none⟩) 2 ([x.1, x.2] : List Int) := Z.Own.made (t := (Z.Ty.int .i64)) (xs := ([x.1, x.2] : List Int)) hb15 (Nat.le_refl _) rfl (by simp [maxLen]) (by simp [Value.oneCell']) (fun i x hi => by match i, hi with | 0, hi => (injection hi with hi; subst hi; exact ⟨rfl, pk2.1⟩) | 1, hi => (injection hi with hi; subst hi; exact ⟨rfl, pk2.2⟩) | (j + 2), hi => simp at hi)
  have hq18 : Z.Ch [] w w12 := hc10.then hc16 (by simp) (by simp)
  have hb19 := pb1.ch0 hq18
  have hr20 : (Z.Ty.slice Z.Ty.byte).rep w12 (Z.nt [g]) [.slice pA0 b.length pc0] b := Z.rep_to ph0o hq18 (by intro b h1 h2; (try simp only [Z.nt, Z.iv, Z.no, Z.ol, List.mem_cons, List.not_mem_nil, or_false, not_or, not_false_eq_true] at h1); (try simp only [Z.nt, Z.iv, Z.no, Z.ol, List.mem_cons, List.mem_append, List.not_mem_nil, or_false, not_or, not_false_eq_true, true_and, and_true]) <;> omega)
  have hr21 := ho17.riv
  have hr22 : (Z.Ty.slice (Z.Ty.int .i64)).rep w12 (Z.nt [g]) [.slice (some ⟨g11, 0, none⟩) 2 2] ([x.1, x.2] : List Int) := Z.rep_to hr21 (Z.Ch.refl w12) (by intro b h1 h2; (try simp only [Z.nt, Z.iv, Z.no, Z.ol, List.mem_cons, List.not_mem_nil, or_false, not_or, not_false_eq_true] at h1); (try simp only [Z.nt, Z.iv, Z.no, Z.ol, List.mem_cons, List.mem_append, List.not_mem_nil, or_false, not_or, not_false_eq_true, true_and, and_true]) <;> omega)
  have hcall := w_ints (b) (g) (([x.1, x.2] : List Int)) w12 (pA0) (pc0) (some ⟨g11, 0, none⟩) (2) hr20 hb19 hr22 (by first | omega | (simp only [List.length_append, List.flatMap_cons, List.flatMap_nil, List.flatten_cons, List.flatten_nil, List.length_nil, List.append_nil]; omega))
  refine Z.call1 hf rfl (Z.r_call cf37 hf (xs := [.tmp 4, .tmp 9]) rfl) hcall ?_; clear hcall hf a
  rintro _ w23 ⟨A24, c25, rfl, hr26, hb27, hc28⟩
  have hzhc28 := hc28.size
  refine ⟨_, rfl, ?_⟩; intro a hf
  refine Z.done ?_
  have hr29 : (Z.Ty.slice Z.Ty.byte).rep w23 (Z.iv w.heap.size w23.heap.size) [.slice A24 ((b ++ ([x.1, x.2] : List Int).flatMap Codec.encInt).length) c25] (b ++ ([x.1, x.2] : List Int).flatMap Codec.encInt) := Z.rep_as hr26 (by intro b h1 h2; (try simp only [Z.nt, Z.iv, Z.no, Z.ol] at h1); (try simp only [Z.iv]); omega)
  have hxs30 : b ++ ([x.1, x.2] : List Int).flatMap Codec.encInt = (b ++ Codec.encPlace x : List UInt8) := by first | rfl | (simp [Codec.encPlace]; done)
  have hr31 := Z.rep_eq hr29 hxs30
  have hb32 : Z.Blk w23 g 90 [.slice A24 ((b ++ Codec.encPlace x).length) c25] := Z.Blk.cast hb27 (by first | rfl | (simp only [hxs30]; done) | simp_all)
  have hq33 : Z.Ch [g] w w23 := hq18.then hc28 (by simp) (by simp)
  refine Z.end0 hf Try.results38 ?_
  exact ⟨A24, c25, rfl, hr31, hb32, hq33⟩

set_option maxHeartbeats 400000 in
set_option maxRecDepth 20000 in
theorem w_time (b : List UInt8) (g : Nat) (x : (Int × Int × (Int × Int × Int × Int))) (w : World) (pA0 : Option Addr) (pc0 : Nat) (ph0 : (Z.Ty.slice Z.Ty.byte).rep w (Z.nt [g]) [.slice pA0 b.length pc0] b) (pb1 : Z.Blk w g 90 [.slice pA0 b.length pc0]) (pk2 : Z.Ty.ok (Z.Ty.pair (Z.Ty.int .i64) (Z.Ty.pair (Z.Ty.int .i64) (Z.Ty.pair (Z.Ty.int .i64) (Z.Ty.pair (Z.Ty.int .i64) (Z.Ty.pair (Z.Ty.int .i64) (Z.Ty.int .i64)))))) x) (hb : b.length + (Codec.encTime x).length ≤ 70368744177664) :
    Calls Try.prog 39 #[.pointer (some ⟨g, 0, none⟩), .agg #[.int .i64 x.1, .int .i64 x.2.1, .int .i64 x.2.2.1, .int .i64 x.2.2.2.1, .int .i64 x.2.2.2.2.1, .int .i64 x.2.2.2.2.2]] w fun e w' => ∃ (rA0 : Option Addr) (rc0 : Nat), e = .returned (.tuple #[]) ∧ (Z.Ty.slice Z.Ty.byte).rep w' (Z.iv w.heap.size w'.heap.size) [.slice rA0 (b ++ Codec.encTime x).length rc0] (b ++ Codec.encTime x) ∧ Z.Blk w' g 90 [.slice rA0 (b ++ Codec.encTime x).length rc0] ∧ Z.Ch [g] w w' := by
  refine Z.enter Try.func39 rfl Try.ntmps39 (Nat.le_of_ble_eq_true rfl) fun a hf => ?_
  replace hf : Z.Fr a 15 [] [(0, .pointer (some ⟨g, 0, none⟩)), (1, .agg #[.int .i64 x.1, .int .i64 x.2.1, .int .i64 x.2.2.1, .int .i64 x.2.2.2.1, .int .i64 x.2.2.2.2.1, .int .i64 x.2.2.2.2.2])] := hf
  have hlt_g := pb1.lt
  have hle_pA0 := Z.rep_le ph0
  have ph0o := Z.rep_ol ph0
  simp only [Codec.encTime, Codec.encLim, List.length_append] at hb
  refine Z.seq' (Z.Pq.body _ _ _) fun Q1 hp2 hn3 he4 => ?_
  refine Z.reg ?_
  refine Z.st_box hf rfl rfl rfl ?_; clear hf a; intro g5 w6 a hg7 hz8 hb9 hc10 hf
  refine Z.done ?_
  refine hn3 _ _ ?_
  replace hf : Z.Fr a 15 [] [(0, .pointer (some ⟨g, 0, none⟩)), (3, .pointer (some ⟨g5, 0, none⟩))] := hf.keep [0, 3]
  refine Z.seq' (Z.Pq.body _ _ _) fun Q11 hp12 hn13 he14 => ?_
  refine Z.reg ?_
  refine Z.val hf rfl (Z.r_move (hf.eval rfl)) ?_; clear hf a; intro a hf
  refine Z.val hf rfl (Z.r_fieldAddrB Try.underlying26 rfl Try.sizeOf2 (hf.eval rfl) rfl) ?_; clear hf a; intro a hf
  refine Z.val hf rfl (Z.r_loadB Try.isAgg2 (hf.eval rfl) hb9 rfl) ?_; clear hf a; intro a hf
  refine Z.val hf rfl (Z.r_fieldAddrB Try.underlying26 rfl Try.sizeOf3 (hf.eval rfl) rfl) ?_; clear hf a; intro a hf
  refine Z.val hf rfl (Z.r_loadB Try.isAgg3 (hf.eval rfl) hb9 rfl) ?_; clear hf a; intro a hf
  refine Z.st_bslice hf rfl Try.underlying117 Try.sizeOf2 Try.zeroValue2 (parts := [(0, .tmp 6), (1, .tmp 8)]) (cs := [.int .i64 x.1, .int .i64 x.2.1]) rfl rfl rfl (by kernel_rfl) ?_; clear hf a; intro g15 w16 a hg17 hz18 hb19 hc20 hf
  have ho21 : Z.Own (Z.Ty.int .i64) 2 g15 w16 Z.no (some ⟨g15, 0, none⟩) 2 ([x.1, x.2.1] : List Int) := Z.Own.made (t := (Z.Ty.int .i64)) (xs := ([x.1, x.2.1] : List Int)) hb19 (Nat.le_refl _) rfl (by simp [maxLen]) (by simp [Value.oneCell']) (fun i x hi => by match i, hi with | 0, hi => (injection hi with hi; subst hi; exact ⟨rfl, pk2.1⟩) | 1, hi => (injection hi with hi; subst hi; exact ⟨rfl, pk2.2.1⟩) | (j + 2), hi => simp at hi)
  have hq22 : Z.Ch [] w w16 := hc10.then hc20 (by simp) (by simp)
  have hb23 := pb1.ch0 hq22
  have hr24 : (Z.Ty.slice Z.Ty.byte).rep w16 (Z.nt [g]) [.slice pA0 b.length pc0] b := Z.rep_to ph0o hq22 (by intro b h1 h2; (try simp only [Z.nt, Z.iv, Z.no, Z.ol, List.mem_cons, List.not_mem_nil, or_false, not_or, not_false_eq_true] at h1); (try simp only [Z.nt, Z.iv, Z.no, Z.ol, List.mem_cons, List.mem_append, List.not_mem_nil, or_false, not_or, not_false_eq_true, true_and, and_true]) <;> omega)
  have hr25 := ho21.riv
  have hr26 : (Z.Ty.slice (Z.Ty.int .i64)).rep w16 (Z.nt [g]) [.slice (some ⟨g15, 0, none⟩) 2 2] ([x.1, x.2.1] : List Int) := Z.rep_to hr25 (Z.Ch.refl w16) (by intro b h1 h2; (try simp only [Z.nt, Z.iv, Z.no, Z.ol, List.mem_cons, List.not_mem_nil, or_false, not_or, not_false_eq_true] at h1); (try simp only [Z.nt, Z.iv, Z.no, Z.ol, List.mem_cons, List.mem_append, List.not_mem_nil, or_false, not_or, not_false_eq_true, true_and, and_true]) <;> omega)
  have hcall := w_ints (b) (g) (([x.1, x.2.1] : List Int)) w16 (pA0) (pc0) (some ⟨g15, 0, none⟩) (2) hr24 hb23 hr26 (by first | omega | (simp only [List.length_append, List.flatMap_cons, List.flatMap_nil, List.flatten_cons, List.flatten_nil, List.length_nil, List.append_nil]; omega))
  refine Z.call1 hf rfl (Z.r_call cf37 hf (xs := [.tmp 4, .tmp 9]) rfl) hcall ?_; clear hcall hf a
  rintro _ w27 ⟨A28, c29, rfl, hr30, hb31, hc32⟩
  have hzhc32 := hc32.size
  refine ⟨_, rfl, ?_⟩; intro a hf
  refine Z.done ?_
  refine hn13 _ _ ?_
  replace hf : Z.Fr a 15 [] [(0, .pointer (some ⟨g, 0, none⟩)), (3, .pointer (some ⟨g5, 0, none⟩))] := hf.keep [0, 3]
  refine Z.reg ?_
  refine Z.val hf rfl (Z.r_move (hf.eval rfl)) ?_; clear hf a; intro a hf
  refine Z.val hf rfl (Z.r_fieldAddrB Try.underlying26 rfl Try.sizeOf24 (hf.eval rfl) rfl) ?_; clear hf a; intro a hf
  have hq33 : Z.Ch [g] w6 w27 := hc20.then hc32 (by simp) (by simp)
  have hb34 := hb9.ch hq33 (by simp only [List.mem_cons, List.mem_append, List.not_mem_nil, or_false, not_or, not_false_eq_true, and_true] <;> omega)
  have hr35 : (Z.Ty.slice (Z.Ty.int .i64)).rep w27 (Z.iv g5 (g5 + 1)) [.slice (some ⟨g5, 2, none⟩) 4 4] ([x.2.2.1, x.2.2.2.1, x.2.2.2.2.1, x.2.2.2.2.2] : List Int) := Z.rep_arr (t := (Z.Ty.int .i64)) (xs := ([x.2.2.1, x.2.2.2.1, x.2.2.2.2.1, x.2.2.2.2.2] : List Int)) hb34 ⟨Nat.le_refl _, Nat.lt_succ_self _⟩ (by simp [Z.Ty.size]) (by simp [maxLen]) (fun i x hi => by match i, hi with | 0, hi => (injection hi with hi; subst hi; exact ⟨rfl, pk2.2.2.1⟩) | 1, hi => (injection hi with hi; subst hi; exact ⟨rfl, pk2.2.2.2.1⟩) | 2, hi => (injection hi with hi; subst hi; exact ⟨rfl, pk2.2.2.2.2.1⟩) | 3, hi => (injection hi with hi; subst hi; exact ⟨rfl, pk2.2.2.2.2.2⟩) | (j + 4), hi => simp at hi)
  refine Z.val hf rfl (Z.r_slice_arr Try.underlying24 Try.sizeOf2 (hf.eval rfl)) ?_; clear hf a; intro a hf
  have hr36 : (Z.Ty.slice Z.Ty.byte).rep w27 (Z.nt [g]) [.slice A28 ((b ++ ([x.1, x.2.1] : List Int).flatMap Codec.encInt).length) c29] (b ++ ([x.1, x.2.1] : List Int).flatMap Codec.encInt) := Z.rep_to hr30 (Z.Ch.refl w27) (by intro b h1 h2; (try simp only [Z.nt, Z.iv, Z.no, Z.ol, List.mem_cons, List.not_mem_nil, or_false, not_or, not_false_eq_true] at h1); (try simp only [Z.nt, Z.iv, Z.no, Z.ol, List.mem_cons, List.mem_append, List.not_mem_nil, or_false, not_or, not_false_eq_true, true_and, and_true]) <;> omega)
  have hr37 : (Z.Ty.slice (Z.Ty.int .i64)).rep w27 (Z.nt [g]) [.slice (some ⟨g5, 2, none⟩) 4 4] ([x.2.2.1, x.2.2.2.1, x.2.2.2.2.1, x.2.2.2.2.2] : List Int) := Z.rep_to hr35 (Z.Ch.refl w27) (by intro b h1 h2; (try simp only [Z.nt, Z.iv, Z.no, Z.ol, List.mem_cons, List.not_mem_nil, or_false, not_or, not_false_eq_true] at h1); (try simp only [Z.nt, Z.iv, Z.no, Z.ol, List.mem_cons, List.mem_append, List.not_mem_nil, or_false, not_or, not_false_eq_true, true_and, and_true]) <;> omega)
  have hcall := w_ints (b ++ ([x.1, x.2.1] : List Int).flatMap Codec.encInt) (g) (([x.2.2.1, x.2.2.2.1, x.2.2.2.2.1, x.2.2.2.2.2] : List Int)) w27 (A28) (c29) ((some ⟨g5, 2, none⟩)) (4) hr36 hb31 hr37 (by first | omega | (simp only [List.length_append, List.flatMap_cons, List.flatMap_nil, List.flatten_cons, List.flatten_nil, List.length_nil, List.append_nil]; omega))
  refine Z.call1 hf rfl (Z.r_call cf37 hf (xs := [.tmp 11, .tmp 13]) rfl) hcall ?_; clear hcall hf a
  rintro _ w38 ⟨A39, c40, rfl, hr41, hb42, hc43⟩
  have hzhc43 := hc43.size
  refine ⟨_, rfl, ?_⟩; intro a hf
  refine Z.done ?_
  have hr44 : (Z.Ty.slice Z.Ty.byte).rep w38 (Z.iv w.heap.size w38.heap.size) [.slice A39 (((b ++ ([x.1, x.2.1] : List Int).flatMap Codec.encInt) ++ ([x.2.2.1, x.2.2.2.1, x.2.2.2.2.1, x.2.2.2.2.2] : List Int).flatMap Codec.encInt).length) c40] ((b ++ ([x.1, x.2.1] : List Int).flatMap Codec.encInt) ++ ([x.2.2.1, x.2.2.2.1, x.2.2.2.2.1, x.2.2.2.2.2] : List Int).flatMap Codec.encInt) := Z.rep_as hr41 (by intro b h1 h2; (try simp only [Z.nt, Z.iv, Z.no, Z.ol] at h1); (try simp only [Z.iv]); omega)
  have hxs45 : (b ++ ([x.1, x.2.1] : List Int).flatMap Codec.encInt) ++ ([x.2.2.1, x.2.2.2.1, x.2.2.2.2.1, x.2.2.2.2.2] : List Int).flatMap Codec.encInt = (b ++ Codec.encTime x : List UInt8) := by first | rfl | (simp [Codec.encTime, Codec.encLim]; done)
  have hr46 := Z.rep_eq hr44 hxs45
  have hb47 : Z.Blk w38 g 90 [.slice A39 ((b ++ Codec.encTime x).length) c40] := Z.Blk.cast hb42 (by first | rfl | (simp only [hxs45]; done) | simp_all)
  have hq48 : Z.Ch [g] w w27 := hq22.then hc32 (by simp) (by simp)
  have hq49 : Z.Ch [g] w w38 := hq48.then hc43 (by simp) (by simp)
  refine Z.end0 hf Try.results39 ?_
  exact ⟨A39, c40, rfl, hr46, hb47, hq49⟩

set_option maxHeartbeats 400000 in
set_option maxRecDepth 20000 in
theorem w_fn (b : List UInt8) (g : Nat) (x : (Int × Int × ByteArray)) (w : World) (pA0 : Option Addr) (pc0 : Nat) (ph0 : (Z.Ty.slice Z.Ty.byte).rep w (Z.nt [g]) [.slice pA0 b.length pc0] b) (pb1 : Z.Blk w g 90 [.slice pA0 b.length pc0]) (pk2 : Z.Ty.ok (Z.Ty.pair (Z.Ty.int .i64) (Z.Ty.pair (Z.Ty.int .i64) Z.Ty.str)) x) (hb : b.length + (Codec.encFn x).length ≤ 70368744177664) (hg : Codec.gFn x) :
    Calls Try.prog 65 #[.pointer (some ⟨g, 0, none⟩), .agg #[.int .i64 x.1, .int .i64 x.2.1, .string x.2.2]] w fun e w' => ∃ (rA0 : Option Addr) (rc0 : Nat), e = .returned (.tuple #[]) ∧ (Z.Ty.slice Z.Ty.byte).rep w' (Z.iv w.heap.size w'.heap.size) [.slice rA0 (b ++ Codec.encFn x).length rc0] (b ++ Codec.encFn x) ∧ Z.Blk w' g 90 [.slice rA0 (b ++ Codec.encFn x).length rc0] ∧ Z.Ch [g] w w' := by
  refine Z.enter Try.func65 rfl Try.ntmps65 (Nat.le_of_ble_eq_true rfl) fun a hf => ?_
  replace hf : Z.Fr a 15 [] [(0, .pointer (some ⟨g, 0, none⟩)), (1, .agg #[.int .i64 x.1, .int .i64 x.2.1, .string x.2.2])] := hf
  have hlt_g := pb1.lt
  have hle_pA0 := Z.rep_le ph0
  have ph0o := Z.rep_ol ph0
  simp only [Codec.encFn, List.length_append] at hb
  unfold Codec.gFn at hg
  refine Z.seq' (Z.Pq.body _ _ _) fun Q1 hp2 hn3 he4 => ?_
  refine Z.reg ?_
  refine Z.st_box hf rfl rfl rfl ?_; clear hf a; intro g5 w6 a hg7 hz8 hb9 hc10 hf
  refine Z.done ?_
  refine hn3 _ _ ?_
  replace hf : Z.Fr a 15 [] [(0, .pointer (some ⟨g, 0, none⟩)), (3, .pointer (some ⟨g5, 0, none⟩))] := hf.keep [0, 3]
  refine Z.seq' (Z.Pq.body _ _ _) fun Q11 hp12 hn13 he14 => ?_
  refine Z.reg ?_
  refine Z.val hf rfl (Z.r_move (hf.eval rfl)) ?_; clear hf a; intro a hf
  refine Z.val hf rfl (Z.r_fieldAddrB Try.underlying62 rfl Try.sizeOf3 (hf.eval rfl) rfl) ?_; clear hf a; intro a hf
  refine Z.val hf rfl (Z.r_loadB Try.isAgg3 (hf.eval rfl) hb9 rfl) ?_; clear hf a; intro a hf
  refine Z.val hf rfl (Z.r_fieldAddrB Try.underlying62 rfl Try.sizeOf2 (hf.eval rfl) rfl) ?_; clear hf a; intro a hf
  refine Z.val hf rfl (Z.r_loadB Try.isAgg2 (hf.eval rfl) hb9 rfl) ?_; clear hf a; intro a hf
  refine Z.st_bslice hf rfl Try.underlying117 Try.sizeOf2 Try.zeroValue2 (parts := [(0, .tmp 6), (1, .tmp 8)]) (cs := [.int .i64 x.1, .int .i64 x.2.1]) rfl rfl rfl (by kernel_rfl) ?_; clear hf a; intro g15 w16 a hg17 hz18 hb19 hc20 hf
  have ho21 : Z.Own (Z.Ty.int .i64) 2 g15 w16 Z.no (some ⟨g15, 0, none⟩) 2 ([x.1, x.2.1] : List Int) := Z.Own.made (t := (Z.Ty.int .i64)) (xs := ([x.1, x.2.1] : List Int)) hb19 (Nat.le_refl _) rfl (by simp [maxLen]) (by simp [Value.oneCell']) (fun i x hi => by match i, hi with | 0, hi => (injection hi with hi; subst hi; exact ⟨rfl, pk2.1⟩) | 1, hi => (injection hi with hi; subst hi; exact ⟨rfl, pk2.2.1⟩) | (j + 2), hi => simp at hi)
  have hq22 : Z.Ch [] w w16 := hc10.then hc20 (by simp) (by simp)
  have hb23 := pb1.ch0 hq22
  have hr24 : (Z.Ty.slice Z.Ty.byte).rep w16 (Z.nt [g]) [.slice pA0 b.length pc0] b := Z.rep_to ph0o hq22 (by intro b h1 h2; (try simp only [Z.nt, Z.iv, Z.no, Z.ol, List.mem_cons, List.not_mem_nil, or_false, not_or, not_false_eq_true] at h1); (try simp only [Z.nt, Z.iv, Z.no, Z.ol, List.mem_cons, List.mem_append, List.not_mem_nil, or_false, not_or, not_false_eq_true, true_and, and_true]) <;> omega)
  have hr25 := ho21.riv
  have hr26 : (Z.Ty.slice (Z.Ty.int .i64)).rep w16 (Z.nt [g]) [.slice (some ⟨g15, 0, none⟩) 2 2] ([x.1, x.2.1] : List Int) := Z.rep_to hr25 (Z.Ch.refl w16) (by intro b h1 h2; (try simp only [Z.nt, Z.iv, Z.no, Z.ol, List.mem_cons, List.not_mem_nil, or_false, not_or, not_false_eq_true] at h1); (try simp only [Z.nt, Z.iv, Z.no, Z.ol, List.mem_cons, List.mem_append, List.not_mem_nil, or_false, not_or, not_false_eq_true, true_and, and_true]) <;> omega)
  have hcall := w_ints (b) (g) (([x.1, x.2.1] : List Int)) w16 (pA0) (pc0) (some ⟨g15, 0, none⟩) (2) hr24 hb23 hr26 (by first | omega | (simp only [List.length_append, List.flatMap_cons, List.flatMap_nil, List.flatten_cons, List.flatten_nil, List.length_nil, List.append_nil]; omega))
  refine Z.call1 hf rfl (Z.r_call cf37 hf (xs := [.tmp 4, .tmp 9]) rfl) hcall ?_; clear hcall hf a
  rintro _ w27 ⟨A28, c29, rfl, hr30, hb31, hc32⟩
  have hzhc32 := hc32.size
  refine ⟨_, rfl, ?_⟩; intro a hf
  refine Z.done ?_
  refine hn13 _ _ ?_
  replace hf : Z.Fr a 15 [] [(0, .pointer (some ⟨g, 0, none⟩)), (3, .pointer (some ⟨g5, 0, none⟩))] := hf.keep [0, 3]
  refine Z.reg ?_
  refine Z.val hf rfl (Z.r_move (hf.eval rfl)) ?_; clear hf a; intro a hf
  refine Z.val hf rfl (Z.r_fieldAddrB Try.underlying62 rfl Try.sizeOf9 (hf.eval rfl) rfl) ?_; clear hf a; intro a hf
  have hq33 : Z.Ch [g] w6 w27 := hc20.then hc32 (by simp) (by simp)
  have hb34 := hb9.ch hq33 (by simp only [List.mem_cons, List.mem_append, List.not_mem_nil, or_false, not_or, not_false_eq_true, and_true] <;> omega)
  refine Z.val hf rfl (Z.r_loadB Try.isAgg9 (hf.eval rfl) hb34 rfl) ?_; clear hf a; intro a hf
  have hr35 : (Z.Ty.slice Z.Ty.byte).rep w27 (Z.nt [g]) [.slice A28 ((b ++ ([x.1, x.2.1] : List Int).flatMap Codec.encInt).length) c29] (b ++ ([x.1, x.2.1] : List Int).flatMap Codec.encInt) := Z.rep_to hr30 (Z.Ch.refl w27) (by intro b h1 h2; (try simp only [Z.nt, Z.iv, Z.no, Z.ol, List.mem_cons, List.not_mem_nil, or_false, not_or, not_false_eq_true] at h1); (try simp only [Z.nt, Z.iv, Z.no, Z.ol, List.mem_cons, List.mem_append, List.not_mem_nil, or_false, not_or, not_false_eq_true, true_and, and_true]) <;> omega)
  have hcall := w_text (b ++ ([x.1, x.2.1] : List Int).flatMap Codec.encInt) (g) (x.2.2) w27 (A28) (c29) hr35 hb31 (by first | omega | (simp only [List.length_append, List.flatMap_cons, List.flatMap_nil, List.flatten_cons, List.flatten_nil, List.length_nil, List.append_nil]; omega)) (by assumption)
  refine Z.call1 hf rfl (Z.r_call cf53 hf (xs := [.tmp 11, .tmp 13]) rfl) hcall ?_; clear hcall hf a
  rintro _ w36 ⟨A37, c38, rfl, hr39, hb40, hc41⟩
  have hzhc41 := hc41.size
  refine ⟨_, rfl, ?_⟩; intro a hf
  refine Z.done ?_
  have hr42 : (Z.Ty.slice Z.Ty.byte).rep w36 (Z.iv w.heap.size w36.heap.size) [.slice A37 (((b ++ ([x.1, x.2.1] : List Int).flatMap Codec.encInt) ++ Codec.encText x.2.2).length) c38] ((b ++ ([x.1, x.2.1] : List Int).flatMap Codec.encInt) ++ Codec.encText x.2.2) := Z.rep_as hr39 (by intro b h1 h2; (try simp only [Z.nt, Z.iv, Z.no, Z.ol] at h1); (try simp only [Z.iv]); omega)
  have hxs43 : (b ++ ([x.1, x.2.1] : List Int).flatMap Codec.encInt) ++ Codec.encText x.2.2 = (b ++ Codec.encFn x : List UInt8) := by first | rfl | (simp [Codec.encFn]; done)
  have hr44 := Z.rep_eq hr42 hxs43
  have hb45 : Z.Blk w36 g 90 [.slice A37 ((b ++ Codec.encFn x).length) c38] := Z.Blk.cast hb40 (by first | rfl | (simp only [hxs43]; done) | simp_all)
  have hq46 : Z.Ch [g] w w27 := hq22.then hc32 (by simp) (by simp)
  have hq47 : Z.Ch [g] w w36 := hq46.then hc41 (by simp) (by simp)
  refine Z.end0 hf Try.results65 ?_
  exact ⟨A37, c38, rfl, hr44, hb45, hq47⟩

set_option maxHeartbeats 400000 in
set_option maxRecDepth 20000 in
theorem w_rec (b : List UInt8) (g : Nat) (x : (Int × ByteArray)) (w : World) (pA0 : Option Addr) (pc0 : Nat) (ph0 : (Z.Ty.slice Z.Ty.byte).rep w (Z.nt [g]) [.slice pA0 b.length pc0] b) (pb1 : Z.Blk w g 90 [.slice pA0 b.length pc0]) (pk2 : Z.Ty.ok (Z.Ty.pair (Z.Ty.int .i64) Z.Ty.str) x) (hb : b.length + (Codec.encRec x).length ≤ 70368744177664) (hg : Codec.gRec x) :
    Calls Try.prog 41 #[.pointer (some ⟨g, 0, none⟩), .agg #[.int .i64 x.1, .string x.2]] w fun e w' => ∃ (rA0 : Option Addr) (rc0 : Nat), e = .returned (.tuple #[]) ∧ (Z.Ty.slice Z.Ty.byte).rep w' (Z.iv w.heap.size w'.heap.size) [.slice rA0 (b ++ Codec.encRec x).length rc0] (b ++ Codec.encRec x) ∧ Z.Blk w' g 90 [.slice rA0 (b ++ Codec.encRec x).length rc0] ∧ Z.Ch [g] w w' := by
  refine Z.enter Try.func41 rfl Try.ntmps41 (Nat.le_of_ble_eq_true rfl) fun a hf => ?_
  replace hf : Z.Fr a 13 [] [(0, .pointer (some ⟨g, 0, none⟩)), (1, .agg #[.int .i64 x.1, .string x.2])] := hf
  have hlt_g := pb1.lt
  have hle_pA0 := Z.rep_le ph0
  have ph0o := Z.rep_ol ph0
  simp only [Codec.encRec, List.length_append] at hb
  unfold Codec.gRec at hg
  refine Z.seq' (Z.Pq.body _ _ _) fun Q1 hp2 hn3 he4 => ?_
  refine Z.reg ?_
  refine Z.st_box hf rfl rfl rfl ?_; clear hf a; intro g5 w6 a hg7 hz8 hb9 hc10 hf
  refine Z.done ?_
  refine hn3 _ _ ?_
  replace hf : Z.Fr a 13 [] [(0, .pointer (some ⟨g, 0, none⟩)), (3, .pointer (some ⟨g5, 0, none⟩))] := hf.keep [0, 3]
  refine Z.seq' (Z.Pq.body _ _ _) fun Q11 hp12 hn13 he14 => ?_
  refine Z.reg ?_
  refine Z.val hf rfl (Z.r_move (hf.eval rfl)) ?_; clear hf a; intro a hf
  refine Z.val hf rfl (Z.r_fieldAddrB Try.underlying60 rfl Try.sizeOf2 (hf.eval rfl) rfl) ?_; clear hf a; intro a hf
  refine Z.val hf rfl (Z.r_loadB Try.isAgg2 (hf.eval rfl) hb9 rfl) ?_; clear hf a; intro a hf
  refine Z.st_bslice hf rfl Try.underlying117 Try.sizeOf2 Try.zeroValue2 (parts := [(0, .tmp 6)]) (cs := [.int .i64 x.1]) rfl rfl rfl (by kernel_rfl) ?_; clear hf a; intro g15 w16 a hg17 hz18 hb19 hc20 hf
  have ho21 : Z.Own (Z.Ty.int .i64) 2 g15 w16 Z.no (some ⟨g15, 0, none⟩) 1 ([x.1] : List Int) := Z.Own.made (t := (Z.Ty.int .i64)) (xs := ([x.1] : List Int)) hb19 (Nat.le_refl _) rfl (by simp [maxLen]) (by simp [Value.oneCell']) (fun i x hi => by match i, hi with | 0, hi => (injection hi with hi; subst hi; exact ⟨rfl, pk2.1⟩) | (j + 1), hi => simp at hi)
  have hq22 : Z.Ch [] w w16 := hc10.then hc20 (by simp) (by simp)
  have hb23 := pb1.ch0 hq22
  have hr24 : (Z.Ty.slice Z.Ty.byte).rep w16 (Z.nt [g]) [.slice pA0 b.length pc0] b := Z.rep_to ph0o hq22 (by intro b h1 h2; (try simp only [Z.nt, Z.iv, Z.no, Z.ol, List.mem_cons, List.not_mem_nil, or_false, not_or, not_false_eq_true] at h1); (try simp only [Z.nt, Z.iv, Z.no, Z.ol, List.mem_cons, List.mem_append, List.not_mem_nil, or_false, not_or, not_false_eq_true, true_and, and_true]) <;> omega)
  have hr25 := ho21.riv
  have hr26 : (Z.Ty.slice (Z.Ty.int .i64)).rep w16 (Z.nt [g]) [.slice (some ⟨g15, 0, none⟩) 1 1] ([x.1] : List Int) := Z.rep_to hr25 (Z.Ch.refl w16) (by intro b h1 h2; (try simp only [Z.nt, Z.iv, Z.no, Z.ol, List.mem_cons, List.not_mem_nil, or_false, not_or, not_false_eq_true] at h1); (try simp only [Z.nt, Z.iv, Z.no, Z.ol, List.mem_cons, List.mem_append, List.not_mem_nil, or_false, not_or, not_false_eq_true, true_and, and_true]) <;> omega)
  have hcall := w_ints (b) (g) (([x.1] : List Int)) w16 (pA0) (pc0) (some ⟨g15, 0, none⟩) (1) hr24 hb23 hr26 (by first | omega | (simp only [List.length_append, List.flatMap_cons, List.flatMap_nil, List.flatten_cons, List.flatten_nil, List.length_nil, List.append_nil]; omega))
  refine Z.call1 hf rfl (Z.r_call cf37 hf (xs := [.tmp 4, .tmp 7]) rfl) hcall ?_; clear hcall hf a
  rintro _ w27 ⟨A28, c29, rfl, hr30, hb31, hc32⟩
  have hzhc32 := hc32.size
  refine ⟨_, rfl, ?_⟩; intro a hf
  refine Z.done ?_
  refine hn13 _ _ ?_
  replace hf : Z.Fr a 13 [] [(0, .pointer (some ⟨g, 0, none⟩)), (3, .pointer (some ⟨g5, 0, none⟩))] := hf.keep [0, 3]
  refine Z.reg ?_
  refine Z.val hf rfl (Z.r_move (hf.eval rfl)) ?_; clear hf a; intro a hf
  refine Z.val hf rfl (Z.r_fieldAddrB Try.underlying60 rfl Try.sizeOf9 (hf.eval rfl) rfl) ?_; clear hf a; intro a hf
  have hq33 : Z.Ch [g] w6 w27 := hc20.then hc32 (by simp) (by simp)
  have hb34 := hb9.ch hq33 (by simp only [List.mem_cons, List.mem_append, List.not_mem_nil, or_false, not_or, not_false_eq_true, and_true] <;> omega)
  refine Z.val hf rfl (Z.r_loadB Try.isAgg9 (hf.eval rfl) hb34 rfl) ?_; clear hf a; intro a hf
  have hr35 : (Z.Ty.slice Z.Ty.byte).rep w27 (Z.nt [g]) [.slice A28 ((b ++ ([x.1] : List Int).flatMap Codec.encInt).length) c29] (b ++ ([x.1] : List Int).flatMap Codec.encInt) := Z.rep_to hr30 (Z.Ch.refl w27) (by intro b h1 h2; (try simp only [Z.nt, Z.iv, Z.no, Z.ol, List.mem_cons, List.not_mem_nil, or_false, not_or, not_false_eq_true] at h1); (try simp only [Z.nt, Z.iv, Z.no, Z.ol, List.mem_cons, List.mem_append, List.not_mem_nil, or_false, not_or, not_false_eq_true, true_and, and_true]) <;> omega)
  have hcall := w_text (b ++ ([x.1] : List Int).flatMap Codec.encInt) (g) (x.2) w27 (A28) (c29) hr35 hb31 (by first | omega | (simp only [List.length_append, List.flatMap_cons, List.flatMap_nil, List.flatten_cons, List.flatten_nil, List.length_nil, List.append_nil]; omega)) (by assumption)
  refine Z.call1 hf rfl (Z.r_call cf53 hf (xs := [.tmp 9, .tmp 11]) rfl) hcall ?_; clear hcall hf a
  rintro _ w36 ⟨A37, c38, rfl, hr39, hb40, hc41⟩
  have hzhc41 := hc41.size
  refine ⟨_, rfl, ?_⟩; intro a hf
  refine Z.done ?_
  have hr42 : (Z.Ty.slice Z.Ty.byte).rep w36 (Z.iv w.heap.size w36.heap.size) [.slice A37 (((b ++ ([x.1] : List Int).flatMap Codec.encInt) ++ Codec.encText x.2).length) c38] ((b ++ ([x.1] : List Int).flatMap Codec.encInt) ++ Codec.encText x.2) := Z.rep_as hr39 (by intro b h1 h2; (try simp only [Z.nt, Z.iv, Z.no, Z.ol] at h1); (try simp only [Z.iv]); omega)
  have hxs43 : (b ++ ([x.1] : List Int).flatMap Codec.encInt) ++ Codec.encText x.2 = (b ++ Codec.encRec x : List UInt8) := by first | rfl | (simp [Codec.encRec]; done)
  have hr44 := Z.rep_eq hr42 hxs43
  have hb45 : Z.Blk w36 g 90 [.slice A37 ((b ++ Codec.encRec x).length) c38] := Z.Blk.cast hb40 (by first | rfl | (simp only [hxs43]; done) | simp_all)
  have hq46 : Z.Ch [g] w w27 := hq22.then hc32 (by simp) (by simp)
  have hq47 : Z.Ch [g] w w36 := hq46.then hc41 (by simp) (by simp)
  refine Z.end0 hf Try.results41 ?_
  exact ⟨A37, c38, rfl, hr44, hb45, hq47⟩

set_option maxHeartbeats 400000 in
set_option maxRecDepth 20000 in
theorem w_entry (b : List UInt8) (g : Nat) (x : (Int × Int × ByteArray × Int)) (w : World) (pA0 : Option Addr) (pc0 : Nat) (ph0 : (Z.Ty.slice Z.Ty.byte).rep w (Z.nt [g]) [.slice pA0 b.length pc0] b) (pb1 : Z.Blk w g 90 [.slice pA0 b.length pc0]) (pk2 : Z.Ty.ok (Z.Ty.pair (Z.Ty.int .i64) (Z.Ty.pair (Z.Ty.int .i64) (Z.Ty.pair Z.Ty.str (Z.Ty.int .i64)))) x) (hb : b.length + (Codec.encEntry x).length ≤ 70368744177664) (hg : Codec.gEntry x) :
    Calls Try.prog 35 #[.pointer (some ⟨g, 0, none⟩), .agg #[.int .i64 x.1, .int .i64 x.2.1, .string x.2.2.1, .int .i64 x.2.2.2]] w fun e w' => ∃ (rA0 : Option Addr) (rc0 : Nat), e = .returned (.tuple #[]) ∧ (Z.Ty.slice Z.Ty.byte).rep w' (Z.iv w.heap.size w'.heap.size) [.slice rA0 (b ++ Codec.encEntry x).length rc0] (b ++ Codec.encEntry x) ∧ Z.Blk w' g 90 [.slice rA0 (b ++ Codec.encEntry x).length rc0] ∧ Z.Ch [g] w w' := by
  refine Z.enter Try.func35 rfl Try.ntmps35 (Nat.le_of_ble_eq_true rfl) fun a hf => ?_
  replace hf : Z.Fr a 20 [] [(0, .pointer (some ⟨g, 0, none⟩)), (1, .agg #[.int .i64 x.1, .int .i64 x.2.1, .string x.2.2.1, .int .i64 x.2.2.2])] := hf
  have hlt_g := pb1.lt
  have hle_pA0 := Z.rep_le ph0
  have ph0o := Z.rep_ol ph0
  simp only [Codec.encEntry, List.length_append] at hb
  unfold Codec.gEntry at hg
  refine Z.seq' (Z.Pq.body _ _ _) fun Q1 hp2 hn3 he4 => ?_
  refine Z.reg ?_
  refine Z.st_box hf rfl rfl rfl ?_; clear hf a; intro g5 w6 a hg7 hz8 hb9 hc10 hf
  refine Z.done ?_
  refine hn3 _ _ ?_
  replace hf : Z.Fr a 20 [] [(0, .pointer (some ⟨g, 0, none⟩)), (3, .pointer (some ⟨g5, 0, none⟩))] := hf.keep [0, 3]
  refine Z.seq' (Z.Pq.body _ _ _) fun Q11 hp12 hn13 he14 => ?_
  refine Z.reg ?_
  refine Z.val hf rfl (Z.r_move (hf.eval rfl)) ?_; clear hf a; intro a hf
  refine Z.val hf rfl (Z.r_fieldAddrB Try.underlying58 rfl Try.sizeOf3 (hf.eval rfl) rfl) ?_; clear hf a; intro a hf
  refine Z.val hf rfl (Z.r_loadB Try.isAgg3 (hf.eval rfl) hb9 rfl) ?_; clear hf a; intro a hf
  refine Z.val hf rfl (Z.r_fieldAddrB Try.underlying58 rfl Try.sizeOf2 (hf.eval rfl) rfl) ?_; clear hf a; intro a hf
  refine Z.val hf rfl (Z.r_loadB Try.isAgg2 (hf.eval rfl) hb9 rfl) ?_; clear hf a; intro a hf
  refine Z.st_bslice hf rfl Try.underlying117 Try.sizeOf2 Try.zeroValue2 (parts := [(0, .tmp 6), (1, .tmp 8)]) (cs := [.int .i64 x.1, .int .i64 x.2.1]) rfl rfl rfl (by kernel_rfl) ?_; clear hf a; intro g15 w16 a hg17 hz18 hb19 hc20 hf
  have ho21 : Z.Own (Z.Ty.int .i64) 2 g15 w16 Z.no (some ⟨g15, 0, none⟩) 2 ([x.1, x.2.1] : List Int) := Z.Own.made (t := (Z.Ty.int .i64)) (xs := ([x.1, x.2.1] : List Int)) hb19 (Nat.le_refl _) rfl (by simp [maxLen]) (by simp [Value.oneCell']) (fun i x hi => by match i, hi with | 0, hi => (injection hi with hi; subst hi; exact ⟨rfl, pk2.1⟩) | 1, hi => (injection hi with hi; subst hi; exact ⟨rfl, pk2.2.1⟩) | (j + 2), hi => simp at hi)
  have hq22 : Z.Ch [] w w16 := hc10.then hc20 (by simp) (by simp)
  have hb23 := pb1.ch0 hq22
  have hr24 : (Z.Ty.slice Z.Ty.byte).rep w16 (Z.nt [g]) [.slice pA0 b.length pc0] b := Z.rep_to ph0o hq22 (by intro b h1 h2; (try simp only [Z.nt, Z.iv, Z.no, Z.ol, List.mem_cons, List.not_mem_nil, or_false, not_or, not_false_eq_true] at h1); (try simp only [Z.nt, Z.iv, Z.no, Z.ol, List.mem_cons, List.mem_append, List.not_mem_nil, or_false, not_or, not_false_eq_true, true_and, and_true]) <;> omega)
  have hr25 := ho21.riv
  have hr26 : (Z.Ty.slice (Z.Ty.int .i64)).rep w16 (Z.nt [g]) [.slice (some ⟨g15, 0, none⟩) 2 2] ([x.1, x.2.1] : List Int) := Z.rep_to hr25 (Z.Ch.refl w16) (by intro b h1 h2; (try simp only [Z.nt, Z.iv, Z.no, Z.ol, List.mem_cons, List.not_mem_nil, or_false, not_or, not_false_eq_true] at h1); (try simp only [Z.nt, Z.iv, Z.no, Z.ol, List.mem_cons, List.mem_append, List.not_mem_nil, or_false, not_or, not_false_eq_true, true_and, and_true]) <;> omega)
  have hcall := w_ints (b) (g) (([x.1, x.2.1] : List Int)) w16 (pA0) (pc0) (some ⟨g15, 0, none⟩) (2) hr24 hb23 hr26 (by first | omega | (simp only [List.length_append, List.flatMap_cons, List.flatMap_nil, List.flatten_cons, List.flatten_nil, List.length_nil, List.append_nil]; omega))
  refine Z.call1 hf rfl (Z.r_call cf37 hf (xs := [.tmp 4, .tmp 9]) rfl) hcall ?_; clear hcall hf a
  rintro _ w27 ⟨A28, c29, rfl, hr30, hb31, hc32⟩
  have hzhc32 := hc32.size
  refine ⟨_, rfl, ?_⟩; intro a hf
  refine Z.done ?_
  refine hn13 _ _ ?_
  replace hf : Z.Fr a 20 [] [(0, .pointer (some ⟨g, 0, none⟩)), (3, .pointer (some ⟨g5, 0, none⟩))] := hf.keep [0, 3]
  refine Z.seq' (Z.Pq.body _ _ _) fun Q33 hp34 hn35 he36 => ?_
  refine Z.reg ?_
  refine Z.val hf rfl (Z.r_move (hf.eval rfl)) ?_; clear hf a; intro a hf
  refine Z.val hf rfl (Z.r_fieldAddrB Try.underlying58 rfl Try.sizeOf9 (hf.eval rfl) rfl) ?_; clear hf a; intro a hf
  have hq37 : Z.Ch [g] w6 w27 := hc20.then hc32 (by simp) (by simp)
  have hb38 := hb9.ch hq37 (by simp only [List.mem_cons, List.mem_append, List.not_mem_nil, or_false, not_or, not_false_eq_true, and_true] <;> omega)
  refine Z.val hf rfl (Z.r_loadB Try.isAgg9 (hf.eval rfl) hb38 rfl) ?_; clear hf a; intro a hf
  have hr39 : (Z.Ty.slice Z.Ty.byte).rep w27 (Z.nt [g]) [.slice A28 ((b ++ ([x.1, x.2.1] : List Int).flatMap Codec.encInt).length) c29] (b ++ ([x.1, x.2.1] : List Int).flatMap Codec.encInt) := Z.rep_to hr30 (Z.Ch.refl w27) (by intro b h1 h2; (try simp only [Z.nt, Z.iv, Z.no, Z.ol, List.mem_cons, List.not_mem_nil, or_false, not_or, not_false_eq_true] at h1); (try simp only [Z.nt, Z.iv, Z.no, Z.ol, List.mem_cons, List.mem_append, List.not_mem_nil, or_false, not_or, not_false_eq_true, true_and, and_true]) <;> omega)
  have hcall := w_text (b ++ ([x.1, x.2.1] : List Int).flatMap Codec.encInt) (g) (x.2.2.1) w27 (A28) (c29) hr39 hb31 (by first | omega | (simp only [List.length_append, List.flatMap_cons, List.flatMap_nil, List.flatten_cons, List.flatten_nil, List.length_nil, List.append_nil]; omega)) (by assumption)
  refine Z.call1 hf rfl (Z.r_call cf53 hf (xs := [.tmp 11, .tmp 13]) rfl) hcall ?_; clear hcall hf a
  rintro _ w40 ⟨A41, c42, rfl, hr43, hb44, hc45⟩
  have hzhc45 := hc45.size
  refine ⟨_, rfl, ?_⟩; intro a hf
  refine Z.done ?_
  refine hn35 _ _ ?_
  replace hf : Z.Fr a 20 [] [(0, .pointer (some ⟨g, 0, none⟩)), (3, .pointer (some ⟨g5, 0, none⟩))] := hf.keep [0, 3]
  refine Z.reg ?_
  refine Z.val hf rfl (Z.r_move (hf.eval rfl)) ?_; clear hf a; intro a hf
  refine Z.val hf rfl (Z.r_fieldAddrB Try.underlying58 rfl Try.sizeOf2 (hf.eval rfl) rfl) ?_; clear hf a; intro a hf
  have hb46 := hb38.ch hc45 (by simp only [List.mem_cons, List.mem_append, List.not_mem_nil, or_false, not_or, not_false_eq_true, and_true] <;> omega)
  refine Z.val hf rfl (Z.r_loadB Try.isAgg2 (hf.eval rfl) hb46 rfl) ?_; clear hf a; intro a hf
  refine Z.st_bslice hf rfl Try.underlying117 Try.sizeOf2 Try.zeroValue2 (parts := [(0, .tmp 17)]) (cs := [.int .i64 x.2.2.2]) rfl rfl rfl (by kernel_rfl) ?_; clear hf a; intro g47 w48 a hg49 hz50 hb51 hc52 hf
  have ho53 : Z.Own (Z.Ty.int .i64) 2 g47 w48 Z.no (some ⟨g47, 0, none⟩) 1 ([x.2.2.2] : List Int) := Z.Own.made (t := (Z.Ty.int .i64)) (xs := ([x.2.2.2] : List Int)) hb51 (Nat.le_refl _) rfl (by simp [maxLen]) (by simp [Value.oneCell']) (fun i x hi => by match i, hi with | 0, hi => (injection hi with hi; subst hi; exact ⟨rfl, pk2.2.2.2⟩) | (j + 1), hi => simp at hi)
  have hb54 := hb44.ch0 hc52
  have hr55 : (Z.Ty.slice Z.Ty.byte).rep w48 (Z.nt [g]) [.slice A41 (((b ++ ([x.1, x.2.1] : List Int).flatMap Codec.encInt) ++ Codec.encText x.2.2.1).length) c42] ((b ++ ([x.1, x.2.1] : List Int).flatMap Codec.encInt) ++ Codec.encText x.2.2.1) := Z.rep_to hr43 hc52 (by intro b h1 h2; (try simp only [Z.nt, Z.iv, Z.no, Z.ol, List.mem_cons, List.not_mem_nil, or_false, not_or, not_false_eq_true] at h1); (try simp only [Z.nt, Z.iv, Z.no, Z.ol, List.mem_cons, List.mem_append, List.not_mem_nil, or_false, not_or, not_false_eq_true, true_and, and_true]) <;> omega)
  have hr56 := ho53.riv
  have hr57 : (Z.Ty.slice (Z.Ty.int .i64)).rep w48 (Z.nt [g]) [.slice (some ⟨g47, 0, none⟩) 1 1] ([x.2.2.2] : List Int) := Z.rep_to hr56 (Z.Ch.refl w48) (by intro b h1 h2; (try simp only [Z.nt, Z.iv, Z.no, Z.ol, List.mem_cons, List.not_mem_nil, or_false, not_or, not_false_eq_true] at h1); (try simp only [Z.nt, Z.iv, Z.no, Z.ol, List.mem_cons, List.mem_append, List.not_mem_nil, or_false, not_or, not_false_eq_true, true_and, and_true]) <;> omega)
  have hcall := w_ints ((b ++ ([x.1, x.2.1] : List Int).flatMap Codec.encInt) ++ Codec.encText x.2.2.1) (g) (([x.2.2.2] : List Int)) w48 (A41) (c42) (some ⟨g47, 0, none⟩) (1) hr55 hb54 hr57 (by first | omega | (simp only [List.length_append, List.flatMap_cons, List.flatMap_nil, List.flatten_cons, List.flatten_nil, List.length_nil, List.append_nil]; omega))
  refine Z.call1 hf rfl (Z.r_call cf37 hf (xs := [.tmp 15, .tmp 18]) rfl) hcall ?_; clear hcall hf a
  rintro _ w58 ⟨A59, c60, rfl, hr61, hb62, hc63⟩
  have hzhc63 := hc63.size
  refine ⟨_, rfl, ?_⟩; intro a hf
  refine Z.done ?_
  have hr64 : (Z.Ty.slice Z.Ty.byte).rep w58 (Z.iv w.heap.size w58.heap.size) [.slice A59 ((((b ++ ([x.1, x.2.1] : List Int).flatMap Codec.encInt) ++ Codec.encText x.2.2.1) ++ ([x.2.2.2] : List Int).flatMap Codec.encInt).length) c60] (((b ++ ([x.1, x.2.1] : List Int).flatMap Codec.encInt) ++ Codec.encText x.2.2.1) ++ ([x.2.2.2] : List Int).flatMap Codec.encInt) := Z.rep_as hr61 (by intro b h1 h2; (try simp only [Z.nt, Z.iv, Z.no, Z.ol] at h1); (try simp only [Z.iv]); omega)
  have hxs65 : ((b ++ ([x.1, x.2.1] : List Int).flatMap Codec.encInt) ++ Codec.encText x.2.2.1) ++ ([x.2.2.2] : List Int).flatMap Codec.encInt = (b ++ Codec.encEntry x : List UInt8) := by first | rfl | (simp [Codec.encEntry]; done)
  have hr66 := Z.rep_eq hr64 hxs65
  have hb67 : Z.Blk w58 g 90 [.slice A59 ((b ++ Codec.encEntry x).length) c60] := Z.Blk.cast hb62 (by first | rfl | (simp only [hxs65]; done) | simp_all)
  have hq68 : Z.Ch [g] w w27 := hq22.then hc32 (by simp) (by simp)
  have hq69 : Z.Ch [g] w w40 := hq68.then hc45 (by simp) (by simp)
  have hq70 : Z.Ch [g] w w48 := hq69.then hc52 (by simp) (by simp)
  have hq71 : Z.Ch [g] w w58 := hq70.then hc63 (by simp) (by simp)
  refine Z.end0 hf Try.results35 ?_
  exact ⟨A59, c60, rfl, hr66, hb67, hq71⟩

set_option maxHeartbeats 400000 in
set_option maxRecDepth 20000 in
theorem w_change (b : List UInt8) (g : Nat) (x : ((Int × Int) × (Int × Int × (Int × Int × Int × Int)) × Int)) (w : World) (pA0 : Option Addr) (pc0 : Nat) (ph0 : (Z.Ty.slice Z.Ty.byte).rep w (Z.nt [g]) [.slice pA0 b.length pc0] b) (pb1 : Z.Blk w g 90 [.slice pA0 b.length pc0]) (pk2 : Z.Ty.ok (Z.Ty.pair (Z.Ty.pair (Z.Ty.int .i64) (Z.Ty.int .i64)) (Z.Ty.pair (Z.Ty.pair (Z.Ty.int .i64) (Z.Ty.pair (Z.Ty.int .i64) (Z.Ty.pair (Z.Ty.int .i64) (Z.Ty.pair (Z.Ty.int .i64) (Z.Ty.pair (Z.Ty.int .i64) (Z.Ty.int .i64)))))) (Z.Ty.int .i64))) x) (hb : b.length + (Codec.encChange x).length ≤ 70368744177664) :
    Calls Try.prog 43 #[.pointer (some ⟨g, 0, none⟩), .agg #[.int .i64 x.1.1, .int .i64 x.1.2, .int .i64 x.2.1.1, .int .i64 x.2.1.2.1, .int .i64 x.2.1.2.2.1, .int .i64 x.2.1.2.2.2.1, .int .i64 x.2.1.2.2.2.2.1, .int .i64 x.2.1.2.2.2.2.2, .int .i64 x.2.2]] w fun e w' => ∃ (rA0 : Option Addr) (rc0 : Nat), e = .returned (.tuple #[]) ∧ (Z.Ty.slice Z.Ty.byte).rep w' (Z.iv w.heap.size w'.heap.size) [.slice rA0 (b ++ Codec.encChange x).length rc0] (b ++ Codec.encChange x) ∧ Z.Blk w' g 90 [.slice rA0 (b ++ Codec.encChange x).length rc0] ∧ Z.Ch [g] w w' := by
  refine Z.enter Try.func43 rfl Try.ntmps43 (Nat.le_of_ble_eq_true rfl) fun a hf => ?_
  replace hf : Z.Fr a 17 [] [(0, .pointer (some ⟨g, 0, none⟩)), (1, .agg #[.int .i64 x.1.1, .int .i64 x.1.2, .int .i64 x.2.1.1, .int .i64 x.2.1.2.1, .int .i64 x.2.1.2.2.1, .int .i64 x.2.1.2.2.2.1, .int .i64 x.2.1.2.2.2.2.1, .int .i64 x.2.1.2.2.2.2.2, .int .i64 x.2.2])] := hf
  have hlt_g := pb1.lt
  have hle_pA0 := Z.rep_le ph0
  have ph0o := Z.rep_ol ph0
  simp only [Codec.encChange, List.length_append] at hb
  refine Z.seq' (Z.Pq.body _ _ _) fun Q1 hp2 hn3 he4 => ?_
  refine Z.reg ?_
  refine Z.st_box hf rfl rfl rfl ?_; clear hf a; intro g5 w6 a hg7 hz8 hb9 hc10 hf
  refine Z.done ?_
  refine hn3 _ _ ?_
  replace hf : Z.Fr a 17 [] [(0, .pointer (some ⟨g, 0, none⟩)), (3, .pointer (some ⟨g5, 0, none⟩))] := hf.keep [0, 3]
  refine Z.seq' (Z.Pq.body _ _ _) fun Q11 hp12 hn13 he14 => ?_
  refine Z.reg ?_
  refine Z.val hf rfl (Z.r_move (hf.eval rfl)) ?_; clear hf a; intro a hf
  refine Z.val hf rfl (Z.r_fieldAddrB Try.underlying71 rfl Try.sizeOf23 (hf.eval rfl) rfl) ?_; clear hf a; intro a hf
  refine Z.val hf rfl (Z.r_loadBN Try.isAgg23 Try.sizeOf23 (hf.eval rfl) hb9 rfl rfl) ?_; clear hf a; intro a hf
  have hb15 := pb1.ch0 hc10
  have hr16 : (Z.Ty.slice Z.Ty.byte).rep w6 (Z.nt [g]) [.slice pA0 b.length pc0] b := Z.rep_to ph0o hc10 (by intro b h1 h2; (try simp only [Z.nt, Z.iv, Z.no, Z.ol, List.mem_cons, List.not_mem_nil, or_false, not_or, not_false_eq_true] at h1); (try simp only [Z.nt, Z.iv, Z.no, Z.ol, List.mem_cons, List.mem_append, List.not_mem_nil, or_false, not_or, not_false_eq_true, true_and, and_true]) <;> omega)
  have hcall := w_place (b) (g) (x.1) w6 (pA0) (pc0) hr16 hb15 pk2.1 (by first | omega | (simp only [List.length_append, List.flatMap_cons, List.flatMap_nil, List.flatten_cons, List.flatten_nil, List.length_nil, List.append_nil]; omega))
  refine Z.call1 hf rfl (Z.r_call cf38 hf (xs := [.tmp 4, .tmp 6]) rfl) hcall ?_; clear hcall hf a
  rintro _ w17 ⟨A18, c19, rfl, hr20, hb21, hc22⟩
  have hzhc22 := hc22.size
  refine ⟨_, rfl, ?_⟩; intro a hf
  refine Z.done ?_
  refine hn13 _ _ ?_
  replace hf : Z.Fr a 17 [] [(0, .pointer (some ⟨g, 0, none⟩)), (3, .pointer (some ⟨g5, 0, none⟩))] := hf.keep [0, 3]
  refine Z.seq' (Z.Pq.body _ _ _) fun Q23 hp24 hn25 he26 => ?_
  refine Z.reg ?_
  refine Z.val hf rfl (Z.r_move (hf.eval rfl)) ?_; clear hf a; intro a hf
  refine Z.val hf rfl (Z.r_fieldAddrB Try.underlying71 rfl Try.sizeOf26 (hf.eval rfl) rfl) ?_; clear hf a; intro a hf
  have hb27 := hb9.ch hc22 (by simp only [List.mem_cons, List.mem_append, List.not_mem_nil, or_false, not_or, not_false_eq_true, and_true] <;> omega)
  refine Z.val hf rfl (Z.r_loadBN Try.isAgg26 Try.sizeOf26 (hf.eval rfl) hb27 rfl rfl) ?_; clear hf a; intro a hf
  have hr28 : (Z.Ty.slice Z.Ty.byte).rep w17 (Z.nt [g]) [.slice A18 ((b ++ Codec.encPlace x.1).length) c19] (b ++ Codec.encPlace x.1) := Z.rep_to hr20 (Z.Ch.refl w17) (by intro b h1 h2; (try simp only [Z.nt, Z.iv, Z.no, Z.ol, List.mem_cons, List.not_mem_nil, or_false, not_or, not_false_eq_true] at h1); (try simp only [Z.nt, Z.iv, Z.no, Z.ol, List.mem_cons, List.mem_append, List.not_mem_nil, or_false, not_or, not_false_eq_true, true_and, and_true]) <;> omega)
  have hcall := w_time (b ++ Codec.encPlace x.1) (g) (x.2.1) w17 (A18) (c19) hr28 hb21 pk2.2.1 (by first | omega | (simp only [List.length_append, List.flatMap_cons, List.flatMap_nil, List.flatten_cons, List.flatten_nil, List.length_nil, List.append_nil]; omega))
  refine Z.call1 hf rfl (Z.r_call cf39 hf (xs := [.tmp 8, .tmp 10]) rfl) hcall ?_; clear hcall hf a
  rintro _ w29 ⟨A30, c31, rfl, hr32, hb33, hc34⟩
  have hzhc34 := hc34.size
  refine ⟨_, rfl, ?_⟩; intro a hf
  refine Z.done ?_
  refine hn25 _ _ ?_
  replace hf : Z.Fr a 17 [] [(0, .pointer (some ⟨g, 0, none⟩)), (3, .pointer (some ⟨g5, 0, none⟩))] := hf.keep [0, 3]
  refine Z.reg ?_
  refine Z.val hf rfl (Z.r_move (hf.eval rfl)) ?_; clear hf a; intro a hf
  refine Z.val hf rfl (Z.r_fieldAddrB Try.underlying71 rfl Try.sizeOf2 (hf.eval rfl) rfl) ?_; clear hf a; intro a hf
  have hb35 := hb27.ch hc34 (by simp only [List.mem_cons, List.mem_append, List.not_mem_nil, or_false, not_or, not_false_eq_true, and_true] <;> omega)
  refine Z.val hf rfl (Z.r_loadB Try.isAgg2 (hf.eval rfl) hb35 rfl) ?_; clear hf a; intro a hf
  refine Z.st_bslice hf rfl Try.underlying117 Try.sizeOf2 Try.zeroValue2 (parts := [(0, .tmp 14)]) (cs := [.int .i64 x.2.2]) rfl rfl rfl (by kernel_rfl) ?_; clear hf a; intro g36 w37 a hg38 hz39 hb40 hc41 hf
  have ho42 : Z.Own (Z.Ty.int .i64) 2 g36 w37 Z.no (some ⟨g36, 0, none⟩) 1 ([x.2.2] : List Int) := Z.Own.made (t := (Z.Ty.int .i64)) (xs := ([x.2.2] : List Int)) hb40 (Nat.le_refl _) rfl (by simp [maxLen]) (by simp [Value.oneCell']) (fun i x hi => by match i, hi with | 0, hi => (injection hi with hi; subst hi; exact ⟨rfl, pk2.2.2⟩) | (j + 1), hi => simp at hi)
  have hb43 := hb33.ch0 hc41
  have hr44 : (Z.Ty.slice Z.Ty.byte).rep w37 (Z.nt [g]) [.slice A30 (((b ++ Codec.encPlace x.1) ++ Codec.encTime x.2.1).length) c31] ((b ++ Codec.encPlace x.1) ++ Codec.encTime x.2.1) := Z.rep_to hr32 hc41 (by intro b h1 h2; (try simp only [Z.nt, Z.iv, Z.no, Z.ol, List.mem_cons, List.not_mem_nil, or_false, not_or, not_false_eq_true] at h1); (try simp only [Z.nt, Z.iv, Z.no, Z.ol, List.mem_cons, List.mem_append, List.not_mem_nil, or_false, not_or, not_false_eq_true, true_and, and_true]) <;> omega)
  have hr45 := ho42.riv
  have hr46 : (Z.Ty.slice (Z.Ty.int .i64)).rep w37 (Z.nt [g]) [.slice (some ⟨g36, 0, none⟩) 1 1] ([x.2.2] : List Int) := Z.rep_to hr45 (Z.Ch.refl w37) (by intro b h1 h2; (try simp only [Z.nt, Z.iv, Z.no, Z.ol, List.mem_cons, List.not_mem_nil, or_false, not_or, not_false_eq_true] at h1); (try simp only [Z.nt, Z.iv, Z.no, Z.ol, List.mem_cons, List.mem_append, List.not_mem_nil, or_false, not_or, not_false_eq_true, true_and, and_true]) <;> omega)
  have hcall := w_ints ((b ++ Codec.encPlace x.1) ++ Codec.encTime x.2.1) (g) (([x.2.2] : List Int)) w37 (A30) (c31) (some ⟨g36, 0, none⟩) (1) hr44 hb43 hr46 (by first | omega | (simp only [List.length_append, List.flatMap_cons, List.flatMap_nil, List.flatten_cons, List.flatten_nil, List.length_nil, List.append_nil]; omega))
  refine Z.call1 hf rfl (Z.r_call cf37 hf (xs := [.tmp 12, .tmp 15]) rfl) hcall ?_; clear hcall hf a
  rintro _ w47 ⟨A48, c49, rfl, hr50, hb51, hc52⟩
  have hzhc52 := hc52.size
  refine ⟨_, rfl, ?_⟩; intro a hf
  refine Z.done ?_
  have hr53 : (Z.Ty.slice Z.Ty.byte).rep w47 (Z.iv w.heap.size w47.heap.size) [.slice A48 ((((b ++ Codec.encPlace x.1) ++ Codec.encTime x.2.1) ++ ([x.2.2] : List Int).flatMap Codec.encInt).length) c49] (((b ++ Codec.encPlace x.1) ++ Codec.encTime x.2.1) ++ ([x.2.2] : List Int).flatMap Codec.encInt) := Z.rep_as hr50 (by intro b h1 h2; (try simp only [Z.nt, Z.iv, Z.no, Z.ol] at h1); (try simp only [Z.iv]); omega)
  have hxs54 : ((b ++ Codec.encPlace x.1) ++ Codec.encTime x.2.1) ++ ([x.2.2] : List Int).flatMap Codec.encInt = (b ++ Codec.encChange x : List UInt8) := by first | rfl | (simp [Codec.encChange]; done)
  have hr55 := Z.rep_eq hr53 hxs54
  have hb56 : Z.Blk w47 g 90 [.slice A48 ((b ++ Codec.encChange x).length) c49] := Z.Blk.cast hb51 (by first | rfl | (simp only [hxs54]; done) | simp_all)
  have hq57 : Z.Ch [g] w w17 := hc10.then hc22 (by simp) (by simp)
  have hq58 : Z.Ch [g] w w29 := hq57.then hc34 (by simp) (by simp)
  have hq59 : Z.Ch [g] w w37 := hq58.then hc41 (by simp) (by simp)
  have hq60 : Z.Ch [g] w w47 := hq59.then hc52 (by simp) (by simp)
  refine Z.end0 hf Try.results43 ?_
  exact ⟨A48, c49, rfl, hr55, hb56, hq60⟩

set_option maxHeartbeats 400000 in
set_option maxRecDepth 20000 in
theorem w_move (b : List UInt8) (g : Nat) (x : (Int × Int × Int × Int × (Int × Int × ByteArray))) (w : World) (pA0 : Option Addr) (pc0 : Nat) (ph0 : (Z.Ty.slice Z.Ty.byte).rep w (Z.nt [g]) [.slice pA0 b.length pc0] b) (pb1 : Z.Blk w g 90 [.slice pA0 b.length pc0]) (pk2 : Z.Ty.ok (Z.Ty.pair (Z.Ty.int .i64) (Z.Ty.pair (Z.Ty.int .i64) (Z.Ty.pair (Z.Ty.int .i64) (Z.Ty.pair (Z.Ty.int .i64) (Z.Ty.pair (Z.Ty.int .i64) (Z.Ty.pair (Z.Ty.int .i64) Z.Ty.str)))))) x) (hb : b.length + (Codec.encMove x).length ≤ 70368744177664) (hg : Codec.gMove x) :
    Calls Try.prog 59 #[.pointer (some ⟨g, 0, none⟩), .agg #[.int .i64 x.1, .int .i64 x.2.1, .int .i64 x.2.2.1, .int .i64 x.2.2.2.1, .int .i64 x.2.2.2.2.1, .int .i64 x.2.2.2.2.2.1, .string x.2.2.2.2.2.2]] w fun e w' => ∃ (rA0 : Option Addr) (rc0 : Nat), e = .returned (.tuple #[]) ∧ (Z.Ty.slice Z.Ty.byte).rep w' (Z.iv w.heap.size w'.heap.size) [.slice rA0 (b ++ Codec.encMove x).length rc0] (b ++ Codec.encMove x) ∧ Z.Blk w' g 90 [.slice rA0 (b ++ Codec.encMove x).length rc0] ∧ Z.Ch [g] w w' := by
  refine Z.enter Try.func59 rfl Try.ntmps59 (Nat.le_of_ble_eq_true rfl) fun a hf => ?_
  replace hf : Z.Fr a 19 [] [(0, .pointer (some ⟨g, 0, none⟩)), (1, .agg #[.int .i64 x.1, .int .i64 x.2.1, .int .i64 x.2.2.1, .int .i64 x.2.2.2.1, .int .i64 x.2.2.2.2.1, .int .i64 x.2.2.2.2.2.1, .string x.2.2.2.2.2.2])] := hf
  have hlt_g := pb1.lt
  have hle_pA0 := Z.rep_le ph0
  have ph0o := Z.rep_ol ph0
  simp only [Codec.encMove, List.length_append] at hb
  unfold Codec.gMove at hg
  refine Z.seq' (Z.Pq.body _ _ _) fun Q1 hp2 hn3 he4 => ?_
  refine Z.reg ?_
  refine Z.st_box hf rfl rfl rfl ?_; clear hf a; intro g5 w6 a hg7 hz8 hb9 hc10 hf
  refine Z.done ?_
  refine hn3 _ _ ?_
  replace hf : Z.Fr a 19 [] [(0, .pointer (some ⟨g, 0, none⟩)), (3, .pointer (some ⟨g5, 0, none⟩))] := hf.keep [0, 3]
  refine Z.seq' (Z.Pq.body _ _ _) fun Q11 hp12 hn13 he14 => ?_
  refine Z.reg ?_
  refine Z.val hf rfl (Z.r_move (hf.eval rfl)) ?_; clear hf a; intro a hf
  refine Z.val hf rfl (Z.r_fieldAddrB Try.underlying64 rfl Try.sizeOf3 (hf.eval rfl) rfl) ?_; clear hf a; intro a hf
  refine Z.val hf rfl (Z.r_loadB Try.isAgg3 (hf.eval rfl) hb9 rfl) ?_; clear hf a; intro a hf
  refine Z.val hf rfl (Z.r_fieldAddrB Try.underlying64 rfl Try.sizeOf3 (hf.eval rfl) rfl) ?_; clear hf a; intro a hf
  refine Z.val hf rfl (Z.r_loadB Try.isAgg3 (hf.eval rfl) hb9 rfl) ?_; clear hf a; intro a hf
  refine Z.val hf rfl (Z.r_fieldAddrB Try.underlying64 rfl Try.sizeOf3 (hf.eval rfl) rfl) ?_; clear hf a; intro a hf
  refine Z.val hf rfl (Z.r_loadB Try.isAgg3 (hf.eval rfl) hb9 rfl) ?_; clear hf a; intro a hf
  refine Z.val hf rfl (Z.r_fieldAddrB Try.underlying64 rfl Try.sizeOf2 (hf.eval rfl) rfl) ?_; clear hf a; intro a hf
  refine Z.val hf rfl (Z.r_loadB Try.isAgg2 (hf.eval rfl) hb9 rfl) ?_; clear hf a; intro a hf
  refine Z.st_bslice hf rfl Try.underlying117 Try.sizeOf2 Try.zeroValue2 (parts := [(0, .tmp 6), (1, .tmp 8), (2, .tmp 10), (3, .tmp 12)]) (cs := [.int .i64 x.1, .int .i64 x.2.1, .int .i64 x.2.2.1, .int .i64 x.2.2.2.1]) rfl rfl rfl (by kernel_rfl) ?_; clear hf a; intro g15 w16 a hg17 hz18 hb19 hc20 hf
  have ho21 : Z.Own (Z.Ty.int .i64) 2 g15 w16 Z.no (some ⟨g15, 0, none⟩) 4 ([x.1, x.2.1, x.2.2.1, x.2.2.2.1] : List Int) := Z.Own.made (t := (Z.Ty.int .i64)) (xs := ([x.1, x.2.1, x.2.2.1, x.2.2.2.1] : List Int)) hb19 (Nat.le_refl _) rfl (by simp [maxLen]) (by simp [Value.oneCell']) (fun i x hi => by match i, hi with | 0, hi => (injection hi with hi; subst hi; exact ⟨rfl, pk2.1⟩) | 1, hi => (injection hi with hi; subst hi; exact ⟨rfl, pk2.2.1⟩) | 2, hi => (injection hi with hi; subst hi; exact ⟨rfl, pk2.2.2.1⟩) | 3, hi => (injection hi with hi; subst hi; exact ⟨rfl, pk2.2.2.2.1⟩) | (j + 4), hi => simp at hi)
  have hq22 : Z.Ch [] w w16 := hc10.then hc20 (by simp) (by simp)
  have hb23 := pb1.ch0 hq22
  have hr24 : (Z.Ty.slice Z.Ty.byte).rep w16 (Z.nt [g]) [.slice pA0 b.length pc0] b := Z.rep_to ph0o hq22 (by intro b h1 h2; (try simp only [Z.nt, Z.iv, Z.no, Z.ol, List.mem_cons, List.not_mem_nil, or_false, not_or, not_false_eq_true] at h1); (try simp only [Z.nt, Z.iv, Z.no, Z.ol, List.mem_cons, List.mem_append, List.not_mem_nil, or_false, not_or, not_false_eq_true, true_and, and_true]) <;> omega)
  have hr25 := ho21.riv
  have hr26 : (Z.Ty.slice (Z.Ty.int .i64)).rep w16 (Z.nt [g]) [.slice (some ⟨g15, 0, none⟩) 4 4] ([x.1, x.2.1, x.2.2.1, x.2.2.2.1] : List Int) := Z.rep_to hr25 (Z.Ch.refl w16) (by intro b h1 h2; (try simp only [Z.nt, Z.iv, Z.no, Z.ol, List.mem_cons, List.not_mem_nil, or_false, not_or, not_false_eq_true] at h1); (try simp only [Z.nt, Z.iv, Z.no, Z.ol, List.mem_cons, List.mem_append, List.not_mem_nil, or_false, not_or, not_false_eq_true, true_and, and_true]) <;> omega)
  have hcall := w_ints (b) (g) (([x.1, x.2.1, x.2.2.1, x.2.2.2.1] : List Int)) w16 (pA0) (pc0) (some ⟨g15, 0, none⟩) (4) hr24 hb23 hr26 (by first | omega | (simp only [List.length_append, List.flatMap_cons, List.flatMap_nil, List.flatten_cons, List.flatten_nil, List.length_nil, List.append_nil]; omega))
  refine Z.call1 hf rfl (Z.r_call cf37 hf (xs := [.tmp 4, .tmp 13]) rfl) hcall ?_; clear hcall hf a
  rintro _ w27 ⟨A28, c29, rfl, hr30, hb31, hc32⟩
  have hzhc32 := hc32.size
  refine ⟨_, rfl, ?_⟩; intro a hf
  refine Z.done ?_
  refine hn13 _ _ ?_
  replace hf : Z.Fr a 19 [] [(0, .pointer (some ⟨g, 0, none⟩)), (3, .pointer (some ⟨g5, 0, none⟩))] := hf.keep [0, 3]
  refine Z.reg ?_
  refine Z.val hf rfl (Z.r_move (hf.eval rfl)) ?_; clear hf a; intro a hf
  refine Z.val hf rfl (Z.r_fieldAddrB Try.underlying64 rfl Try.sizeOf62 (hf.eval rfl) rfl) ?_; clear hf a; intro a hf
  have hq33 : Z.Ch [g] w6 w27 := hc20.then hc32 (by simp) (by simp)
  have hb34 := hb9.ch hq33 (by simp only [List.mem_cons, List.mem_append, List.not_mem_nil, or_false, not_or, not_false_eq_true, and_true] <;> omega)
  refine Z.val hf rfl (Z.r_loadBN Try.isAgg62 Try.sizeOf62 (hf.eval rfl) hb34 rfl rfl) ?_; clear hf a; intro a hf
  have hr35 : (Z.Ty.slice Z.Ty.byte).rep w27 (Z.nt [g]) [.slice A28 ((b ++ ([x.1, x.2.1, x.2.2.1, x.2.2.2.1] : List Int).flatMap Codec.encInt).length) c29] (b ++ ([x.1, x.2.1, x.2.2.1, x.2.2.2.1] : List Int).flatMap Codec.encInt) := Z.rep_to hr30 (Z.Ch.refl w27) (by intro b h1 h2; (try simp only [Z.nt, Z.iv, Z.no, Z.ol, List.mem_cons, List.not_mem_nil, or_false, not_or, not_false_eq_true] at h1); (try simp only [Z.nt, Z.iv, Z.no, Z.ol, List.mem_cons, List.mem_append, List.not_mem_nil, or_false, not_or, not_false_eq_true, true_and, and_true]) <;> omega)
  have hcall := w_fn (b ++ ([x.1, x.2.1, x.2.2.1, x.2.2.2.1] : List Int).flatMap Codec.encInt) (g) (x.2.2.2.2) w27 (A28) (c29) hr35 hb31 pk2.2.2.2.2 (by first | omega | (simp only [List.length_append, List.flatMap_cons, List.flatMap_nil, List.flatten_cons, List.flatten_nil, List.length_nil, List.append_nil]; omega)) (by assumption)
  refine Z.call1 hf rfl (Z.r_call cf65 hf (xs := [.tmp 15, .tmp 17]) rfl) hcall ?_; clear hcall hf a
  rintro _ w36 ⟨A37, c38, rfl, hr39, hb40, hc41⟩
  have hzhc41 := hc41.size
  refine ⟨_, rfl, ?_⟩; intro a hf
  refine Z.done ?_
  have hr42 : (Z.Ty.slice Z.Ty.byte).rep w36 (Z.iv w.heap.size w36.heap.size) [.slice A37 (((b ++ ([x.1, x.2.1, x.2.2.1, x.2.2.2.1] : List Int).flatMap Codec.encInt) ++ Codec.encFn x.2.2.2.2).length) c38] ((b ++ ([x.1, x.2.1, x.2.2.1, x.2.2.2.1] : List Int).flatMap Codec.encInt) ++ Codec.encFn x.2.2.2.2) := Z.rep_as hr39 (by intro b h1 h2; (try simp only [Z.nt, Z.iv, Z.no, Z.ol] at h1); (try simp only [Z.iv]); omega)
  have hxs43 : (b ++ ([x.1, x.2.1, x.2.2.1, x.2.2.2.1] : List Int).flatMap Codec.encInt) ++ Codec.encFn x.2.2.2.2 = (b ++ Codec.encMove x : List UInt8) := by first | rfl | (simp [Codec.encMove]; done)
  have hr44 := Z.rep_eq hr42 hxs43
  have hb45 : Z.Blk w36 g 90 [.slice A37 ((b ++ Codec.encMove x).length) c38] := Z.Blk.cast hb40 (by first | rfl | (simp only [hxs43]; done) | simp_all)
  have hq46 : Z.Ch [g] w w27 := hq22.then hc32 (by simp) (by simp)
  have hq47 : Z.Ch [g] w w36 := hq46.then hc41 (by simp) (by simp)
  refine Z.end0 hf Try.results59 ?_
  exact ⟨A37, c38, rfl, hr44, hb45, hq47⟩

set_option maxHeartbeats 400000 in
set_option maxRecDepth 20000 in
theorem p_ints (b : List UInt8) (g : Nat) (xs : List Int) (w : World) (pA0 : Option Addr) (pc0 : Nat) (pA1 : Option Addr) (pc1 : Nat) (ph0 : (Z.Ty.slice Z.Ty.byte).rep w (Z.nt [g]) [.slice pA0 b.length pc0] b) (pb1 : Z.Blk w g 90 [.slice pA0 b.length pc0]) (ph1 : (Z.Ty.slice (Z.Ty.int .i64)).rep w (Z.nt [g]) [.slice pA1 xs.length pc1] xs) (hb : b.length + (Codec.encList Codec.encInt xs).length ≤ 70368744177664) (hl : xs.length ≤ 65536) :
    Calls Try.prog 55 #[.pointer (some ⟨g, 0, none⟩), .slice pA1 xs.length pc1, .func (.func 52) #[.pointer (some ⟨g, 0, none⟩)] #[]] w fun e w' => ∃ (rA0 : Option Addr) (rc0 : Nat), e = .returned (.tuple #[]) ∧ (Z.Ty.slice Z.Ty.byte).rep w' (Z.iv w.heap.size w'.heap.size) [.slice rA0 (b ++ Codec.encList Codec.encInt xs).length rc0] (b ++ Codec.encList Codec.encInt xs) ∧ Z.Blk w' g 90 [.slice rA0 (b ++ Codec.encList Codec.encInt xs).length rc0] ∧ Z.Ch [g] w w' := by
  refine Z.enter Try.func55 rfl Try.ntmps55 (Nat.le_of_ble_eq_true rfl) fun a hf => ?_
  replace hf : Z.Fr a 26 [] [(0, .pointer (some ⟨g, 0, none⟩)), (1, .slice pA1 xs.length pc1), (2, .func (.func 52) #[.pointer (some ⟨g, 0, none⟩)] #[])] := hf
  have hlt_g := pb1.lt
  have hle_pA1 := Z.rep_le ph1
  have ph1o := Z.rep_ol ph1
  have hle_pA0 := Z.rep_le ph0
  have ph0o := Z.rep_ol ph0
  simp only [Codec.encList, List.length_append] at hb
  refine Z.seq' (Z.Pq.body _ _ _) fun Q1 hp2 hn3 he4 => ?_
  refine Z.seq' hp2 fun Q5 hp6 hn7 he8 => ?_
  refine Z.reg ?_
  refine Z.val hf rfl (Z.r_move (hf.eval rfl)) ?_; clear hf a; intro a hf
  refine Z.val hf rfl (Z.r_len Try.underlying29 (hf.eval rfl)) ?_; clear hf a; intro a hf
  refine Z.val hf rfl (Z.r_gtr (hf.eval rfl) (hf.eval rfl)) ?_; clear hf a; intro a hf
  refine Z.done ?_
  refine hn7 _ _ ?_
  replace hf : Z.Fr a 26 [] [(0, .pointer (some ⟨g, 0, none⟩)), (1, .slice pA1 xs.length pc1), (2, .func (.func 52) #[.pointer (some ⟨g, 0, none⟩)] #[]), (10, .bool (decide (65536 < (xs.length : Int))))] := hf.keep [0, 1, 2, 10]
  refine Z.condp hf rfl ?_ ?_
  · intro hp9
    exfalso; omega
  · intro hp10
    refine wp_skip ?_
    refine hn3 _ _ ?_
    replace hf : Z.Fr a 26 [] [(0, .pointer (some ⟨g, 0, none⟩)), (1, .slice pA1 xs.length pc1), (2, .func (.func 52) #[.pointer (some ⟨g, 0, none⟩)] #[])] := hf.keep [0, 1, 2]
    refine Z.seq' (Z.Pq.body _ _ _) fun Q11 hp12 hn13 he14 => ?_
    refine Z.reg ?_
    refine Z.val hf rfl (Z.r_move (hf.eval rfl)) ?_; clear hf a; intro a hf
    refine Z.val hf rfl (Z.r_move (hf.eval rfl)) ?_; clear hf a; intro a hf
    refine Z.val hf rfl (Z.r_len Try.underlying29 (hf.eval rfl)) ?_; clear hf a; intro a hf
    have hr15 : (Z.Ty.slice Z.Ty.byte).rep w (Z.nt [g]) [.slice pA0 b.length pc0] b := Z.rep_to ph0o (Z.Ch.refl w) (by intro b h1 h2; (try simp only [Z.nt, Z.iv, Z.no, Z.ol, List.mem_cons, List.not_mem_nil, or_false, not_or, not_false_eq_true] at h1); (try simp only [Z.nt, Z.iv, Z.no, Z.ol, List.mem_cons, List.mem_append, List.not_mem_nil, or_false, not_or, not_false_eq_true, true_and, and_true]) <;> omega)
    have hcall := w_int (b) (g) ((xs.length : Int)) w (pA0) (pc0) hr15 pb1 (by first | omega | (simp only [List.length_append, List.flatMap_cons, List.flatMap_nil, List.flatten_cons, List.flatten_nil, List.length_nil, List.append_nil]; omega)) (by first | (exact Z.has_i64 (by assumption)) | (unfold Codec.okInt; omega))
    refine Z.call1 hf rfl (Z.r_call cf52 hf (xs := [.tmp 12, .tmp 14]) rfl) hcall ?_; clear hcall hf a
    rintro _ w16 ⟨A17, c18, rfl, hr19, hb20, hc21⟩
    have hzhc21 := hc21.size
    refine ⟨_, rfl, ?_⟩; intro a hf
    refine Z.done ?_
    refine hn13 _ _ ?_
    replace hf : Z.Fr a 26 [] [(1, .slice pA1 xs.length pc1), (2, .func (.func 52) #[.pointer (some ⟨g, 0, none⟩)] #[])] := hf.keep [1, 2]
    refine Z.seq' (Z.Pq.body _ _ _) fun Q22 hp23 hn24 he25 => ?_
    refine Z.reg ?_
    refine Z.val hf rfl (Z.r_move (hf.eval rfl)) ?_; clear hf a; intro a hf
    refine Z.val hf rfl (Z.r_len Try.underlying29 (hf.eval rfl)) ?_; clear hf a; intro a hf
    refine Z.val hf rfl (Z.r_move (hf.eval rfl)) ?_; clear hf a; intro a hf
    refine Z.done ?_
    refine hn24 _ _ ?_
    replace hf : Z.Fr a 26 [] [(2, .func (.func 52) #[.pointer (some ⟨g, 0, none⟩)] #[]), (16, .slice pA1 xs.length pc1), (17, .int .i64 (xs.length : Int)), (18, .int .i64 0)] := hf.keep [2, 16, 17, 18]
    refine Z.block' (Z.Pq.body _ _ _) fun Q26 hp27 hn28 hx29 he30 => ?_
    refine Z.loop' hp27 (fun m a wl => ∃ (k : Nat), ∃ (lA0 : Option Addr), ∃ (lc0 : Nat), m = xs.length - k ∧ Z.Ch [g] w16 wl ∧ (Z.Ty.slice Z.Ty.byte).rep wl (Z.iv w.heap.size wl.heap.size) [.slice lA0 ((b ++ (Codec.encInt (xs.length : Int) ++ (xs.take k).flatMap Codec.encInt)).length) lc0] (b ++ (Codec.encInt (xs.length : Int) ++ (xs.take k).flatMap Codec.encInt)) ∧ Z.Blk wl g 90 [.slice lA0 ((b ++ (Codec.encInt (xs.length : Int) ++ (xs.take k).flatMap Codec.encInt)).length) lc0] ∧ k ≤ xs.length ∧ Z.Fr a 26 [] [(2, .func (.func 52) #[.pointer (some ⟨g, 0, none⟩)] #[]), (16, .slice pA1 xs.length pc1), (17, .int .i64 (xs.length : Int)), (18, .int .i64 (k : Int))]) (xs.length - 0) ?_ ?_
    · replace hf := hf.setv (d := 18) (y := .int .i64 (0 : Int)) rfl (congrArg (Value.int .i64) (by first | rfl | omega | (simp; done) | (simp; omega)))
      have hr31 : (Z.Ty.slice Z.Ty.byte).rep w16 (Z.iv w.heap.size w16.heap.size) [.slice A17 ((b ++ Codec.encInt (xs.length : Int)).length) c18] (b ++ Codec.encInt (xs.length : Int)) := Z.rep_as hr19 (by intro b h1 h2; (try simp only [Z.nt, Z.iv, Z.no, Z.ol] at h1); (try simp only [Z.iv]); omega)
      have hxs32 : b ++ Codec.encInt (xs.length : Int) = (b ++ (Codec.encInt (xs.length : Int) ++ (xs.take 0).flatMap Codec.encInt) : List UInt8) := by first | rfl | (simp; done) | (rw [hfl.1] <;> (simp; done)) | (rw [Codec.fm_all _ (by omega)] <;> (simp [Codec.encList]; done))
      have hr33 := Z.rep_eq hr31 hxs32
      replace hf : Z.Fr a 26 [] [(2, .func (.func 52) #[.pointer (some ⟨g, 0, none⟩)] #[]), (16, .slice pA1 xs.length pc1), (17, .int .i64 (xs.length : Int)), (18, .int .i64 (0 : Int))] := hf.keep [2, 16, 17, 18]
      exact ⟨0, A17, c18, rfl, (Z.Ch.refl' _ _), hr33, (Z.Blk.cast hb20 (by first | rfl | (simp only [hxs32]; done) | simp_all)), (by omega), hf⟩
    · rintro m47 a w34 ⟨k37, A42, c43, hm36, hc35, hr44, hb45, hk46, hf⟩ Q38 hp39 hn40 he41
      have hzhc35 := hc35.size
      refine Z.seq' hp39 fun Q48 hp49 hn50 he51 => ?_
      refine Z.reg ?_
      refine Z.val hf rfl (Z.r_lss (hf.eval rfl) (hf.eval rfl)) ?_; clear hf a; intro a hf
      refine Z.done ?_
      refine hn50 _ _ ?_
      replace hf : Z.Fr a 26 [] [(2, .func (.func 52) #[.pointer (some ⟨g, 0, none⟩)] #[]), (16, .slice pA1 xs.length pc1), (17, .int .i64 (xs.length : Int)), (18, .int .i64 (k37 : Int)), (19, .bool (decide ((k37 : Int) < (xs.length : Int))))] := hf.keep [2, 16, 17, 18, 19]
      refine Z.seq' hp39 fun Q52 hp53 hn54 he55 => ?_
      refine Z.condp hf rfl ?_ ?_
      · intro hp56
        refine wp_skip ?_
        refine hn54 _ _ ?_
        replace hf : Z.Fr a 26 [] [(2, .func (.func 52) #[.pointer (some ⟨g, 0, none⟩)] #[]), (16, .slice pA1 xs.length pc1), (17, .int .i64 (xs.length : Int)), (18, .int .i64 (k37 : Int))] := hf.keep [2, 16, 17, 18]
        refine Z.seq' hp39 fun Q57 hp58 hn59 he60 => ?_
        refine Z.block' hp58 fun Q61 hp62 hn63 hx64 he65 => ?_
        refine Z.seq' hp62 fun Q66 hp67 hn68 he69 => ?_
        refine Z.reg ?_
        have hq70 : Z.Ch [g] w w34 := hc21.then hc35 (by simp) (by simp)
        have hr71 : (Z.Ty.slice (Z.Ty.int .i64)).rep w34 (Z.ol [g] w.heap.size) [.slice pA1 xs.length pc1] xs := Z.rep_to ph1o hq70 (by intro b h1 h2; (try simp only [Z.nt, Z.iv, Z.no, Z.ol, List.mem_cons, List.not_mem_nil, or_false, not_or, not_false_eq_true] at h1); (try simp only [Z.nt, Z.iv, Z.no, Z.ol, List.mem_cons, List.mem_append, List.not_mem_nil, or_false, not_or, not_false_eq_true, true_and, and_true]) <;> omega)
        have hkx74 : k37 < (xs).length := (by omega)
        obtain ⟨ad72, es73, x74, hA75, hF76, hl77, hx78, hc79, hr80⟩ := Z.rep_el hr71 hkx74
        have hok81 := Z.rep_ok _ hr80
        have he82 := hr80.1
        have he83 : es73 = [.int .i64 x74] := by simp only [he82, List.cons_append, List.nil_append]
        rw [he83] at hc79
        have hfl := Codec.fm_step Codec.encInt hx78
        refine Z.val hf rfl (Z.r_indexAddrE Try.underlying29 Try.sizeOf3 (hf.eval rfl) hA75 (hf.eval rfl) (k := k37) (by first | rfl | omega) (by omega)) ?_; clear hf a; intro a hf
        refine Z.val hf rfl (Z.r_loadE1 Try.isAgg3 (hf.eval rfl) hc79 rfl) ?_; clear hf a; intro a hf
        refine Z.val hf rfl (Z.r_assign (hf.eval rfl)) ?_; clear hf a; intro a hf
        refine Z.done ?_
        refine hn68 _ _ ?_
        replace hf : Z.Fr a 26 [] [(2, .func (.func 52) #[.pointer (some ⟨g, 0, none⟩)] #[]), (7, .int .i64 x74), (16, .slice pA1 xs.length pc1), (17, .int .i64 (xs.length : Int)), (18, .int .i64 (k37 : Int))] := hf.keep [2, 7, 16, 17, 18]
        refine Z.reg ?_
        refine Z.val hf rfl (Z.r_move (hf.eval rfl)) ?_; clear hf a; intro a hf
        refine Z.val hf rfl (Z.r_move (hf.eval rfl)) ?_; clear hf a; intro a hf
        have hr84 : (Z.Ty.slice Z.Ty.byte).rep w34 (Z.nt [g]) [.slice A42 ((b ++ (Codec.encInt (xs.length : Int) ++ (xs.take k37).flatMap Codec.encInt)).length) c43] (b ++ (Codec.encInt (xs.length : Int) ++ (xs.take k37).flatMap Codec.encInt)) := Z.rep_to hr44 (Z.Ch.refl w34) (by intro b h1 h2; (try simp only [Z.nt, Z.iv, Z.no, Z.ol, List.mem_cons, List.not_mem_nil, or_false, not_or, not_false_eq_true] at h1); (try simp only [Z.nt, Z.iv, Z.no, Z.ol, List.mem_cons, List.mem_append, List.not_mem_nil, or_false, not_or, not_false_eq_true, true_and, and_true]) <;> omega)
        have hcall := w_int (b ++ (Codec.encInt (xs.length : Int) ++ (xs.take k37).flatMap Codec.encInt)) (g) (x74) w34 (A42) (c43) hr84 hb45 (by first | omega | (simp only [List.length_append, List.flatMap_cons, List.flatMap_nil, List.flatten_cons, List.flatten_nil, List.length_nil, List.append_nil]; omega)) (by first | (exact Z.has_i64 (by assumption)) | (unfold Codec.okInt; omega))
        refine Z.call1 hf rfl (Z.r_callv cf52 hf (first := [.pointer (some ⟨g, 0, none⟩)]) (cap := []) (xs := [.tmp 23]) rfl rfl) hcall ?_; clear hcall hf a
        rintro _ w85 ⟨A86, c87, rfl, hr88, hb89, hc90⟩
        have hzhc90 := hc90.size
        refine ⟨_, rfl, ?_⟩; intro a hf
        refine Z.done ?_
        refine hn63 _ _ ?_
        refine hn59 _ _ ?_
        replace hf : Z.Fr a 26 [] [(2, .func (.func 52) #[.pointer (some ⟨g, 0, none⟩)] #[]), (16, .slice pA1 xs.length pc1), (17, .int .i64 (xs.length : Int)), (18, .int .i64 (k37 : Int))] := hf.keep [2, 16, 17, 18]
        refine Z.reg ?_
        refine Z.val hf rfl (Z.r_add64 (hf.eval rfl) (hf.eval rfl) (by omega)) ?_; clear hf a; intro a hf
        refine Z.val hf rfl (Z.r_move (hf.eval rfl)) ?_; clear hf a; intro a hf
        refine Z.done ?_
        refine hn40 (xs.length - (k37 + 1)) _ _ ?_ ?_
        rotate_left
        replace hf := hf.setv (d := 18) (y := .int .i64 ((k37 + 1 : Nat) : Int)) rfl (congrArg (Value.int .i64) (by first | rfl | omega | (simp; done) | (simp; omega)))
        have hr91 : (Z.Ty.slice Z.Ty.byte).rep w85 (Z.iv w.heap.size w85.heap.size) [.slice A86 (((b ++ (Codec.encInt (xs.length : Int) ++ (xs.take k37).flatMap Codec.encInt)) ++ Codec.encInt x74).length) c87] ((b ++ (Codec.encInt (xs.length : Int) ++ (xs.take k37).flatMap Codec.encInt)) ++ Codec.encInt x74) := Z.rep_as hr88 (by intro b h1 h2; (try simp only [Z.nt, Z.iv, Z.no, Z.ol] at h1); (try simp only [Z.iv]); omega)
        have hxs92 : (b ++ (Codec.encInt (xs.length : Int) ++ (xs.take k37).flatMap Codec.encInt)) ++ Codec.encInt x74 = (b ++ (Codec.encInt (xs.length : Int) ++ (xs.take (k37 + 1 : Nat)).flatMap Codec.encInt) : List UInt8) := by first | rfl | (simp; done) | (rw [hfl.1] <;> (simp; done)) | (rw [Codec.fm_all _ (by omega)] <;> (simp [Codec.encList]; done))
        have hr93 := Z.rep_eq hr91 hxs92
        have hq94 : Z.Ch [g] w16 w85 := hc35.then hc90 (by simp) (by simp)
        replace hf : Z.Fr a 26 [] [(2, .func (.func 52) #[.pointer (some ⟨g, 0, none⟩)] #[]), (16, .slice pA1 xs.length pc1), (17, .int .i64 (xs.length : Int)), (18, .int .i64 ((k37 + 1 : Nat) : Int))] := hf.keep [2, 16, 17, 18]
        exact ⟨k37 + 1, A86, c87, rfl, hq94, hr93, (Z.Blk.cast hb89 (by first | rfl | (simp only [hxs92]; done) | simp_all)), (by omega), hf⟩
        rw [hm36]; omega
      · intro hp95
        refine wp_exit ?_
        refine he55 _ _ _ (by simp) ?_
        refine he41 _ _ _ (by simp) ?_
        refine hx29 _ _ ?_
        have hr96 : (Z.Ty.slice Z.Ty.byte).rep w34 (Z.iv w.heap.size w34.heap.size) [.slice A42 ((b ++ (Codec.encInt (xs.length : Int) ++ (xs.take k37).flatMap Codec.encInt)).length) c43] (b ++ (Codec.encInt (xs.length : Int) ++ (xs.take k37).flatMap Codec.encInt)) := Z.rep_as hr44 (by intro b h1 h2; (try simp only [Z.nt, Z.iv, Z.no, Z.ol] at h1); (try simp only [Z.iv]); omega)
        have hxs97 : b ++ (Codec.encInt (xs.length : Int) ++ (xs.take k37).flatMap Codec.encInt) = (b ++ Codec.encList Codec.encInt xs : List UInt8) := by first | rfl | (simp; done) | (rw [hfl.1] <;> (simp; done)) | (rw [Codec.fm_all _ (by omega)] <;> (simp [Codec.encList]; done))
        have hr98 := Z.rep_eq hr96 hxs97
        have hb99 : Z.Blk w34 g 90 [.slice A42 ((b ++ Codec.encList Codec.encInt xs).length) c43] := Z.Blk.cast hb45 (by first | rfl | (simp only [hxs97]; done) | simp_all)
        have hq100 : Z.Ch [g] w w34 := hc21.then hc35 (by simp) (by simp)
        refine Z.end0 hf Try.results55 ?_
        exact ⟨A42, c43, rfl, hr98, hb99, hq100⟩

set_option maxHeartbeats 400000 in
set_option maxRecDepth 20000 in
theorem w_node (b : List UInt8) (g : Nat) (x : (Int × Int × (List Int) × (Int × Int × ByteArray) × ByteArray × Int × Int)) (w : World) (pA0 : Option Addr) (pc0 : Nat) (pA1 : Option Addr) (pc1 : Nat) (ph0 : (Z.Ty.slice Z.Ty.byte).rep w (Z.nt [g]) [.slice pA0 b.length pc0] b) (pb1 : Z.Blk w g 90 [.slice pA0 b.length pc0]) (ph1 : (Z.Ty.slice (Z.Ty.int .i64)).rep w (Z.nt [g]) [.slice pA1 x.2.2.1.length pc1] x.2.2.1) (pk3 : Z.Ty.ok (Z.Ty.pair (Z.Ty.int .i64) (Z.Ty.pair (Z.Ty.int .i64) (Z.Ty.pair (Z.Ty.slice (Z.Ty.int .i64)) (Z.Ty.pair (Z.Ty.pair (Z.Ty.int .i64) (Z.Ty.pair (Z.Ty.int .i64) Z.Ty.str)) (Z.Ty.pair Z.Ty.str (Z.Ty.pair (Z.Ty.int .i64) (Z.Ty.int .i64))))))) x) (hb : b.length + (Codec.encNode x).length ≤ 70368744177664) (hg : Codec.gNode x) :
    Calls Try.prog 57 #[.pointer (some ⟨g, 0, none⟩), .agg #[.int .i64 x.1, .int .i64 x.2.1, .slice pA1 x.2.2.1.length pc1, .int .i64 x.2.2.2.1.1, .int .i64 x.2.2.2.1.2.1, .string x.2.2.2.1.2.2, .string x.2.2.2.2.1, .int .i64 x.2.2.2.2.2.1, .int .i64 x.2.2.2.2.2.2]] w fun e w' => ∃ (rA0 : Option Addr) (rc0 : Nat), e = .returned (.tuple #[]) ∧ (Z.Ty.slice Z.Ty.byte).rep w' (Z.iv w.heap.size w'.heap.size) [.slice rA0 (b ++ Codec.encNode x).length rc0] (b ++ Codec.encNode x) ∧ Z.Blk w' g 90 [.slice rA0 (b ++ Codec.encNode x).length rc0] ∧ Z.Ch [g] w w' := by
  refine Z.enter Try.func57 rfl Try.ntmps57 (Nat.le_of_ble_eq_true rfl) fun a hf => ?_
  replace hf : Z.Fr a 32 [] [(0, .pointer (some ⟨g, 0, none⟩)), (1, .agg #[.int .i64 x.1, .int .i64 x.2.1, .slice pA1 x.2.2.1.length pc1, .int .i64 x.2.2.2.1.1, .int .i64 x.2.2.2.1.2.1, .string x.2.2.2.1.2.2, .string x.2.2.2.2.1, .int .i64 x.2.2.2.2.2.1, .int .i64 x.2.2.2.2.2.2])] := hf
  have hlt_g := pb1.lt
  have hle_pA1 := Z.rep_le ph1
  have ph1o := Z.rep_ol ph1
  have hle_pA0 := Z.rep_le ph0
  have ph0o := Z.rep_ol ph0
  simp only [Codec.encNode, List.length_append] at hb
  obtain ⟨hg1, hg2, hg3⟩ := hg
  refine Z.seq' (Z.Pq.body _ _ _) fun Q1 hp2 hn3 he4 => ?_
  refine Z.reg ?_
  refine Z.st_box hf rfl rfl rfl ?_; clear hf a; intro g5 w6 a hg7 hz8 hb9 hc10 hf
  refine Z.done ?_
  refine hn3 _ _ ?_
  replace hf : Z.Fr a 32 [] [(0, .pointer (some ⟨g, 0, none⟩)), (3, .pointer (some ⟨g5, 0, none⟩))] := hf.keep [0, 3]
  refine Z.seq' (Z.Pq.body _ _ _) fun Q11 hp12 hn13 he14 => ?_
  refine Z.reg ?_
  refine Z.val hf rfl (Z.r_move (hf.eval rfl)) ?_; clear hf a; intro a hf
  refine Z.val hf rfl (Z.r_fieldAddrB Try.underlying86 rfl Try.sizeOf3 (hf.eval rfl) rfl) ?_; clear hf a; intro a hf
  refine Z.val hf rfl (Z.r_loadB Try.isAgg3 (hf.eval rfl) hb9 rfl) ?_; clear hf a; intro a hf
  refine Z.val hf rfl (Z.r_fieldAddrB Try.underlying86 rfl Try.sizeOf3 (hf.eval rfl) rfl) ?_; clear hf a; intro a hf
  refine Z.val hf rfl (Z.r_loadB Try.isAgg3 (hf.eval rfl) hb9 rfl) ?_; clear hf a; intro a hf
  refine Z.st_bslice hf rfl Try.underlying117 Try.sizeOf2 Try.zeroValue2 (parts := [(0, .tmp 6), (1, .tmp 8)]) (cs := [.int .i64 x.1, .int .i64 x.2.1]) rfl rfl rfl (by kernel_rfl) ?_; clear hf a; intro g15 w16 a hg17 hz18 hb19 hc20 hf
  have ho21 : Z.Own (Z.Ty.int .i64) 2 g15 w16 Z.no (some ⟨g15, 0, none⟩) 2 ([x.1, x.2.1] : List Int) := Z.Own.made (t := (Z.Ty.int .i64)) (xs := ([x.1, x.2.1] : List Int)) hb19 (Nat.le_refl _) rfl (by simp [maxLen]) (by simp [Value.oneCell']) (fun i x hi => by match i, hi with | 0, hi => (injection hi with hi; subst hi; exact ⟨rfl, pk3.1⟩) | 1, hi => (injection hi with hi; subst hi; exact ⟨rfl, pk3.2.1⟩) | (j + 2), hi => simp at hi)
  have hq22 : Z.Ch [] w w16 := hc10.then hc20 (by simp) (by simp)
  have hb23 := pb1.ch0 hq22
  have hr24 : (Z.Ty.slice Z.Ty.byte).rep w16 (Z.nt [g]) [.slice pA0 b.length pc0] b := Z.rep_to ph0o hq22 (by intro b h1 h2; (try simp only [Z.nt, Z.iv, Z.no, Z.ol, List.mem_cons, List.not_mem_nil, or_false, not_or, not_false_eq_true] at h1); (try simp only [Z.nt, Z.iv, Z.no, Z.ol, List.mem_cons, List.mem_append, List.not_mem_nil, or_false, not_or, not_false_eq_true, true_and, and_true]) <;> omega)
  have hr25 := ho21.riv
  have hr26 : (Z.Ty.slice (Z.Ty.int .i64)).rep w16 (Z.nt [g]) [.slice (some ⟨g15, 0, none⟩) 2 2] ([x.1, x.2.1] : List Int) := Z.rep_to hr25 (Z.Ch.refl w16) (by intro b h1 h2; (try simp only [Z.nt, Z.iv, Z.no, Z.ol, List.mem_cons, List.not_mem_nil, or_false, not_or, not_false_eq_true] at h1); (try simp only [Z.nt, Z.iv, Z.no, Z.ol, List.mem_cons, List.mem_append, List.not_mem_nil, or_false, not_or, not_false_eq_true, true_and, and_true]) <;> omega)
  have hcall := w_ints (b) (g) (([x.1, x.2.1] : List Int)) w16 (pA0) (pc0) (some ⟨g15, 0, none⟩) (2) hr24 hb23 hr26 (by first | omega | (simp only [List.length_append, List.flatMap_cons, List.flatMap_nil, List.flatten_cons, List.flatten_nil, List.length_nil, List.append_nil]; omega))
  refine Z.call1 hf rfl (Z.r_call cf37 hf (xs := [.tmp 4, .tmp 9]) rfl) hcall ?_; clear hcall hf a
  rintro _ w27 ⟨A28, c29, rfl, hr30, hb31, hc32⟩
  have hzhc32 := hc32.size
  refine ⟨_, rfl, ?_⟩; intro a hf
  refine Z.done ?_
  refine hn13 _ _ ?_
  replace hf : Z.Fr a 32 [] [(0, .pointer (some ⟨g, 0, none⟩)), (3, .pointer (some ⟨g5, 0, none⟩))] := hf.keep [0, 3]
  refine Z.seq' (Z.Pq.body _ _ _) fun Q33 hp34 hn35 he36 => ?_
  refine Z.reg ?_
  refine Z.val hf rfl (Z.r_move (hf.eval rfl)) ?_; clear hf a; intro a hf
  refine Z.val hf rfl (Z.r_fieldAddrB Try.underlying86 rfl Try.sizeOf29 (hf.eval rfl) rfl) ?_; clear hf a; intro a hf
  have hq37 : Z.Ch [g] w6 w27 := hc20.then hc32 (by simp) (by simp)
  have hb38 := hb9.ch hq37 (by simp only [List.mem_cons, List.mem_append, List.not_mem_nil, or_false, not_or, not_false_eq_true, and_true] <;> omega)
  refine Z.val hf rfl (Z.r_loadB Try.isAgg29 (hf.eval rfl) hb38 rfl) ?_; clear hf a; intro a hf
  refine Z.val hf rfl (Z.r_move (hf.eval rfl)) ?_; clear hf a; intro a hf
  refine Z.val hf rfl (Z.r_makeFunc' hf (xs := [.tmp 14]) (ys := []) rfl rfl) ?_; clear hf a; intro a hf
  have hr39 : (Z.Ty.slice Z.Ty.byte).rep w27 (Z.nt [g]) [.slice A28 ((b ++ ([x.1, x.2.1] : List Int).flatMap Codec.encInt).length) c29] (b ++ ([x.1, x.2.1] : List Int).flatMap Codec.encInt) := Z.rep_to hr30 (Z.Ch.refl w27) (by intro b h1 h2; (try simp only [Z.nt, Z.iv, Z.no, Z.ol, List.mem_cons, List.not_mem_nil, or_false, not_or, not_false_eq_true] at h1); (try simp only [Z.nt, Z.iv, Z.no, Z.ol, List.mem_cons, List.mem_append, List.not_mem_nil, or_false, not_or, not_false_eq_true, true_and, and_true]) <;> omega)
  have hq40 : Z.Ch [g] w w27 := hq22.then hc32 (by simp) (by simp)
  have hr41 : (Z.Ty.slice (Z.Ty.int .i64)).rep w27 (Z.nt [g]) [.slice pA1 x.2.2.1.length pc1] x.2.2.1 := Z.rep_to ph1o hq40 (by intro b h1 h2; (try simp only [Z.nt, Z.iv, Z.no, Z.ol, List.mem_cons, List.not_mem_nil, or_false, not_or, not_false_eq_true] at h1); (try simp only [Z.nt, Z.iv, Z.no, Z.ol, List.mem_cons, List.mem_append, List.not_mem_nil, or_false, not_or, not_false_eq_true, true_and, and_true]) <;> omega)
  have hcall := p_ints (b ++ ([x.1, x.2.1] : List Int).flatMap Codec.encInt) (g) (x.2.2.1) w27 (A28) (c29) (pA1) (pc1) hr39 hb31 hr41 (by first | omega | (simp only [List.length_append, List.flatMap_cons, List.flatMap_nil, List.flatten_cons, List.flatten_nil, List.length_nil, List.append_nil]; omega)) (by assumption)
  refine Z.call1 hf rfl (Z.r_call cf55 hf (xs := [.tmp 11, .tmp 13, .tmp 15]) rfl) hcall ?_; clear hcall hf a
  rintro _ w42 ⟨A43, c44, rfl, hr45, hb46, hc47⟩
  have hzhc47 := hc47.size
  refine ⟨_, rfl, ?_⟩; intro a hf
  refine Z.done ?_
  refine hn35 _ _ ?_
  replace hf : Z.Fr a 32 [] [(0, .pointer (some ⟨g, 0, none⟩)), (3, .pointer (some ⟨g5, 0, none⟩))] := hf.keep [0, 3]
  refine Z.seq' (Z.Pq.body _ _ _) fun Q48 hp49 hn50 he51 => ?_
  refine Z.reg ?_
  refine Z.val hf rfl (Z.r_move (hf.eval rfl)) ?_; clear hf a; intro a hf
  refine Z.val hf rfl (Z.r_fieldAddrB Try.underlying86 rfl Try.sizeOf62 (hf.eval rfl) rfl) ?_; clear hf a; intro a hf
  have hb52 := hb38.ch hc47 (by simp only [List.mem_cons, List.mem_append, List.not_mem_nil, or_false, not_or, not_false_eq_true, and_true] <;> omega)
  refine Z.val hf rfl (Z.r_loadBN Try.isAgg62 Try.sizeOf62 (hf.eval rfl) hb52 rfl rfl) ?_; clear hf a; intro a hf
  have hr53 : (Z.Ty.slice Z.Ty.byte).rep w42 (Z.nt [g]) [.slice A43 (((b ++ ([x.1, x.2.1] : List Int).flatMap Codec.encInt) ++ Codec.encList Codec.encInt x.2.2.1).length) c44] ((b ++ ([x.1, x.2.1] : List Int).flatMap Codec.encInt) ++ Codec.encList Codec.encInt x.2.2.1) := Z.rep_to hr45 (Z.Ch.refl w42) (by intro b h1 h2; (try simp only [Z.nt, Z.iv, Z.no, Z.ol, List.mem_cons, List.not_mem_nil, or_false, not_or, not_false_eq_true] at h1); (try simp only [Z.nt, Z.iv, Z.no, Z.ol, List.mem_cons, List.mem_append, List.not_mem_nil, or_false, not_or, not_false_eq_true, true_and, and_true]) <;> omega)
  have hcall := w_fn ((b ++ ([x.1, x.2.1] : List Int).flatMap Codec.encInt) ++ Codec.encList Codec.encInt x.2.2.1) (g) (x.2.2.2.1) w42 (A43) (c44) hr53 hb46 pk3.2.2.2.1 (by first | omega | (simp only [List.length_append, List.flatMap_cons, List.flatMap_nil, List.flatten_cons, List.flatten_nil, List.length_nil, List.append_nil]; omega)) (by assumption)
  refine Z.call1 hf rfl (Z.r_call cf65 hf (xs := [.tmp 17, .tmp 19]) rfl) hcall ?_; clear hcall hf a
  rintro _ w54 ⟨A55, c56, rfl, hr57, hb58, hc59⟩
  have hzhc59 := hc59.size
  refine ⟨_, rfl, ?_⟩; intro a hf
  refine Z.done ?_
  refine hn50 _ _ ?_
  replace hf : Z.Fr a 32 [] [(0, .pointer (some ⟨g, 0, none⟩)), (3, .pointer (some ⟨g5, 0, none⟩))] := hf.keep [0, 3]
  refine Z.seq' (Z.Pq.body _ _ _) fun Q60 hp61 hn62 he63 => ?_
  refine Z.reg ?_
  refine Z.val hf rfl (Z.r_move (hf.eval rfl)) ?_; clear hf a; intro a hf
  refine Z.val hf rfl (Z.r_fieldAddrB Try.underlying86 rfl Try.sizeOf9 (hf.eval rfl) rfl) ?_; clear hf a; intro a hf
  have hb64 := hb52.ch hc59 (by simp only [List.mem_cons, List.mem_append, List.not_mem_nil, or_false, not_or, not_false_eq_true, and_true] <;> omega)
  refine Z.val hf rfl (Z.r_loadB Try.isAgg9 (hf.eval rfl) hb64 rfl) ?_; clear hf a; intro a hf
  have hr65 : (Z.Ty.slice Z.Ty.byte).rep w54 (Z.nt [g]) [.slice A55 ((((b ++ ([x.1, x.2.1] : List Int).flatMap Codec.encInt) ++ Codec.encList Codec.encInt x.2.2.1) ++ Codec.encFn x.2.2.2.1).length) c56] (((b ++ ([x.1, x.2.1] : List Int).flatMap Codec.encInt) ++ Codec.encList Codec.encInt x.2.2.1) ++ Codec.encFn x.2.2.2.1) := Z.rep_to hr57 (Z.Ch.refl w54) (by intro b h1 h2; (try simp only [Z.nt, Z.iv, Z.no, Z.ol, List.mem_cons, List.not_mem_nil, or_false, not_or, not_false_eq_true] at h1); (try simp only [Z.nt, Z.iv, Z.no, Z.ol, List.mem_cons, List.mem_append, List.not_mem_nil, or_false, not_or, not_false_eq_true, true_and, and_true]) <;> omega)
  have hcall := w_text (((b ++ ([x.1, x.2.1] : List Int).flatMap Codec.encInt) ++ Codec.encList Codec.encInt x.2.2.1) ++ Codec.encFn x.2.2.2.1) (g) (x.2.2.2.2.1) w54 (A55) (c56) hr65 hb58 (by first | omega | (simp only [List.length_append, List.flatMap_cons, List.flatMap_nil, List.flatten_cons, List.flatten_nil, List.length_nil, List.append_nil]; omega)) (by assumption)
  refine Z.call1 hf rfl (Z.r_call cf53 hf (xs := [.tmp 21, .tmp 23]) rfl) hcall ?_; clear hcall hf a
  rintro _ w66 ⟨A67, c68, rfl, hr69, hb70, hc71⟩
  have hzhc71 := hc71.size
  refine ⟨_, rfl, ?_⟩; intro a hf
  refine Z.done ?_
  refine hn62 _ _ ?_
  replace hf : Z.Fr a 32 [] [(0, .pointer (some ⟨g, 0, none⟩)), (3, .pointer (some ⟨g5, 0, none⟩))] := hf.keep [0, 3]
  refine Z.reg ?_
  refine Z.val hf rfl (Z.r_move (hf.eval rfl)) ?_; clear hf a; intro a hf
  refine Z.val hf rfl (Z.r_fieldAddrB Try.underlying86 rfl Try.sizeOf2 (hf.eval rfl) rfl) ?_; clear hf a; intro a hf
  have hb72 := hb64.ch hc71 (by simp only [List.mem_cons, List.mem_append, List.not_mem_nil, or_false, not_or, not_false_eq_true, and_true] <;> omega)
  refine Z.val hf rfl (Z.r_loadB Try.isAgg2 (hf.eval rfl) hb72 rfl) ?_; clear hf a; intro a hf
  refine Z.val hf rfl (Z.r_fieldAddrB Try.underlying86 rfl Try.sizeOf3 (hf.eval rfl) rfl) ?_; clear hf a; intro a hf
  refine Z.val hf rfl (Z.r_loadB Try.isAgg3 (hf.eval rfl) hb72 rfl) ?_; clear hf a; intro a hf
  refine Z.st_bslice hf rfl Try.underlying117 Try.sizeOf2 Try.zeroValue2 (parts := [(0, .tmp 27), (1, .tmp 29)]) (cs := [.int .i64 x.2.2.2.2.2.1, .int .i64 x.2.2.2.2.2.2]) rfl rfl rfl (by kernel_rfl) ?_; clear hf a; intro g73 w74 a hg75 hz76 hb77 hc78 hf
  have ho79 : Z.Own (Z.Ty.int .i64) 2 g73 w74 Z.no (some ⟨g73, 0, none⟩) 2 ([x.2.2.2.2.2.1, x.2.2.2.2.2.2] : List Int) := Z.Own.made (t := (Z.Ty.int .i64)) (xs := ([x.2.2.2.2.2.1, x.2.2.2.2.2.2] : List Int)) hb77 (Nat.le_refl _) rfl (by simp [maxLen]) (by simp [Value.oneCell']) (fun i x hi => by match i, hi with | 0, hi => (injection hi with hi; subst hi; exact ⟨rfl, pk3.2.2.2.2.2.1⟩) | 1, hi => (injection hi with hi; subst hi; exact ⟨rfl, pk3.2.2.2.2.2.2⟩) | (j + 2), hi => simp at hi)
  have hb80 := hb70.ch0 hc78
  have hr81 : (Z.Ty.slice Z.Ty.byte).rep w74 (Z.nt [g]) [.slice A67 (((((b ++ ([x.1, x.2.1] : List Int).flatMap Codec.encInt) ++ Codec.encList Codec.encInt x.2.2.1) ++ Codec.encFn x.2.2.2.1) ++ Codec.encText x.2.2.2.2.1).length) c68] ((((b ++ ([x.1, x.2.1] : List Int).flatMap Codec.encInt) ++ Codec.encList Codec.encInt x.2.2.1) ++ Codec.encFn x.2.2.2.1) ++ Codec.encText x.2.2.2.2.1) := Z.rep_to hr69 hc78 (by intro b h1 h2; (try simp only [Z.nt, Z.iv, Z.no, Z.ol, List.mem_cons, List.not_mem_nil, or_false, not_or, not_false_eq_true] at h1); (try simp only [Z.nt, Z.iv, Z.no, Z.ol, List.mem_cons, List.mem_append, List.not_mem_nil, or_false, not_or, not_false_eq_true, true_and, and_true]) <;> omega)
  have hr82 := ho79.riv
  have hr83 : (Z.Ty.slice (Z.Ty.int .i64)).rep w74 (Z.nt [g]) [.slice (some ⟨g73, 0, none⟩) 2 2] ([x.2.2.2.2.2.1, x.2.2.2.2.2.2] : List Int) := Z.rep_to hr82 (Z.Ch.refl w74) (by intro b h1 h2; (try simp only [Z.nt, Z.iv, Z.no, Z.ol, List.mem_cons, List.not_mem_nil, or_false, not_or, not_false_eq_true] at h1); (try simp only [Z.nt, Z.iv, Z.no, Z.ol, List.mem_cons, List.mem_append, List.not_mem_nil, or_false, not_or, not_false_eq_true, true_and, and_true]) <;> omega)
  have hcall := w_ints ((((b ++ ([x.1, x.2.1] : List Int).flatMap Codec.encInt) ++ Codec.encList Codec.encInt x.2.2.1) ++ Codec.encFn x.2.2.2.1) ++ Codec.encText x.2.2.2.2.1) (g) (([x.2.2.2.2.2.1, x.2.2.2.2.2.2] : List Int)) w74 (A67) (c68) (some ⟨g73, 0, none⟩) (2) hr81 hb80 hr83 (by first | omega | (simp only [List.length_append, List.flatMap_cons, List.flatMap_nil, List.flatten_cons, List.flatten_nil, List.length_nil, List.append_nil]; omega))
  refine Z.call1 hf rfl (Z.r_call cf37 hf (xs := [.tmp 25, .tmp 30]) rfl) hcall ?_; clear hcall hf a
  rintro _ w84 ⟨A85, c86, rfl, hr87, hb88, hc89⟩
  have hzhc89 := hc89.size
  refine ⟨_, rfl, ?_⟩; intro a hf
  refine Z.done ?_
  have hr90 : (Z.Ty.slice Z.Ty.byte).rep w84 (Z.iv w.heap.size w84.heap.size) [.slice A85 ((((((b ++ ([x.1, x.2.1] : List Int).flatMap Codec.encInt) ++ Codec.encList Codec.encInt x.2.2.1) ++ Codec.encFn x.2.2.2.1) ++ Codec.encText x.2.2.2.2.1) ++ ([x.2.2.2.2.2.1, x.2.2.2.2.2.2] : List Int).flatMap Codec.encInt).length) c86] (((((b ++ ([x.1, x.2.1] : List Int).flatMap Codec.encInt) ++ Codec.encList Codec.encInt x.2.2.1) ++ Codec.encFn x.2.2.2.1) ++ Codec.encText x.2.2.2.2.1) ++ ([x.2.2.2.2.2.1, x.2.2.2.2.2.2] : List Int).flatMap Codec.encInt) := Z.rep_as hr87 (by intro b h1 h2; (try simp only [Z.nt, Z.iv, Z.no, Z.ol] at h1); (try simp only [Z.iv]); omega)
  have hxs91 : ((((b ++ ([x.1, x.2.1] : List Int).flatMap Codec.encInt) ++ Codec.encList Codec.encInt x.2.2.1) ++ Codec.encFn x.2.2.2.1) ++ Codec.encText x.2.2.2.2.1) ++ ([x.2.2.2.2.2.1, x.2.2.2.2.2.2] : List Int).flatMap Codec.encInt = (b ++ Codec.encNode x : List UInt8) := by first | rfl | (simp [Codec.encNode]; done)
  have hr92 := Z.rep_eq hr90 hxs91
  have hb93 : Z.Blk w84 g 90 [.slice A85 ((b ++ Codec.encNode x).length) c86] := Z.Blk.cast hb88 (by first | rfl | (simp only [hxs91]; done) | simp_all)
  have hq94 : Z.Ch [g] w w42 := hq40.then hc47 (by simp) (by simp)
  have hq95 : Z.Ch [g] w w54 := hq94.then hc59 (by simp) (by simp)
  have hq96 : Z.Ch [g] w w66 := hq95.then hc71 (by simp) (by simp)
  have hq97 : Z.Ch [g] w w74 := hq96.then hc78 (by simp) (by simp)
  have hq98 : Z.Ch [g] w w84 := hq97.then hc89 (by simp) (by simp)
  refine Z.end0 hf Try.results57 ?_
  exact ⟨A85, c86, rfl, hr92, hb93, hq98⟩

set_option maxHeartbeats 400000 in
set_option maxRecDepth 20000 in
theorem p_recs (b : List UInt8) (g : Nat) (xs : List (Int × ByteArray)) (w : World) (pA0 : Option Addr) (pc0 : Nat) (pA1 : Option Addr) (pc1 : Nat) (ph0 : (Z.Ty.slice Z.Ty.byte).rep w (Z.nt [g]) [.slice pA0 b.length pc0] b) (pb1 : Z.Blk w g 90 [.slice pA0 b.length pc0]) (ph1 : (Z.Ty.slice (Z.Ty.pair (Z.Ty.int .i64) Z.Ty.str)).rep w (Z.nt [g]) [.slice pA1 xs.length pc1] xs) (hb : b.length + (Codec.encList Codec.encRec xs).length ≤ 70368744177664) (hl : xs.length ≤ 65536) (he : ∀ a ∈ xs, Codec.gRec a) :
    Calls Try.prog 40 #[.pointer (some ⟨g, 0, none⟩), .slice pA1 xs.length pc1, .func (.func 41) #[.pointer (some ⟨g, 0, none⟩)] #[]] w fun e w' => ∃ (rA0 : Option Addr) (rc0 : Nat), e = .returned (.tuple #[]) ∧ (Z.Ty.slice Z.Ty.byte).rep w' (Z.iv w.heap.size w'.heap.size) [.slice rA0 (b ++ Codec.encList Codec.encRec xs).length rc0] (b ++ Codec.encList Codec.encRec xs) ∧ Z.Blk w' g 90 [.slice rA0 (b ++ Codec.encList Codec.encRec xs).length rc0] ∧ Z.Ch [g] w w' := by
  refine Z.enter Try.func40 rfl Try.ntmps40 (Nat.le_of_ble_eq_true rfl) fun a hf => ?_
  replace hf : Z.Fr a 26 [] [(0, .pointer (some ⟨g, 0, none⟩)), (1, .slice pA1 xs.length pc1), (2, .func (.func 41) #[.pointer (some ⟨g, 0, none⟩)] #[])] := hf
  have hlt_g := pb1.lt
  have hle_pA1 := Z.rep_le ph1
  have ph1o := Z.rep_ol ph1
  have hle_pA0 := Z.rep_le ph0
  have ph0o := Z.rep_ol ph0
  simp only [Codec.encList, List.length_append] at hb
  refine Z.seq' (Z.Pq.body _ _ _) fun Q1 hp2 hn3 he4 => ?_
  refine Z.seq' hp2 fun Q5 hp6 hn7 he8 => ?_
  refine Z.reg ?_
  refine Z.val hf rfl (Z.r_move (hf.eval rfl)) ?_; clear hf a; intro a hf
  refine Z.val hf rfl (Z.r_len Try.underlying27 (hf.eval rfl)) ?_; clear hf a; intro a hf
  refine Z.val hf rfl (Z.r_gtr (hf.eval rfl) (hf.eval rfl)) ?_; clear hf a; intro a hf
  refine Z.done ?_
  refine hn7 _ _ ?_
  replace hf : Z.Fr a 26 [] [(0, .pointer (some ⟨g, 0, none⟩)), (1, .slice pA1 xs.length pc1), (2, .func (.func 41) #[.pointer (some ⟨g, 0, none⟩)] #[]), (10, .bool (decide (65536 < (xs.length : Int))))] := hf.keep [0, 1, 2, 10]
  refine Z.condp hf rfl ?_ ?_
  · intro hp9
    exfalso; omega
  · intro hp10
    refine wp_skip ?_
    refine hn3 _ _ ?_
    replace hf : Z.Fr a 26 [] [(0, .pointer (some ⟨g, 0, none⟩)), (1, .slice pA1 xs.length pc1), (2, .func (.func 41) #[.pointer (some ⟨g, 0, none⟩)] #[])] := hf.keep [0, 1, 2]
    refine Z.seq' (Z.Pq.body _ _ _) fun Q11 hp12 hn13 he14 => ?_
    refine Z.reg ?_
    refine Z.val hf rfl (Z.r_move (hf.eval rfl)) ?_; clear hf a; intro a hf
    refine Z.val hf rfl (Z.r_move (hf.eval rfl)) ?_; clear hf a; intro a hf
    refine Z.val hf rfl (Z.r_len Try.underlying27 (hf.eval rfl)) ?_; clear hf a; intro a hf
    have hr15 : (Z.Ty.slice Z.Ty.byte).rep w (Z.nt [g]) [.slice pA0 b.length pc0] b := Z.rep_to ph0o (Z.Ch.refl w) (by intro b h1 h2; (try simp only [Z.nt, Z.iv, Z.no, Z.ol, List.mem_cons, List.not_mem_nil, or_false, not_or, not_false_eq_true] at h1); (try simp only [Z.nt, Z.iv, Z.no, Z.ol, List.mem_cons, List.mem_append, List.not_mem_nil, or_false, not_or, not_false_eq_true, true_and, and_true]) <;> omega)
    have hcall := w_int (b) (g) ((xs.length : Int)) w (pA0) (pc0) hr15 pb1 (by first | omega | (simp only [List.length_append, List.flatMap_cons, List.flatMap_nil, List.flatten_cons, List.flatten_nil, List.length_nil, List.append_nil]; omega)) (by first | (exact Z.has_i64 (by assumption)) | (unfold Codec.okInt; omega))
    refine Z.call1 hf rfl (Z.r_call cf52 hf (xs := [.tmp 12, .tmp 14]) rfl) hcall ?_; clear hcall hf a
    rintro _ w16 ⟨A17, c18, rfl, hr19, hb20, hc21⟩
    have hzhc21 := hc21.size
    refine ⟨_, rfl, ?_⟩; intro a hf
    refine Z.done ?_
    refine hn13 _ _ ?_
    replace hf : Z.Fr a 26 [] [(1, .slice pA1 xs.length pc1), (2, .func (.func 41) #[.pointer (some ⟨g, 0, none⟩)] #[])] := hf.keep [1, 2]
    refine Z.seq' (Z.Pq.body _ _ _) fun Q22 hp23 hn24 he25 => ?_
    refine Z.reg ?_
    refine Z.val hf rfl (Z.r_move (hf.eval rfl)) ?_; clear hf a; intro a hf
    refine Z.val hf rfl (Z.r_len Try.underlying27 (hf.eval rfl)) ?_; clear hf a; intro a hf
    refine Z.val hf rfl (Z.r_move (hf.eval rfl)) ?_; clear hf a; intro a hf
    refine Z.done ?_
    refine hn24 _ _ ?_
    replace hf : Z.Fr a 26 [] [(2, .func (.func 41) #[.pointer (some ⟨g, 0, none⟩)] #[]), (16, .slice pA1 xs.length pc1), (17, .int .i64 (xs.length : Int)), (18, .int .i64 0)] := hf.keep [2, 16, 17, 18]
    refine Z.block' (Z.Pq.body _ _ _) fun Q26 hp27 hn28 hx29 he30 => ?_
    refine Z.loop' hp27 (fun m a wl => ∃ (k : Nat), ∃ (lA0 : Option Addr), ∃ (lc0 : Nat), m = xs.length - k ∧ Z.Ch [g] w16 wl ∧ (Z.Ty.slice Z.Ty.byte).rep wl (Z.iv w.heap.size wl.heap.size) [.slice lA0 ((b ++ (Codec.encInt (xs.length : Int) ++ (xs.take k).flatMap Codec.encRec)).length) lc0] (b ++ (Codec.encInt (xs.length : Int) ++ (xs.take k).flatMap Codec.encRec)) ∧ Z.Blk wl g 90 [.slice lA0 ((b ++ (Codec.encInt (xs.length : Int) ++ (xs.take k).flatMap Codec.encRec)).length) lc0] ∧ k ≤ xs.length ∧ Z.Fr a 26 [] [(2, .func (.func 41) #[.pointer (some ⟨g, 0, none⟩)] #[]), (16, .slice pA1 xs.length pc1), (17, .int .i64 (xs.length : Int)), (18, .int .i64 (k : Int))]) (xs.length - 0) ?_ ?_
    · replace hf := hf.setv (d := 18) (y := .int .i64 (0 : Int)) rfl (congrArg (Value.int .i64) (by first | rfl | omega | (simp; done) | (simp; omega)))
      have hr31 : (Z.Ty.slice Z.Ty.byte).rep w16 (Z.iv w.heap.size w16.heap.size) [.slice A17 ((b ++ Codec.encInt (xs.length : Int)).length) c18] (b ++ Codec.encInt (xs.length : Int)) := Z.rep_as hr19 (by intro b h1 h2; (try simp only [Z.nt, Z.iv, Z.no, Z.ol] at h1); (try simp only [Z.iv]); omega)
      have hxs32 : b ++ Codec.encInt (xs.length : Int) = (b ++ (Codec.encInt (xs.length : Int) ++ (xs.take 0).flatMap Codec.encRec) : List UInt8) := by first | rfl | (simp; done) | (rw [hfl.1] <;> (simp; done)) | (rw [Codec.fm_all _ (by omega)] <;> (simp [Codec.encList]; done))
      have hr33 := Z.rep_eq hr31 hxs32
      replace hf : Z.Fr a 26 [] [(2, .func (.func 41) #[.pointer (some ⟨g, 0, none⟩)] #[]), (16, .slice pA1 xs.length pc1), (17, .int .i64 (xs.length : Int)), (18, .int .i64 (0 : Int))] := hf.keep [2, 16, 17, 18]
      exact ⟨0, A17, c18, rfl, (Z.Ch.refl' _ _), hr33, (Z.Blk.cast hb20 (by first | rfl | (simp only [hxs32]; done) | simp_all)), (by omega), hf⟩
    · rintro m47 a w34 ⟨k37, A42, c43, hm36, hc35, hr44, hb45, hk46, hf⟩ Q38 hp39 hn40 he41
      have hzhc35 := hc35.size
      refine Z.seq' hp39 fun Q48 hp49 hn50 he51 => ?_
      refine Z.reg ?_
      refine Z.val hf rfl (Z.r_lss (hf.eval rfl) (hf.eval rfl)) ?_; clear hf a; intro a hf
      refine Z.done ?_
      refine hn50 _ _ ?_
      replace hf : Z.Fr a 26 [] [(2, .func (.func 41) #[.pointer (some ⟨g, 0, none⟩)] #[]), (16, .slice pA1 xs.length pc1), (17, .int .i64 (xs.length : Int)), (18, .int .i64 (k37 : Int)), (19, .bool (decide ((k37 : Int) < (xs.length : Int))))] := hf.keep [2, 16, 17, 18, 19]
      refine Z.seq' hp39 fun Q52 hp53 hn54 he55 => ?_
      refine Z.condp hf rfl ?_ ?_
      · intro hp56
        refine wp_skip ?_
        refine hn54 _ _ ?_
        replace hf : Z.Fr a 26 [] [(2, .func (.func 41) #[.pointer (some ⟨g, 0, none⟩)] #[]), (16, .slice pA1 xs.length pc1), (17, .int .i64 (xs.length : Int)), (18, .int .i64 (k37 : Int))] := hf.keep [2, 16, 17, 18]
        refine Z.seq' hp39 fun Q57 hp58 hn59 he60 => ?_
        refine Z.block' hp58 fun Q61 hp62 hn63 hx64 he65 => ?_
        refine Z.seq' hp62 fun Q66 hp67 hn68 he69 => ?_
        refine Z.reg ?_
        have hq70 : Z.Ch [g] w w34 := hc21.then hc35 (by simp) (by simp)
        have hr71 : (Z.Ty.slice (Z.Ty.pair (Z.Ty.int .i64) Z.Ty.str)).rep w34 (Z.ol [g] w.heap.size) [.slice pA1 xs.length pc1] xs := Z.rep_to ph1o hq70 (by intro b h1 h2; (try simp only [Z.nt, Z.iv, Z.no, Z.ol, List.mem_cons, List.not_mem_nil, or_false, not_or, not_false_eq_true] at h1); (try simp only [Z.nt, Z.iv, Z.no, Z.ol, List.mem_cons, List.mem_append, List.not_mem_nil, or_false, not_or, not_false_eq_true, true_and, and_true]) <;> omega)
        have hkx74 : k37 < (xs).length := (by omega)
        obtain ⟨ad72, es73, x74, hA75, hF76, hl77, hx78, hc79, hr80⟩ := Z.rep_el hr71 hkx74
        have hok81 := Z.rep_ok _ hr80
        obtain ⟨ca82, cb83, he84, hr85, hr86⟩ := hr80
        have he87 := hr85.1
        have he88 := hr86.1
        have he89 : es73 = [.int .i64 x74.1, .string x74.2] := by simp only [he84, he87, he88, List.cons_append, List.nil_append]
        rw [he89] at hc79
        have hfl := Codec.fm_step Codec.encRec hx78
        have hge := he _ (Codec.get_mem hx78)
        refine Z.val hf rfl (Z.r_indexAddrE Try.underlying27 Try.sizeOf60 (hf.eval rfl) hA75 (hf.eval rfl) (k := k37) (by first | rfl | omega) (by omega)) ?_; clear hf a; intro a hf
        refine Z.val hf rfl (Z.r_loadEN Try.isAgg60 Try.sizeOf60 (hf.eval rfl) hc79 rfl rfl) ?_; clear hf a; intro a hf
        refine Z.st_alloc hf rfl Try.zeroValue60 rfl ?_; clear hf a; intro g90 w91 a hg92 hz93 hb94 hc95 hf
        refine Z.st_store hf hb94 rfl rfl Try.sizeOf60 rfl rfl rfl (by simp [Value.oneCell']) rfl ?_; clear hf a; intro w96 a hz97 hb98 hc99 hf
        refine Z.done ?_
        refine hn68 _ _ ?_
        replace hf : Z.Fr a 26 [] [(2, .func (.func 41) #[.pointer (some ⟨g, 0, none⟩)] #[]), (7, .pointer (some ⟨g90, 0, none⟩)), (16, .slice pA1 xs.length pc1), (17, .int .i64 (xs.length : Int)), (18, .int .i64 (k37 : Int))] := hf.keep [2, 7, 16, 17, 18]
        refine Z.reg ?_
        refine Z.val hf rfl (Z.r_move (hf.eval rfl)) ?_; clear hf a; intro a hf
        refine Z.val hf rfl (Z.r_loadBN Try.isAgg60 Try.sizeOf60 (hf.eval rfl) hb98 rfl rfl) ?_; clear hf a; intro a hf
        have hq100 : Z.Ch [g90] w34 w96 := hc95.then hc99 (by simp) (by simp)
        have hb101 := hb45.ch hq100 (by simp only [List.mem_cons, List.mem_append, List.not_mem_nil, or_false, not_or, not_false_eq_true, and_true] <;> omega)
        have hr102 : (Z.Ty.slice Z.Ty.byte).rep w96 (Z.nt [g]) [.slice A42 ((b ++ (Codec.encInt (xs.length : Int) ++ (xs.take k37).flatMap Codec.encRec)).length) c43] (b ++ (Codec.encInt (xs.length : Int) ++ (xs.take k37).flatMap Codec.encRec)) := Z.rep_to hr44 hq100 (by intro b h1 h2; (try simp only [Z.nt, Z.iv, Z.no, Z.ol, List.mem_cons, List.not_mem_nil, or_false, not_or, not_false_eq_true] at h1); (try simp only [Z.nt, Z.iv, Z.no, Z.ol, List.mem_cons, List.mem_append, List.not_mem_nil, or_false, not_or, not_false_eq_true, true_and, and_true]) <;> omega)
        have hcall := w_rec (b ++ (Codec.encInt (xs.length : Int) ++ (xs.take k37).flatMap Codec.encRec)) (g) (x74) w96 (A42) (c43) hr102 hb101 hok81 (by first | omega | (simp only [List.length_append, List.flatMap_cons, List.flatMap_nil, List.flatten_cons, List.flatten_nil, List.length_nil, List.append_nil]; omega)) (by assumption)
        refine Z.call1 hf rfl (Z.r_callv cf41 hf (first := [.pointer (some ⟨g, 0, none⟩)]) (cap := []) (xs := [.tmp 23]) rfl rfl) hcall ?_; clear hcall hf a
        rintro _ w103 ⟨A104, c105, rfl, hr106, hb107, hc108⟩
        have hzhc108 := hc108.size
        refine ⟨_, rfl, ?_⟩; intro a hf
        refine Z.done ?_
        refine hn63 _ _ ?_
        refine hn59 _ _ ?_
        replace hf : Z.Fr a 26 [] [(2, .func (.func 41) #[.pointer (some ⟨g, 0, none⟩)] #[]), (16, .slice pA1 xs.length pc1), (17, .int .i64 (xs.length : Int)), (18, .int .i64 (k37 : Int))] := hf.keep [2, 16, 17, 18]
        refine Z.reg ?_
        refine Z.val hf rfl (Z.r_add64 (hf.eval rfl) (hf.eval rfl) (by omega)) ?_; clear hf a; intro a hf
        refine Z.val hf rfl (Z.r_move (hf.eval rfl)) ?_; clear hf a; intro a hf
        refine Z.done ?_
        refine hn40 (xs.length - (k37 + 1)) _ _ ?_ ?_
        rotate_left
        replace hf := hf.setv (d := 18) (y := .int .i64 ((k37 + 1 : Nat) : Int)) rfl (congrArg (Value.int .i64) (by first | rfl | omega | (simp; done) | (simp; omega)))
        have hr109 : (Z.Ty.slice Z.Ty.byte).rep w103 (Z.iv w.heap.size w103.heap.size) [.slice A104 (((b ++ (Codec.encInt (xs.length : Int) ++ (xs.take k37).flatMap Codec.encRec)) ++ Codec.encRec x74).length) c105] ((b ++ (Codec.encInt (xs.length : Int) ++ (xs.take k37).flatMap Codec.encRec)) ++ Codec.encRec x74) := Z.rep_as hr106 (by intro b h1 h2; (try simp only [Z.nt, Z.iv, Z.no, Z.ol] at h1); (try simp only [Z.iv]); omega)
        have hxs110 : (b ++ (Codec.encInt (xs.length : Int) ++ (xs.take k37).flatMap Codec.encRec)) ++ Codec.encRec x74 = (b ++ (Codec.encInt (xs.length : Int) ++ (xs.take (k37 + 1 : Nat)).flatMap Codec.encRec) : List UInt8) := by first | rfl | (simp; done) | (rw [hfl.1] <;> (simp; done)) | (rw [Codec.fm_all _ (by omega)] <;> (simp [Codec.encList]; done))
        have hr111 := Z.rep_eq hr109 hxs110
        have hq112 : Z.Ch [g] w16 w91 := hc35.then hc95 (by simp) (by simp)
        have hq113 : Z.Ch [g, g90] w16 w96 := hq112.then hc99 (by simp) (by simp)
        have hq114 : Z.Ch [g, g90] w16 w103 := hq113.then hc108 (by simp) (by simp)
        replace hf : Z.Fr a 26 [] [(2, .func (.func 41) #[.pointer (some ⟨g, 0, none⟩)] #[]), (16, .slice pA1 xs.length pc1), (17, .int .i64 (xs.length : Int)), (18, .int .i64 ((k37 + 1 : Nat) : Int))] := hf.keep [2, 16, 17, 18]
        exact ⟨k37 + 1, A104, c105, rfl, (hq114.mono (by intro k hk; (try simp only [List.mem_cons, List.mem_append, List.not_mem_nil, or_false, false_or] at hk ⊢) <;> omega)), hr111, (Z.Blk.cast hb107 (by first | rfl | (simp only [hxs110]; done) | simp_all)), (by omega), hf⟩
        rw [hm36]; omega
      · intro hp115
        refine wp_exit ?_
        refine he55 _ _ _ (by simp) ?_
        refine he41 _ _ _ (by simp) ?_
        refine hx29 _ _ ?_
        have hr116 : (Z.Ty.slice Z.Ty.byte).rep w34 (Z.iv w.heap.size w34.heap.size) [.slice A42 ((b ++ (Codec.encInt (xs.length : Int) ++ (xs.take k37).flatMap Codec.encRec)).length) c43] (b ++ (Codec.encInt (xs.length : Int) ++ (xs.take k37).flatMap Codec.encRec)) := Z.rep_as hr44 (by intro b h1 h2; (try simp only [Z.nt, Z.iv, Z.no, Z.ol] at h1); (try simp only [Z.iv]); omega)
        have hxs117 : b ++ (Codec.encInt (xs.length : Int) ++ (xs.take k37).flatMap Codec.encRec) = (b ++ Codec.encList Codec.encRec xs : List UInt8) := by first | rfl | (simp; done) | (rw [hfl.1] <;> (simp; done)) | (rw [Codec.fm_all _ (by omega)] <;> (simp [Codec.encList]; done))
        have hr118 := Z.rep_eq hr116 hxs117
        have hb119 : Z.Blk w34 g 90 [.slice A42 ((b ++ Codec.encList Codec.encRec xs).length) c43] := Z.Blk.cast hb45 (by first | rfl | (simp only [hxs117]; done) | simp_all)
        have hq120 : Z.Ch [g] w w34 := hc21.then hc35 (by simp) (by simp)
        refine Z.end0 hf Try.results40 ?_
        exact ⟨A42, c43, rfl, hr118, hb119, hq120⟩

set_option maxHeartbeats 400000 in
set_option maxRecDepth 20000 in
theorem p_changes (b : List UInt8) (g : Nat) (xs : List ((Int × Int) × (Int × Int × (Int × Int × Int × Int)) × Int)) (w : World) (pA0 : Option Addr) (pc0 : Nat) (pA1 : Option Addr) (pc1 : Nat) (ph0 : (Z.Ty.slice Z.Ty.byte).rep w (Z.nt [g]) [.slice pA0 b.length pc0] b) (pb1 : Z.Blk w g 90 [.slice pA0 b.length pc0]) (ph1 : (Z.Ty.slice (Z.Ty.pair (Z.Ty.pair (Z.Ty.int .i64) (Z.Ty.int .i64)) (Z.Ty.pair (Z.Ty.pair (Z.Ty.int .i64) (Z.Ty.pair (Z.Ty.int .i64) (Z.Ty.pair (Z.Ty.int .i64) (Z.Ty.pair (Z.Ty.int .i64) (Z.Ty.pair (Z.Ty.int .i64) (Z.Ty.int .i64)))))) (Z.Ty.int .i64)))).rep w (Z.nt [g]) [.slice pA1 xs.length pc1] xs) (hb : b.length + (Codec.encList Codec.encChange xs).length ≤ 70368744177664) (hl : xs.length ≤ 65536) :
    Calls Try.prog 42 #[.pointer (some ⟨g, 0, none⟩), .slice pA1 xs.length pc1, .func (.func 43) #[.pointer (some ⟨g, 0, none⟩)] #[]] w fun e w' => ∃ (rA0 : Option Addr) (rc0 : Nat), e = .returned (.tuple #[]) ∧ (Z.Ty.slice Z.Ty.byte).rep w' (Z.iv w.heap.size w'.heap.size) [.slice rA0 (b ++ Codec.encList Codec.encChange xs).length rc0] (b ++ Codec.encList Codec.encChange xs) ∧ Z.Blk w' g 90 [.slice rA0 (b ++ Codec.encList Codec.encChange xs).length rc0] ∧ Z.Ch [g] w w' := by
  refine Z.enter Try.func42 rfl Try.ntmps42 (Nat.le_of_ble_eq_true rfl) fun a hf => ?_
  replace hf : Z.Fr a 26 [] [(0, .pointer (some ⟨g, 0, none⟩)), (1, .slice pA1 xs.length pc1), (2, .func (.func 43) #[.pointer (some ⟨g, 0, none⟩)] #[])] := hf
  have hlt_g := pb1.lt
  have hle_pA1 := Z.rep_le ph1
  have ph1o := Z.rep_ol ph1
  have hle_pA0 := Z.rep_le ph0
  have ph0o := Z.rep_ol ph0
  simp only [Codec.encList, List.length_append] at hb
  refine Z.seq' (Z.Pq.body _ _ _) fun Q1 hp2 hn3 he4 => ?_
  refine Z.seq' hp2 fun Q5 hp6 hn7 he8 => ?_
  refine Z.reg ?_
  refine Z.val hf rfl (Z.r_move (hf.eval rfl)) ?_; clear hf a; intro a hf
  refine Z.val hf rfl (Z.r_len Try.underlying28 (hf.eval rfl)) ?_; clear hf a; intro a hf
  refine Z.val hf rfl (Z.r_gtr (hf.eval rfl) (hf.eval rfl)) ?_; clear hf a; intro a hf
  refine Z.done ?_
  refine hn7 _ _ ?_
  replace hf : Z.Fr a 26 [] [(0, .pointer (some ⟨g, 0, none⟩)), (1, .slice pA1 xs.length pc1), (2, .func (.func 43) #[.pointer (some ⟨g, 0, none⟩)] #[]), (10, .bool (decide (65536 < (xs.length : Int))))] := hf.keep [0, 1, 2, 10]
  refine Z.condp hf rfl ?_ ?_
  · intro hp9
    exfalso; omega
  · intro hp10
    refine wp_skip ?_
    refine hn3 _ _ ?_
    replace hf : Z.Fr a 26 [] [(0, .pointer (some ⟨g, 0, none⟩)), (1, .slice pA1 xs.length pc1), (2, .func (.func 43) #[.pointer (some ⟨g, 0, none⟩)] #[])] := hf.keep [0, 1, 2]
    refine Z.seq' (Z.Pq.body _ _ _) fun Q11 hp12 hn13 he14 => ?_
    refine Z.reg ?_
    refine Z.val hf rfl (Z.r_move (hf.eval rfl)) ?_; clear hf a; intro a hf
    refine Z.val hf rfl (Z.r_move (hf.eval rfl)) ?_; clear hf a; intro a hf
    refine Z.val hf rfl (Z.r_len Try.underlying28 (hf.eval rfl)) ?_; clear hf a; intro a hf
    have hr15 : (Z.Ty.slice Z.Ty.byte).rep w (Z.nt [g]) [.slice pA0 b.length pc0] b := Z.rep_to ph0o (Z.Ch.refl w) (by intro b h1 h2; (try simp only [Z.nt, Z.iv, Z.no, Z.ol, List.mem_cons, List.not_mem_nil, or_false, not_or, not_false_eq_true] at h1); (try simp only [Z.nt, Z.iv, Z.no, Z.ol, List.mem_cons, List.mem_append, List.not_mem_nil, or_false, not_or, not_false_eq_true, true_and, and_true]) <;> omega)
    have hcall := w_int (b) (g) ((xs.length : Int)) w (pA0) (pc0) hr15 pb1 (by first | omega | (simp only [List.length_append, List.flatMap_cons, List.flatMap_nil, List.flatten_cons, List.flatten_nil, List.length_nil, List.append_nil]; omega)) (by first | (exact Z.has_i64 (by assumption)) | (unfold Codec.okInt; omega))
    refine Z.call1 hf rfl (Z.r_call cf52 hf (xs := [.tmp 12, .tmp 14]) rfl) hcall ?_; clear hcall hf a
    rintro _ w16 ⟨A17, c18, rfl, hr19, hb20, hc21⟩
    have hzhc21 := hc21.size
    refine ⟨_, rfl, ?_⟩; intro a hf
    refine Z.done ?_
    refine hn13 _ _ ?_
    replace hf : Z.Fr a 26 [] [(1, .slice pA1 xs.length pc1), (2, .func (.func 43) #[.pointer (some ⟨g, 0, none⟩)] #[])] := hf.keep [1, 2]
    refine Z.seq' (Z.Pq.body _ _ _) fun Q22 hp23 hn24 he25 => ?_
    refine Z.reg ?_
    refine Z.val hf rfl (Z.r_move (hf.eval rfl)) ?_; clear hf a; intro a hf
    refine Z.val hf rfl (Z.r_len Try.underlying28 (hf.eval rfl)) ?_; clear hf a; intro a hf
    refine Z.val hf rfl (Z.r_move (hf.eval rfl)) ?_; clear hf a; intro a hf
    refine Z.done ?_
    refine hn24 _ _ ?_
    replace hf : Z.Fr a 26 [] [(2, .func (.func 43) #[.pointer (some ⟨g, 0, none⟩)] #[]), (16, .slice pA1 xs.length pc1), (17, .int .i64 (xs.length : Int)), (18, .int .i64 0)] := hf.keep [2, 16, 17, 18]
    refine Z.block' (Z.Pq.body _ _ _) fun Q26 hp27 hn28 hx29 he30 => ?_
    refine Z.loop' hp27 (fun m a wl => ∃ (k : Nat), ∃ (lA0 : Option Addr), ∃ (lc0 : Nat), m = xs.length - k ∧ Z.Ch [g] w16 wl ∧ (Z.Ty.slice Z.Ty.byte).rep wl (Z.iv w.heap.size wl.heap.size) [.slice lA0 ((b ++ (Codec.encInt (xs.length : Int) ++ (xs.take k).flatMap Codec.encChange)).length) lc0] (b ++ (Codec.encInt (xs.length : Int) ++ (xs.take k).flatMap Codec.encChange)) ∧ Z.Blk wl g 90 [.slice lA0 ((b ++ (Codec.encInt (xs.length : Int) ++ (xs.take k).flatMap Codec.encChange)).length) lc0] ∧ k ≤ xs.length ∧ Z.Fr a 26 [] [(2, .func (.func 43) #[.pointer (some ⟨g, 0, none⟩)] #[]), (16, .slice pA1 xs.length pc1), (17, .int .i64 (xs.length : Int)), (18, .int .i64 (k : Int))]) (xs.length - 0) ?_ ?_
    · replace hf := hf.setv (d := 18) (y := .int .i64 (0 : Int)) rfl (congrArg (Value.int .i64) (by first | rfl | omega | (simp; done) | (simp; omega)))
      have hr31 : (Z.Ty.slice Z.Ty.byte).rep w16 (Z.iv w.heap.size w16.heap.size) [.slice A17 ((b ++ Codec.encInt (xs.length : Int)).length) c18] (b ++ Codec.encInt (xs.length : Int)) := Z.rep_as hr19 (by intro b h1 h2; (try simp only [Z.nt, Z.iv, Z.no, Z.ol] at h1); (try simp only [Z.iv]); omega)
      have hxs32 : b ++ Codec.encInt (xs.length : Int) = (b ++ (Codec.encInt (xs.length : Int) ++ (xs.take 0).flatMap Codec.encChange) : List UInt8) := by first | rfl | (simp; done) | (rw [hfl.1] <;> (simp; done)) | (rw [Codec.fm_all _ (by omega)] <;> (simp [Codec.encList]; done))
      have hr33 := Z.rep_eq hr31 hxs32
      replace hf : Z.Fr a 26 [] [(2, .func (.func 43) #[.pointer (some ⟨g, 0, none⟩)] #[]), (16, .slice pA1 xs.length pc1), (17, .int .i64 (xs.length : Int)), (18, .int .i64 (0 : Int))] := hf.keep [2, 16, 17, 18]
      exact ⟨0, A17, c18, rfl, (Z.Ch.refl' _ _), hr33, (Z.Blk.cast hb20 (by first | rfl | (simp only [hxs32]; done) | simp_all)), (by omega), hf⟩
    · rintro m47 a w34 ⟨k37, A42, c43, hm36, hc35, hr44, hb45, hk46, hf⟩ Q38 hp39 hn40 he41
      have hzhc35 := hc35.size
      refine Z.seq' hp39 fun Q48 hp49 hn50 he51 => ?_
      refine Z.reg ?_
      refine Z.val hf rfl (Z.r_lss (hf.eval rfl) (hf.eval rfl)) ?_; clear hf a; intro a hf
      refine Z.done ?_
      refine hn50 _ _ ?_
      replace hf : Z.Fr a 26 [] [(2, .func (.func 43) #[.pointer (some ⟨g, 0, none⟩)] #[]), (16, .slice pA1 xs.length pc1), (17, .int .i64 (xs.length : Int)), (18, .int .i64 (k37 : Int)), (19, .bool (decide ((k37 : Int) < (xs.length : Int))))] := hf.keep [2, 16, 17, 18, 19]
      refine Z.seq' hp39 fun Q52 hp53 hn54 he55 => ?_
      refine Z.condp hf rfl ?_ ?_
      · intro hp56
        refine wp_skip ?_
        refine hn54 _ _ ?_
        replace hf : Z.Fr a 26 [] [(2, .func (.func 43) #[.pointer (some ⟨g, 0, none⟩)] #[]), (16, .slice pA1 xs.length pc1), (17, .int .i64 (xs.length : Int)), (18, .int .i64 (k37 : Int))] := hf.keep [2, 16, 17, 18]
        refine Z.seq' hp39 fun Q57 hp58 hn59 he60 => ?_
        refine Z.block' hp58 fun Q61 hp62 hn63 hx64 he65 => ?_
        refine Z.seq' hp62 fun Q66 hp67 hn68 he69 => ?_
        refine Z.reg ?_
        have hq70 : Z.Ch [g] w w34 := hc21.then hc35 (by simp) (by simp)
        have hr71 : (Z.Ty.slice (Z.Ty.pair (Z.Ty.pair (Z.Ty.int .i64) (Z.Ty.int .i64)) (Z.Ty.pair (Z.Ty.pair (Z.Ty.int .i64) (Z.Ty.pair (Z.Ty.int .i64) (Z.Ty.pair (Z.Ty.int .i64) (Z.Ty.pair (Z.Ty.int .i64) (Z.Ty.pair (Z.Ty.int .i64) (Z.Ty.int .i64)))))) (Z.Ty.int .i64)))).rep w34 (Z.ol [g] w.heap.size) [.slice pA1 xs.length pc1] xs := Z.rep_to ph1o hq70 (by intro b h1 h2; (try simp only [Z.nt, Z.iv, Z.no, Z.ol, List.mem_cons, List.not_mem_nil, or_false, not_or, not_false_eq_true] at h1); (try simp only [Z.nt, Z.iv, Z.no, Z.ol, List.mem_cons, List.mem_append, List.not_mem_nil, or_false, not_or, not_false_eq_true, true_and, and_true]) <;> omega)
        have hkx74 : k37 < (xs).length := (by omega)
        obtain ⟨ad72, es73, x74, hA75, hF76, hl77, hx78, hc79, hr80⟩ := Z.rep_el hr71 hkx74
        have hok81 := Z.rep_ok _ hr80
        obtain ⟨ca82, cb83, he84, hr85, hr86⟩ := hr80
        obtain ⟨ca87, cb88, he89, hr90, hr91⟩ := hr85
        have he92 := hr90.1
        have he93 := hr91.1
        obtain ⟨ca94, cb95, he96, hr97, hr98⟩ := hr86
        obtain ⟨ca99, cb100, he101, hr102, hr103⟩ := hr97
        have he104 := hr102.1
        obtain ⟨ca105, cb106, he107, hr108, hr109⟩ := hr103
        have he110 := hr108.1
        obtain ⟨ca111, cb112, he113, hr114, hr115⟩ := hr109
        have he116 := hr114.1
        obtain ⟨ca117, cb118, he119, hr120, hr121⟩ := hr115
        have he122 := hr120.1
        obtain ⟨ca123, cb124, he125, hr126, hr127⟩ := hr121
        have he128 := hr126.1
        have he129 := hr127.1
        have he130 := hr98.1
        have he131 : es73 = [.int .i64 x74.1.1, .int .i64 x74.1.2, .int .i64 x74.2.1.1, .int .i64 x74.2.1.2.1, .int .i64 x74.2.1.2.2.1, .int .i64 x74.2.1.2.2.2.1, .int .i64 x74.2.1.2.2.2.2.1, .int .i64 x74.2.1.2.2.2.2.2, .int .i64 x74.2.2] := by simp only [he84, he89, he92, he93, he96, he101, he104, he107, he110, he113, he116, he119, he122, he125, he128, he129, he130, List.cons_append, List.nil_append]
        rw [he131] at hc79
        have hfl := Codec.fm_step Codec.encChange hx78
        refine Z.val hf rfl (Z.r_indexAddrE Try.underlying28 Try.sizeOf71 (hf.eval rfl) hA75 (hf.eval rfl) (k := k37) (by first | rfl | omega) (by omega)) ?_; clear hf a; intro a hf
        refine Z.val hf rfl (Z.r_loadEN Try.isAgg71 Try.sizeOf71 (hf.eval rfl) hc79 rfl rfl) ?_; clear hf a; intro a hf
        refine Z.st_alloc hf rfl Try.zeroValue71 rfl ?_; clear hf a; intro g132 w133 a hg134 hz135 hb136 hc137 hf
        refine Z.st_store hf hb136 rfl rfl Try.sizeOf71 rfl rfl rfl (by simp [Value.oneCell']) rfl ?_; clear hf a; intro w138 a hz139 hb140 hc141 hf
        refine Z.done ?_
        refine hn68 _ _ ?_
        replace hf : Z.Fr a 26 [] [(2, .func (.func 43) #[.pointer (some ⟨g, 0, none⟩)] #[]), (7, .pointer (some ⟨g132, 0, none⟩)), (16, .slice pA1 xs.length pc1), (17, .int .i64 (xs.length : Int)), (18, .int .i64 (k37 : Int))] := hf.keep [2, 7, 16, 17, 18]
        refine Z.reg ?_
        refine Z.val hf rfl (Z.r_move (hf.eval rfl)) ?_; clear hf a; intro a hf
        refine Z.val hf rfl (Z.r_loadBN Try.isAgg71 Try.sizeOf71 (hf.eval rfl) hb140 rfl rfl) ?_; clear hf a; intro a hf
        have hq142 : Z.Ch [g132] w34 w138 := hc137.then hc141 (by simp) (by simp)
        have hb143 := hb45.ch hq142 (by simp only [List.mem_cons, List.mem_append, List.not_mem_nil, or_false, not_or, not_false_eq_true, and_true] <;> omega)
        have hr144 : (Z.Ty.slice Z.Ty.byte).rep w138 (Z.nt [g]) [.slice A42 ((b ++ (Codec.encInt (xs.length : Int) ++ (xs.take k37).flatMap Codec.encChange)).length) c43] (b ++ (Codec.encInt (xs.length : Int) ++ (xs.take k37).flatMap Codec.encChange)) := Z.rep_to hr44 hq142 (by intro b h1 h2; (try simp only [Z.nt, Z.iv, Z.no, Z.ol, List.mem_cons, List.not_mem_nil, or_false, not_or, not_false_eq_true] at h1); (try simp only [Z.nt, Z.iv, Z.no, Z.ol, List.mem_cons, List.mem_append, List.not_mem_nil, or_false, not_or, not_false_eq_true, true_and, and_true]) <;> omega)
        have hcall := w_change (b ++ (Codec.encInt (xs.length : Int) ++ (xs.take k37).flatMap Codec.encChange)) (g) (x74) w138 (A42) (c43) hr144 hb143 hok81 (by first | omega | (simp only [List.length_append, List.flatMap_cons, List.flatMap_nil, List.flatten_cons, List.flatten_nil, List.length_nil, List.append_nil]; omega))
        refine Z.call1 hf rfl (Z.r_callv cf43 hf (first := [.pointer (some ⟨g, 0, none⟩)]) (cap := []) (xs := [.tmp 23]) rfl rfl) hcall ?_; clear hcall hf a
        rintro _ w145 ⟨A146, c147, rfl, hr148, hb149, hc150⟩
        have hzhc150 := hc150.size
        refine ⟨_, rfl, ?_⟩; intro a hf
        refine Z.done ?_
        refine hn63 _ _ ?_
        refine hn59 _ _ ?_
        replace hf : Z.Fr a 26 [] [(2, .func (.func 43) #[.pointer (some ⟨g, 0, none⟩)] #[]), (16, .slice pA1 xs.length pc1), (17, .int .i64 (xs.length : Int)), (18, .int .i64 (k37 : Int))] := hf.keep [2, 16, 17, 18]
        refine Z.reg ?_
        refine Z.val hf rfl (Z.r_add64 (hf.eval rfl) (hf.eval rfl) (by omega)) ?_; clear hf a; intro a hf
        refine Z.val hf rfl (Z.r_move (hf.eval rfl)) ?_; clear hf a; intro a hf
        refine Z.done ?_
        refine hn40 (xs.length - (k37 + 1)) _ _ ?_ ?_
        rotate_left
        replace hf := hf.setv (d := 18) (y := .int .i64 ((k37 + 1 : Nat) : Int)) rfl (congrArg (Value.int .i64) (by first | rfl | omega | (simp; done) | (simp; omega)))
        have hr151 : (Z.Ty.slice Z.Ty.byte).rep w145 (Z.iv w.heap.size w145.heap.size) [.slice A146 (((b ++ (Codec.encInt (xs.length : Int) ++ (xs.take k37).flatMap Codec.encChange)) ++ Codec.encChange x74).length) c147] ((b ++ (Codec.encInt (xs.length : Int) ++ (xs.take k37).flatMap Codec.encChange)) ++ Codec.encChange x74) := Z.rep_as hr148 (by intro b h1 h2; (try simp only [Z.nt, Z.iv, Z.no, Z.ol] at h1); (try simp only [Z.iv]); omega)
        have hxs152 : (b ++ (Codec.encInt (xs.length : Int) ++ (xs.take k37).flatMap Codec.encChange)) ++ Codec.encChange x74 = (b ++ (Codec.encInt (xs.length : Int) ++ (xs.take (k37 + 1 : Nat)).flatMap Codec.encChange) : List UInt8) := by first | rfl | (simp; done) | (rw [hfl.1] <;> (simp; done)) | (rw [Codec.fm_all _ (by omega)] <;> (simp [Codec.encList]; done))
        have hr153 := Z.rep_eq hr151 hxs152
        have hq154 : Z.Ch [g] w16 w133 := hc35.then hc137 (by simp) (by simp)
        have hq155 : Z.Ch [g, g132] w16 w138 := hq154.then hc141 (by simp) (by simp)
        have hq156 : Z.Ch [g, g132] w16 w145 := hq155.then hc150 (by simp) (by simp)
        replace hf : Z.Fr a 26 [] [(2, .func (.func 43) #[.pointer (some ⟨g, 0, none⟩)] #[]), (16, .slice pA1 xs.length pc1), (17, .int .i64 (xs.length : Int)), (18, .int .i64 ((k37 + 1 : Nat) : Int))] := hf.keep [2, 16, 17, 18]
        exact ⟨k37 + 1, A146, c147, rfl, (hq156.mono (by intro k hk; (try simp only [List.mem_cons, List.mem_append, List.not_mem_nil, or_false, false_or] at hk ⊢) <;> omega)), hr153, (Z.Blk.cast hb149 (by first | rfl | (simp only [hxs152]; done) | simp_all)), (by omega), hf⟩
        rw [hm36]; omega
      · intro hp157
        refine wp_exit ?_
        refine he55 _ _ _ (by simp) ?_
        refine he41 _ _ _ (by simp) ?_
        refine hx29 _ _ ?_
        have hr158 : (Z.Ty.slice Z.Ty.byte).rep w34 (Z.iv w.heap.size w34.heap.size) [.slice A42 ((b ++ (Codec.encInt (xs.length : Int) ++ (xs.take k37).flatMap Codec.encChange)).length) c43] (b ++ (Codec.encInt (xs.length : Int) ++ (xs.take k37).flatMap Codec.encChange)) := Z.rep_as hr44 (by intro b h1 h2; (try simp only [Z.nt, Z.iv, Z.no, Z.ol] at h1); (try simp only [Z.iv]); omega)
        have hxs159 : b ++ (Codec.encInt (xs.length : Int) ++ (xs.take k37).flatMap Codec.encChange) = (b ++ Codec.encList Codec.encChange xs : List UInt8) := by first | rfl | (simp; done) | (rw [hfl.1] <;> (simp; done)) | (rw [Codec.fm_all _ (by omega)] <;> (simp [Codec.encList]; done))
        have hr160 := Z.rep_eq hr158 hxs159
        have hb161 : Z.Blk w34 g 90 [.slice A42 ((b ++ Codec.encList Codec.encChange xs).length) c43] := Z.Blk.cast hb45 (by first | rfl | (simp only [hxs159]; done) | simp_all)
        have hq162 : Z.Ch [g] w w34 := hc21.then hc35 (by simp) (by simp)
        refine Z.end0 hf Try.results42 ?_
        exact ⟨A42, c43, rfl, hr160, hb161, hq162⟩

set_option maxHeartbeats 400000 in
set_option maxRecDepth 20000 in
theorem p_nodes (b : List UInt8) (g : Nat) (xs : List (Int × Int × (List Int) × (Int × Int × ByteArray) × ByteArray × Int × Int)) (w : World) (pA0 : Option Addr) (pc0 : Nat) (pA1 : Option Addr) (pc1 : Nat) (ph0 : (Z.Ty.slice Z.Ty.byte).rep w (Z.nt [g]) [.slice pA0 b.length pc0] b) (pb1 : Z.Blk w g 90 [.slice pA0 b.length pc0]) (ph1 : (Z.Ty.slice (Z.Ty.pair (Z.Ty.int .i64) (Z.Ty.pair (Z.Ty.int .i64) (Z.Ty.pair (Z.Ty.slice (Z.Ty.int .i64)) (Z.Ty.pair (Z.Ty.pair (Z.Ty.int .i64) (Z.Ty.pair (Z.Ty.int .i64) Z.Ty.str)) (Z.Ty.pair Z.Ty.str (Z.Ty.pair (Z.Ty.int .i64) (Z.Ty.int .i64)))))))).rep w (Z.nt [g]) [.slice pA1 xs.length pc1] xs) (hb : b.length + (Codec.encList Codec.encNode xs).length ≤ 70368744177664) (hl : xs.length ≤ 65536) (he : ∀ a ∈ xs, Codec.gNode a) :
    Calls Try.prog 56 #[.pointer (some ⟨g, 0, none⟩), .slice pA1 xs.length pc1, .func (.func 57) #[.pointer (some ⟨g, 0, none⟩)] #[]] w fun e w' => ∃ (rA0 : Option Addr) (rc0 : Nat), e = .returned (.tuple #[]) ∧ (Z.Ty.slice Z.Ty.byte).rep w' (Z.iv w.heap.size w'.heap.size) [.slice rA0 (b ++ Codec.encList Codec.encNode xs).length rc0] (b ++ Codec.encList Codec.encNode xs) ∧ Z.Blk w' g 90 [.slice rA0 (b ++ Codec.encList Codec.encNode xs).length rc0] ∧ Z.Ch [g] w w' := by
  refine Z.enter Try.func56 rfl Try.ntmps56 (Nat.le_of_ble_eq_true rfl) fun a hf => ?_
  replace hf : Z.Fr a 26 [] [(0, .pointer (some ⟨g, 0, none⟩)), (1, .slice pA1 xs.length pc1), (2, .func (.func 57) #[.pointer (some ⟨g, 0, none⟩)] #[])] := hf
  have hlt_g := pb1.lt
  have hle_pA1 := Z.rep_le ph1
  have ph1o := Z.rep_ol ph1
  have hle_pA0 := Z.rep_le ph0
  have ph0o := Z.rep_ol ph0
  simp only [Codec.encList, List.length_append] at hb
  refine Z.seq' (Z.Pq.body _ _ _) fun Q1 hp2 hn3 he4 => ?_
  refine Z.seq' hp2 fun Q5 hp6 hn7 he8 => ?_
  refine Z.reg ?_
  refine Z.val hf rfl (Z.r_move (hf.eval rfl)) ?_; clear hf a; intro a hf
  refine Z.val hf rfl (Z.r_len Try.underlying30 (hf.eval rfl)) ?_; clear hf a; intro a hf
  refine Z.val hf rfl (Z.r_gtr (hf.eval rfl) (hf.eval rfl)) ?_; clear hf a; intro a hf
  refine Z.done ?_
  refine hn7 _ _ ?_
  replace hf : Z.Fr a 26 [] [(0, .pointer (some ⟨g, 0, none⟩)), (1, .slice pA1 xs.length pc1), (2, .func (.func 57) #[.pointer (some ⟨g, 0, none⟩)] #[]), (10, .bool (decide (65536 < (xs.length : Int))))] := hf.keep [0, 1, 2, 10]
  refine Z.condp hf rfl ?_ ?_
  · intro hp9
    exfalso; omega
  · intro hp10
    refine wp_skip ?_
    refine hn3 _ _ ?_
    replace hf : Z.Fr a 26 [] [(0, .pointer (some ⟨g, 0, none⟩)), (1, .slice pA1 xs.length pc1), (2, .func (.func 57) #[.pointer (some ⟨g, 0, none⟩)] #[])] := hf.keep [0, 1, 2]
    refine Z.seq' (Z.Pq.body _ _ _) fun Q11 hp12 hn13 he14 => ?_
    refine Z.reg ?_
    refine Z.val hf rfl (Z.r_move (hf.eval rfl)) ?_; clear hf a; intro a hf
    refine Z.val hf rfl (Z.r_move (hf.eval rfl)) ?_; clear hf a; intro a hf
    refine Z.val hf rfl (Z.r_len Try.underlying30 (hf.eval rfl)) ?_; clear hf a; intro a hf
    have hr15 : (Z.Ty.slice Z.Ty.byte).rep w (Z.nt [g]) [.slice pA0 b.length pc0] b := Z.rep_to ph0o (Z.Ch.refl w) (by intro b h1 h2; (try simp only [Z.nt, Z.iv, Z.no, Z.ol, List.mem_cons, List.not_mem_nil, or_false, not_or, not_false_eq_true] at h1); (try simp only [Z.nt, Z.iv, Z.no, Z.ol, List.mem_cons, List.mem_append, List.not_mem_nil, or_false, not_or, not_false_eq_true, true_and, and_true]) <;> omega)
    have hcall := w_int (b) (g) ((xs.length : Int)) w (pA0) (pc0) hr15 pb1 (by first | omega | (simp only [List.length_append, List.flatMap_cons, List.flatMap_nil, List.flatten_cons, List.flatten_nil, List.length_nil, List.append_nil]; omega)) (by first | (exact Z.has_i64 (by assumption)) | (unfold Codec.okInt; omega))
    refine Z.call1 hf rfl (Z.r_call cf52 hf (xs := [.tmp 12, .tmp 14]) rfl) hcall ?_; clear hcall hf a
    rintro _ w16 ⟨A17, c18, rfl, hr19, hb20, hc21⟩
    have hzhc21 := hc21.size
    refine ⟨_, rfl, ?_⟩; intro a hf
    refine Z.done ?_
    refine hn13 _ _ ?_
    replace hf : Z.Fr a 26 [] [(1, .slice pA1 xs.length pc1), (2, .func (.func 57) #[.pointer (some ⟨g, 0, none⟩)] #[])] := hf.keep [1, 2]
    refine Z.seq' (Z.Pq.body _ _ _) fun Q22 hp23 hn24 he25 => ?_
    refine Z.reg ?_
    refine Z.val hf rfl (Z.r_move (hf.eval rfl)) ?_; clear hf a; intro a hf
    refine Z.val hf rfl (Z.r_len Try.underlying30 (hf.eval rfl)) ?_; clear hf a; intro a hf
    refine Z.val hf rfl (Z.r_move (hf.eval rfl)) ?_; clear hf a; intro a hf
    refine Z.done ?_
    refine hn24 _ _ ?_
    replace hf : Z.Fr a 26 [] [(2, .func (.func 57) #[.pointer (some ⟨g, 0, none⟩)] #[]), (16, .slice pA1 xs.length pc1), (17, .int .i64 (xs.length : Int)), (18, .int .i64 0)] := hf.keep [2, 16, 17, 18]
    refine Z.block' (Z.Pq.body _ _ _) fun Q26 hp27 hn28 hx29 he30 => ?_
    refine Z.loop' hp27 (fun m a wl => ∃ (k : Nat), ∃ (lA0 : Option Addr), ∃ (lc0 : Nat), m = xs.length - k ∧ Z.Ch [g] w16 wl ∧ (Z.Ty.slice Z.Ty.byte).rep wl (Z.iv w.heap.size wl.heap.size) [.slice lA0 ((b ++ (Codec.encInt (xs.length : Int) ++ (xs.take k).flatMap Codec.encNode)).length) lc0] (b ++ (Codec.encInt (xs.length : Int) ++ (xs.take k).flatMap Codec.encNode)) ∧ Z.Blk wl g 90 [.slice lA0 ((b ++ (Codec.encInt (xs.length : Int) ++ (xs.take k).flatMap Codec.encNode)).length) lc0] ∧ k ≤ xs.length ∧ Z.Fr a 26 [] [(2, .func (.func 57) #[.pointer (some ⟨g, 0, none⟩)] #[]), (16, .slice pA1 xs.length pc1), (17, .int .i64 (xs.length : Int)), (18, .int .i64 (k : Int))]) (xs.length - 0) ?_ ?_
    · replace hf := hf.setv (d := 18) (y := .int .i64 (0 : Int)) rfl (congrArg (Value.int .i64) (by first | rfl | omega | (simp; done) | (simp; omega)))
      have hr31 : (Z.Ty.slice Z.Ty.byte).rep w16 (Z.iv w.heap.size w16.heap.size) [.slice A17 ((b ++ Codec.encInt (xs.length : Int)).length) c18] (b ++ Codec.encInt (xs.length : Int)) := Z.rep_as hr19 (by intro b h1 h2; (try simp only [Z.nt, Z.iv, Z.no, Z.ol] at h1); (try simp only [Z.iv]); omega)
      have hxs32 : b ++ Codec.encInt (xs.length : Int) = (b ++ (Codec.encInt (xs.length : Int) ++ (xs.take 0).flatMap Codec.encNode) : List UInt8) := by first | rfl | (simp; done) | (rw [hfl.1] <;> (simp; done)) | (rw [Codec.fm_all _ (by omega)] <;> (simp [Codec.encList]; done))
      have hr33 := Z.rep_eq hr31 hxs32
      replace hf : Z.Fr a 26 [] [(2, .func (.func 57) #[.pointer (some ⟨g, 0, none⟩)] #[]), (16, .slice pA1 xs.length pc1), (17, .int .i64 (xs.length : Int)), (18, .int .i64 (0 : Int))] := hf.keep [2, 16, 17, 18]
      exact ⟨0, A17, c18, rfl, (Z.Ch.refl' _ _), hr33, (Z.Blk.cast hb20 (by first | rfl | (simp only [hxs32]; done) | simp_all)), (by omega), hf⟩
    · rintro m47 a w34 ⟨k37, A42, c43, hm36, hc35, hr44, hb45, hk46, hf⟩ Q38 hp39 hn40 he41
      have hzhc35 := hc35.size
      refine Z.seq' hp39 fun Q48 hp49 hn50 he51 => ?_
      refine Z.reg ?_
      refine Z.val hf rfl (Z.r_lss (hf.eval rfl) (hf.eval rfl)) ?_; clear hf a; intro a hf
      refine Z.done ?_
      refine hn50 _ _ ?_
      replace hf : Z.Fr a 26 [] [(2, .func (.func 57) #[.pointer (some ⟨g, 0, none⟩)] #[]), (16, .slice pA1 xs.length pc1), (17, .int .i64 (xs.length : Int)), (18, .int .i64 (k37 : Int)), (19, .bool (decide ((k37 : Int) < (xs.length : Int))))] := hf.keep [2, 16, 17, 18, 19]
      refine Z.seq' hp39 fun Q52 hp53 hn54 he55 => ?_
      refine Z.condp hf rfl ?_ ?_
      · intro hp56
        refine wp_skip ?_
        refine hn54 _ _ ?_
        replace hf : Z.Fr a 26 [] [(2, .func (.func 57) #[.pointer (some ⟨g, 0, none⟩)] #[]), (16, .slice pA1 xs.length pc1), (17, .int .i64 (xs.length : Int)), (18, .int .i64 (k37 : Int))] := hf.keep [2, 16, 17, 18]
        refine Z.seq' hp39 fun Q57 hp58 hn59 he60 => ?_
        refine Z.block' hp58 fun Q61 hp62 hn63 hx64 he65 => ?_
        refine Z.seq' hp62 fun Q66 hp67 hn68 he69 => ?_
        refine Z.reg ?_
        have hq70 : Z.Ch [g] w w34 := hc21.then hc35 (by simp) (by simp)
        have hr71 : (Z.Ty.slice (Z.Ty.pair (Z.Ty.int .i64) (Z.Ty.pair (Z.Ty.int .i64) (Z.Ty.pair (Z.Ty.slice (Z.Ty.int .i64)) (Z.Ty.pair (Z.Ty.pair (Z.Ty.int .i64) (Z.Ty.pair (Z.Ty.int .i64) Z.Ty.str)) (Z.Ty.pair Z.Ty.str (Z.Ty.pair (Z.Ty.int .i64) (Z.Ty.int .i64)))))))).rep w34 (Z.ol [g] w.heap.size) [.slice pA1 xs.length pc1] xs := Z.rep_to ph1o hq70 (by intro b h1 h2; (try simp only [Z.nt, Z.iv, Z.no, Z.ol, List.mem_cons, List.not_mem_nil, or_false, not_or, not_false_eq_true] at h1); (try simp only [Z.nt, Z.iv, Z.no, Z.ol, List.mem_cons, List.mem_append, List.not_mem_nil, or_false, not_or, not_false_eq_true, true_and, and_true]) <;> omega)
        have hkx74 : k37 < (xs).length := (by omega)
        obtain ⟨ad72, es73, x74, hA75, hF76, hl77, hx78, hc79, hr80⟩ := Z.rep_el hr71 hkx74
        have hok81 := Z.rep_ok _ hr80
        obtain ⟨ca82, cb83, he84, hr85, hr86⟩ := hr80
        have he87 := hr85.1
        obtain ⟨ca88, cb89, he90, hr91, hr92⟩ := hr86
        have he93 := hr91.1
        obtain ⟨ca94, cb95, he96, hr97, hr98⟩ := hr92
        obtain ⟨A99, c100, he101, hn102, hn103⟩ := Z.rep_slice hr97
        rw [he101] at hr97
        have hle_A99 := Z.rep_le hr97
        obtain ⟨ca104, cb105, he106, hr107, hr108⟩ := hr98
        obtain ⟨ca109, cb110, he111, hr112, hr113⟩ := hr107
        have he114 := hr112.1
        obtain ⟨ca115, cb116, he117, hr118, hr119⟩ := hr113
        have he120 := hr118.1
        have he121 := hr119.1
        obtain ⟨ca122, cb123, he124, hr125, hr126⟩ := hr108
        have he127 := hr125.1
        obtain ⟨ca128, cb129, he130, hr131, hr132⟩ := hr126
        have he133 := hr131.1
        have he134 := hr132.1
        have he135 : es73 = [.int .i64 x74.1, .int .i64 x74.2.1, .slice A99 x74.2.2.1.length c100, .int .i64 x74.2.2.2.1.1, .int .i64 x74.2.2.2.1.2.1, .string x74.2.2.2.1.2.2, .string x74.2.2.2.2.1, .int .i64 x74.2.2.2.2.2.1, .int .i64 x74.2.2.2.2.2.2] := by simp only [he84, he87, he90, he93, he96, he101, he106, he111, he114, he117, he120, he121, he124, he127, he130, he133, he134, List.cons_append, List.nil_append]
        rw [he135] at hc79
        have hfl := Codec.fm_step Codec.encNode hx78
        have hge := he _ (Codec.get_mem hx78)
        refine Z.val hf rfl (Z.r_indexAddrE Try.underlying30 Try.sizeOf86 (hf.eval rfl) hA75 (hf.eval rfl) (k := k37) (by first | rfl | omega) (by omega)) ?_; clear hf a; intro a hf
        refine Z.val hf rfl (Z.r_loadEN Try.isAgg86 Try.sizeOf86 (hf.eval rfl) hc79 rfl rfl) ?_; clear hf a; intro a hf
        refine Z.st_alloc hf rfl Try.zeroValue86 rfl ?_; clear hf a; intro g136 w137 a hg138 hz139 hb140 hc141 hf
        refine Z.st_store hf hb140 rfl rfl Try.sizeOf86 rfl rfl rfl (by simp [Value.oneCell']) rfl ?_; clear hf a; intro w142 a hz143 hb144 hc145 hf
        refine Z.done ?_
        refine hn68 _ _ ?_
        replace hf : Z.Fr a 26 [] [(2, .func (.func 57) #[.pointer (some ⟨g, 0, none⟩)] #[]), (7, .pointer (some ⟨g136, 0, none⟩)), (16, .slice pA1 xs.length pc1), (17, .int .i64 (xs.length : Int)), (18, .int .i64 (k37 : Int))] := hf.keep [2, 7, 16, 17, 18]
        refine Z.reg ?_
        refine Z.val hf rfl (Z.r_move (hf.eval rfl)) ?_; clear hf a; intro a hf
        refine Z.val hf rfl (Z.r_loadBN Try.isAgg86 Try.sizeOf86 (hf.eval rfl) hb144 rfl rfl) ?_; clear hf a; intro a hf
        have hq146 : Z.Ch [g136] w34 w142 := hc141.then hc145 (by simp) (by simp)
        have hb147 := hb45.ch hq146 (by simp only [List.mem_cons, List.mem_append, List.not_mem_nil, or_false, not_or, not_false_eq_true, and_true] <;> omega)
        have hr148 : (Z.Ty.slice Z.Ty.byte).rep w142 (Z.nt [g]) [.slice A42 ((b ++ (Codec.encInt (xs.length : Int) ++ (xs.take k37).flatMap Codec.encNode)).length) c43] (b ++ (Codec.encInt (xs.length : Int) ++ (xs.take k37).flatMap Codec.encNode)) := Z.rep_to hr44 hq146 (by intro b h1 h2; (try simp only [Z.nt, Z.iv, Z.no, Z.ol, List.mem_cons, List.not_mem_nil, or_false, not_or, not_false_eq_true] at h1); (try simp only [Z.nt, Z.iv, Z.no, Z.ol, List.mem_cons, List.mem_append, List.not_mem_nil, or_false, not_or, not_false_eq_true, true_and, and_true]) <;> omega)
        have hr149 : (Z.Ty.slice (Z.Ty.int .i64)).rep w142 (Z.nt [g]) [.slice A99 x74.2.2.1.length c100] x74.2.2.1 := Z.rep_to hr97 hq146 (by intro b h1 h2; (try simp only [Z.nt, Z.iv, Z.no, Z.ol, List.mem_cons, List.not_mem_nil, or_false, not_or, not_false_eq_true] at h1); (try simp only [Z.nt, Z.iv, Z.no, Z.ol, List.mem_cons, List.mem_append, List.not_mem_nil, or_false, not_or, not_false_eq_true, true_and, and_true]) <;> omega)
        have hcall := w_node (b ++ (Codec.encInt (xs.length : Int) ++ (xs.take k37).flatMap Codec.encNode)) (g) (x74) w142 (A42) (c43) (A99) (c100) hr148 hb147 hr149 hok81 (by first | omega | (simp only [List.length_append, List.flatMap_cons, List.flatMap_nil, List.flatten_cons, List.flatten_nil, List.length_nil, List.append_nil]; omega)) (by assumption)
        refine Z.call1 hf rfl (Z.r_callv cf57 hf (first := [.pointer (some ⟨g, 0, none⟩)]) (cap := []) (xs := [.tmp 23]) rfl rfl) hcall ?_; clear hcall hf a
        rintro _ w150 ⟨A151, c152, rfl, hr153, hb154, hc155⟩
        have hzhc155 := hc155.size
        refine ⟨_, rfl, ?_⟩; intro a hf
        refine Z.done ?_
        refine hn63 _ _ ?_
        refine hn59 _ _ ?_
        replace hf : Z.Fr a 26 [] [(2, .func (.func 57) #[.pointer (some ⟨g, 0, none⟩)] #[]), (16, .slice pA1 xs.length pc1), (17, .int .i64 (xs.length : Int)), (18, .int .i64 (k37 : Int))] := hf.keep [2, 16, 17, 18]
        refine Z.reg ?_
        refine Z.val hf rfl (Z.r_add64 (hf.eval rfl) (hf.eval rfl) (by omega)) ?_; clear hf a; intro a hf
        refine Z.val hf rfl (Z.r_move (hf.eval rfl)) ?_; clear hf a; intro a hf
        refine Z.done ?_
        refine hn40 (xs.length - (k37 + 1)) _ _ ?_ ?_
        rotate_left
        replace hf := hf.setv (d := 18) (y := .int .i64 ((k37 + 1 : Nat) : Int)) rfl (congrArg (Value.int .i64) (by first | rfl | omega | (simp; done) | (simp; omega)))
        have hr156 : (Z.Ty.slice Z.Ty.byte).rep w150 (Z.iv w.heap.size w150.heap.size) [.slice A151 (((b ++ (Codec.encInt (xs.length : Int) ++ (xs.take k37).flatMap Codec.encNode)) ++ Codec.encNode x74).length) c152] ((b ++ (Codec.encInt (xs.length : Int) ++ (xs.take k37).flatMap Codec.encNode)) ++ Codec.encNode x74) := Z.rep_as hr153 (by intro b h1 h2; (try simp only [Z.nt, Z.iv, Z.no, Z.ol] at h1); (try simp only [Z.iv]); omega)
        have hxs157 : (b ++ (Codec.encInt (xs.length : Int) ++ (xs.take k37).flatMap Codec.encNode)) ++ Codec.encNode x74 = (b ++ (Codec.encInt (xs.length : Int) ++ (xs.take (k37 + 1 : Nat)).flatMap Codec.encNode) : List UInt8) := by first | rfl | (simp; done) | (rw [hfl.1] <;> (simp; done)) | (rw [Codec.fm_all _ (by omega)] <;> (simp [Codec.encList]; done))
        have hr158 := Z.rep_eq hr156 hxs157
        have hq159 : Z.Ch [g] w16 w137 := hc35.then hc141 (by simp) (by simp)
        have hq160 : Z.Ch [g, g136] w16 w142 := hq159.then hc145 (by simp) (by simp)
        have hq161 : Z.Ch [g, g136] w16 w150 := hq160.then hc155 (by simp) (by simp)
        replace hf : Z.Fr a 26 [] [(2, .func (.func 57) #[.pointer (some ⟨g, 0, none⟩)] #[]), (16, .slice pA1 xs.length pc1), (17, .int .i64 (xs.length : Int)), (18, .int .i64 ((k37 + 1 : Nat) : Int))] := hf.keep [2, 16, 17, 18]
        exact ⟨k37 + 1, A151, c152, rfl, (hq161.mono (by intro k hk; (try simp only [List.mem_cons, List.mem_append, List.not_mem_nil, or_false, false_or] at hk ⊢) <;> omega)), hr158, (Z.Blk.cast hb154 (by first | rfl | (simp only [hxs157]; done) | simp_all)), (by omega), hf⟩
        rw [hm36]; omega
      · intro hp162
        refine wp_exit ?_
        refine he55 _ _ _ (by simp) ?_
        refine he41 _ _ _ (by simp) ?_
        refine hx29 _ _ ?_
        have hr163 : (Z.Ty.slice Z.Ty.byte).rep w34 (Z.iv w.heap.size w34.heap.size) [.slice A42 ((b ++ (Codec.encInt (xs.length : Int) ++ (xs.take k37).flatMap Codec.encNode)).length) c43] (b ++ (Codec.encInt (xs.length : Int) ++ (xs.take k37).flatMap Codec.encNode)) := Z.rep_as hr44 (by intro b h1 h2; (try simp only [Z.nt, Z.iv, Z.no, Z.ol] at h1); (try simp only [Z.iv]); omega)
        have hxs164 : b ++ (Codec.encInt (xs.length : Int) ++ (xs.take k37).flatMap Codec.encNode) = (b ++ Codec.encList Codec.encNode xs : List UInt8) := by first | rfl | (simp; done) | (rw [hfl.1] <;> (simp; done)) | (rw [Codec.fm_all _ (by omega)] <;> (simp [Codec.encList]; done))
        have hr165 := Z.rep_eq hr163 hxs164
        have hb166 : Z.Blk w34 g 90 [.slice A42 ((b ++ Codec.encList Codec.encNode xs).length) c43] := Z.Blk.cast hb45 (by first | rfl | (simp only [hxs164]; done) | simp_all)
        have hq167 : Z.Ch [g] w w34 := hc21.then hc35 (by simp) (by simp)
        refine Z.end0 hf Try.results56 ?_
        exact ⟨A42, c43, rfl, hr165, hb166, hq167⟩

set_option maxHeartbeats 400000 in
set_option maxRecDepth 20000 in
theorem p_moves (b : List UInt8) (g : Nat) (xs : List (Int × Int × Int × Int × (Int × Int × ByteArray))) (w : World) (pA0 : Option Addr) (pc0 : Nat) (pA1 : Option Addr) (pc1 : Nat) (ph0 : (Z.Ty.slice Z.Ty.byte).rep w (Z.nt [g]) [.slice pA0 b.length pc0] b) (pb1 : Z.Blk w g 90 [.slice pA0 b.length pc0]) (ph1 : (Z.Ty.slice (Z.Ty.pair (Z.Ty.int .i64) (Z.Ty.pair (Z.Ty.int .i64) (Z.Ty.pair (Z.Ty.int .i64) (Z.Ty.pair (Z.Ty.int .i64) (Z.Ty.pair (Z.Ty.int .i64) (Z.Ty.pair (Z.Ty.int .i64) Z.Ty.str))))))).rep w (Z.nt [g]) [.slice pA1 xs.length pc1] xs) (hb : b.length + (Codec.encList Codec.encMove xs).length ≤ 70368744177664) (hl : xs.length ≤ 65536) (he : ∀ a ∈ xs, Codec.gMove a) :
    Calls Try.prog 58 #[.pointer (some ⟨g, 0, none⟩), .slice pA1 xs.length pc1, .func (.func 59) #[.pointer (some ⟨g, 0, none⟩)] #[]] w fun e w' => ∃ (rA0 : Option Addr) (rc0 : Nat), e = .returned (.tuple #[]) ∧ (Z.Ty.slice Z.Ty.byte).rep w' (Z.iv w.heap.size w'.heap.size) [.slice rA0 (b ++ Codec.encList Codec.encMove xs).length rc0] (b ++ Codec.encList Codec.encMove xs) ∧ Z.Blk w' g 90 [.slice rA0 (b ++ Codec.encList Codec.encMove xs).length rc0] ∧ Z.Ch [g] w w' := by
  refine Z.enter Try.func58 rfl Try.ntmps58 (Nat.le_of_ble_eq_true rfl) fun a hf => ?_
  replace hf : Z.Fr a 26 [] [(0, .pointer (some ⟨g, 0, none⟩)), (1, .slice pA1 xs.length pc1), (2, .func (.func 59) #[.pointer (some ⟨g, 0, none⟩)] #[])] := hf
  have hlt_g := pb1.lt
  have hle_pA1 := Z.rep_le ph1
  have ph1o := Z.rep_ol ph1
  have hle_pA0 := Z.rep_le ph0
  have ph0o := Z.rep_ol ph0
  simp only [Codec.encList, List.length_append] at hb
  refine Z.seq' (Z.Pq.body _ _ _) fun Q1 hp2 hn3 he4 => ?_
  refine Z.seq' hp2 fun Q5 hp6 hn7 he8 => ?_
  refine Z.reg ?_
  refine Z.val hf rfl (Z.r_move (hf.eval rfl)) ?_; clear hf a; intro a hf
  refine Z.val hf rfl (Z.r_len Try.underlying31 (hf.eval rfl)) ?_; clear hf a; intro a hf
  refine Z.val hf rfl (Z.r_gtr (hf.eval rfl) (hf.eval rfl)) ?_; clear hf a; intro a hf
  refine Z.done ?_
  refine hn7 _ _ ?_
  replace hf : Z.Fr a 26 [] [(0, .pointer (some ⟨g, 0, none⟩)), (1, .slice pA1 xs.length pc1), (2, .func (.func 59) #[.pointer (some ⟨g, 0, none⟩)] #[]), (10, .bool (decide (65536 < (xs.length : Int))))] := hf.keep [0, 1, 2, 10]
  refine Z.condp hf rfl ?_ ?_
  · intro hp9
    exfalso; omega
  · intro hp10
    refine wp_skip ?_
    refine hn3 _ _ ?_
    replace hf : Z.Fr a 26 [] [(0, .pointer (some ⟨g, 0, none⟩)), (1, .slice pA1 xs.length pc1), (2, .func (.func 59) #[.pointer (some ⟨g, 0, none⟩)] #[])] := hf.keep [0, 1, 2]
    refine Z.seq' (Z.Pq.body _ _ _) fun Q11 hp12 hn13 he14 => ?_
    refine Z.reg ?_
    refine Z.val hf rfl (Z.r_move (hf.eval rfl)) ?_; clear hf a; intro a hf
    refine Z.val hf rfl (Z.r_move (hf.eval rfl)) ?_; clear hf a; intro a hf
    refine Z.val hf rfl (Z.r_len Try.underlying31 (hf.eval rfl)) ?_; clear hf a; intro a hf
    have hr15 : (Z.Ty.slice Z.Ty.byte).rep w (Z.nt [g]) [.slice pA0 b.length pc0] b := Z.rep_to ph0o (Z.Ch.refl w) (by intro b h1 h2; (try simp only [Z.nt, Z.iv, Z.no, Z.ol, List.mem_cons, List.not_mem_nil, or_false, not_or, not_false_eq_true] at h1); (try simp only [Z.nt, Z.iv, Z.no, Z.ol, List.mem_cons, List.mem_append, List.not_mem_nil, or_false, not_or, not_false_eq_true, true_and, and_true]) <;> omega)
    have hcall := w_int (b) (g) ((xs.length : Int)) w (pA0) (pc0) hr15 pb1 (by first | omega | (simp only [List.length_append, List.flatMap_cons, List.flatMap_nil, List.flatten_cons, List.flatten_nil, List.length_nil, List.append_nil]; omega)) (by first | (exact Z.has_i64 (by assumption)) | (unfold Codec.okInt; omega))
    refine Z.call1 hf rfl (Z.r_call cf52 hf (xs := [.tmp 12, .tmp 14]) rfl) hcall ?_; clear hcall hf a
    rintro _ w16 ⟨A17, c18, rfl, hr19, hb20, hc21⟩
    have hzhc21 := hc21.size
    refine ⟨_, rfl, ?_⟩; intro a hf
    refine Z.done ?_
    refine hn13 _ _ ?_
    replace hf : Z.Fr a 26 [] [(1, .slice pA1 xs.length pc1), (2, .func (.func 59) #[.pointer (some ⟨g, 0, none⟩)] #[])] := hf.keep [1, 2]
    refine Z.seq' (Z.Pq.body _ _ _) fun Q22 hp23 hn24 he25 => ?_
    refine Z.reg ?_
    refine Z.val hf rfl (Z.r_move (hf.eval rfl)) ?_; clear hf a; intro a hf
    refine Z.val hf rfl (Z.r_len Try.underlying31 (hf.eval rfl)) ?_; clear hf a; intro a hf
    refine Z.val hf rfl (Z.r_move (hf.eval rfl)) ?_; clear hf a; intro a hf
    refine Z.done ?_
    refine hn24 _ _ ?_
    replace hf : Z.Fr a 26 [] [(2, .func (.func 59) #[.pointer (some ⟨g, 0, none⟩)] #[]), (16, .slice pA1 xs.length pc1), (17, .int .i64 (xs.length : Int)), (18, .int .i64 0)] := hf.keep [2, 16, 17, 18]
    refine Z.block' (Z.Pq.body _ _ _) fun Q26 hp27 hn28 hx29 he30 => ?_
    refine Z.loop' hp27 (fun m a wl => ∃ (k : Nat), ∃ (lA0 : Option Addr), ∃ (lc0 : Nat), m = xs.length - k ∧ Z.Ch [g] w16 wl ∧ (Z.Ty.slice Z.Ty.byte).rep wl (Z.iv w.heap.size wl.heap.size) [.slice lA0 ((b ++ (Codec.encInt (xs.length : Int) ++ (xs.take k).flatMap Codec.encMove)).length) lc0] (b ++ (Codec.encInt (xs.length : Int) ++ (xs.take k).flatMap Codec.encMove)) ∧ Z.Blk wl g 90 [.slice lA0 ((b ++ (Codec.encInt (xs.length : Int) ++ (xs.take k).flatMap Codec.encMove)).length) lc0] ∧ k ≤ xs.length ∧ Z.Fr a 26 [] [(2, .func (.func 59) #[.pointer (some ⟨g, 0, none⟩)] #[]), (16, .slice pA1 xs.length pc1), (17, .int .i64 (xs.length : Int)), (18, .int .i64 (k : Int))]) (xs.length - 0) ?_ ?_
    · replace hf := hf.setv (d := 18) (y := .int .i64 (0 : Int)) rfl (congrArg (Value.int .i64) (by first | rfl | omega | (simp; done) | (simp; omega)))
      have hr31 : (Z.Ty.slice Z.Ty.byte).rep w16 (Z.iv w.heap.size w16.heap.size) [.slice A17 ((b ++ Codec.encInt (xs.length : Int)).length) c18] (b ++ Codec.encInt (xs.length : Int)) := Z.rep_as hr19 (by intro b h1 h2; (try simp only [Z.nt, Z.iv, Z.no, Z.ol] at h1); (try simp only [Z.iv]); omega)
      have hxs32 : b ++ Codec.encInt (xs.length : Int) = (b ++ (Codec.encInt (xs.length : Int) ++ (xs.take 0).flatMap Codec.encMove) : List UInt8) := by first | rfl | (simp; done) | (rw [hfl.1] <;> (simp; done)) | (rw [Codec.fm_all _ (by omega)] <;> (simp [Codec.encList]; done))
      have hr33 := Z.rep_eq hr31 hxs32
      replace hf : Z.Fr a 26 [] [(2, .func (.func 59) #[.pointer (some ⟨g, 0, none⟩)] #[]), (16, .slice pA1 xs.length pc1), (17, .int .i64 (xs.length : Int)), (18, .int .i64 (0 : Int))] := hf.keep [2, 16, 17, 18]
      exact ⟨0, A17, c18, rfl, (Z.Ch.refl' _ _), hr33, (Z.Blk.cast hb20 (by first | rfl | (simp only [hxs32]; done) | simp_all)), (by omega), hf⟩
    · rintro m47 a w34 ⟨k37, A42, c43, hm36, hc35, hr44, hb45, hk46, hf⟩ Q38 hp39 hn40 he41
      have hzhc35 := hc35.size
      refine Z.seq' hp39 fun Q48 hp49 hn50 he51 => ?_
      refine Z.reg ?_
      refine Z.val hf rfl (Z.r_lss (hf.eval rfl) (hf.eval rfl)) ?_; clear hf a; intro a hf
      refine Z.done ?_
      refine hn50 _ _ ?_
      replace hf : Z.Fr a 26 [] [(2, .func (.func 59) #[.pointer (some ⟨g, 0, none⟩)] #[]), (16, .slice pA1 xs.length pc1), (17, .int .i64 (xs.length : Int)), (18, .int .i64 (k37 : Int)), (19, .bool (decide ((k37 : Int) < (xs.length : Int))))] := hf.keep [2, 16, 17, 18, 19]
      refine Z.seq' hp39 fun Q52 hp53 hn54 he55 => ?_
      refine Z.condp hf rfl ?_ ?_
      · intro hp56
        refine wp_skip ?_
        refine hn54 _ _ ?_
        replace hf : Z.Fr a 26 [] [(2, .func (.func 59) #[.pointer (some ⟨g, 0, none⟩)] #[]), (16, .slice pA1 xs.length pc1), (17, .int .i64 (xs.length : Int)), (18, .int .i64 (k37 : Int))] := hf.keep [2, 16, 17, 18]
        refine Z.seq' hp39 fun Q57 hp58 hn59 he60 => ?_
        refine Z.block' hp58 fun Q61 hp62 hn63 hx64 he65 => ?_
        refine Z.seq' hp62 fun Q66 hp67 hn68 he69 => ?_
        refine Z.reg ?_
        have hq70 : Z.Ch [g] w w34 := hc21.then hc35 (by simp) (by simp)
        have hr71 : (Z.Ty.slice (Z.Ty.pair (Z.Ty.int .i64) (Z.Ty.pair (Z.Ty.int .i64) (Z.Ty.pair (Z.Ty.int .i64) (Z.Ty.pair (Z.Ty.int .i64) (Z.Ty.pair (Z.Ty.int .i64) (Z.Ty.pair (Z.Ty.int .i64) Z.Ty.str))))))).rep w34 (Z.ol [g] w.heap.size) [.slice pA1 xs.length pc1] xs := Z.rep_to ph1o hq70 (by intro b h1 h2; (try simp only [Z.nt, Z.iv, Z.no, Z.ol, List.mem_cons, List.not_mem_nil, or_false, not_or, not_false_eq_true] at h1); (try simp only [Z.nt, Z.iv, Z.no, Z.ol, List.mem_cons, List.mem_append, List.not_mem_nil, or_false, not_or, not_false_eq_true, true_and, and_true]) <;> omega)
        have hkx74 : k37 < (xs).length := (by omega)
        obtain ⟨ad72, es73, x74, hA75, hF76, hl77, hx78, hc79, hr80⟩ := Z.rep_el hr71 hkx74
        have hok81 := Z.rep_ok _ hr80
        obtain ⟨ca82, cb83, he84, hr85, hr86⟩ := hr80
        have he87 := hr85.1
        obtain ⟨ca88, cb89, he90, hr91, hr92⟩ := hr86
        have he93 := hr91.1
        obtain ⟨ca94, cb95, he96, hr97, hr98⟩ := hr92
        have he99 := hr97.1
        obtain ⟨ca100, cb101, he102, hr103, hr104⟩ := hr98
        have he105 := hr103.1
        obtain ⟨ca106, cb107, he108, hr109, hr110⟩ := hr104
        have he111 := hr109.1
        obtain ⟨ca112, cb113, he114, hr115, hr116⟩ := hr110
        have he117 := hr115.1
        have he118 := hr116.1
        have he119 : es73 = [.int .i64 x74.1, .int .i64 x74.2.1, .int .i64 x74.2.2.1, .int .i64 x74.2.2.2.1, .int .i64 x74.2.2.2.2.1, .int .i64 x74.2.2.2.2.2.1, .string x74.2.2.2.2.2.2] := by simp only [he84, he87, he90, he93, he96, he99, he102, he105, he108, he111, he114, he117, he118, List.cons_append, List.nil_append]
        rw [he119] at hc79
        have hfl := Codec.fm_step Codec.encMove hx78
        have hge := he _ (Codec.get_mem hx78)
        refine Z.val hf rfl (Z.r_indexAddrE Try.underlying31 Try.sizeOf64 (hf.eval rfl) hA75 (hf.eval rfl) (k := k37) (by first | rfl | omega) (by omega)) ?_; clear hf a; intro a hf
        refine Z.val hf rfl (Z.r_loadEN Try.isAgg64 Try.sizeOf64 (hf.eval rfl) hc79 rfl rfl) ?_; clear hf a; intro a hf
        refine Z.st_alloc hf rfl Try.zeroValue64 rfl ?_; clear hf a; intro g120 w121 a hg122 hz123 hb124 hc125 hf
        refine Z.st_store hf hb124 rfl rfl Try.sizeOf64 rfl rfl rfl (by simp [Value.oneCell']) rfl ?_; clear hf a; intro w126 a hz127 hb128 hc129 hf
        refine Z.done ?_
        refine hn68 _ _ ?_
        replace hf : Z.Fr a 26 [] [(2, .func (.func 59) #[.pointer (some ⟨g, 0, none⟩)] #[]), (7, .pointer (some ⟨g120, 0, none⟩)), (16, .slice pA1 xs.length pc1), (17, .int .i64 (xs.length : Int)), (18, .int .i64 (k37 : Int))] := hf.keep [2, 7, 16, 17, 18]
        refine Z.reg ?_
        refine Z.val hf rfl (Z.r_move (hf.eval rfl)) ?_; clear hf a; intro a hf
        refine Z.val hf rfl (Z.r_loadBN Try.isAgg64 Try.sizeOf64 (hf.eval rfl) hb128 rfl rfl) ?_; clear hf a; intro a hf
        have hq130 : Z.Ch [g120] w34 w126 := hc125.then hc129 (by simp) (by simp)
        have hb131 := hb45.ch hq130 (by simp only [List.mem_cons, List.mem_append, List.not_mem_nil, or_false, not_or, not_false_eq_true, and_true] <;> omega)
        have hr132 : (Z.Ty.slice Z.Ty.byte).rep w126 (Z.nt [g]) [.slice A42 ((b ++ (Codec.encInt (xs.length : Int) ++ (xs.take k37).flatMap Codec.encMove)).length) c43] (b ++ (Codec.encInt (xs.length : Int) ++ (xs.take k37).flatMap Codec.encMove)) := Z.rep_to hr44 hq130 (by intro b h1 h2; (try simp only [Z.nt, Z.iv, Z.no, Z.ol, List.mem_cons, List.not_mem_nil, or_false, not_or, not_false_eq_true] at h1); (try simp only [Z.nt, Z.iv, Z.no, Z.ol, List.mem_cons, List.mem_append, List.not_mem_nil, or_false, not_or, not_false_eq_true, true_and, and_true]) <;> omega)
        have hcall := w_move (b ++ (Codec.encInt (xs.length : Int) ++ (xs.take k37).flatMap Codec.encMove)) (g) (x74) w126 (A42) (c43) hr132 hb131 hok81 (by first | omega | (simp only [List.length_append, List.flatMap_cons, List.flatMap_nil, List.flatten_cons, List.flatten_nil, List.length_nil, List.append_nil]; omega)) (by assumption)
        refine Z.call1 hf rfl (Z.r_callv cf59 hf (first := [.pointer (some ⟨g, 0, none⟩)]) (cap := []) (xs := [.tmp 23]) rfl rfl) hcall ?_; clear hcall hf a
        rintro _ w133 ⟨A134, c135, rfl, hr136, hb137, hc138⟩
        have hzhc138 := hc138.size
        refine ⟨_, rfl, ?_⟩; intro a hf
        refine Z.done ?_
        refine hn63 _ _ ?_
        refine hn59 _ _ ?_
        replace hf : Z.Fr a 26 [] [(2, .func (.func 59) #[.pointer (some ⟨g, 0, none⟩)] #[]), (16, .slice pA1 xs.length pc1), (17, .int .i64 (xs.length : Int)), (18, .int .i64 (k37 : Int))] := hf.keep [2, 16, 17, 18]
        refine Z.reg ?_
        refine Z.val hf rfl (Z.r_add64 (hf.eval rfl) (hf.eval rfl) (by omega)) ?_; clear hf a; intro a hf
        refine Z.val hf rfl (Z.r_move (hf.eval rfl)) ?_; clear hf a; intro a hf
        refine Z.done ?_
        refine hn40 (xs.length - (k37 + 1)) _ _ ?_ ?_
        rotate_left
        replace hf := hf.setv (d := 18) (y := .int .i64 ((k37 + 1 : Nat) : Int)) rfl (congrArg (Value.int .i64) (by first | rfl | omega | (simp; done) | (simp; omega)))
        have hr139 : (Z.Ty.slice Z.Ty.byte).rep w133 (Z.iv w.heap.size w133.heap.size) [.slice A134 (((b ++ (Codec.encInt (xs.length : Int) ++ (xs.take k37).flatMap Codec.encMove)) ++ Codec.encMove x74).length) c135] ((b ++ (Codec.encInt (xs.length : Int) ++ (xs.take k37).flatMap Codec.encMove)) ++ Codec.encMove x74) := Z.rep_as hr136 (by intro b h1 h2; (try simp only [Z.nt, Z.iv, Z.no, Z.ol] at h1); (try simp only [Z.iv]); omega)
        have hxs140 : (b ++ (Codec.encInt (xs.length : Int) ++ (xs.take k37).flatMap Codec.encMove)) ++ Codec.encMove x74 = (b ++ (Codec.encInt (xs.length : Int) ++ (xs.take (k37 + 1 : Nat)).flatMap Codec.encMove) : List UInt8) := by first | rfl | (simp; done) | (rw [hfl.1] <;> (simp; done)) | (rw [Codec.fm_all _ (by omega)] <;> (simp [Codec.encList]; done))
        have hr141 := Z.rep_eq hr139 hxs140
        have hq142 : Z.Ch [g] w16 w121 := hc35.then hc125 (by simp) (by simp)
        have hq143 : Z.Ch [g, g120] w16 w126 := hq142.then hc129 (by simp) (by simp)
        have hq144 : Z.Ch [g, g120] w16 w133 := hq143.then hc138 (by simp) (by simp)
        replace hf : Z.Fr a 26 [] [(2, .func (.func 59) #[.pointer (some ⟨g, 0, none⟩)] #[]), (16, .slice pA1 xs.length pc1), (17, .int .i64 (xs.length : Int)), (18, .int .i64 ((k37 + 1 : Nat) : Int))] := hf.keep [2, 16, 17, 18]
        exact ⟨k37 + 1, A134, c135, rfl, (hq144.mono (by intro k hk; (try simp only [List.mem_cons, List.mem_append, List.not_mem_nil, or_false, false_or] at hk ⊢) <;> omega)), hr141, (Z.Blk.cast hb137 (by first | rfl | (simp only [hxs140]; done) | simp_all)), (by omega), hf⟩
        rw [hm36]; omega
      · intro hp145
        refine wp_exit ?_
        refine he55 _ _ _ (by simp) ?_
        refine he41 _ _ _ (by simp) ?_
        refine hx29 _ _ ?_
        have hr146 : (Z.Ty.slice Z.Ty.byte).rep w34 (Z.iv w.heap.size w34.heap.size) [.slice A42 ((b ++ (Codec.encInt (xs.length : Int) ++ (xs.take k37).flatMap Codec.encMove)).length) c43] (b ++ (Codec.encInt (xs.length : Int) ++ (xs.take k37).flatMap Codec.encMove)) := Z.rep_as hr44 (by intro b h1 h2; (try simp only [Z.nt, Z.iv, Z.no, Z.ol] at h1); (try simp only [Z.iv]); omega)
        have hxs147 : b ++ (Codec.encInt (xs.length : Int) ++ (xs.take k37).flatMap Codec.encMove) = (b ++ Codec.encList Codec.encMove xs : List UInt8) := by first | rfl | (simp; done) | (rw [hfl.1] <;> (simp; done)) | (rw [Codec.fm_all _ (by omega)] <;> (simp [Codec.encList]; done))
        have hr148 := Z.rep_eq hr146 hxs147
        have hb149 : Z.Blk w34 g 90 [.slice A42 ((b ++ Codec.encList Codec.encMove xs).length) c43] := Z.Blk.cast hb45 (by first | rfl | (simp only [hxs147]; done) | simp_all)
        have hq150 : Z.Ch [g] w w34 := hc21.then hc35 (by simp) (by simp)
        refine Z.end0 hf Try.results58 ?_
        exact ⟨A42, c43, rfl, hr148, hb149, hq150⟩

set_option maxHeartbeats 400000 in
set_option maxRecDepth 20000 in
theorem p_entries (b : List UInt8) (g : Nat) (xs : List (Int × Int × ByteArray × Int)) (w : World) (pA0 : Option Addr) (pc0 : Nat) (pA1 : Option Addr) (pc1 : Nat) (ph0 : (Z.Ty.slice Z.Ty.byte).rep w (Z.nt [g]) [.slice pA0 b.length pc0] b) (pb1 : Z.Blk w g 90 [.slice pA0 b.length pc0]) (ph1 : (Z.Ty.slice (Z.Ty.pair (Z.Ty.int .i64) (Z.Ty.pair (Z.Ty.int .i64) (Z.Ty.pair Z.Ty.str (Z.Ty.int .i64))))).rep w (Z.nt [g]) [.slice pA1 xs.length pc1] xs) (hb : b.length + (Codec.encList Codec.encEntry xs).length ≤ 70368744177664) (hl : xs.length ≤ 65536) (he : ∀ a ∈ xs, Codec.gEntry a) :
    Calls Try.prog 34 #[.pointer (some ⟨g, 0, none⟩), .slice pA1 xs.length pc1, .func (.func 35) #[.pointer (some ⟨g, 0, none⟩)] #[]] w fun e w' => ∃ (rA0 : Option Addr) (rc0 : Nat), e = .returned (.tuple #[]) ∧ (Z.Ty.slice Z.Ty.byte).rep w' (Z.iv w.heap.size w'.heap.size) [.slice rA0 (b ++ Codec.encList Codec.encEntry xs).length rc0] (b ++ Codec.encList Codec.encEntry xs) ∧ Z.Blk w' g 90 [.slice rA0 (b ++ Codec.encList Codec.encEntry xs).length rc0] ∧ Z.Ch [g] w w' := by
  refine Z.enter Try.func34 rfl Try.ntmps34 (Nat.le_of_ble_eq_true rfl) fun a hf => ?_
  replace hf : Z.Fr a 26 [] [(0, .pointer (some ⟨g, 0, none⟩)), (1, .slice pA1 xs.length pc1), (2, .func (.func 35) #[.pointer (some ⟨g, 0, none⟩)] #[])] := hf
  have hlt_g := pb1.lt
  have hle_pA1 := Z.rep_le ph1
  have ph1o := Z.rep_ol ph1
  have hle_pA0 := Z.rep_le ph0
  have ph0o := Z.rep_ol ph0
  simp only [Codec.encList, List.length_append] at hb
  refine Z.seq' (Z.Pq.body _ _ _) fun Q1 hp2 hn3 he4 => ?_
  refine Z.seq' hp2 fun Q5 hp6 hn7 he8 => ?_
  refine Z.reg ?_
  refine Z.val hf rfl (Z.r_move (hf.eval rfl)) ?_; clear hf a; intro a hf
  refine Z.val hf rfl (Z.r_len Try.underlying34 (hf.eval rfl)) ?_; clear hf a; intro a hf
  refine Z.val hf rfl (Z.r_gtr (hf.eval rfl) (hf.eval rfl)) ?_; clear hf a; intro a hf
  refine Z.done ?_
  refine hn7 _ _ ?_
  replace hf : Z.Fr a 26 [] [(0, .pointer (some ⟨g, 0, none⟩)), (1, .slice pA1 xs.length pc1), (2, .func (.func 35) #[.pointer (some ⟨g, 0, none⟩)] #[]), (10, .bool (decide (65536 < (xs.length : Int))))] := hf.keep [0, 1, 2, 10]
  refine Z.condp hf rfl ?_ ?_
  · intro hp9
    exfalso; omega
  · intro hp10
    refine wp_skip ?_
    refine hn3 _ _ ?_
    replace hf : Z.Fr a 26 [] [(0, .pointer (some ⟨g, 0, none⟩)), (1, .slice pA1 xs.length pc1), (2, .func (.func 35) #[.pointer (some ⟨g, 0, none⟩)] #[])] := hf.keep [0, 1, 2]
    refine Z.seq' (Z.Pq.body _ _ _) fun Q11 hp12 hn13 he14 => ?_
    refine Z.reg ?_
    refine Z.val hf rfl (Z.r_move (hf.eval rfl)) ?_; clear hf a; intro a hf
    refine Z.val hf rfl (Z.r_move (hf.eval rfl)) ?_; clear hf a; intro a hf
    refine Z.val hf rfl (Z.r_len Try.underlying34 (hf.eval rfl)) ?_; clear hf a; intro a hf
    have hr15 : (Z.Ty.slice Z.Ty.byte).rep w (Z.nt [g]) [.slice pA0 b.length pc0] b := Z.rep_to ph0o (Z.Ch.refl w) (by intro b h1 h2; (try simp only [Z.nt, Z.iv, Z.no, Z.ol, List.mem_cons, List.not_mem_nil, or_false, not_or, not_false_eq_true] at h1); (try simp only [Z.nt, Z.iv, Z.no, Z.ol, List.mem_cons, List.mem_append, List.not_mem_nil, or_false, not_or, not_false_eq_true, true_and, and_true]) <;> omega)
    have hcall := w_int (b) (g) ((xs.length : Int)) w (pA0) (pc0) hr15 pb1 (by first | omega | (simp only [List.length_append, List.flatMap_cons, List.flatMap_nil, List.flatten_cons, List.flatten_nil, List.length_nil, List.append_nil]; omega)) (by first | (exact Z.has_i64 (by assumption)) | (unfold Codec.okInt; omega))
    refine Z.call1 hf rfl (Z.r_call cf52 hf (xs := [.tmp 12, .tmp 14]) rfl) hcall ?_; clear hcall hf a
    rintro _ w16 ⟨A17, c18, rfl, hr19, hb20, hc21⟩
    have hzhc21 := hc21.size
    refine ⟨_, rfl, ?_⟩; intro a hf
    refine Z.done ?_
    refine hn13 _ _ ?_
    replace hf : Z.Fr a 26 [] [(1, .slice pA1 xs.length pc1), (2, .func (.func 35) #[.pointer (some ⟨g, 0, none⟩)] #[])] := hf.keep [1, 2]
    refine Z.seq' (Z.Pq.body _ _ _) fun Q22 hp23 hn24 he25 => ?_
    refine Z.reg ?_
    refine Z.val hf rfl (Z.r_move (hf.eval rfl)) ?_; clear hf a; intro a hf
    refine Z.val hf rfl (Z.r_len Try.underlying34 (hf.eval rfl)) ?_; clear hf a; intro a hf
    refine Z.val hf rfl (Z.r_move (hf.eval rfl)) ?_; clear hf a; intro a hf
    refine Z.done ?_
    refine hn24 _ _ ?_
    replace hf : Z.Fr a 26 [] [(2, .func (.func 35) #[.pointer (some ⟨g, 0, none⟩)] #[]), (16, .slice pA1 xs.length pc1), (17, .int .i64 (xs.length : Int)), (18, .int .i64 0)] := hf.keep [2, 16, 17, 18]
    refine Z.block' (Z.Pq.body _ _ _) fun Q26 hp27 hn28 hx29 he30 => ?_
    refine Z.loop' hp27 (fun m a wl => ∃ (k : Nat), ∃ (lA0 : Option Addr), ∃ (lc0 : Nat), m = xs.length - k ∧ Z.Ch [g] w16 wl ∧ (Z.Ty.slice Z.Ty.byte).rep wl (Z.iv w.heap.size wl.heap.size) [.slice lA0 ((b ++ (Codec.encInt (xs.length : Int) ++ (xs.take k).flatMap Codec.encEntry)).length) lc0] (b ++ (Codec.encInt (xs.length : Int) ++ (xs.take k).flatMap Codec.encEntry)) ∧ Z.Blk wl g 90 [.slice lA0 ((b ++ (Codec.encInt (xs.length : Int) ++ (xs.take k).flatMap Codec.encEntry)).length) lc0] ∧ k ≤ xs.length ∧ Z.Fr a 26 [] [(2, .func (.func 35) #[.pointer (some ⟨g, 0, none⟩)] #[]), (16, .slice pA1 xs.length pc1), (17, .int .i64 (xs.length : Int)), (18, .int .i64 (k : Int))]) (xs.length - 0) ?_ ?_
    · replace hf := hf.setv (d := 18) (y := .int .i64 (0 : Int)) rfl (congrArg (Value.int .i64) (by first | rfl | omega | (simp; done) | (simp; omega)))
      have hr31 : (Z.Ty.slice Z.Ty.byte).rep w16 (Z.iv w.heap.size w16.heap.size) [.slice A17 ((b ++ Codec.encInt (xs.length : Int)).length) c18] (b ++ Codec.encInt (xs.length : Int)) := Z.rep_as hr19 (by intro b h1 h2; (try simp only [Z.nt, Z.iv, Z.no, Z.ol] at h1); (try simp only [Z.iv]); omega)
      have hxs32 : b ++ Codec.encInt (xs.length : Int) = (b ++ (Codec.encInt (xs.length : Int) ++ (xs.take 0).flatMap Codec.encEntry) : List UInt8) := by first | rfl | (simp; done) | (rw [hfl.1] <;> (simp; done)) | (rw [Codec.fm_all _ (by omega)] <;> (simp [Codec.encList]; done))
      have hr33 := Z.rep_eq hr31 hxs32
      replace hf : Z.Fr a 26 [] [(2, .func (.func 35) #[.pointer (some ⟨g, 0, none⟩)] #[]), (16, .slice pA1 xs.length pc1), (17, .int .i64 (xs.length : Int)), (18, .int .i64 (0 : Int))] := hf.keep [2, 16, 17, 18]
      exact ⟨0, A17, c18, rfl, (Z.Ch.refl' _ _), hr33, (Z.Blk.cast hb20 (by first | rfl | (simp only [hxs32]; done) | simp_all)), (by omega), hf⟩
    · rintro m47 a w34 ⟨k37, A42, c43, hm36, hc35, hr44, hb45, hk46, hf⟩ Q38 hp39 hn40 he41
      have hzhc35 := hc35.size
      refine Z.seq' hp39 fun Q48 hp49 hn50 he51 => ?_
      refine Z.reg ?_
      refine Z.val hf rfl (Z.r_lss (hf.eval rfl) (hf.eval rfl)) ?_; clear hf a; intro a hf
      refine Z.done ?_
      refine hn50 _ _ ?_
      replace hf : Z.Fr a 26 [] [(2, .func (.func 35) #[.pointer (some ⟨g, 0, none⟩)] #[]), (16, .slice pA1 xs.length pc1), (17, .int .i64 (xs.length : Int)), (18, .int .i64 (k37 : Int)), (19, .bool (decide ((k37 : Int) < (xs.length : Int))))] := hf.keep [2, 16, 17, 18, 19]
      refine Z.seq' hp39 fun Q52 hp53 hn54 he55 => ?_
      refine Z.condp hf rfl ?_ ?_
      · intro hp56
        refine wp_skip ?_
        refine hn54 _ _ ?_
        replace hf : Z.Fr a 26 [] [(2, .func (.func 35) #[.pointer (some ⟨g, 0, none⟩)] #[]), (16, .slice pA1 xs.length pc1), (17, .int .i64 (xs.length : Int)), (18, .int .i64 (k37 : Int))] := hf.keep [2, 16, 17, 18]
        refine Z.seq' hp39 fun Q57 hp58 hn59 he60 => ?_
        refine Z.block' hp58 fun Q61 hp62 hn63 hx64 he65 => ?_
        refine Z.seq' hp62 fun Q66 hp67 hn68 he69 => ?_
        refine Z.reg ?_
        have hq70 : Z.Ch [g] w w34 := hc21.then hc35 (by simp) (by simp)
        have hr71 : (Z.Ty.slice (Z.Ty.pair (Z.Ty.int .i64) (Z.Ty.pair (Z.Ty.int .i64) (Z.Ty.pair Z.Ty.str (Z.Ty.int .i64))))).rep w34 (Z.ol [g] w.heap.size) [.slice pA1 xs.length pc1] xs := Z.rep_to ph1o hq70 (by intro b h1 h2; (try simp only [Z.nt, Z.iv, Z.no, Z.ol, List.mem_cons, List.not_mem_nil, or_false, not_or, not_false_eq_true] at h1); (try simp only [Z.nt, Z.iv, Z.no, Z.ol, List.mem_cons, List.mem_append, List.not_mem_nil, or_false, not_or, not_false_eq_true, true_and, and_true]) <;> omega)
        have hkx74 : k37 < (xs).length := (by omega)
        obtain ⟨ad72, es73, x74, hA75, hF76, hl77, hx78, hc79, hr80⟩ := Z.rep_el hr71 hkx74
        have hok81 := Z.rep_ok _ hr80
        obtain ⟨ca82, cb83, he84, hr85, hr86⟩ := hr80
        have he87 := hr85.1
        obtain ⟨ca88, cb89, he90, hr91, hr92⟩ := hr86
        have he93 := hr91.1
        obtain ⟨ca94, cb95, he96, hr97, hr98⟩ := hr92
        have he99 := hr97.1
        have he100 := hr98.1
        have he101 : es73 = [.int .i64 x74.1, .int .i64 x74.2.1, .string x74.2.2.1, .int .i64 x74.2.2.2] := by simp only [he84, he87, he90, he93, he96, he99, he100, List.cons_append, List.nil_append]
        rw [he101] at hc79
        have hfl := Codec.fm_step Codec.encEntry hx78
        have hge := he _ (Codec.get_mem hx78)
        refine Z.val hf rfl (Z.r_indexAddrE Try.underlying34 Try.sizeOf58 (hf.eval rfl) hA75 (hf.eval rfl) (k := k37) (by first | rfl | omega) (by omega)) ?_; clear hf a; intro a hf
        refine Z.val hf rfl (Z.r_loadEN Try.isAgg58 Try.sizeOf58 (hf.eval rfl) hc79 rfl rfl) ?_; clear hf a; intro a hf
        refine Z.st_alloc hf rfl Try.zeroValue58 rfl ?_; clear hf a; intro g102 w103 a hg104 hz105 hb106 hc107 hf
        refine Z.st_store hf hb106 rfl rfl Try.sizeOf58 rfl rfl rfl (by simp [Value.oneCell']) rfl ?_; clear hf a; intro w108 a hz109 hb110 hc111 hf
        refine Z.done ?_
        refine hn68 _ _ ?_
        replace hf : Z.Fr a 26 [] [(2, .func (.func 35) #[.pointer (some ⟨g, 0, none⟩)] #[]), (7, .pointer (some ⟨g102, 0, none⟩)), (16, .slice pA1 xs.length pc1), (17, .int .i64 (xs.length : Int)), (18, .int .i64 (k37 : Int))] := hf.keep [2, 7, 16, 17, 18]
        refine Z.reg ?_
        refine Z.val hf rfl (Z.r_move (hf.eval rfl)) ?_; clear hf a; intro a hf
        refine Z.val hf rfl (Z.r_loadBN Try.isAgg58 Try.sizeOf58 (hf.eval rfl) hb110 rfl rfl) ?_; clear hf a; intro a hf
        have hq112 : Z.Ch [g102] w34 w108 := hc107.then hc111 (by simp) (by simp)
        have hb113 := hb45.ch hq112 (by simp only [List.mem_cons, List.mem_append, List.not_mem_nil, or_false, not_or, not_false_eq_true, and_true] <;> omega)
        have hr114 : (Z.Ty.slice Z.Ty.byte).rep w108 (Z.nt [g]) [.slice A42 ((b ++ (Codec.encInt (xs.length : Int) ++ (xs.take k37).flatMap Codec.encEntry)).length) c43] (b ++ (Codec.encInt (xs.length : Int) ++ (xs.take k37).flatMap Codec.encEntry)) := Z.rep_to hr44 hq112 (by intro b h1 h2; (try simp only [Z.nt, Z.iv, Z.no, Z.ol, List.mem_cons, List.not_mem_nil, or_false, not_or, not_false_eq_true] at h1); (try simp only [Z.nt, Z.iv, Z.no, Z.ol, List.mem_cons, List.mem_append, List.not_mem_nil, or_false, not_or, not_false_eq_true, true_and, and_true]) <;> omega)
        have hcall := w_entry (b ++ (Codec.encInt (xs.length : Int) ++ (xs.take k37).flatMap Codec.encEntry)) (g) (x74) w108 (A42) (c43) hr114 hb113 hok81 (by first | omega | (simp only [List.length_append, List.flatMap_cons, List.flatMap_nil, List.flatten_cons, List.flatten_nil, List.length_nil, List.append_nil]; omega)) (by assumption)
        refine Z.call1 hf rfl (Z.r_callv cf35 hf (first := [.pointer (some ⟨g, 0, none⟩)]) (cap := []) (xs := [.tmp 23]) rfl rfl) hcall ?_; clear hcall hf a
        rintro _ w115 ⟨A116, c117, rfl, hr118, hb119, hc120⟩
        have hzhc120 := hc120.size
        refine ⟨_, rfl, ?_⟩; intro a hf
        refine Z.done ?_
        refine hn63 _ _ ?_
        refine hn59 _ _ ?_
        replace hf : Z.Fr a 26 [] [(2, .func (.func 35) #[.pointer (some ⟨g, 0, none⟩)] #[]), (16, .slice pA1 xs.length pc1), (17, .int .i64 (xs.length : Int)), (18, .int .i64 (k37 : Int))] := hf.keep [2, 16, 17, 18]
        refine Z.reg ?_
        refine Z.val hf rfl (Z.r_add64 (hf.eval rfl) (hf.eval rfl) (by omega)) ?_; clear hf a; intro a hf
        refine Z.val hf rfl (Z.r_move (hf.eval rfl)) ?_; clear hf a; intro a hf
        refine Z.done ?_
        refine hn40 (xs.length - (k37 + 1)) _ _ ?_ ?_
        rotate_left
        replace hf := hf.setv (d := 18) (y := .int .i64 ((k37 + 1 : Nat) : Int)) rfl (congrArg (Value.int .i64) (by first | rfl | omega | (simp; done) | (simp; omega)))
        have hr121 : (Z.Ty.slice Z.Ty.byte).rep w115 (Z.iv w.heap.size w115.heap.size) [.slice A116 (((b ++ (Codec.encInt (xs.length : Int) ++ (xs.take k37).flatMap Codec.encEntry)) ++ Codec.encEntry x74).length) c117] ((b ++ (Codec.encInt (xs.length : Int) ++ (xs.take k37).flatMap Codec.encEntry)) ++ Codec.encEntry x74) := Z.rep_as hr118 (by intro b h1 h2; (try simp only [Z.nt, Z.iv, Z.no, Z.ol] at h1); (try simp only [Z.iv]); omega)
        have hxs122 : (b ++ (Codec.encInt (xs.length : Int) ++ (xs.take k37).flatMap Codec.encEntry)) ++ Codec.encEntry x74 = (b ++ (Codec.encInt (xs.length : Int) ++ (xs.take (k37 + 1 : Nat)).flatMap Codec.encEntry) : List UInt8) := by first | rfl | (simp; done) | (rw [hfl.1] <;> (simp; done)) | (rw [Codec.fm_all _ (by omega)] <;> (simp [Codec.encList]; done))
        have hr123 := Z.rep_eq hr121 hxs122
        have hq124 : Z.Ch [g] w16 w103 := hc35.then hc107 (by simp) (by simp)
        have hq125 : Z.Ch [g, g102] w16 w108 := hq124.then hc111 (by simp) (by simp)
        have hq126 : Z.Ch [g, g102] w16 w115 := hq125.then hc120 (by simp) (by simp)
        replace hf : Z.Fr a 26 [] [(2, .func (.func 35) #[.pointer (some ⟨g, 0, none⟩)] #[]), (16, .slice pA1 xs.length pc1), (17, .int .i64 (xs.length : Int)), (18, .int .i64 ((k37 + 1 : Nat) : Int))] := hf.keep [2, 16, 17, 18]
        exact ⟨k37 + 1, A116, c117, rfl, (hq126.mono (by intro k hk; (try simp only [List.mem_cons, List.mem_append, List.not_mem_nil, or_false, false_or] at hk ⊢) <;> omega)), hr123, (Z.Blk.cast hb119 (by first | rfl | (simp only [hxs122]; done) | simp_all)), (by omega), hf⟩
        rw [hm36]; omega
      · intro hp127
        refine wp_exit ?_
        refine he55 _ _ _ (by simp) ?_
        refine he41 _ _ _ (by simp) ?_
        refine hx29 _ _ ?_
        have hr128 : (Z.Ty.slice Z.Ty.byte).rep w34 (Z.iv w.heap.size w34.heap.size) [.slice A42 ((b ++ (Codec.encInt (xs.length : Int) ++ (xs.take k37).flatMap Codec.encEntry)).length) c43] (b ++ (Codec.encInt (xs.length : Int) ++ (xs.take k37).flatMap Codec.encEntry)) := Z.rep_as hr44 (by intro b h1 h2; (try simp only [Z.nt, Z.iv, Z.no, Z.ol] at h1); (try simp only [Z.iv]); omega)
        have hxs129 : b ++ (Codec.encInt (xs.length : Int) ++ (xs.take k37).flatMap Codec.encEntry) = (b ++ Codec.encList Codec.encEntry xs : List UInt8) := by first | rfl | (simp; done) | (rw [hfl.1] <;> (simp; done)) | (rw [Codec.fm_all _ (by omega)] <;> (simp [Codec.encList]; done))
        have hr130 := Z.rep_eq hr128 hxs129
        have hb131 : Z.Blk w34 g 90 [.slice A42 ((b ++ Codec.encList Codec.encEntry xs).length) c43] := Z.Blk.cast hb45 (by first | rfl | (simp only [hxs129]; done) | simp_all)
        have hq132 : Z.Ch [g] w w34 := hc21.then hc35 (by simp) (by simp)
        refine Z.end0 hf Try.results34 ?_
        exact ⟨A42, c43, rfl, hr130, hb131, hq132⟩

set_option maxHeartbeats 400000 in
set_option maxRecDepth 20000 in
theorem w_delta (b : List UInt8) (g : Nat) (x : ((List Int) × (List (Int × Int × (List Int) × (Int × Int × ByteArray) × ByteArray × Int × Int)) × (List (Int × Int × Int × Int × (Int × Int × ByteArray))))) (w : World) (pA0 : Option Addr) (pc0 : Nat) (pA1 : Option Addr) (pc1 : Nat) (pA2 : Option Addr) (pc2 : Nat) (pA3 : Option Addr) (pc3 : Nat) (ph0 : (Z.Ty.slice Z.Ty.byte).rep w (Z.nt [g]) [.slice pA0 b.length pc0] b) (pb1 : Z.Blk w g 90 [.slice pA0 b.length pc0]) (ph1 : (Z.Ty.slice (Z.Ty.int .i64)).rep w (Z.nt [g]) [.slice pA1 x.1.length pc1] x.1) (ph2 : (Z.Ty.slice (Z.Ty.pair (Z.Ty.int .i64) (Z.Ty.pair (Z.Ty.int .i64) (Z.Ty.pair (Z.Ty.slice (Z.Ty.int .i64)) (Z.Ty.pair (Z.Ty.pair (Z.Ty.int .i64) (Z.Ty.pair (Z.Ty.int .i64) Z.Ty.str)) (Z.Ty.pair Z.Ty.str (Z.Ty.pair (Z.Ty.int .i64) (Z.Ty.int .i64)))))))).rep w (Z.nt [g]) [.slice pA2 x.2.1.length pc2] x.2.1) (ph3 : (Z.Ty.slice (Z.Ty.pair (Z.Ty.int .i64) (Z.Ty.pair (Z.Ty.int .i64) (Z.Ty.pair (Z.Ty.int .i64) (Z.Ty.pair (Z.Ty.int .i64) (Z.Ty.pair (Z.Ty.int .i64) (Z.Ty.pair (Z.Ty.int .i64) Z.Ty.str))))))).rep w (Z.nt [g]) [.slice pA3 x.2.2.length pc3] x.2.2) (pk5 : Z.Ty.ok (Z.Ty.pair (Z.Ty.slice (Z.Ty.int .i64)) (Z.Ty.pair (Z.Ty.slice (Z.Ty.pair (Z.Ty.int .i64) (Z.Ty.pair (Z.Ty.int .i64) (Z.Ty.pair (Z.Ty.slice (Z.Ty.int .i64)) (Z.Ty.pair (Z.Ty.pair (Z.Ty.int .i64) (Z.Ty.pair (Z.Ty.int .i64) Z.Ty.str)) (Z.Ty.pair Z.Ty.str (Z.Ty.pair (Z.Ty.int .i64) (Z.Ty.int .i64)))))))) (Z.Ty.slice (Z.Ty.pair (Z.Ty.int .i64) (Z.Ty.pair (Z.Ty.int .i64) (Z.Ty.pair (Z.Ty.int .i64) (Z.Ty.pair (Z.Ty.int .i64) (Z.Ty.pair (Z.Ty.int .i64) (Z.Ty.pair (Z.Ty.int .i64) Z.Ty.str))))))))) x) (hb : b.length + (Codec.encDelta x).length ≤ 70368744177664) (hg : Codec.gDelta x) :
    Calls Try.prog 44 #[.pointer (some ⟨g, 0, none⟩), .agg #[.slice pA1 x.1.length pc1, .slice pA2 x.2.1.length pc2, .slice pA3 x.2.2.length pc3]] w fun e w' => ∃ (rA0 : Option Addr) (rc0 : Nat), e = .returned (.tuple #[]) ∧ (Z.Ty.slice Z.Ty.byte).rep w' (Z.iv w.heap.size w'.heap.size) [.slice rA0 (b ++ Codec.encDelta x).length rc0] (b ++ Codec.encDelta x) ∧ Z.Blk w' g 90 [.slice rA0 (b ++ Codec.encDelta x).length rc0] ∧ Z.Ch [g] w w' := by
  refine Z.enter Try.func44 rfl Try.ntmps44 (Nat.le_of_ble_eq_true rfl) fun a hf => ?_
  replace hf : Z.Fr a 22 [] [(0, .pointer (some ⟨g, 0, none⟩)), (1, .agg #[.slice pA1 x.1.length pc1, .slice pA2 x.2.1.length pc2, .slice pA3 x.2.2.length pc3])] := hf
  have hlt_g := pb1.lt
  have hle_pA1 := Z.rep_le ph1
  have ph1o := Z.rep_ol ph1
  have hle_pA2 := Z.rep_le ph2
  have ph2o := Z.rep_ol ph2
  have hle_pA3 := Z.rep_le ph3
  have ph3o := Z.rep_ol ph3
  have hle_pA0 := Z.rep_le ph0
  have ph0o := Z.rep_ol ph0
  simp only [Codec.encDelta, List.length_append] at hb
  obtain ⟨hg1, ⟨hg2, hg3⟩, hg4, hg5⟩ := hg
  refine Z.seq' (Z.Pq.body _ _ _) fun Q1 hp2 hn3 he4 => ?_
  refine Z.reg ?_
  refine Z.st_box hf rfl rfl rfl ?_; clear hf a; intro g5 w6 a hg7 hz8 hb9 hc10 hf
  refine Z.done ?_
  refine hn3 _ _ ?_
  replace hf : Z.Fr a 22 [] [(0, .pointer (some ⟨g, 0, none⟩)), (3, .pointer (some ⟨g5, 0, none⟩))] := hf.keep [0, 3]
  refine Z.seq' (Z.Pq.body _ _ _) fun Q11 hp12 hn13 he14 => ?_
  refine Z.reg ?_
  refine Z.val hf rfl (Z.r_move (hf.eval rfl)) ?_; clear hf a; intro a hf
  refine Z.val hf rfl (Z.r_fieldAddrB Try.underlying33 rfl Try.sizeOf29 (hf.eval rfl) rfl) ?_; clear hf a; intro a hf
  refine Z.val hf rfl (Z.r_loadB Try.isAgg29 (hf.eval rfl) hb9 rfl) ?_; clear hf a; intro a hf
  refine Z.val hf rfl (Z.r_move (hf.eval rfl)) ?_; clear hf a; intro a hf
  refine Z.val hf rfl (Z.r_makeFunc' hf (xs := [.tmp 7]) (ys := []) rfl rfl) ?_; clear hf a; intro a hf
  have hb15 := pb1.ch0 hc10
  have hr16 : (Z.Ty.slice Z.Ty.byte).rep w6 (Z.nt [g]) [.slice pA0 b.length pc0] b := Z.rep_to ph0o hc10 (by intro b h1 h2; (try simp only [Z.nt, Z.iv, Z.no, Z.ol, List.mem_cons, List.not_mem_nil, or_false, not_or, not_false_eq_true] at h1); (try simp only [Z.nt, Z.iv, Z.no, Z.ol, List.mem_cons, List.mem_append, List.not_mem_nil, or_false, not_or, not_false_eq_true, true_and, and_true]) <;> omega)
  have hr17 : (Z.Ty.slice (Z.Ty.int .i64)).rep w6 (Z.nt [g]) [.slice pA1 x.1.length pc1] x.1 := Z.rep_to ph1o hc10 (by intro b h1 h2; (try simp only [Z.nt, Z.iv, Z.no, Z.ol, List.mem_cons, List.not_mem_nil, or_false, not_or, not_false_eq_true] at h1); (try simp only [Z.nt, Z.iv, Z.no, Z.ol, List.mem_cons, List.mem_append, List.not_mem_nil, or_false, not_or, not_false_eq_true, true_and, and_true]) <;> omega)
  have hcall := p_ints (b) (g) (x.1) w6 (pA0) (pc0) (pA1) (pc1) hr16 hb15 hr17 (by first | omega | (simp only [List.length_append, List.flatMap_cons, List.flatMap_nil, List.flatten_cons, List.flatten_nil, List.length_nil, List.append_nil]; omega)) (by assumption)
  refine Z.call1 hf rfl (Z.r_call cf55 hf (xs := [.tmp 4, .tmp 6, .tmp 8]) rfl) hcall ?_; clear hcall hf a
  rintro _ w18 ⟨A19, c20, rfl, hr21, hb22, hc23⟩
  have hzhc23 := hc23.size
  refine ⟨_, rfl, ?_⟩; intro a hf
  refine Z.done ?_
  refine hn13 _ _ ?_
  replace hf : Z.Fr a 22 [] [(0, .pointer (some ⟨g, 0, none⟩)), (3, .pointer (some ⟨g5, 0, none⟩))] := hf.keep [0, 3]
  refine Z.seq' (Z.Pq.body _ _ _) fun Q24 hp25 hn26 he27 => ?_
  refine Z.reg ?_
  refine Z.val hf rfl (Z.r_move (hf.eval rfl)) ?_; clear hf a; intro a hf
  refine Z.val hf rfl (Z.r_fieldAddrB Try.underlying33 rfl Try.sizeOf30 (hf.eval rfl) rfl) ?_; clear hf a; intro a hf
  have hb28 := hb9.ch hc23 (by simp only [List.mem_cons, List.mem_append, List.not_mem_nil, or_false, not_or, not_false_eq_true, and_true] <;> omega)
  refine Z.val hf rfl (Z.r_loadB Try.isAgg30 (hf.eval rfl) hb28 rfl) ?_; clear hf a; intro a hf
  refine Z.val hf rfl (Z.r_move (hf.eval rfl)) ?_; clear hf a; intro a hf
  refine Z.val hf rfl (Z.r_makeFunc' hf (xs := [.tmp 13]) (ys := []) rfl rfl) ?_; clear hf a; intro a hf
  have hr29 : (Z.Ty.slice Z.Ty.byte).rep w18 (Z.nt [g]) [.slice A19 ((b ++ Codec.encList Codec.encInt x.1).length) c20] (b ++ Codec.encList Codec.encInt x.1) := Z.rep_to hr21 (Z.Ch.refl w18) (by intro b h1 h2; (try simp only [Z.nt, Z.iv, Z.no, Z.ol, List.mem_cons, List.not_mem_nil, or_false, not_or, not_false_eq_true] at h1); (try simp only [Z.nt, Z.iv, Z.no, Z.ol, List.mem_cons, List.mem_append, List.not_mem_nil, or_false, not_or, not_false_eq_true, true_and, and_true]) <;> omega)
  have hq30 : Z.Ch [g] w w18 := hc10.then hc23 (by simp) (by simp)
  have hr31 : (Z.Ty.slice (Z.Ty.pair (Z.Ty.int .i64) (Z.Ty.pair (Z.Ty.int .i64) (Z.Ty.pair (Z.Ty.slice (Z.Ty.int .i64)) (Z.Ty.pair (Z.Ty.pair (Z.Ty.int .i64) (Z.Ty.pair (Z.Ty.int .i64) Z.Ty.str)) (Z.Ty.pair Z.Ty.str (Z.Ty.pair (Z.Ty.int .i64) (Z.Ty.int .i64)))))))).rep w18 (Z.nt [g]) [.slice pA2 x.2.1.length pc2] x.2.1 := Z.rep_to ph2o hq30 (by intro b h1 h2; (try simp only [Z.nt, Z.iv, Z.no, Z.ol, List.mem_cons, List.not_mem_nil, or_false, not_or, not_false_eq_true] at h1); (try simp only [Z.nt, Z.iv, Z.no, Z.ol, List.mem_cons, List.mem_append, List.not_mem_nil, or_false, not_or, not_false_eq_true, true_and, and_true]) <;> omega)
  have hcall := p_nodes (b ++ Codec.encList Codec.encInt x.1) (g) (x.2.1) w18 (A19) (c20) (pA2) (pc2) hr29 hb22 hr31 (by first | omega | (simp only [List.length_append, List.flatMap_cons, List.flatMap_nil, List.flatten_cons, List.flatten_nil, List.length_nil, List.append_nil]; omega)) (by assumption) (by assumption)
  refine Z.call1 hf rfl (Z.r_call cf56 hf (xs := [.tmp 10, .tmp 12, .tmp 14]) rfl) hcall ?_; clear hcall hf a
  rintro _ w32 ⟨A33, c34, rfl, hr35, hb36, hc37⟩
  have hzhc37 := hc37.size
  refine ⟨_, rfl, ?_⟩; intro a hf
  refine Z.done ?_
  refine hn26 _ _ ?_
  replace hf : Z.Fr a 22 [] [(0, .pointer (some ⟨g, 0, none⟩)), (3, .pointer (some ⟨g5, 0, none⟩))] := hf.keep [0, 3]
  refine Z.reg ?_
  refine Z.val hf rfl (Z.r_move (hf.eval rfl)) ?_; clear hf a; intro a hf
  refine Z.val hf rfl (Z.r_fieldAddrB Try.underlying33 rfl Try.sizeOf31 (hf.eval rfl) rfl) ?_; clear hf a; intro a hf
  have hb38 := hb28.ch hc37 (by simp only [List.mem_cons, List.mem_append, List.not_mem_nil, or_false, not_or, not_false_eq_true, and_true] <;> omega)
  refine Z.val hf rfl (Z.r_loadB Try.isAgg31 (hf.eval rfl) hb38 rfl) ?_; clear hf a; intro a hf
  refine Z.val hf rfl (Z.r_move (hf.eval rfl)) ?_; clear hf a; intro a hf
  refine Z.val hf rfl (Z.r_makeFunc' hf (xs := [.tmp 19]) (ys := []) rfl rfl) ?_; clear hf a; intro a hf
  have hr39 : (Z.Ty.slice Z.Ty.byte).rep w32 (Z.nt [g]) [.slice A33 (((b ++ Codec.encList Codec.encInt x.1) ++ Codec.encList Codec.encNode x.2.1).length) c34] ((b ++ Codec.encList Codec.encInt x.1) ++ Codec.encList Codec.encNode x.2.1) := Z.rep_to hr35 (Z.Ch.refl w32) (by intro b h1 h2; (try simp only [Z.nt, Z.iv, Z.no, Z.ol, List.mem_cons, List.not_mem_nil, or_false, not_or, not_false_eq_true] at h1); (try simp only [Z.nt, Z.iv, Z.no, Z.ol, List.mem_cons, List.mem_append, List.not_mem_nil, or_false, not_or, not_false_eq_true, true_and, and_true]) <;> omega)
  have hq40 : Z.Ch [g] w w32 := hq30.then hc37 (by simp) (by simp)
  have hr41 : (Z.Ty.slice (Z.Ty.pair (Z.Ty.int .i64) (Z.Ty.pair (Z.Ty.int .i64) (Z.Ty.pair (Z.Ty.int .i64) (Z.Ty.pair (Z.Ty.int .i64) (Z.Ty.pair (Z.Ty.int .i64) (Z.Ty.pair (Z.Ty.int .i64) Z.Ty.str))))))).rep w32 (Z.nt [g]) [.slice pA3 x.2.2.length pc3] x.2.2 := Z.rep_to ph3o hq40 (by intro b h1 h2; (try simp only [Z.nt, Z.iv, Z.no, Z.ol, List.mem_cons, List.not_mem_nil, or_false, not_or, not_false_eq_true] at h1); (try simp only [Z.nt, Z.iv, Z.no, Z.ol, List.mem_cons, List.mem_append, List.not_mem_nil, or_false, not_or, not_false_eq_true, true_and, and_true]) <;> omega)
  have hcall := p_moves ((b ++ Codec.encList Codec.encInt x.1) ++ Codec.encList Codec.encNode x.2.1) (g) (x.2.2) w32 (A33) (c34) (pA3) (pc3) hr39 hb36 hr41 (by first | omega | (simp only [List.length_append, List.flatMap_cons, List.flatMap_nil, List.flatten_cons, List.flatten_nil, List.length_nil, List.append_nil]; omega)) (by assumption) (by assumption)
  refine Z.call1 hf rfl (Z.r_call cf58 hf (xs := [.tmp 16, .tmp 18, .tmp 20]) rfl) hcall ?_; clear hcall hf a
  rintro _ w42 ⟨A43, c44, rfl, hr45, hb46, hc47⟩
  have hzhc47 := hc47.size
  refine ⟨_, rfl, ?_⟩; intro a hf
  refine Z.done ?_
  have hr48 : (Z.Ty.slice Z.Ty.byte).rep w42 (Z.iv w.heap.size w42.heap.size) [.slice A43 ((((b ++ Codec.encList Codec.encInt x.1) ++ Codec.encList Codec.encNode x.2.1) ++ Codec.encList Codec.encMove x.2.2).length) c44] (((b ++ Codec.encList Codec.encInt x.1) ++ Codec.encList Codec.encNode x.2.1) ++ Codec.encList Codec.encMove x.2.2) := Z.rep_as hr45 (by intro b h1 h2; (try simp only [Z.nt, Z.iv, Z.no, Z.ol] at h1); (try simp only [Z.iv]); omega)
  have hxs49 : ((b ++ Codec.encList Codec.encInt x.1) ++ Codec.encList Codec.encNode x.2.1) ++ Codec.encList Codec.encMove x.2.2 = (b ++ Codec.encDelta x : List UInt8) := by first | rfl | (simp [Codec.encDelta]; done)
  have hr50 := Z.rep_eq hr48 hxs49
  have hb51 : Z.Blk w42 g 90 [.slice A43 ((b ++ Codec.encDelta x).length) c44] := Z.Blk.cast hb46 (by first | rfl | (simp only [hxs49]; done) | simp_all)
  have hq52 : Z.Ch [g] w w42 := hq40.then hc47 (by simp) (by simp)
  refine Z.end0 hf Try.results44 ?_
  exact ⟨A43, c44, rfl, hr50, hb51, hq52⟩

set_option maxHeartbeats 400000 in
set_option maxRecDepth 20000 in
theorem w_msg (b : List UInt8) (g : Nat) (x : (Int × Int × (Int × Int) × (Int × Int × (Int × Int × Int × Int)) × (List (Int × ByteArray)) × (List ((Int × Int) × (Int × Int × (Int × Int × Int × Int)) × Int)) × ((List Int) × (List (Int × Int × (List Int) × (Int × Int × ByteArray) × ByteArray × Int × Int)) × (List (Int × Int × Int × Int × (Int × Int × ByteArray)))) × Int × (List (Int × Int × ByteArray × Int)) × Bool × Int)) (w : World) (pA0 : Option Addr) (pc0 : Nat) (pA1 : Option Addr) (pc1 : Nat) (pA2 : Option Addr) (pc2 : Nat) (pA3 : Option Addr) (pc3 : Nat) (pA4 : Option Addr) (pc4 : Nat) (pA5 : Option Addr) (pc5 : Nat) (pA6 : Option Addr) (pc6 : Nat) (ph0 : (Z.Ty.slice Z.Ty.byte).rep w (Z.nt [g]) [.slice pA0 b.length pc0] b) (pb1 : Z.Blk w g 90 [.slice pA0 b.length pc0]) (ph1 : (Z.Ty.slice (Z.Ty.pair (Z.Ty.int .i64) Z.Ty.str)).rep w (Z.nt [g]) [.slice pA1 x.2.2.2.2.1.length pc1] x.2.2.2.2.1) (ph2 : (Z.Ty.slice (Z.Ty.pair (Z.Ty.pair (Z.Ty.int .i64) (Z.Ty.int .i64)) (Z.Ty.pair (Z.Ty.pair (Z.Ty.int .i64) (Z.Ty.pair (Z.Ty.int .i64) (Z.Ty.pair (Z.Ty.int .i64) (Z.Ty.pair (Z.Ty.int .i64) (Z.Ty.pair (Z.Ty.int .i64) (Z.Ty.int .i64)))))) (Z.Ty.int .i64)))).rep w (Z.nt [g]) [.slice pA2 x.2.2.2.2.2.1.length pc2] x.2.2.2.2.2.1) (ph3 : (Z.Ty.slice (Z.Ty.int .i64)).rep w (Z.nt [g]) [.slice pA3 x.2.2.2.2.2.2.1.1.length pc3] x.2.2.2.2.2.2.1.1) (ph4 : (Z.Ty.slice (Z.Ty.pair (Z.Ty.int .i64) (Z.Ty.pair (Z.Ty.int .i64) (Z.Ty.pair (Z.Ty.slice (Z.Ty.int .i64)) (Z.Ty.pair (Z.Ty.pair (Z.Ty.int .i64) (Z.Ty.pair (Z.Ty.int .i64) Z.Ty.str)) (Z.Ty.pair Z.Ty.str (Z.Ty.pair (Z.Ty.int .i64) (Z.Ty.int .i64)))))))).rep w (Z.nt [g]) [.slice pA4 x.2.2.2.2.2.2.1.2.1.length pc4] x.2.2.2.2.2.2.1.2.1) (ph5 : (Z.Ty.slice (Z.Ty.pair (Z.Ty.int .i64) (Z.Ty.pair (Z.Ty.int .i64) (Z.Ty.pair (Z.Ty.int .i64) (Z.Ty.pair (Z.Ty.int .i64) (Z.Ty.pair (Z.Ty.int .i64) (Z.Ty.pair (Z.Ty.int .i64) Z.Ty.str))))))).rep w (Z.nt [g]) [.slice pA5 x.2.2.2.2.2.2.1.2.2.length pc5] x.2.2.2.2.2.2.1.2.2) (ph6 : (Z.Ty.slice (Z.Ty.pair (Z.Ty.int .i64) (Z.Ty.pair (Z.Ty.int .i64) (Z.Ty.pair Z.Ty.str (Z.Ty.int .i64))))).rep w (Z.nt [g]) [.slice pA6 x.2.2.2.2.2.2.2.2.1.length pc6] x.2.2.2.2.2.2.2.2.1) (pk8 : Z.Ty.ok (Z.Ty.pair (Z.Ty.int .i64) (Z.Ty.pair (Z.Ty.int .i64) (Z.Ty.pair (Z.Ty.pair (Z.Ty.int .i64) (Z.Ty.int .i64)) (Z.Ty.pair (Z.Ty.pair (Z.Ty.int .i64) (Z.Ty.pair (Z.Ty.int .i64) (Z.Ty.pair (Z.Ty.int .i64) (Z.Ty.pair (Z.Ty.int .i64) (Z.Ty.pair (Z.Ty.int .i64) (Z.Ty.int .i64)))))) (Z.Ty.pair (Z.Ty.slice (Z.Ty.pair (Z.Ty.int .i64) Z.Ty.str)) (Z.Ty.pair (Z.Ty.slice (Z.Ty.pair (Z.Ty.pair (Z.Ty.int .i64) (Z.Ty.int .i64)) (Z.Ty.pair (Z.Ty.pair (Z.Ty.int .i64) (Z.Ty.pair (Z.Ty.int .i64) (Z.Ty.pair (Z.Ty.int .i64) (Z.Ty.pair (Z.Ty.int .i64) (Z.Ty.pair (Z.Ty.int .i64) (Z.Ty.int .i64)))))) (Z.Ty.int .i64)))) (Z.Ty.pair (Z.Ty.pair (Z.Ty.slice (Z.Ty.int .i64)) (Z.Ty.pair (Z.Ty.slice (Z.Ty.pair (Z.Ty.int .i64) (Z.Ty.pair (Z.Ty.int .i64) (Z.Ty.pair (Z.Ty.slice (Z.Ty.int .i64)) (Z.Ty.pair (Z.Ty.pair (Z.Ty.int .i64) (Z.Ty.pair (Z.Ty.int .i64) Z.Ty.str)) (Z.Ty.pair Z.Ty.str (Z.Ty.pair (Z.Ty.int .i64) (Z.Ty.int .i64)))))))) (Z.Ty.slice (Z.Ty.pair (Z.Ty.int .i64) (Z.Ty.pair (Z.Ty.int .i64) (Z.Ty.pair (Z.Ty.int .i64) (Z.Ty.pair (Z.Ty.int .i64) (Z.Ty.pair (Z.Ty.int .i64) (Z.Ty.pair (Z.Ty.int .i64) Z.Ty.str))))))))) (Z.Ty.pair (Z.Ty.int .i64) (Z.Ty.pair (Z.Ty.slice (Z.Ty.pair (Z.Ty.int .i64) (Z.Ty.pair (Z.Ty.int .i64) (Z.Ty.pair Z.Ty.str (Z.Ty.int .i64))))) (Z.Ty.pair Z.Ty.bool (Z.Ty.int .i64))))))))))) x) (hb : b.length + (Codec.encMsg x).length ≤ 70368744177664) (hg : Codec.gMsg x) :
    Calls Try.prog 21 #[.pointer (some ⟨g, 0, none⟩), .agg #[.int .i64 x.1, .int .i64 x.2.1, .int .i64 x.2.2.1.1, .int .i64 x.2.2.1.2, .int .i64 x.2.2.2.1.1, .int .i64 x.2.2.2.1.2.1, .int .i64 x.2.2.2.1.2.2.1, .int .i64 x.2.2.2.1.2.2.2.1, .int .i64 x.2.2.2.1.2.2.2.2.1, .int .i64 x.2.2.2.1.2.2.2.2.2, .slice pA1 x.2.2.2.2.1.length pc1, .slice pA2 x.2.2.2.2.2.1.length pc2, .slice pA3 x.2.2.2.2.2.2.1.1.length pc3, .slice pA4 x.2.2.2.2.2.2.1.2.1.length pc4, .slice pA5 x.2.2.2.2.2.2.1.2.2.length pc5, .int .i64 x.2.2.2.2.2.2.2.1, .slice pA6 x.2.2.2.2.2.2.2.2.1.length pc6, .bool x.2.2.2.2.2.2.2.2.2.1, .int .i64 x.2.2.2.2.2.2.2.2.2.2]] w fun e w' => ∃ (rA0 : Option Addr) (rc0 : Nat), e = .returned (.tuple #[]) ∧ (Z.Ty.slice Z.Ty.byte).rep w' (Z.iv w.heap.size w'.heap.size) [.slice rA0 (b ++ Codec.encMsg x).length rc0] (b ++ Codec.encMsg x) ∧ Z.Blk w' g 90 [.slice rA0 (b ++ Codec.encMsg x).length rc0] ∧ Z.Ch [g] w w' := by
  refine Z.enter Try.func21 rfl Try.ntmps21 (Nat.le_of_ble_eq_true rfl) fun a hf => ?_
  replace hf : Z.Fr a 55 [] [(0, .pointer (some ⟨g, 0, none⟩)), (1, .agg #[.int .i64 x.1, .int .i64 x.2.1, .int .i64 x.2.2.1.1, .int .i64 x.2.2.1.2, .int .i64 x.2.2.2.1.1, .int .i64 x.2.2.2.1.2.1, .int .i64 x.2.2.2.1.2.2.1, .int .i64 x.2.2.2.1.2.2.2.1, .int .i64 x.2.2.2.1.2.2.2.2.1, .int .i64 x.2.2.2.1.2.2.2.2.2, .slice pA1 x.2.2.2.2.1.length pc1, .slice pA2 x.2.2.2.2.2.1.length pc2, .slice pA3 x.2.2.2.2.2.2.1.1.length pc3, .slice pA4 x.2.2.2.2.2.2.1.2.1.length pc4, .slice pA5 x.2.2.2.2.2.2.1.2.2.length pc5, .int .i64 x.2.2.2.2.2.2.2.1, .slice pA6 x.2.2.2.2.2.2.2.2.1.length pc6, .bool x.2.2.2.2.2.2.2.2.2.1, .int .i64 x.2.2.2.2.2.2.2.2.2.2])] := hf
  have hlt_g := pb1.lt
  have hle_pA1 := Z.rep_le ph1
  have ph1o := Z.rep_ol ph1
  have hle_pA2 := Z.rep_le ph2
  have ph2o := Z.rep_ol ph2
  have hle_pA3 := Z.rep_le ph3
  have ph3o := Z.rep_ol ph3
  have hle_pA4 := Z.rep_le ph4
  have ph4o := Z.rep_ol ph4
  have hle_pA5 := Z.rep_le ph5
  have ph5o := Z.rep_ol ph5
  have hle_pA6 := Z.rep_le ph6
  have ph6o := Z.rep_ol ph6
  have hle_pA0 := Z.rep_le ph0
  have ph0o := Z.rep_ol ph0
  simp only [Codec.encMsg, List.length_append] at hb
  obtain ⟨⟨hg1, hg2⟩, hg3, hg4, hg5, hg6⟩ := hg
  refine Z.seq' (Z.Pq.body _ _ _) fun Q1 hp2 hn3 he4 => ?_
  refine Z.reg ?_
  refine Z.st_box hf rfl rfl rfl ?_; clear hf a; intro g5 w6 a hg7 hz8 hb9 hc10 hf
  refine Z.done ?_
  refine hn3 _ _ ?_
  replace hf : Z.Fr a 55 [] [(0, .pointer (some ⟨g, 0, none⟩)), (3, .pointer (some ⟨g5, 0, none⟩))] := hf.keep [0, 3]
  refine Z.seq' (Z.Pq.body _ _ _) fun Q11 hp12 hn13 he14 => ?_
  refine Z.reg ?_
  refine Z.val hf rfl (Z.r_move (hf.eval rfl)) ?_; clear hf a; intro a hf
  refine Z.val hf rfl (Z.r_fieldAddrB Try.underlying37 rfl Try.sizeOf3 (hf.eval rfl) rfl) ?_; clear hf a; intro a hf
  refine Z.val hf rfl (Z.r_loadB Try.isAgg3 (hf.eval rfl) hb9 rfl) ?_; clear hf a; intro a hf
  refine Z.val hf rfl (Z.r_fieldAddrB Try.underlying37 rfl Try.sizeOf2 (hf.eval rfl) rfl) ?_; clear hf a; intro a hf
  refine Z.val hf rfl (Z.r_loadB Try.isAgg2 (hf.eval rfl) hb9 rfl) ?_; clear hf a; intro a hf
  refine Z.st_bslice hf rfl Try.underlying117 Try.sizeOf2 Try.zeroValue2 (parts := [(0, .tmp 7), (1, .tmp 9)]) (cs := [.int .i64 x.1, .int .i64 x.2.1]) rfl rfl rfl (by kernel_rfl) ?_; clear hf a; intro g15 w16 a hg17 hz18 hb19 hc20 hf
  have ho21 : Z.Own (Z.Ty.int .i64) 2 g15 w16 Z.no (some ⟨g15, 0, none⟩) 2 ([x.1, x.2.1] : List Int) := Z.Own.made (t := (Z.Ty.int .i64)) (xs := ([x.1, x.2.1] : List Int)) hb19 (Nat.le_refl _) rfl (by simp [maxLen]) (by simp [Value.oneCell']) (fun i x hi => by match i, hi with | 0, hi => (injection hi with hi; subst hi; exact ⟨rfl, pk8.1⟩) | 1, hi => (injection hi with hi; subst hi; exact ⟨rfl, pk8.2.1⟩) | (j + 2), hi => simp at hi)
  have hq22 : Z.Ch [] w w16 := hc10.then hc20 (by simp) (by simp)
  have hb23 := pb1.ch0 hq22
  have hr24 : (Z.Ty.slice Z.Ty.byte).rep w16 (Z.nt [g]) [.slice pA0 b.length pc0] b := Z.rep_to ph0o hq22 (by intro b h1 h2; (try simp only [Z.nt, Z.iv, Z.no, Z.ol, List.mem_cons, List.not_mem_nil, or_false, not_or, not_false_eq_true] at h1); (try simp only [Z.nt, Z.iv, Z.no, Z.ol, List.mem_cons, List.mem_append, List.not_mem_nil, or_false, not_or, not_false_eq_true, true_and, and_true]) <;> omega)
  have hr25 := ho21.riv
  have hr26 : (Z.Ty.slice (Z.Ty.int .i64)).rep w16 (Z.nt [g]) [.slice (some ⟨g15, 0, none⟩) 2 2] ([x.1, x.2.1] : List Int) := Z.rep_to hr25 (Z.Ch.refl w16) (by intro b h1 h2; (try simp only [Z.nt, Z.iv, Z.no, Z.ol, List.mem_cons, List.not_mem_nil, or_false, not_or, not_false_eq_true] at h1); (try simp only [Z.nt, Z.iv, Z.no, Z.ol, List.mem_cons, List.mem_append, List.not_mem_nil, or_false, not_or, not_false_eq_true, true_and, and_true]) <;> omega)
  have hcall := w_ints (b) (g) (([x.1, x.2.1] : List Int)) w16 (pA0) (pc0) (some ⟨g15, 0, none⟩) (2) hr24 hb23 hr26 (by first | omega | (simp only [List.length_append, List.flatMap_cons, List.flatMap_nil, List.flatten_cons, List.flatten_nil, List.length_nil, List.append_nil]; omega) | (simp [Codec.b01, hcond] at hb; simp only [List.length_append, List.flatMap_cons, List.flatMap_nil, List.flatten_cons, List.flatten_nil, List.length_nil, List.append_nil]; omega))
  refine Z.call1 hf rfl (Z.r_call cf37 hf (xs := [.tmp 5, .tmp 10]) rfl) hcall ?_; clear hcall hf a
  rintro _ w27 ⟨A28, c29, rfl, hr30, hb31, hc32⟩
  have hzhc32 := hc32.size
  refine ⟨_, rfl, ?_⟩; intro a hf
  refine Z.done ?_
  refine hn13 _ _ ?_
  replace hf : Z.Fr a 55 [] [(0, .pointer (some ⟨g, 0, none⟩)), (3, .pointer (some ⟨g5, 0, none⟩))] := hf.keep [0, 3]
  refine Z.seq' (Z.Pq.body _ _ _) fun Q33 hp34 hn35 he36 => ?_
  refine Z.reg ?_
  refine Z.val hf rfl (Z.r_move (hf.eval rfl)) ?_; clear hf a; intro a hf
  refine Z.val hf rfl (Z.r_fieldAddrB Try.underlying37 rfl Try.sizeOf23 (hf.eval rfl) rfl) ?_; clear hf a; intro a hf
  have hq37 : Z.Ch [g] w6 w27 := hc20.then hc32 (by simp) (by simp)
  have hb38 := hb9.ch hq37 (by simp only [List.mem_cons, List.mem_append, List.not_mem_nil, or_false, not_or, not_false_eq_true, and_true] <;> omega)
  refine Z.val hf rfl (Z.r_loadBN Try.isAgg23 Try.sizeOf23 (hf.eval rfl) hb38 rfl rfl) ?_; clear hf a; intro a hf
  have hr39 : (Z.Ty.slice Z.Ty.byte).rep w27 (Z.nt [g]) [.slice A28 ((b ++ ([x.1, x.2.1] : List Int).flatMap Codec.encInt).length) c29] (b ++ ([x.1, x.2.1] : List Int).flatMap Codec.encInt) := Z.rep_to hr30 (Z.Ch.refl w27) (by intro b h1 h2; (try simp only [Z.nt, Z.iv, Z.no, Z.ol, List.mem_cons, List.not_mem_nil, or_false, not_or, not_false_eq_true] at h1); (try simp only [Z.nt, Z.iv, Z.no, Z.ol, List.mem_cons, List.mem_append, List.not_mem_nil, or_false, not_or, not_false_eq_true, true_and, and_true]) <;> omega)
  have hcall := w_place (b ++ ([x.1, x.2.1] : List Int).flatMap Codec.encInt) (g) (x.2.2.1) w27 (A28) (c29) hr39 hb31 pk8.2.2.1 (by first | omega | (simp only [List.length_append, List.flatMap_cons, List.flatMap_nil, List.flatten_cons, List.flatten_nil, List.length_nil, List.append_nil]; omega))
  refine Z.call1 hf rfl (Z.r_call cf38 hf (xs := [.tmp 12, .tmp 14]) rfl) hcall ?_; clear hcall hf a
  rintro _ w40 ⟨A41, c42, rfl, hr43, hb44, hc45⟩
  have hzhc45 := hc45.size
  refine ⟨_, rfl, ?_⟩; intro a hf
  refine Z.done ?_
  refine hn35 _ _ ?_
  replace hf : Z.Fr a 55 [] [(0, .pointer (some ⟨g, 0, none⟩)), (3, .pointer (some ⟨g5, 0, none⟩))] := hf.keep [0, 3]
  refine Z.seq' (Z.Pq.body _ _ _) fun Q46 hp47 hn48 he49 => ?_
  refine Z.reg ?_
  refine Z.val hf rfl (Z.r_move (hf.eval rfl)) ?_; clear hf a; intro a hf
  refine Z.val hf rfl (Z.r_fieldAddrB Try.underlying37 rfl Try.sizeOf26 (hf.eval rfl) rfl) ?_; clear hf a; intro a hf
  have hb50 := hb38.ch hc45 (by simp only [List.mem_cons, List.mem_append, List.not_mem_nil, or_false, not_or, not_false_eq_true, and_true] <;> omega)
  refine Z.val hf rfl (Z.r_loadBN Try.isAgg26 Try.sizeOf26 (hf.eval rfl) hb50 rfl rfl) ?_; clear hf a; intro a hf
  have hr51 : (Z.Ty.slice Z.Ty.byte).rep w40 (Z.nt [g]) [.slice A41 (((b ++ ([x.1, x.2.1] : List Int).flatMap Codec.encInt) ++ Codec.encPlace x.2.2.1).length) c42] ((b ++ ([x.1, x.2.1] : List Int).flatMap Codec.encInt) ++ Codec.encPlace x.2.2.1) := Z.rep_to hr43 (Z.Ch.refl w40) (by intro b h1 h2; (try simp only [Z.nt, Z.iv, Z.no, Z.ol, List.mem_cons, List.not_mem_nil, or_false, not_or, not_false_eq_true] at h1); (try simp only [Z.nt, Z.iv, Z.no, Z.ol, List.mem_cons, List.mem_append, List.not_mem_nil, or_false, not_or, not_false_eq_true, true_and, and_true]) <;> omega)
  have hcall := w_time ((b ++ ([x.1, x.2.1] : List Int).flatMap Codec.encInt) ++ Codec.encPlace x.2.2.1) (g) (x.2.2.2.1) w40 (A41) (c42) hr51 hb44 pk8.2.2.2.1 (by first | omega | (simp only [List.length_append, List.flatMap_cons, List.flatMap_nil, List.flatten_cons, List.flatten_nil, List.length_nil, List.append_nil]; omega))
  refine Z.call1 hf rfl (Z.r_call cf39 hf (xs := [.tmp 16, .tmp 18]) rfl) hcall ?_; clear hcall hf a
  rintro _ w52 ⟨A53, c54, rfl, hr55, hb56, hc57⟩
  have hzhc57 := hc57.size
  refine ⟨_, rfl, ?_⟩; intro a hf
  refine Z.done ?_
  refine hn48 _ _ ?_
  replace hf : Z.Fr a 55 [] [(0, .pointer (some ⟨g, 0, none⟩)), (3, .pointer (some ⟨g5, 0, none⟩))] := hf.keep [0, 3]
  refine Z.seq' (Z.Pq.body _ _ _) fun Q58 hp59 hn60 he61 => ?_
  refine Z.reg ?_
  refine Z.val hf rfl (Z.r_move (hf.eval rfl)) ?_; clear hf a; intro a hf
  refine Z.val hf rfl (Z.r_fieldAddrB Try.underlying37 rfl Try.sizeOf27 (hf.eval rfl) rfl) ?_; clear hf a; intro a hf
  have hb62 := hb50.ch hc57 (by simp only [List.mem_cons, List.mem_append, List.not_mem_nil, or_false, not_or, not_false_eq_true, and_true] <;> omega)
  refine Z.val hf rfl (Z.r_loadB Try.isAgg27 (hf.eval rfl) hb62 rfl) ?_; clear hf a; intro a hf
  refine Z.val hf rfl (Z.r_move (hf.eval rfl)) ?_; clear hf a; intro a hf
  refine Z.val hf rfl (Z.r_makeFunc' hf (xs := [.tmp 23]) (ys := []) rfl rfl) ?_; clear hf a; intro a hf
  have hr63 : (Z.Ty.slice Z.Ty.byte).rep w52 (Z.nt [g]) [.slice A53 ((((b ++ ([x.1, x.2.1] : List Int).flatMap Codec.encInt) ++ Codec.encPlace x.2.2.1) ++ Codec.encTime x.2.2.2.1).length) c54] (((b ++ ([x.1, x.2.1] : List Int).flatMap Codec.encInt) ++ Codec.encPlace x.2.2.1) ++ Codec.encTime x.2.2.2.1) := Z.rep_to hr55 (Z.Ch.refl w52) (by intro b h1 h2; (try simp only [Z.nt, Z.iv, Z.no, Z.ol, List.mem_cons, List.not_mem_nil, or_false, not_or, not_false_eq_true] at h1); (try simp only [Z.nt, Z.iv, Z.no, Z.ol, List.mem_cons, List.mem_append, List.not_mem_nil, or_false, not_or, not_false_eq_true, true_and, and_true]) <;> omega)
  have hq64 : Z.Ch [g] w w27 := hq22.then hc32 (by simp) (by simp)
  have hq65 : Z.Ch [g] w w40 := hq64.then hc45 (by simp) (by simp)
  have hq66 : Z.Ch [g] w w52 := hq65.then hc57 (by simp) (by simp)
  have hr67 : (Z.Ty.slice (Z.Ty.pair (Z.Ty.int .i64) Z.Ty.str)).rep w52 (Z.nt [g]) [.slice pA1 x.2.2.2.2.1.length pc1] x.2.2.2.2.1 := Z.rep_to ph1o hq66 (by intro b h1 h2; (try simp only [Z.nt, Z.iv, Z.no, Z.ol, List.mem_cons, List.not_mem_nil, or_false, not_or, not_false_eq_true] at h1); (try simp only [Z.nt, Z.iv, Z.no, Z.ol, List.mem_cons, List.mem_append, List.not_mem_nil, or_false, not_or, not_false_eq_true, true_and, and_true]) <;> omega)
  have hcall := p_recs (((b ++ ([x.1, x.2.1] : List Int).flatMap Codec.encInt) ++ Codec.encPlace x.2.2.1) ++ Codec.encTime x.2.2.2.1) (g) (x.2.2.2.2.1) w52 (A53) (c54) (pA1) (pc1) hr63 hb56 hr67 (by first | omega | (simp only [List.length_append, List.flatMap_cons, List.flatMap_nil, List.flatten_cons, List.flatten_nil, List.length_nil, List.append_nil]; omega)) (by assumption) (by assumption)
  refine Z.call1 hf rfl (Z.r_call cf40 hf (xs := [.tmp 20, .tmp 22, .tmp 24]) rfl) hcall ?_; clear hcall hf a
  rintro _ w68 ⟨A69, c70, rfl, hr71, hb72, hc73⟩
  have hzhc73 := hc73.size
  refine ⟨_, rfl, ?_⟩; intro a hf
  refine Z.done ?_
  refine hn60 _ _ ?_
  replace hf : Z.Fr a 55 [] [(0, .pointer (some ⟨g, 0, none⟩)), (3, .pointer (some ⟨g5, 0, none⟩))] := hf.keep [0, 3]
  refine Z.seq' (Z.Pq.body _ _ _) fun Q74 hp75 hn76 he77 => ?_
  refine Z.reg ?_
  refine Z.val hf rfl (Z.r_move (hf.eval rfl)) ?_; clear hf a; intro a hf
  refine Z.val hf rfl (Z.r_fieldAddrB Try.underlying37 rfl Try.sizeOf28 (hf.eval rfl) rfl) ?_; clear hf a; intro a hf
  have hb78 := hb62.ch hc73 (by simp only [List.mem_cons, List.mem_append, List.not_mem_nil, or_false, not_or, not_false_eq_true, and_true] <;> omega)
  refine Z.val hf rfl (Z.r_loadB Try.isAgg28 (hf.eval rfl) hb78 rfl) ?_; clear hf a; intro a hf
  refine Z.val hf rfl (Z.r_move (hf.eval rfl)) ?_; clear hf a; intro a hf
  refine Z.val hf rfl (Z.r_makeFunc' hf (xs := [.tmp 29]) (ys := []) rfl rfl) ?_; clear hf a; intro a hf
  have hr79 : (Z.Ty.slice Z.Ty.byte).rep w68 (Z.nt [g]) [.slice A69 (((((b ++ ([x.1, x.2.1] : List Int).flatMap Codec.encInt) ++ Codec.encPlace x.2.2.1) ++ Codec.encTime x.2.2.2.1) ++ Codec.encList Codec.encRec x.2.2.2.2.1).length) c70] ((((b ++ ([x.1, x.2.1] : List Int).flatMap Codec.encInt) ++ Codec.encPlace x.2.2.1) ++ Codec.encTime x.2.2.2.1) ++ Codec.encList Codec.encRec x.2.2.2.2.1) := Z.rep_to hr71 (Z.Ch.refl w68) (by intro b h1 h2; (try simp only [Z.nt, Z.iv, Z.no, Z.ol, List.mem_cons, List.not_mem_nil, or_false, not_or, not_false_eq_true] at h1); (try simp only [Z.nt, Z.iv, Z.no, Z.ol, List.mem_cons, List.mem_append, List.not_mem_nil, or_false, not_or, not_false_eq_true, true_and, and_true]) <;> omega)
  have hq80 : Z.Ch [g] w w68 := hq66.then hc73 (by simp) (by simp)
  have hr81 : (Z.Ty.slice (Z.Ty.pair (Z.Ty.pair (Z.Ty.int .i64) (Z.Ty.int .i64)) (Z.Ty.pair (Z.Ty.pair (Z.Ty.int .i64) (Z.Ty.pair (Z.Ty.int .i64) (Z.Ty.pair (Z.Ty.int .i64) (Z.Ty.pair (Z.Ty.int .i64) (Z.Ty.pair (Z.Ty.int .i64) (Z.Ty.int .i64)))))) (Z.Ty.int .i64)))).rep w68 (Z.nt [g]) [.slice pA2 x.2.2.2.2.2.1.length pc2] x.2.2.2.2.2.1 := Z.rep_to ph2o hq80 (by intro b h1 h2; (try simp only [Z.nt, Z.iv, Z.no, Z.ol, List.mem_cons, List.not_mem_nil, or_false, not_or, not_false_eq_true] at h1); (try simp only [Z.nt, Z.iv, Z.no, Z.ol, List.mem_cons, List.mem_append, List.not_mem_nil, or_false, not_or, not_false_eq_true, true_and, and_true]) <;> omega)
  have hcall := p_changes ((((b ++ ([x.1, x.2.1] : List Int).flatMap Codec.encInt) ++ Codec.encPlace x.2.2.1) ++ Codec.encTime x.2.2.2.1) ++ Codec.encList Codec.encRec x.2.2.2.2.1) (g) (x.2.2.2.2.2.1) w68 (A69) (c70) (pA2) (pc2) hr79 hb72 hr81 (by first | omega | (simp only [List.length_append, List.flatMap_cons, List.flatMap_nil, List.flatten_cons, List.flatten_nil, List.length_nil, List.append_nil]; omega)) (by assumption)
  refine Z.call1 hf rfl (Z.r_call cf42 hf (xs := [.tmp 26, .tmp 28, .tmp 30]) rfl) hcall ?_; clear hcall hf a
  rintro _ w82 ⟨A83, c84, rfl, hr85, hb86, hc87⟩
  have hzhc87 := hc87.size
  refine ⟨_, rfl, ?_⟩; intro a hf
  refine Z.done ?_
  refine hn76 _ _ ?_
  replace hf : Z.Fr a 55 [] [(0, .pointer (some ⟨g, 0, none⟩)), (3, .pointer (some ⟨g5, 0, none⟩))] := hf.keep [0, 3]
  refine Z.seq' (Z.Pq.body _ _ _) fun Q88 hp89 hn90 he91 => ?_
  refine Z.reg ?_
  refine Z.val hf rfl (Z.r_move (hf.eval rfl)) ?_; clear hf a; intro a hf
  refine Z.val hf rfl (Z.r_fieldAddrB Try.underlying37 rfl Try.sizeOf33 (hf.eval rfl) rfl) ?_; clear hf a; intro a hf
  have hb92 := hb78.ch hc87 (by simp only [List.mem_cons, List.mem_append, List.not_mem_nil, or_false, not_or, not_false_eq_true, and_true] <;> omega)
  refine Z.val hf rfl (Z.r_loadBN Try.isAgg33 Try.sizeOf33 (hf.eval rfl) hb92 rfl rfl) ?_; clear hf a; intro a hf
  have hr93 : (Z.Ty.slice Z.Ty.byte).rep w82 (Z.nt [g]) [.slice A83 ((((((b ++ ([x.1, x.2.1] : List Int).flatMap Codec.encInt) ++ Codec.encPlace x.2.2.1) ++ Codec.encTime x.2.2.2.1) ++ Codec.encList Codec.encRec x.2.2.2.2.1) ++ Codec.encList Codec.encChange x.2.2.2.2.2.1).length) c84] (((((b ++ ([x.1, x.2.1] : List Int).flatMap Codec.encInt) ++ Codec.encPlace x.2.2.1) ++ Codec.encTime x.2.2.2.1) ++ Codec.encList Codec.encRec x.2.2.2.2.1) ++ Codec.encList Codec.encChange x.2.2.2.2.2.1) := Z.rep_to hr85 (Z.Ch.refl w82) (by intro b h1 h2; (try simp only [Z.nt, Z.iv, Z.no, Z.ol, List.mem_cons, List.not_mem_nil, or_false, not_or, not_false_eq_true] at h1); (try simp only [Z.nt, Z.iv, Z.no, Z.ol, List.mem_cons, List.mem_append, List.not_mem_nil, or_false, not_or, not_false_eq_true, true_and, and_true]) <;> omega)
  have hq94 : Z.Ch [g] w w82 := hq80.then hc87 (by simp) (by simp)
  have hr95 : (Z.Ty.slice (Z.Ty.int .i64)).rep w82 (Z.nt [g]) [.slice pA3 x.2.2.2.2.2.2.1.1.length pc3] x.2.2.2.2.2.2.1.1 := Z.rep_to ph3o hq94 (by intro b h1 h2; (try simp only [Z.nt, Z.iv, Z.no, Z.ol, List.mem_cons, List.not_mem_nil, or_false, not_or, not_false_eq_true] at h1); (try simp only [Z.nt, Z.iv, Z.no, Z.ol, List.mem_cons, List.mem_append, List.not_mem_nil, or_false, not_or, not_false_eq_true, true_and, and_true]) <;> omega)
  have hr96 : (Z.Ty.slice (Z.Ty.pair (Z.Ty.int .i64) (Z.Ty.pair (Z.Ty.int .i64) (Z.Ty.pair (Z.Ty.slice (Z.Ty.int .i64)) (Z.Ty.pair (Z.Ty.pair (Z.Ty.int .i64) (Z.Ty.pair (Z.Ty.int .i64) Z.Ty.str)) (Z.Ty.pair Z.Ty.str (Z.Ty.pair (Z.Ty.int .i64) (Z.Ty.int .i64)))))))).rep w82 (Z.nt [g]) [.slice pA4 x.2.2.2.2.2.2.1.2.1.length pc4] x.2.2.2.2.2.2.1.2.1 := Z.rep_to ph4o hq94 (by intro b h1 h2; (try simp only [Z.nt, Z.iv, Z.no, Z.ol, List.mem_cons, List.not_mem_nil, or_false, not_or, not_false_eq_true] at h1); (try simp only [Z.nt, Z.iv, Z.no, Z.ol, List.mem_cons, List.mem_append, List.not_mem_nil, or_false, not_or, not_false_eq_true, true_and, and_true]) <;> omega)
  have hr97 : (Z.Ty.slice (Z.Ty.pair (Z.Ty.int .i64) (Z.Ty.pair (Z.Ty.int .i64) (Z.Ty.pair (Z.Ty.int .i64) (Z.Ty.pair (Z.Ty.int .i64) (Z.Ty.pair (Z.Ty.int .i64) (Z.Ty.pair (Z.Ty.int .i64) Z.Ty.str))))))).rep w82 (Z.nt [g]) [.slice pA5 x.2.2.2.2.2.2.1.2.2.length pc5] x.2.2.2.2.2.2.1.2.2 := Z.rep_to ph5o hq94 (by intro b h1 h2; (try simp only [Z.nt, Z.iv, Z.no, Z.ol, List.mem_cons, List.not_mem_nil, or_false, not_or, not_false_eq_true] at h1); (try simp only [Z.nt, Z.iv, Z.no, Z.ol, List.mem_cons, List.mem_append, List.not_mem_nil, or_false, not_or, not_false_eq_true, true_and, and_true]) <;> omega)
  have hcall := w_delta (((((b ++ ([x.1, x.2.1] : List Int).flatMap Codec.encInt) ++ Codec.encPlace x.2.2.1) ++ Codec.encTime x.2.2.2.1) ++ Codec.encList Codec.encRec x.2.2.2.2.1) ++ Codec.encList Codec.encChange x.2.2.2.2.2.1) (g) (x.2.2.2.2.2.2.1) w82 (A83) (c84) (pA3) (pc3) (pA4) (pc4) (pA5) (pc5) hr93 hb86 hr95 hr96 hr97 pk8.2.2.2.2.2.2.1 (by first | omega | (simp only [List.length_append, List.flatMap_cons, List.flatMap_nil, List.flatten_cons, List.flatten_nil, List.length_nil, List.append_nil]; omega)) (by assumption)
  refine Z.call1 hf rfl (Z.r_call cf44 hf (xs := [.tmp 32, .tmp 34]) rfl) hcall ?_; clear hcall hf a
  rintro _ w98 ⟨A99, c100, rfl, hr101, hb102, hc103⟩
  have hzhc103 := hc103.size
  refine ⟨_, rfl, ?_⟩; intro a hf
  refine Z.done ?_
  refine hn90 _ _ ?_
  replace hf : Z.Fr a 55 [] [(0, .pointer (some ⟨g, 0, none⟩)), (3, .pointer (some ⟨g5, 0, none⟩))] := hf.keep [0, 3]
  refine Z.seq' (Z.Pq.body _ _ _) fun Q104 hp105 hn106 he107 => ?_
  refine Z.reg ?_
  refine Z.val hf rfl (Z.r_move (hf.eval rfl)) ?_; clear hf a; intro a hf
  refine Z.val hf rfl (Z.r_fieldAddrB Try.underlying37 rfl Try.sizeOf2 (hf.eval rfl) rfl) ?_; clear hf a; intro a hf
  have hb108 := hb92.ch hc103 (by simp only [List.mem_cons, List.mem_append, List.not_mem_nil, or_false, not_or, not_false_eq_true, and_true] <;> omega)
  refine Z.val hf rfl (Z.r_loadB Try.isAgg2 (hf.eval rfl) hb108 rfl) ?_; clear hf a; intro a hf
  refine Z.st_bslice hf rfl Try.underlying117 Try.sizeOf2 Try.zeroValue2 (parts := [(0, .tmp 38)]) (cs := [.int .i64 x.2.2.2.2.2.2.2.1]) rfl rfl rfl (by kernel_rfl) ?_; clear hf a; intro g109 w110 a hg111 hz112 hb113 hc114 hf
  have ho115 : Z.Own (Z.Ty.int .i64) 2 g109 w110 Z.no (some ⟨g109, 0, none⟩) 1 ([x.2.2.2.2.2.2.2.1] : List Int) := Z.Own.made (t := (Z.Ty.int .i64)) (xs := ([x.2.2.2.2.2.2.2.1] : List Int)) hb113 (Nat.le_refl _) rfl (by simp [maxLen]) (by simp [Value.oneCell']) (fun i x hi => by match i, hi with | 0, hi => (injection hi with hi; subst hi; exact ⟨rfl, pk8.2.2.2.2.2.2.2.1⟩) | (j + 1), hi => simp at hi)
  have hb116 := hb102.ch0 hc114
  have hr117 : (Z.Ty.slice Z.Ty.byte).rep w110 (Z.nt [g]) [.slice A99 (((((((b ++ ([x.1, x.2.1] : List Int).flatMap Codec.encInt) ++ Codec.encPlace x.2.2.1) ++ Codec.encTime x.2.2.2.1) ++ Codec.encList Codec.encRec x.2.2.2.2.1) ++ Codec.encList Codec.encChange x.2.2.2.2.2.1) ++ Codec.encDelta x.2.2.2.2.2.2.1).length) c100] ((((((b ++ ([x.1, x.2.1] : List Int).flatMap Codec.encInt) ++ Codec.encPlace x.2.2.1) ++ Codec.encTime x.2.2.2.1) ++ Codec.encList Codec.encRec x.2.2.2.2.1) ++ Codec.encList Codec.encChange x.2.2.2.2.2.1) ++ Codec.encDelta x.2.2.2.2.2.2.1) := Z.rep_to hr101 hc114 (by intro b h1 h2; (try simp only [Z.nt, Z.iv, Z.no, Z.ol, List.mem_cons, List.not_mem_nil, or_false, not_or, not_false_eq_true] at h1); (try simp only [Z.nt, Z.iv, Z.no, Z.ol, List.mem_cons, List.mem_append, List.not_mem_nil, or_false, not_or, not_false_eq_true, true_and, and_true]) <;> omega)
  have hr118 := ho115.riv
  have hr119 : (Z.Ty.slice (Z.Ty.int .i64)).rep w110 (Z.nt [g]) [.slice (some ⟨g109, 0, none⟩) 1 1] ([x.2.2.2.2.2.2.2.1] : List Int) := Z.rep_to hr118 (Z.Ch.refl w110) (by intro b h1 h2; (try simp only [Z.nt, Z.iv, Z.no, Z.ol, List.mem_cons, List.not_mem_nil, or_false, not_or, not_false_eq_true] at h1); (try simp only [Z.nt, Z.iv, Z.no, Z.ol, List.mem_cons, List.mem_append, List.not_mem_nil, or_false, not_or, not_false_eq_true, true_and, and_true]) <;> omega)
  have hcall := w_ints ((((((b ++ ([x.1, x.2.1] : List Int).flatMap Codec.encInt) ++ Codec.encPlace x.2.2.1) ++ Codec.encTime x.2.2.2.1) ++ Codec.encList Codec.encRec x.2.2.2.2.1) ++ Codec.encList Codec.encChange x.2.2.2.2.2.1) ++ Codec.encDelta x.2.2.2.2.2.2.1) (g) (([x.2.2.2.2.2.2.2.1] : List Int)) w110 (A99) (c100) (some ⟨g109, 0, none⟩) (1) hr117 hb116 hr119 (by first | omega | (simp only [List.length_append, List.flatMap_cons, List.flatMap_nil, List.flatten_cons, List.flatten_nil, List.length_nil, List.append_nil]; omega) | (simp [Codec.b01, hcond] at hb; simp only [List.length_append, List.flatMap_cons, List.flatMap_nil, List.flatten_cons, List.flatten_nil, List.length_nil, List.append_nil]; omega))
  refine Z.call1 hf rfl (Z.r_call cf37 hf (xs := [.tmp 36, .tmp 39]) rfl) hcall ?_; clear hcall hf a
  rintro _ w120 ⟨A121, c122, rfl, hr123, hb124, hc125⟩
  have hzhc125 := hc125.size
  refine ⟨_, rfl, ?_⟩; intro a hf
  refine Z.done ?_
  refine hn106 _ _ ?_
  replace hf : Z.Fr a 55 [] [(0, .pointer (some ⟨g, 0, none⟩)), (3, .pointer (some ⟨g5, 0, none⟩))] := hf.keep [0, 3]
  refine Z.seq' (Z.Pq.body _ _ _) fun Q126 hp127 hn128 he129 => ?_
  refine Z.reg ?_
  refine Z.val hf rfl (Z.r_move (hf.eval rfl)) ?_; clear hf a; intro a hf
  refine Z.val hf rfl (Z.r_fieldAddrB Try.underlying37 rfl Try.sizeOf34 (hf.eval rfl) rfl) ?_; clear hf a; intro a hf
  have hq130 : Z.Ch [g] w98 w120 := hc114.then hc125 (by simp) (by simp)
  have hb131 := hb108.ch hq130 (by simp only [List.mem_cons, List.mem_append, List.not_mem_nil, or_false, not_or, not_false_eq_true, and_true] <;> omega)
  refine Z.val hf rfl (Z.r_loadB Try.isAgg34 (hf.eval rfl) hb131 rfl) ?_; clear hf a; intro a hf
  refine Z.val hf rfl (Z.r_move (hf.eval rfl)) ?_; clear hf a; intro a hf
  refine Z.val hf rfl (Z.r_makeFunc' hf (xs := [.tmp 44]) (ys := []) rfl rfl) ?_; clear hf a; intro a hf
  have hr132 : (Z.Ty.slice Z.Ty.byte).rep w120 (Z.nt [g]) [.slice A121 ((((((((b ++ ([x.1, x.2.1] : List Int).flatMap Codec.encInt) ++ Codec.encPlace x.2.2.1) ++ Codec.encTime x.2.2.2.1) ++ Codec.encList Codec.encRec x.2.2.2.2.1) ++ Codec.encList Codec.encChange x.2.2.2.2.2.1) ++ Codec.encDelta x.2.2.2.2.2.2.1) ++ ([x.2.2.2.2.2.2.2.1] : List Int).flatMap Codec.encInt).length) c122] (((((((b ++ ([x.1, x.2.1] : List Int).flatMap Codec.encInt) ++ Codec.encPlace x.2.2.1) ++ Codec.encTime x.2.2.2.1) ++ Codec.encList Codec.encRec x.2.2.2.2.1) ++ Codec.encList Codec.encChange x.2.2.2.2.2.1) ++ Codec.encDelta x.2.2.2.2.2.2.1) ++ ([x.2.2.2.2.2.2.2.1] : List Int).flatMap Codec.encInt) := Z.rep_to hr123 (Z.Ch.refl w120) (by intro b h1 h2; (try simp only [Z.nt, Z.iv, Z.no, Z.ol, List.mem_cons, List.not_mem_nil, or_false, not_or, not_false_eq_true] at h1); (try simp only [Z.nt, Z.iv, Z.no, Z.ol, List.mem_cons, List.mem_append, List.not_mem_nil, or_false, not_or, not_false_eq_true, true_and, and_true]) <;> omega)
  have hq133 : Z.Ch [g] w w98 := hq94.then hc103 (by simp) (by simp)
  have hq134 : Z.Ch [g] w w110 := hq133.then hc114 (by simp) (by simp)
  have hq135 : Z.Ch [g] w w120 := hq134.then hc125 (by simp) (by simp)
  have hr136 : (Z.Ty.slice (Z.Ty.pair (Z.Ty.int .i64) (Z.Ty.pair (Z.Ty.int .i64) (Z.Ty.pair Z.Ty.str (Z.Ty.int .i64))))).rep w120 (Z.nt [g]) [.slice pA6 x.2.2.2.2.2.2.2.2.1.length pc6] x.2.2.2.2.2.2.2.2.1 := Z.rep_to ph6o hq135 (by intro b h1 h2; (try simp only [Z.nt, Z.iv, Z.no, Z.ol, List.mem_cons, List.not_mem_nil, or_false, not_or, not_false_eq_true] at h1); (try simp only [Z.nt, Z.iv, Z.no, Z.ol, List.mem_cons, List.mem_append, List.not_mem_nil, or_false, not_or, not_false_eq_true, true_and, and_true]) <;> omega)
  have hcall := p_entries (((((((b ++ ([x.1, x.2.1] : List Int).flatMap Codec.encInt) ++ Codec.encPlace x.2.2.1) ++ Codec.encTime x.2.2.2.1) ++ Codec.encList Codec.encRec x.2.2.2.2.1) ++ Codec.encList Codec.encChange x.2.2.2.2.2.1) ++ Codec.encDelta x.2.2.2.2.2.2.1) ++ ([x.2.2.2.2.2.2.2.1] : List Int).flatMap Codec.encInt) (g) (x.2.2.2.2.2.2.2.2.1) w120 (A121) (c122) (pA6) (pc6) hr132 hb124 hr136 (by first | omega | (simp only [List.length_append, List.flatMap_cons, List.flatMap_nil, List.flatten_cons, List.flatten_nil, List.length_nil, List.append_nil]; omega)) (by assumption) (by assumption)
  refine Z.call1 hf rfl (Z.r_call cf34 hf (xs := [.tmp 41, .tmp 43, .tmp 45]) rfl) hcall ?_; clear hcall hf a
  rintro _ w137 ⟨A138, c139, rfl, hr140, hb141, hc142⟩
  have hzhc142 := hc142.size
  refine ⟨_, rfl, ?_⟩; intro a hf
  refine Z.done ?_
  refine hn128 _ _ ?_
  replace hf : Z.Fr a 55 [] [(0, .pointer (some ⟨g, 0, none⟩)), (3, .pointer (some ⟨g5, 0, none⟩))] := hf.keep [0, 3]
  refine Z.seq' (Z.Pq.body _ _ _) fun Q143 hp144 hn145 he146 => ?_
  refine Z.reg ?_
  refine Z.val hf rfl (Z.r_assign (hf.eval rfl)) ?_; clear hf a; intro a hf
  refine Z.done ?_
  refine hn145 _ _ ?_
  replace hf : Z.Fr a 55 [] [(0, .pointer (some ⟨g, 0, none⟩)), (3, .pointer (some ⟨g5, 0, none⟩)), (4, .int .i64 0)] := hf.keep [0, 3, 4]
  refine Z.seq' (Z.Pq.body _ _ _) fun Q147 hp148 hn149 he150 => ?_
  refine Z.seq' hp148 fun Q151 hp152 hn153 he154 => ?_
  refine Z.reg ?_
  refine Z.val hf rfl (Z.r_fieldAddrB Try.underlying37 rfl Try.sizeOf4 (hf.eval rfl) rfl) ?_; clear hf a; intro a hf
  have hb155 := hb131.ch hc142 (by simp only [List.mem_cons, List.mem_append, List.not_mem_nil, or_false, not_or, not_false_eq_true, and_true] <;> omega)
  refine Z.val hf rfl (Z.r_loadB Try.isAgg4 (hf.eval rfl) hb155 rfl) ?_; clear hf a; intro a hf
  refine Z.done ?_
  refine hn153 _ _ ?_
  replace hf : Z.Fr a 55 [] [(0, .pointer (some ⟨g, 0, none⟩)), (3, .pointer (some ⟨g5, 0, none⟩)), (4, .int .i64 0), (48, .bool x.2.2.2.2.2.2.2.2.2.1)] := hf.keep [0, 3, 4, 48]
  refine Z.cond hf rfl ?_ ?_
  · intro hp156
    have hcond := hp156
    refine Z.reg ?_
    refine Z.val hf rfl (Z.r_assign (hf.eval rfl)) ?_; clear hf a; intro a hf
    refine Z.done ?_
    refine hn149 _ _ ?_
    replace hf : Z.Fr a 55 [] [(0, .pointer (some ⟨g, 0, none⟩)), (3, .pointer (some ⟨g5, 0, none⟩)), (4, .int .i64 1)] := hf.keep [0, 3, 4]
    refine Z.reg ?_
    refine Z.val hf rfl (Z.r_move (hf.eval rfl)) ?_; clear hf a; intro a hf
    refine Z.val hf rfl (Z.r_move (hf.eval rfl)) ?_; clear hf a; intro a hf
    refine Z.val hf rfl (Z.r_fieldAddrB Try.underlying37 rfl Try.sizeOf35 (hf.eval rfl) rfl) ?_; clear hf a; intro a hf
    refine Z.val hf rfl (Z.r_loadB Try.isAgg35 (hf.eval rfl) hb155 rfl) ?_; clear hf a; intro a hf
    refine Z.st_bslice hf rfl Try.underlying117 Try.sizeOf2 Try.zeroValue2 (parts := [(0, .tmp 50), (1, .tmp 52)]) (cs := [.int .i64 1, .int .i64 x.2.2.2.2.2.2.2.2.2.2]) rfl rfl rfl (by kernel_rfl) ?_; clear hf a; intro g157 w158 a hg159 hz160 hb161 hc162 hf
    have ho163 : Z.Own (Z.Ty.int .i64) 2 g157 w158 Z.no (some ⟨g157, 0, none⟩) 2 ([1, x.2.2.2.2.2.2.2.2.2.2] : List Int) := Z.Own.made (t := (Z.Ty.int .i64)) (xs := ([1, x.2.2.2.2.2.2.2.2.2.2] : List Int)) hb161 (Nat.le_refl _) rfl (by simp [maxLen]) (by simp [Value.oneCell']) (fun i x hi => by match i, hi with | 0, hi => (injection hi with hi; subst hi; exact ⟨rfl, (Z.i64_has (by omega))⟩) | 1, hi => (injection hi with hi; subst hi; exact ⟨rfl, pk8.2.2.2.2.2.2.2.2.2.2⟩) | (j + 2), hi => simp at hi)
    have hb164 := hb141.ch0 hc162
    have hr165 : (Z.Ty.slice Z.Ty.byte).rep w158 (Z.nt [g]) [.slice A138 (((((((((b ++ ([x.1, x.2.1] : List Int).flatMap Codec.encInt) ++ Codec.encPlace x.2.2.1) ++ Codec.encTime x.2.2.2.1) ++ Codec.encList Codec.encRec x.2.2.2.2.1) ++ Codec.encList Codec.encChange x.2.2.2.2.2.1) ++ Codec.encDelta x.2.2.2.2.2.2.1) ++ ([x.2.2.2.2.2.2.2.1] : List Int).flatMap Codec.encInt) ++ Codec.encList Codec.encEntry x.2.2.2.2.2.2.2.2.1).length) c139] ((((((((b ++ ([x.1, x.2.1] : List Int).flatMap Codec.encInt) ++ Codec.encPlace x.2.2.1) ++ Codec.encTime x.2.2.2.1) ++ Codec.encList Codec.encRec x.2.2.2.2.1) ++ Codec.encList Codec.encChange x.2.2.2.2.2.1) ++ Codec.encDelta x.2.2.2.2.2.2.1) ++ ([x.2.2.2.2.2.2.2.1] : List Int).flatMap Codec.encInt) ++ Codec.encList Codec.encEntry x.2.2.2.2.2.2.2.2.1) := Z.rep_to hr140 hc162 (by intro b h1 h2; (try simp only [Z.nt, Z.iv, Z.no, Z.ol, List.mem_cons, List.not_mem_nil, or_false, not_or, not_false_eq_true] at h1); (try simp only [Z.nt, Z.iv, Z.no, Z.ol, List.mem_cons, List.mem_append, List.not_mem_nil, or_false, not_or, not_false_eq_true, true_and, and_true]) <;> omega)
    have hr166 := ho163.riv
    have hr167 : (Z.Ty.slice (Z.Ty.int .i64)).rep w158 (Z.nt [g]) [.slice (some ⟨g157, 0, none⟩) 2 2] ([1, x.2.2.2.2.2.2.2.2.2.2] : List Int) := Z.rep_to hr166 (Z.Ch.refl w158) (by intro b h1 h2; (try simp only [Z.nt, Z.iv, Z.no, Z.ol, List.mem_cons, List.not_mem_nil, or_false, not_or, not_false_eq_true] at h1); (try simp only [Z.nt, Z.iv, Z.no, Z.ol, List.mem_cons, List.mem_append, List.not_mem_nil, or_false, not_or, not_false_eq_true, true_and, and_true]) <;> omega)
    have hcall := w_ints ((((((((b ++ ([x.1, x.2.1] : List Int).flatMap Codec.encInt) ++ Codec.encPlace x.2.2.1) ++ Codec.encTime x.2.2.2.1) ++ Codec.encList Codec.encRec x.2.2.2.2.1) ++ Codec.encList Codec.encChange x.2.2.2.2.2.1) ++ Codec.encDelta x.2.2.2.2.2.2.1) ++ ([x.2.2.2.2.2.2.2.1] : List Int).flatMap Codec.encInt) ++ Codec.encList Codec.encEntry x.2.2.2.2.2.2.2.2.1) (g) (([1, x.2.2.2.2.2.2.2.2.2.2] : List Int)) w158 (A138) (c139) (some ⟨g157, 0, none⟩) (2) hr165 hb164 hr167 (by first | omega | (simp only [List.length_append, List.flatMap_cons, List.flatMap_nil, List.flatten_cons, List.flatten_nil, List.length_nil, List.append_nil]; omega) | (simp [Codec.b01, hcond] at hb; simp only [List.length_append, List.flatMap_cons, List.flatMap_nil, List.flatten_cons, List.flatten_nil, List.length_nil, List.append_nil]; omega))
    refine Z.call1 hf rfl (Z.r_call cf37 hf (xs := [.tmp 49, .tmp 53]) rfl) hcall ?_; clear hcall hf a
    rintro _ w168 ⟨A169, c170, rfl, hr171, hb172, hc173⟩
    have hzhc173 := hc173.size
    refine ⟨_, rfl, ?_⟩; intro a hf
    refine Z.done ?_
    have hr174 : (Z.Ty.slice Z.Ty.byte).rep w168 (Z.iv w.heap.size w168.heap.size) [.slice A169 ((((((((((b ++ ([x.1, x.2.1] : List Int).flatMap Codec.encInt) ++ Codec.encPlace x.2.2.1) ++ Codec.encTime x.2.2.2.1) ++ Codec.encList Codec.encRec x.2.2.2.2.1) ++ Codec.encList Codec.encChange x.2.2.2.2.2.1) ++ Codec.encDelta x.2.2.2.2.2.2.1) ++ ([x.2.2.2.2.2.2.2.1] : List Int).flatMap Codec.encInt) ++ Codec.encList Codec.encEntry x.2.2.2.2.2.2.2.2.1) ++ ([1, x.2.2.2.2.2.2.2.2.2.2] : List Int).flatMap Codec.encInt).length) c170] (((((((((b ++ ([x.1, x.2.1] : List Int).flatMap Codec.encInt) ++ Codec.encPlace x.2.2.1) ++ Codec.encTime x.2.2.2.1) ++ Codec.encList Codec.encRec x.2.2.2.2.1) ++ Codec.encList Codec.encChange x.2.2.2.2.2.1) ++ Codec.encDelta x.2.2.2.2.2.2.1) ++ ([x.2.2.2.2.2.2.2.1] : List Int).flatMap Codec.encInt) ++ Codec.encList Codec.encEntry x.2.2.2.2.2.2.2.2.1) ++ ([1, x.2.2.2.2.2.2.2.2.2.2] : List Int).flatMap Codec.encInt) := Z.rep_as hr171 (by intro b h1 h2; (try simp only [Z.nt, Z.iv, Z.no, Z.ol] at h1); (try simp only [Z.iv]); omega)
    have hxs175 : ((((((((b ++ ([x.1, x.2.1] : List Int).flatMap Codec.encInt) ++ Codec.encPlace x.2.2.1) ++ Codec.encTime x.2.2.2.1) ++ Codec.encList Codec.encRec x.2.2.2.2.1) ++ Codec.encList Codec.encChange x.2.2.2.2.2.1) ++ Codec.encDelta x.2.2.2.2.2.2.1) ++ ([x.2.2.2.2.2.2.2.1] : List Int).flatMap Codec.encInt) ++ Codec.encList Codec.encEntry x.2.2.2.2.2.2.2.2.1) ++ ([1, x.2.2.2.2.2.2.2.2.2.2] : List Int).flatMap Codec.encInt = (b ++ Codec.encMsg x : List UInt8) := by first | rfl | (simp [Codec.encMsg, Codec.b01, hcond]; done)
    have hr176 := Z.rep_eq hr174 hxs175
    have hb177 : Z.Blk w168 g 90 [.slice A169 ((b ++ Codec.encMsg x).length) c170] := Z.Blk.cast hb172 (by first | rfl | (simp only [hxs175]; done) | simp_all)
    have hq178 : Z.Ch [g] w w137 := hq135.then hc142 (by simp) (by simp)
    have hq179 : Z.Ch [g] w w158 := hq178.then hc162 (by simp) (by simp)
    have hq180 : Z.Ch [g] w w168 := hq179.then hc173 (by simp) (by simp)
    refine Z.end0 hf Try.results21 ?_
    exact ⟨A169, c170, rfl, hr176, hb177, hq180⟩
  · intro hp181
    have hcond := hp181
    refine wp_skip ?_
    refine hn149 _ _ ?_
    replace hf : Z.Fr a 55 [] [(0, .pointer (some ⟨g, 0, none⟩)), (3, .pointer (some ⟨g5, 0, none⟩)), (4, .int .i64 0)] := hf.keep [0, 3, 4]
    refine Z.reg ?_
    refine Z.val hf rfl (Z.r_move (hf.eval rfl)) ?_; clear hf a; intro a hf
    refine Z.val hf rfl (Z.r_move (hf.eval rfl)) ?_; clear hf a; intro a hf
    refine Z.val hf rfl (Z.r_fieldAddrB Try.underlying37 rfl Try.sizeOf35 (hf.eval rfl) rfl) ?_; clear hf a; intro a hf
    refine Z.val hf rfl (Z.r_loadB Try.isAgg35 (hf.eval rfl) hb155 rfl) ?_; clear hf a; intro a hf
    refine Z.st_bslice hf rfl Try.underlying117 Try.sizeOf2 Try.zeroValue2 (parts := [(0, .tmp 50), (1, .tmp 52)]) (cs := [.int .i64 0, .int .i64 x.2.2.2.2.2.2.2.2.2.2]) rfl rfl rfl (by kernel_rfl) ?_; clear hf a; intro g182 w183 a hg184 hz185 hb186 hc187 hf
    have ho188 : Z.Own (Z.Ty.int .i64) 2 g182 w183 Z.no (some ⟨g182, 0, none⟩) 2 ([0, x.2.2.2.2.2.2.2.2.2.2] : List Int) := Z.Own.made (t := (Z.Ty.int .i64)) (xs := ([0, x.2.2.2.2.2.2.2.2.2.2] : List Int)) hb186 (Nat.le_refl _) rfl (by simp [maxLen]) (by simp [Value.oneCell']) (fun i x hi => by match i, hi with | 0, hi => (injection hi with hi; subst hi; exact ⟨rfl, (Z.i64_has (by omega))⟩) | 1, hi => (injection hi with hi; subst hi; exact ⟨rfl, pk8.2.2.2.2.2.2.2.2.2.2⟩) | (j + 2), hi => simp at hi)
    have hb189 := hb141.ch0 hc187
    have hr190 : (Z.Ty.slice Z.Ty.byte).rep w183 (Z.nt [g]) [.slice A138 (((((((((b ++ ([x.1, x.2.1] : List Int).flatMap Codec.encInt) ++ Codec.encPlace x.2.2.1) ++ Codec.encTime x.2.2.2.1) ++ Codec.encList Codec.encRec x.2.2.2.2.1) ++ Codec.encList Codec.encChange x.2.2.2.2.2.1) ++ Codec.encDelta x.2.2.2.2.2.2.1) ++ ([x.2.2.2.2.2.2.2.1] : List Int).flatMap Codec.encInt) ++ Codec.encList Codec.encEntry x.2.2.2.2.2.2.2.2.1).length) c139] ((((((((b ++ ([x.1, x.2.1] : List Int).flatMap Codec.encInt) ++ Codec.encPlace x.2.2.1) ++ Codec.encTime x.2.2.2.1) ++ Codec.encList Codec.encRec x.2.2.2.2.1) ++ Codec.encList Codec.encChange x.2.2.2.2.2.1) ++ Codec.encDelta x.2.2.2.2.2.2.1) ++ ([x.2.2.2.2.2.2.2.1] : List Int).flatMap Codec.encInt) ++ Codec.encList Codec.encEntry x.2.2.2.2.2.2.2.2.1) := Z.rep_to hr140 hc187 (by intro b h1 h2; (try simp only [Z.nt, Z.iv, Z.no, Z.ol, List.mem_cons, List.not_mem_nil, or_false, not_or, not_false_eq_true] at h1); (try simp only [Z.nt, Z.iv, Z.no, Z.ol, List.mem_cons, List.mem_append, List.not_mem_nil, or_false, not_or, not_false_eq_true, true_and, and_true]) <;> omega)
    have hr191 := ho188.riv
    have hr192 : (Z.Ty.slice (Z.Ty.int .i64)).rep w183 (Z.nt [g]) [.slice (some ⟨g182, 0, none⟩) 2 2] ([0, x.2.2.2.2.2.2.2.2.2.2] : List Int) := Z.rep_to hr191 (Z.Ch.refl w183) (by intro b h1 h2; (try simp only [Z.nt, Z.iv, Z.no, Z.ol, List.mem_cons, List.not_mem_nil, or_false, not_or, not_false_eq_true] at h1); (try simp only [Z.nt, Z.iv, Z.no, Z.ol, List.mem_cons, List.mem_append, List.not_mem_nil, or_false, not_or, not_false_eq_true, true_and, and_true]) <;> omega)
    have hcall := w_ints ((((((((b ++ ([x.1, x.2.1] : List Int).flatMap Codec.encInt) ++ Codec.encPlace x.2.2.1) ++ Codec.encTime x.2.2.2.1) ++ Codec.encList Codec.encRec x.2.2.2.2.1) ++ Codec.encList Codec.encChange x.2.2.2.2.2.1) ++ Codec.encDelta x.2.2.2.2.2.2.1) ++ ([x.2.2.2.2.2.2.2.1] : List Int).flatMap Codec.encInt) ++ Codec.encList Codec.encEntry x.2.2.2.2.2.2.2.2.1) (g) (([0, x.2.2.2.2.2.2.2.2.2.2] : List Int)) w183 (A138) (c139) (some ⟨g182, 0, none⟩) (2) hr190 hb189 hr192 (by first | omega | (simp only [List.length_append, List.flatMap_cons, List.flatMap_nil, List.flatten_cons, List.flatten_nil, List.length_nil, List.append_nil]; omega) | (simp [Codec.b01, hcond] at hb; simp only [List.length_append, List.flatMap_cons, List.flatMap_nil, List.flatten_cons, List.flatten_nil, List.length_nil, List.append_nil]; omega))
    refine Z.call1 hf rfl (Z.r_call cf37 hf (xs := [.tmp 49, .tmp 53]) rfl) hcall ?_; clear hcall hf a
    rintro _ w193 ⟨A194, c195, rfl, hr196, hb197, hc198⟩
    have hzhc198 := hc198.size
    refine ⟨_, rfl, ?_⟩; intro a hf
    refine Z.done ?_
    have hr199 : (Z.Ty.slice Z.Ty.byte).rep w193 (Z.iv w.heap.size w193.heap.size) [.slice A194 ((((((((((b ++ ([x.1, x.2.1] : List Int).flatMap Codec.encInt) ++ Codec.encPlace x.2.2.1) ++ Codec.encTime x.2.2.2.1) ++ Codec.encList Codec.encRec x.2.2.2.2.1) ++ Codec.encList Codec.encChange x.2.2.2.2.2.1) ++ Codec.encDelta x.2.2.2.2.2.2.1) ++ ([x.2.2.2.2.2.2.2.1] : List Int).flatMap Codec.encInt) ++ Codec.encList Codec.encEntry x.2.2.2.2.2.2.2.2.1) ++ ([0, x.2.2.2.2.2.2.2.2.2.2] : List Int).flatMap Codec.encInt).length) c195] (((((((((b ++ ([x.1, x.2.1] : List Int).flatMap Codec.encInt) ++ Codec.encPlace x.2.2.1) ++ Codec.encTime x.2.2.2.1) ++ Codec.encList Codec.encRec x.2.2.2.2.1) ++ Codec.encList Codec.encChange x.2.2.2.2.2.1) ++ Codec.encDelta x.2.2.2.2.2.2.1) ++ ([x.2.2.2.2.2.2.2.1] : List Int).flatMap Codec.encInt) ++ Codec.encList Codec.encEntry x.2.2.2.2.2.2.2.2.1) ++ ([0, x.2.2.2.2.2.2.2.2.2.2] : List Int).flatMap Codec.encInt) := Z.rep_as hr196 (by intro b h1 h2; (try simp only [Z.nt, Z.iv, Z.no, Z.ol] at h1); (try simp only [Z.iv]); omega)
    have hxs200 : ((((((((b ++ ([x.1, x.2.1] : List Int).flatMap Codec.encInt) ++ Codec.encPlace x.2.2.1) ++ Codec.encTime x.2.2.2.1) ++ Codec.encList Codec.encRec x.2.2.2.2.1) ++ Codec.encList Codec.encChange x.2.2.2.2.2.1) ++ Codec.encDelta x.2.2.2.2.2.2.1) ++ ([x.2.2.2.2.2.2.2.1] : List Int).flatMap Codec.encInt) ++ Codec.encList Codec.encEntry x.2.2.2.2.2.2.2.2.1) ++ ([0, x.2.2.2.2.2.2.2.2.2.2] : List Int).flatMap Codec.encInt = (b ++ Codec.encMsg x : List UInt8) := by first | rfl | (simp [Codec.encMsg, Codec.b01, hcond]; done)
    have hr201 := Z.rep_eq hr199 hxs200
    have hb202 : Z.Blk w193 g 90 [.slice A194 ((b ++ Codec.encMsg x).length) c195] := Z.Blk.cast hb197 (by first | rfl | (simp only [hxs200]; done) | simp_all)
    have hq203 : Z.Ch [g] w w137 := hq135.then hc142 (by simp) (by simp)
    have hq204 : Z.Ch [g] w w183 := hq203.then hc187 (by simp) (by simp)
    have hq205 : Z.Ch [g] w w193 := hq204.then hc198 (by simp) (by simp)
    refine Z.end0 hf Try.results21 ?_
    exact ⟨A194, c195, rfl, hr201, hb202, hq205⟩

end Go.Proofs.Ytlhpkogdcgebeaa
