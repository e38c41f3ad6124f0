/- Walks: the laws on frames. -/
import Derived.Test.YtlhpkogdcgebeaaW10
import Derived.Test.YtlhpkogdcgebeaaEv
set_option linter.unusedVariables false
set_option linter.unusedSimpArgs false
set_option synthInstance.maxSize 4000
set_option synthInstance.maxHeartbeats 400000
namespace Go.Proofs.Ytlhpkogdcgebeaa
open Go.RowKit
set_option maxHeartbeats 400000 in
set_option maxRecDepth 20000 in
theorem CodecFrames_spec (xs : List UInt8) (m : UInt8) (w : World) (pA0 : Option Addr) (pc0 : Nat) (ph0 : (Z.Ty.slice Z.Ty.byte).rep w (Z.nt []) [.slice pA0 xs.length pc0] xs)  :
    Calls Try.prog 4 #[.slice pA0 xs.length pc0, .int .u8 (m.toNat : Int)] w fun e w' => e = .returned (.bool true) ∧ Z.Ch [] w w' := by
  refine Z.enter Try.func4 rfl Try.ntmps4 (Nat.le_of_ble_eq_true rfl) fun a hf => ?_
  have hle_pA0 := Z.rep_le ph0
  have ph0o := Z.rep_ol ph0
  have hfl := Codec.frames_len xs
  have hm8 := UInt8.toNat_lt m
  refine Z.qseq [.n] [] [] [] Z.k0 hf ?_; clear hf a; intro a hf
  refine Z.seq' (Z.Pq.body _ _ _) fun Q1 hp2 hn3 he4 => ?_
  refine Z.seq' hp2 fun Q5 hp6 hn7 he8 => ?_
  refine Z.reg ?_
  refine Z.call1 hf rfl (Z.r_call cf6 hf (xs := []) rfl) (begun_spec  w  ) ?_; clear hf a
  rintro _ w9 ⟨rfl, hc10⟩
  have hzhc10 := hc10.size
  refine ⟨_, rfl, ?_⟩; intro a hf
  refine Z.qe [.n, .n, (.on .n), (.on .n), (.on .n), .n] [16] [] [(16, .bool (decide (70000 < (xs.length : Int))))] Z.k0 hf ?_; clear hf a; intro a hf
  refine hn7 _ _ ?_
  refine Z.condp hf rfl ?_ ?_
  · intro hp11
    refine Z.seq' hp2 fun Q12 hp13 hn14 he15 => ?_
    refine Z.reg ?_
    refine Z.call1 hf rfl (Z.r_call cf6 hf (xs := []) rfl) (begun_spec  w9  ) ?_; clear hf a
    rintro _ w16 ⟨rfl, hc17⟩
    have hzhc17 := hc17.size
    refine ⟨_, rfl, ?_⟩; intro a hf
    refine Z.qe [.n] [4] [] [(4, .bool true)] Z.k0 hf ?_; clear hf a; intro a hf
    refine hn14 _ _ ?_
    refine Z.ret ?_
    refine he4 _ _ _ (by simp) ?_
    have hq18 : Z.Ch [] w w16 := hc10.then hc17
    refine Z.ret1 hf Try.results4 rfl ?_
    exact ⟨rfl, hq18⟩
  · intro hp19
    refine Z.skip ?_
    refine hn3 _ _ ?_
    refine Z.seq' (Z.Pq.body _ _ _) fun Q20 hp21 hn22 he23 => ?_
    refine Z.reg ?_
    refine Z.qr [.n] [19] [] [(19, .slice pA0 xs.length pc0)] Z.k0 hf ?_; clear hf a; intro a hf
    have hr24 := Z.rep_to (F' := (Z.nt [])) ph0o hc10
    refine Z.call1 hf rfl (Z.r_call cf12 hf (xs := [.tmp 19]) rfl) (Frame_spec xs w9 pA0 pc0 hr24) ?_; clear hf a
    rintro _ w25 ⟨A26, c27, rfl, hr28, hc29⟩
    have hzhc29 := hc29.size
    refine ⟨_, rfl, ?_⟩; intro a hf
    refine Z.qe [.n, .n, .n, .n, .n] [5, 6] [] [(5, .slice A26 ((Codec.frameB xs).length) c27), (6, .int .i64 (Codec.frameE xs))] Z.k0 hf ?_; clear hf a; intro a hf
    refine hn22 _ _ ?_
    refine Z.seq' (Z.Pq.body _ _ _) fun Q30 hp31 hn32 he33 => ?_
    refine Z.reg ?_
    refine Z.qr [.n] [24] [] [(24, .slice pA0 xs.length pc0)] Z.k0 hf ?_; clear hf a; intro a hf
    have hq34 : Z.Ch [] w w25 := hc10.then hc29
    have hr35 := Z.rep_to (F' := (Z.nt [])) ph0o hq34
    refine Z.call1 hf rfl (Z.r_call cf13 hf (xs := [.tmp 24]) rfl) (RFrame_spec xs w25 pA0 pc0 hr35) ?_; clear hf a
    rintro _ w36 ⟨A37, c38, rfl, ho39, hc41⟩
    have hzhc41 := hc41.size
    refine ⟨_, rfl, ?_⟩; intro a hf
    refine Z.qe [.n, .n, .n, .n, .n] [7, 8] [] [(7, .slice A37 ((Codec.frameB xs).length) c38), (8, .int .i64 (Codec.frameE xs))] Z.k0 hf ?_; clear hf a; intro a hf
    refine hn32 _ _ ?_
    refine Z.seq' (Z.Pq.body _ _ _) fun Q42 hp43 hn44 he45 => ?_
    refine Z.reg ?_
    refine Z.qr [.n] [28] [] [(28, .slice pA0 xs.length pc0)] Z.k0 hf ?_; clear hf a; intro a hf
    have hq46 : Z.Ch [] w w36 := hq34.then hc41
    have hr47 := Z.rep_to (F' := (Z.nt [])) ph0o hq46
    refine Z.call1 hf rfl (Z.r_call cf14 hf (xs := [.tmp 28]) rfl) (RFrames_spec xs w36 pA0 pc0 hr47 (by omega)) ?_; clear hf a
    rintro _ w48 ⟨A49, c50, rfl, ho51, hc53⟩
    have hzhc53 := hc53.size
    refine ⟨_, rfl, ?_⟩; intro a hf
    refine Z.qe [.n] [9] [] [(9, .slice A49 ((Codec.frames xs).length) c50)] Z.k0 hf ?_; clear hf a; intro a hf
    refine hn44 _ _ ?_
    refine Z.seq' (Z.Pq.body _ _ _) fun Q54 hp55 hn56 he57 => ?_
    refine Z.dr_reg (S := fun w' => Z.Ch [] w48 w') mixed ?_; intro w58 hc59 hz60
    refine Z.dqr [true, true, false, false, false, false, false, false, false, false, false, false, false, false, false, false, false, false, false, false, false, false, false, false, false, false, false, false, false, false, false] 29 [(0, .n), (1, .n)] [30, 31] [] [(30, .slice A26 ((Codec.frameB xs).length) c27), (31, .slice A37 ((Codec.frameB xs).length) c38)] hp55 hc59 (fun w hw => Z.k0) hf ?_; clear hf a; intro a hf
    refine Z.dr_one 2 rfl (by kernel_rfl) ?_
    have hq61 : Z.Ch [] w25 w48 := hc41.then hc53
    have hq62 : Z.Ch [] w25 w58 := hq61.then hc59
    have hr63 := Z.rep_to (F' := (Z.nt [])) hr28 hq62
    have hr64 := ho39.riv
    have hq65 : Z.Ch [] w36 w58 := hc53.then hc59
    have hr66 := Z.rep_to (F' := (Z.nt [])) hr64 hq65
    refine Z.call1 hf rfl (Z.r_call cf10 hf (xs := [.tmp 30, .tmp 31]) rfl) (Equal_spec (Codec.frameB xs) (Codec.frameB xs) w58 A26 c27 A37 c38 hr63 hr66) ?_; clear hf a
    rintro _ w67 ⟨rfl, hc68⟩
    have hzhc68 := hc68.size
    refine ⟨_, rfl, ?_⟩; intro a hf
    refine Z.done ?_
    have hq69 : Z.Ch [] w48 w67 := hc59.then hc68
    refine And.intro hq69 ?_
    refine Z.dqr [true, true, true, true, false, false, false, false, false, false, false, false, false, false, false, false, false, false, false, false, false, false, false, false, false, false, false, false, false, false, false] 27 [(3, .n)] [33] [] [(33, .bool (decide ((Codec.frameB xs) = (Codec.frameB xs))))] hp55 hq69 (fun w hw => Z.k0) hf ?_; clear hf a; intro a hf
    by_cases hdec : (Codec.frameB xs) = (Codec.frameB xs) <;> revert hdec
    · intro hp70
      replace hf := hf.setb (d := 33) (b' := true) rfl (decide_eq_true hp70)
      refine Z.dqr [true, true, true, true, true, true, true, true, true, false, false, false, false, false, false, false, false, false, false, false, false, false, false, false, false, false, false, false, false, false, false] 22 [(4, (.on .n)), (5, (.on .n)), (6, (.on .n)), (7, .n), (8, .n)] [38] [] [(38, .bool (decide (Codec.frameE xs = Codec.frameE xs)))] hp55 hq69 (fun w hw => Z.k0) hf ?_; clear hf a; intro a hf
      by_cases hdec : Codec.frameE xs = Codec.frameE xs <;> revert hdec
      · intro hp71
        replace hf := hf.setb (d := 38) (b' := true) rfl (decide_eq_true hp71)
        refine Z.dqr [true, true, true, true, true, true, true, true, true, true, false, false, true, false, false, false, false, false, false, false, false, false, false, false, false, false, false, false, false, false, false] 20 [(9, (.on .n)), (12, (.on .n))] [39, 42] [] [(39, .slice pA0 xs.length pc0), (42, .slice A49 ((Codec.frames xs).length) c50)] hp55 hq69 (fun w hw => Z.k0) hf ?_; clear hf a; intro a hf
        refine Z.dr_one 10 rfl (by kernel_rfl) ?_
        refine Z.on hf rfl rfl ?_
        have hq72 : Z.Ch [] w w48 := hq46.then hc53
        have hq73 : Z.Ch [] w w58 := hq72.then hc59
        have hq74 : Z.Ch [] w w67 := hq73.then hc68
        have hr75 := Z.rep_to (F' := (Z.nt [])) ph0o hq74
        refine Z.call1 hf rfl (Z.r_call cf17 hf (xs := [.tmp 39]) rfl) (FramesF_spec xs w67 pA0 pc0 hr75 (by omega)) ?_; clear hf a
        rintro _ w76 ⟨g77, A78, c79, rfl, hr80, hg81, hb82, hc83⟩
        have hzhc83 := hc83.size
        refine ⟨_, rfl, ?_⟩; intro a hf
        refine Z.done ?_
        have hq84 : Z.Ch [] w48 w76 := hq69.then hc83
        refine And.intro hq84 ?_
        refine Z.dr_one 11 rfl (by kernel_rfl) ?_
        refine Z.on hf rfl rfl ?_
        refine Z.call1 hf rfl (Z.r_call cf16 hf (xs := [.tmp 40, .const (.int .i64 1048576)]) rfl) (told_spec (Codec.frames xs) g77 1048576 w76 A78 c79 hr80 hb82 (by omega) (by omega) (by exact Codec.frames_el _)) ?_; clear hf a
        rintro _ w85 ⟨A86, c87, rfl, ho88, hc90⟩
        have hzhc90 := hc90.size
        refine ⟨_, rfl, ?_⟩; intro a hf
        refine Z.done ?_
        have hq91 : Z.Ch [] w48 w85 := hq84.then hc90
        refine And.intro hq91 ?_
        refine Z.dr_one 13 rfl (by kernel_rfl) ?_
        refine Z.on hf rfl rfl ?_
        have hr92 := (ho88.rep' (F' := Z.nt []) (fun _ _ => by simp [Z.nt]) (fun _ _ _ => by simp [Z.nt]))
        have hr93 := (ho51.rep' (F' := Z.nt []) (fun _ _ => by simp [Z.nt]) (fun _ _ _ => by simp [Z.nt]))
        have hr94 := Z.rep_to (F' := (Z.nt [])) hr93 hq91
        refine Z.call1 hf rfl (Z.r_call cf15 hf (xs := [.tmp 41, .tmp 42]) rfl) (same_spec ((Codec.frames xs).take (Int.toNat 1048576)) (Codec.frames xs) w85 A86 c87 A49 c50 hr92 hr94) ?_; clear hf a
        rintro _ w95 ⟨rfl, hc96⟩
        have hzhc96 := hc96.size
        refine ⟨_, rfl, ?_⟩; intro a hf
        refine Z.done ?_
        have hq97 : Z.Ch [] w48 w95 := hq91.then hc96
        refine And.intro hq97 ?_
        refine Z.dqr [true, true, true, true, true, true, true, true, true, true, true, true, true, true, true, true, false, false, false, false, false, false, false, false, false, false, false, false, false, false, false] 15 [(14, .n), (15, .n)] [45] [] [(45, .bool (decide (((Codec.frames xs).take (Int.toNat 1048576)) = (Codec.frames xs))))] hp55 hq97 (fun w hw => Z.k0) hf ?_; clear hf a; intro a hf
        by_cases hdec : ((Codec.frames xs).take (Int.toNat 1048576)) = (Codec.frames xs) <;> revert hdec
        · intro hp98
          replace hf := hf.setb (d := 45) (b' := true) rfl (decide_eq_true hp98)
          refine Z.dqr [true, true, true, true, true, true, true, true, true, true, true, true, true, true, true, true, true, false, true, true, false, true, true, true, true, true, true, false, false, false, false] 6 [(16, (.on .n)), (18, (.on .n)), (19, (.on .n)), (21, (.on .n)), (22, (.on .n)), (23, (.on .n)), (24, (.on .n)), (25, (.on .n)), (26, (.on .n))] [46, 49, 51, 56] [Z.R64 ((m.toNat : Int)), Z.R64 ((m.toNat : Int))] [(46, .slice pA0 xs.length pc0), (49, .int .i64 (m.toNat : Int)), (51, .slice A49 ((Codec.frames xs).length) c50), (56, .int .i64 (min ((Codec.frames xs).length : Int) (m.toNat : Int)))] hp55 hq97 (fun w hw => Z.k0) hf ?_; clear hf a; intro a hf
          have hr99 := (ho51.rep' (F' := Z.nt []) (fun _ _ => by simp [Z.nt]) (fun _ _ _ => by simp [Z.nt]))
          have hl100 := Z.rep_slice_len hr99
          have hr101 := Z.rep_cuth hr99 (min ((Codec.frames xs).length) m.toNat) (by omega)
          have hn102 : ((Codec.frames xs).take (min ((Codec.frames xs).length) m.toNat)).length = (min ((Codec.frames xs).length) m.toNat) := by first | rfl | omega | (simp only [List.length_take, List.length_drop]; done) | (simp only [List.length_take, List.length_drop]; omega)
          refine Z.dr_val 27 hf rfl rfl (by kernel_rfl) (by kernel_rfl) hp55 hq97 (Z.wanted_on hf rfl rfl) (fun _ hw => Z.r_slice_h (u := (min ((Codec.frames xs).length) m.toNat)) Try.underlying46 Try.sizeOf40 (hf.eval rfl) (hf.eval rfl) (by omega) (by omega)) ?_; clear hf a; intro a hf
          replace hf := hf.setv (d := 57) (y := .slice A49 (((Codec.frames xs).take (min ((Codec.frames xs).length) m.toNat)).length) c50) rfl (Z.slice_n (by first | rfl | omega | (simp only [List.length_take, List.length_drop]; done) | (simp only [List.length_take, List.length_drop]; omega) | (simp; omega)))
          refine Z.dr_one 17 rfl (by kernel_rfl) ?_
          refine Z.on hf rfl rfl ?_
          have hq103 : Z.Ch [] w w76 := hq74.then hc83
          have hq104 : Z.Ch [] w w85 := hq103.then hc90
          have hq105 : Z.Ch [] w w95 := hq104.then hc96
          have hr106 := Z.rep_to (F' := (Z.nt [])) ph0o hq105
          refine Z.call1 hf rfl (Z.r_call cf17 hf (xs := [.tmp 46]) rfl) (FramesF_spec xs w95 pA0 pc0 hr106 (by omega)) ?_; clear hf a
          rintro _ w107 ⟨g108, A109, c110, rfl, hr111, hg112, hb113, hc114⟩
          have hzhc114 := hc114.size
          refine ⟨_, rfl, ?_⟩; intro a hf
          refine Z.done ?_
          have hq115 : Z.Ch [] w48 w107 := hq97.then hc114
          refine And.intro hq115 ?_
          refine Z.dr_one 20 rfl (by kernel_rfl) ?_
          refine Z.on hf rfl rfl ?_
          refine Z.call1 hf rfl (Z.r_call cf16 hf (xs := [.tmp 47, .tmp 49]) rfl) (told_spec (Codec.frames xs) g108 (m.toNat : Int) w107 A109 c110 hr111 hb113 (by omega) (by omega) (by exact Codec.frames_el _)) ?_; clear hf a
          rintro _ w116 ⟨A117, c118, rfl, ho119, hc121⟩
          have hzhc121 := hc121.size
          refine ⟨_, rfl, ?_⟩; intro a hf
          refine Z.done ?_
          have hq122 : Z.Ch [] w48 w116 := hq115.then hc121
          refine And.intro hq122 ?_
          refine Z.dr_one 28 rfl (by kernel_rfl) ?_
          refine Z.on hf rfl rfl ?_
          have hr123 := (ho119.rep' (F' := Z.nt []) (fun _ _ => by simp [Z.nt]) (fun _ _ _ => by simp [Z.nt]))
          have hr124 := Z.rep_to (F' := (Z.nt [])) hr101 hq122
          refine Z.call1 hf rfl (Z.r_call cf15 hf (xs := [.tmp 50, .tmp 57]) rfl) (same_spec ((Codec.frames xs).take (Int.toNat (m.toNat : Int))) ((Codec.frames xs).take (min ((Codec.frames xs).length) m.toNat)) w116 A117 c118 A49 c50 hr123 hr124) ?_; clear hf a
          rintro _ w125 ⟨rfl, hc126⟩
          have hzhc126 := hc126.size
          refine ⟨_, rfl, ?_⟩; intro a hf
          refine Z.done ?_
          have hq127 : Z.Ch [] w48 w125 := hq122.then hc126
          refine And.intro hq127 ?_
          refine Z.dqr [true, true, true, true, true, true, true, true, true, true, true, true, true, true, true, true, true, true, true, true, true, true, true, true, true, true, true, true, true, true, true] 0 [(29, .n), (30, .n)] [4] [] [(4, .bool (decide (((Codec.frames xs).take (Int.toNat (m.toNat : Int))) = ((Codec.frames xs).take (min ((Codec.frames xs).length) m.toNat)))))] hp55 hq127 (fun w hw => Z.k0) hf ?_; clear hf a; intro a hf
          refine Z.dr_done (by kernel_rfl) ?_
          refine hn56 _ _ ?_
          refine Z.ret ?_
          replace hf := hf.setv (d := 4) (y := .bool true) rfl (congrArg Value.bool (by first | rfl | (apply decide_eq_true; simp only [Int.toNat_natCast]; exact Codec.take_min _ _)))
          have hq128 : Z.Ch [] w w107 := hq105.then hc114
          have hq129 : Z.Ch [] w w116 := hq128.then hc121
          have hq130 : Z.Ch [] w w125 := hq129.then hc126
          refine Z.ret1 hf Try.results4 rfl ?_
          exact ⟨rfl, hq130⟩
        · intro hp131
          exfalso; exact hp131 (List.take_of_length_le (by have : (1048576 : Int).toNat = 1048576 := rfl; omega))
      · intro hp132
        exfalso; exact hp132 rfl
    · intro hp133
      exfalso; exact hp133 rfl

set_option maxHeartbeats 400000 in
set_option maxRecDepth 20000 in
theorem CodecWhole_spec (ls : List (List UInt8)) (c : Int) (w : World) (pA0 : Option Addr) (pc0 : Nat) (ph0 : (Z.Ty.slice (Z.Ty.slice Z.Ty.byte)).rep w (Z.nt []) [.slice pA0 ls.length pc0] ls) (pk1 : Z.Ty.ok (Z.Ty.int .u16) c)  :
    Calls Try.prog 5 #[.slice pA0 ls.length pc0, .int .u16 c] w fun e w' => e = .returned (.bool true) ∧ Z.Ch [] w w' := by
  refine Z.enter Try.func5 rfl Try.ntmps5 (Nat.le_of_ble_eq_true rfl) fun a hf => ?_
  have hle_pA0 := Z.rep_le ph0
  have ph0o := Z.rep_ol ph0
  have hc16 : 0 ≤ c ∧ c ≤ 65535 := by simpa [Z.Ty.ok, IntKind.has, IntKind.min, IntKind.max, IntKind.bits, IntKind.signed] using pk1
  have hL20 : (ls.take (min ls.length 20)).length ≤ 20 := by rw [List.length_take]; omega
  refine Z.qseq [.n] [] [] [] Z.k0 hf ?_; clear hf a; intro a hf
  refine Z.seq' (Z.Pq.body _ _ _) fun Q1 hp2 hn3 he4 => ?_
  refine Z.reg ?_
  refine Z.qr [.n, .n, .n, .n] [13, 16] [] [(13, .slice pA0 ls.length pc0), (16, .int .i64 (min (ls.length : Int) 20))] Z.k0 hf ?_; clear hf a; intro a hf
  have hl5 := Z.rep_slice_len ph0o
  have hr6 := Z.rep_cuth ph0o (min ls.length 20) (by omega)
  have hn7 : (ls.take (min ls.length 20)).length = (min ls.length 20) := by first | rfl | omega | (simp only [List.length_take, List.length_drop]; done) | (simp only [List.length_take, List.length_drop]; omega)
  refine Z.val hf rfl (Z.r_slice_h (u := (min ls.length 20)) Try.underlying46 Try.sizeOf40 (hf.eval rfl) (hf.eval rfl) (by omega) (by omega)) ?_; clear hf a; intro a hf
  replace hf := hf.setv (d := 17) (y := .slice pA0 ((ls.take (min ls.length 20)).length) pc0) rfl (Z.slice_n (by first | rfl | omega | (simp only [List.length_take, List.length_drop]; done) | (simp only [List.length_take, List.length_drop]; omega) | (simp; omega)))
  refine Z.qe [.n] [0] [] [(0, .slice pA0 ((ls.take (min ls.length 20)).length) pc0)] Z.k0 hf ?_; clear hf a; intro a hf
  refine hn3 _ _ ?_
  refine Z.seq' (Z.Pq.body _ _ _) fun Q8 hp9 hn10 he11 => ?_
  refine Z.seq' hp9 fun Q12 hp13 hn14 he15 => ?_
  refine Z.reg ?_
  refine Z.call1 hf rfl (Z.r_call cf6 hf (xs := []) rfl) (begun_spec  w  ) ?_; clear hf a
  rintro _ w16 ⟨rfl, hc17⟩
  have hzhc17 := hc17.size
  refine ⟨_, rfl, ?_⟩; intro a hf
  refine Z.qe [.n] [19] [] [(19, .bool false)] Z.k0 hf ?_; clear hf a; intro a hf
  refine hn14 _ _ ?_
  refine Z.condf hf rfl ?_
  refine Z.skip ?_
  refine hn10 _ _ ?_
  refine Z.qseq [.n] [5] [] [(5, .slice none 0 0)] Z.k0 hf ?_; clear hf a; intro a hf
  refine Z.qseq [.n] [6] [] [(6, .slice none 0 0)] Z.k0 hf ?_; clear hf a; intro a hf
  refine Z.seq' (Z.Pq.body _ _ _) fun Q18 hp19 hn20 he21 => ?_
  refine Z.qseq [.n, .n, .n] [20, 21, 22] [] [(20, .slice pA0 ((ls.take (min ls.length 20)).length) pc0), (21, .int .i64 ((ls.take (min ls.length 20)).length : Int)), (22, .int .i64 0)] Z.k0 hf ?_; clear hf a; intro a hf
  refine Z.block' hp19 fun Q22 hp23 hn24 hx25 he26 => ?_
  refine Z.loop' hp23 (fun m a wl => ∃ (k : Nat), ∃ (lA0 : Option Addr), ∃ (lc0 : Nat), ∃ (lA2 : Option Addr), ∃ (lc2 : Nat), m = (ls.take (min ls.length 20)).length - k ∧ Z.Ch [] w16 wl ∧ Z.Own Z.Ty.byte 5 w16.heap.size wl Z.no lA0 lc0 (Codec.frs ((ls.take (min ls.length 20)).take k)) ∧ Z.Own (Z.Ty.int .i64) 3 w16.heap.size wl Z.no lA2 lc2 (Codec.ends (ls.take (min ls.length 20)) k) ∧ (k ≤ (ls.take (min ls.length 20)).length) ∧ (∀ b, b ∈ (ls.take (min ls.length 20)).take k → b.length ≤ 3000) ∧ ((Codec.frs ((ls.take (min ls.length 20)).take k)).length ≤ 3009 * k) ∧ Z.Fr a 81 [] [(0, .slice pA0 ((ls.take (min ls.length 20)).length) pc0), (1, .int .u16 c), (5, .slice lA0 ((Codec.frs ((ls.take (min ls.length 20)).take k)).length) lc0), (6, .slice lA2 ((Codec.ends (ls.take (min ls.length 20)) k).length) lc2), (20, .slice pA0 ((ls.take (min ls.length 20)).length) pc0), (21, .int .i64 ((ls.take (min ls.length 20)).length : Int)), (22, .int .i64 (k : Int))]) ((ls.take (min ls.length 20)).length - 0) ?_ ?_
  · have hxs27 : ([] : List UInt8) = (Codec.frs ((ls.take (min ls.length 20)).take 0) : List UInt8) := by first | rfl | (simp; done) | (rw [Codec.frameB_fr (by omega)]; exact Codec.frs_step LASTX) | (rw [Codec.frameB_fr (by omega), Codec.frs_step LASTX]; exact Codec.ends_snoc _ _)
    have ho28 := hxs27 ▸ (Z.Own.nil Z.Ty.byte 5 w16.heap.size w16 Z.no)
    replace hf := hf.setv (d := 5) (y := .slice none ((Codec.frs ((ls.take (min ls.length 20)).take 0)).length) 0) rfl (by rw [← hxs27] <;> first | done | rfl)
    have hxs29 : ([] : List Int) = (Codec.ends (ls.take (min ls.length 20)) 0 : List Int) := by first | rfl | (simp; done) | (rw [Codec.frameB_fr (by omega)]; exact Codec.frs_step LASTX) | (rw [Codec.frameB_fr (by omega), Codec.frs_step LASTX]; exact Codec.ends_snoc _ _)
    have ho30 := hxs29 ▸ (Z.Own.nil (Z.Ty.int .i64) 3 w16.heap.size w16 Z.no)
    replace hf := hf.setv (d := 6) (y := .slice none ((Codec.ends (ls.take (min ls.length 20)) 0).length) 0) rfl (by rw [← hxs29] <;> first | done | rfl)
    replace hf := hf.setv (d := 22) (y := .int .i64 (0 : Int)) rfl (congrArg (Value.int .i64) (by first | rfl | omega | (simp; done) | (simp; omega)))
    exact ⟨0, none, 0, none, 0, rfl, (Z.Ch.refl w16), ho28, ho30, (by omega), (by simp), (by simp [Codec.frs_nil]), (hf.keep [0, 1, 5, 6, 20, 21, 22])⟩
  · rintro m48 a w31 ⟨k34, A39, c40, A42, c43, hm33, hc32, ho41, ho44, hk45, hb46, hl47, hf⟩ Q35 hp36 hn37 he38
    have hzhc32 := hc32.size
    have hen := Codec.ends_len (ls.take (min ls.length 20)) k34
    refine Z.qseq [.n] [23] [] [(23, .bool (decide ((k34 : Int) < ((ls.take (min ls.length 20)).length : Int))))] Z.k0 hf ?_; clear hf a; intro a hf
    refine Z.seq' hp36 fun Q49 hp50 hn51 he52 => ?_
    refine Z.condp hf rfl ?_ ?_
    · intro hp53
      refine Z.skip ?_
      refine hn51 _ _ ?_
      refine Z.seq' hp36 fun Q54 hp55 hn56 he57 => ?_
      refine Z.block' hp55 fun Q58 hp59 hn60 hx61 he62 => ?_
      refine Z.seq' hp59 fun Q63 hp64 hn65 he66 => ?_
      refine Z.reg ?_
      have hq67 : Z.Ch [] w w31 := hc17.then hc32
      have hr68 := Z.rep_to (F' := (Z.ol [] w.heap.size)) hr6 hq67
      have hkx71 : k34 < (ls.take (min ls.length 20)).length := (by omega)
      obtain ⟨ad69, es70, (x71 : (List UInt8)), hA72, hF73, hl74, hx75, hc76, hr77⟩ := Z.rep_el hr68 hkx71
      have hok78 := Z.rep_ok _ hr77
      obtain ⟨A79, c80, he81, hn82, hn83⟩ := Z.rep_slice hr77
      rw [he81] at hr77
      have hle_A79 := Z.rep_le hr77
      have he84 : es70 = [.slice A79 x71.length c80] := by simp only [he81, List.cons_append, List.nil_append]
      rw [he84] at hc76
      refine Z.val hf rfl (Z.r_indexAddrE Try.underlying46 Try.sizeOf40 (hf.eval rfl) hA72 (hf.eval rfl) (k := k34) (by first | rfl | omega) (by omega)) ?_; clear hf a; intro a hf
      refine Z.qe [.e 0 0, .n] [8] [] [(8, .slice A79 x71.length c80)] (Z.ke hc76 Z.k0) hf ?_; clear hf a; intro a hf
      refine hn65 _ _ ?_
      refine Z.seq' hp59 fun Q85 hp86 hn87 he88 => ?_
      refine Z.qseq [.n, .n, .n] [28] [] [(28, .bool (decide (3000 < (x71.length : Int))))] Z.k0 hf ?_; clear hf a; intro a hf
      refine Z.condp hf rfl ?_ ?_
      · intro hp89
        refine Z.qseq [.n] [4] [] [(4, .bool true)] Z.k0 hf ?_; clear hf a; intro a hf
        refine Z.ret ?_
        refine he88 _ _ _ (by simp) ?_
        refine he62 _ _ _ (by simp) (by simp) ?_
        refine he57 _ _ _ (by simp) ?_
        refine he38 _ _ _ (by simp) ?_
        refine he26 _ _ _ (by simp) (by simp) ?_
        refine he21 _ _ _ (by simp) ?_
        refine Z.ret1 hf Try.results5 rfl ?_
        exact ⟨rfl, hq67⟩
      · intro hp90
        refine Z.skip ?_
        refine hn87 _ _ ?_
        refine Z.seq' hp59 fun Q91 hp92 hn93 he94 => ?_
        refine Z.reg ?_
        refine Z.qr [.n] [30] [] [(30, .slice A79 x71.length c80)] Z.k0 hf ?_; clear hf a; intro a hf
        have hr95 := Z.rep_to (F' := (Z.nt [])) hr77 (Z.Ch.refl w31)
        refine Z.call1 hf rfl (Z.r_call cf12 hf (xs := [.tmp 30]) rfl) (Frame_spec x71 w31 A79 c80 hr95) ?_; clear hf a
        rintro _ w96 ⟨A97, c98, rfl, hr99, hc100⟩
        have hzhc100 := hc100.size
        refine ⟨_, rfl, ?_⟩; intro a hf
        refine Z.qe [.n, .n, .n, .n, .n] [9, 10] [] [(9, .slice A97 ((Codec.frameB x71).length) c98), (10, .int .i64 (Codec.frameE x71))] Z.k0 hf ?_; clear hf a; intro a hf
        refine hn93 _ _ ?_
        refine Z.seq' hp59 fun Q101 hp102 hn103 he104 => ?_
        refine Z.qseq [.n, .n] [35] [] [(35, .bool (decide (Codec.frameE x71 ≠ 0)))] Z.k0 hf ?_; clear hf a; intro a hf
        refine Z.condp hf rfl ?_ ?_
        · intro hp105
          exfalso; exact hp105 (Codec.frameE_ok (by omega))
        · intro hp106
          refine Z.skip ?_
          refine hn103 _ _ ?_
          refine Z.seq' hp59 fun Q107 hp108 hn109 he110 => ?_
          refine Z.reg ?_
          refine Z.qr [.n, .n] [36, 37] [] [(36, .slice A39 ((Codec.frs ((ls.take (min ls.length 20)).take k34)).length) c40), (37, .slice A97 ((Codec.frameB x71).length) c98)] Z.k0 hf ?_; clear hf a; intro a hf
          have ho111 := ho41.ch0 hc100
          refine Z.st_append_flat (t := Z.Ty.byte) hf rfl Try.underlying40 inf5.1 inf5.2.1 inf5.2.2.1 inf5.2.2.2.1 inf5.2.2.2.2 (by decide) (by decide) rfl rfl (by first | rfl | omega) ho111 rfl hr99 (by first | omega | (rw [Codec.frameB_fr (by omega)]; have hfl := Codec.fr_le (x := x71) (by omega); omega) | (simp only [List.length_cons, List.length_nil, Codec.ends_len]; omega))  (by omega) ?_; clear hf a; intro A112 c113 w114 a ho115 hc116 hcas117 hf
          have hzhc116 := hc116.size
          have hob118 : ∀ k, k ∈ Z.obl A112 → w.heap.size ≤ k ∧ k < w31.heap.size ∨ k = w96.heap.size := fun k hk => by rcases hcas117 k hk with h | h; (have := ho41.lt k h; omega); omega
          refine Z.qe [.n] [5] [] [(5, .slice A112 (((Codec.frs ((ls.take (min ls.length 20)).take k34)) ++ (Codec.frameB x71)).length) c113)] Z.k0 hf ?_; clear hf a; intro a hf
          refine hn109 _ _ ?_
          refine Z.reg ?_
          refine Z.qr [.n, .n, .n] [39, 41] [] [(39, .slice A42 ((Codec.ends (ls.take (min ls.length 20)) k34).length) c43), (41, .int .i64 (((Codec.frs ((ls.take (min ls.length 20)).take k34)) ++ (Codec.frameB x71)).length : Int))] Z.k0 hf ?_; clear hf a; intro a hf
          refine Z.st_bslice hf rfl Try.underlying29 Try.sizeOf3 Try.zeroValue3 (parts := [(0, .tmp 41)]) (cs := [.int .i64 (((Codec.frs ((ls.take (min ls.length 20)).take k34)) ++ (Codec.frameB x71)).length : Int)]) rfl rfl rfl (by kernel_rfl) ?_; clear hf a; intro g120 w121 a hg122 hz123 hb124 hc125 hf
          have ho126 : Z.Own (Z.Ty.int .i64) 3 g120 w121 Z.no (some ⟨g120, 0, none⟩) 1 ([(((Codec.frs ((ls.take (min ls.length 20)).take k34)) ++ (Codec.frameB x71)).length : Int)] : List Int) := Z.Own.made (t := (Z.Ty.int .i64)) (xs := ([(((Codec.frs ((ls.take (min ls.length 20)).take k34)) ++ (Codec.frameB x71)).length : Int)] : List Int)) hb124 (Nat.le_refl _) rfl (by simp [maxLen]) (by simp [Value.oneCell']) (fun i x hi => by match i, hi with | 0, hi => (injection hi with hi; subst hi; exact (show (Z.Ty.int .i64).rep w121 (Z.nt []) [.int .i64 (((Codec.frs ((ls.take (min ls.length 20)).take k34)) ++ (Codec.frameB x71)).length : Int)] (((Codec.frs ((ls.take (min ls.length 20)).take k34)) ++ (Codec.frameB x71)).length : Int) from ⟨rfl, (Z.i64_has (by first | omega | (rw [List.length_append, Codec.frameB_fr (by omega)]; have hfl := Codec.fr_le (x := x71) (by omega); omega)))⟩)) | (j + 1), hi => simp at hi)
          have hq127 : Z.Ch ([] ++ Z.obl A39) w31 w114 := hc100.then hc116 (by simp) (by first | (intro k hk; simp [hk]; done) | (intro k hk; simp at hk; simp [hk]; done) | (intro k hk; simp at hk; rcases hk with hk | hk <;> simp [hk]))
          have hq128 : Z.Ch ([] ++ Z.obl A39) w31 w121 := hq127.then hc125 (by first | (intro k hk; simp [hk]; done) | (intro k hk; simp at hk; simp [hk]; done) | (intro k hk; simp at hk; rcases hk with hk | hk <;> simp [hk])) (by simp)
          have ho129 := ho44.to (F' := Z.no) hq128 (by intro k hk h1 h2; have hd0 : ¬ k ∈ Z.obl A39 := (Z.Own.ne ho44 ho41 rfl) k hk; have hob := ho44.lt k hk; simp only [hd0, List.mem_cons, List.mem_append, List.not_mem_nil, or_false, not_or, not_false_eq_true, and_true] <;> omega) (fun _ hb => hb.elim)
          have hr130 := ho126.riv
          refine Z.st_append_flat (t := (Z.Ty.int .i64)) hf rfl Try.underlying29 inf3.1 inf3.2.1 inf3.2.2.1 inf3.2.2.2.1 inf3.2.2.2.2 (by decide) (by decide) rfl rfl (by first | rfl | omega) ho129 rfl hr130 (by first | omega | (rw [Codec.frameB_fr (by omega)]; have hfl := Codec.fr_le (x := x71) (by omega); omega) | (simp only [List.length_cons, List.length_nil, Codec.ends_len]; omega))  (by omega) ?_; clear hf a; intro A131 c132 w133 a ho134 hc135 hcas136 hf
          have hzhc135 := hc135.size
          have hob137 : ∀ k, k ∈ Z.obl A131 → w.heap.size ≤ k ∧ k < w31.heap.size ∨ k = w121.heap.size := fun k hk => by rcases hcas136 k hk with h | h; (have := ho44.lt k h; omega); omega
          refine Z.qe [.n] [6] [] [(6, .slice A131 (((Codec.ends (ls.take (min ls.length 20)) k34) ++ ([(((Codec.frs ((ls.take (min ls.length 20)).take k34)) ++ (Codec.frameB x71)).length : Int)] : List Int)).length) c132)] Z.k0 hf ?_; clear hf a; intro a hf
          refine hn60 _ _ ?_
          refine hn56 _ _ ?_
          refine Z.qreg [.n, .n] [22] [Z.R64 ((k34 : Int) + 1)] [(22, .int .i64 ((k34 : Int) + 1))] Z.k0 hf ?_; clear hf a; intro a hf
          refine hn37 ((ls.take (min ls.length 20)).length - (k34 + 1)) _ _ ?_ ?_
          rotate_left
          have hq139 : Z.Ch ([] ++ Z.obl A42) w114 w133 := hc125.then hc135 (by simp) (by first | (intro k hk; simp [hk]; done) | (intro k hk; simp at hk; simp [hk]; done) | (intro k hk; simp at hk; rcases hk with hk | hk <;> simp [hk]))
          have ho140 := ho115.to (F' := Z.no) hq139 (by intro k hk h1 h2; have hd0 : ¬ k ∈ Z.obl A42 := (fun k hk hm => (hcas117 k hk).elim (fun h => (Z.Own.ne ho41 ho44 rfl) k h hm) (fun h => by have := ho44.lt k hm; omega)) k hk; have hob := hob118 k hk; simp only [hd0, List.mem_cons, List.mem_append, List.not_mem_nil, or_false, not_or, not_false_eq_true, and_true] <;> omega) (fun _ hb => hb.elim)
          have hxs141 : (Codec.frs ((ls.take (min ls.length 20)).take k34)) ++ (Codec.frameB x71) = (Codec.frs ((ls.take (min ls.length 20)).take (k34 + 1 : Nat)) : List UInt8) := by first | rfl | (simp; done) | (rw [Codec.frameB_fr (by omega)]; exact Codec.frs_step hx75) | (rw [Codec.frameB_fr (by omega), Codec.frs_step hx75]; exact Codec.ends_snoc _ _)
          have ho142 := hxs141 ▸ ho140
          replace hf := hf.setv (d := 5) (y := .slice A112 ((Codec.frs ((ls.take (min ls.length 20)).take (k34 + 1 : Nat))).length) c113) rfl (by rw [← hxs141] <;> first | done | rfl)
          have hxs143 : (Codec.ends (ls.take (min ls.length 20)) k34) ++ ([(((Codec.frs ((ls.take (min ls.length 20)).take k34)) ++ (Codec.frameB x71)).length : Int)] : List Int) = (Codec.ends (ls.take (min ls.length 20)) (k34 + 1 : Nat) : List Int) := by first | rfl | (simp; done) | (rw [Codec.frameB_fr (by omega)]; exact Codec.frs_step hx75) | (rw [Codec.frameB_fr (by omega), Codec.frs_step hx75]; exact Codec.ends_snoc _ _)
          have ho144 := hxs143 ▸ ho134
          replace hf := hf.setv (d := 6) (y := .slice A131 ((Codec.ends (ls.take (min ls.length 20)) (k34 + 1 : Nat)).length) c132) rfl (by rw [← hxs143] <;> first | done | rfl)
          replace hf := hf.setv (d := 22) (y := .int .i64 ((k34 + 1 : Nat) : Int)) rfl (congrArg (Value.int .i64) (by first | rfl | omega | (simp; done) | (simp; omega)))
          have hq145 : Z.Ch [] w16 w96 := hc32.then hc100
          have hq146 : Z.Ch ([] ++ Z.obl A39) w16 w114 := hq145.then hc116 (by simp) (by first | (intro k hk; simp [hk]; done) | (intro k hk; simp at hk; simp [hk]; done) | (intro k hk; simp at hk; rcases hk with hk | hk <;> simp [hk]))
          have hq147 : Z.Ch ([] ++ Z.obl A39) w16 w121 := hq146.then hc125 (by first | (intro k hk; simp [hk]; done) | (intro k hk; simp at hk; simp [hk]; done) | (intro k hk; simp at hk; rcases hk with hk | hk <;> simp [hk])) (by simp)
          have hq148 : Z.Ch ([] ++ Z.obl A39 ++ Z.obl A42) w16 w133 := hq147.then hc135 (by first | (intro k hk; simp [hk]; done) | (intro k hk; simp at hk; simp [hk]; done) | (intro k hk; simp at hk; rcases hk with hk | hk <;> simp [hk])) (by first | (intro k hk; simp [hk]; done) | (intro k hk; simp at hk; simp [hk]; done) | (intro k hk; simp at hk; rcases hk with hk | hk <;> simp [hk]))
          exact ⟨k34 + 1, A112, c113, A131, c132, rfl, (hq148.mono (by intro k hk; exact (Classical.em (k ∈ Z.obl A39)).elim (fun hm0 => by have hob := ho41.lt k hm0; (try simp only [List.mem_cons, List.mem_append, List.not_mem_nil, or_false, false_or]) <;> omega) (fun hm0 => by exact (Classical.em (k ∈ Z.obl A42)).elim (fun hm1 => by have hob := ho44.lt k hm1; (try simp only [List.mem_cons, List.mem_append, List.not_mem_nil, or_false, false_or]) <;> omega) (fun hm1 => by (try simp only [hm0, hm1, List.mem_cons, List.mem_append, List.not_mem_nil, or_false, false_or] at hk ⊢) <;> omega)))), ho142, ho144, (by omega), (by exact Codec.all_step hb46 hx75 (by omega)), (by rw [← Codec.frs_step hx75, List.length_append]; have hfl := Codec.fr_le (x := x71) (by omega); omega), (hf.keep [0, 1, 5, 6, 20, 21, 22])⟩
          rw [hm33]; omega
    · intro hp149
      refine Z.exit ?_
      refine he52 _ _ _ (by simp) ?_
      refine he38 _ _ _ (by simp) ?_
      refine hx25 _ _ ?_
      refine hn20 _ _ ?_
      refine Z.qseq [.n, .n, .n, .n, .n, .n, .n] [11] [Z.R64 (c), Z.R64 (((Codec.frs ((ls.take (min ls.length 20)).take k34)).length : Int) + 1), (((Codec.frs ((ls.take (min ls.length 20)).take k34)).length : Int) + 1 : Int) ≠ 0] [(11, .int .i64 ((c).tmod (((Codec.frs ((ls.take (min ls.length 20)).take k34)).length : Int) + 1)))] Z.k0 hf ?_; clear hf a; intro a hf
      refine Z.qseq [.n] [12] [] [(12, .int .i64 0)] Z.k0 hf ?_; clear hf a; intro a hf
      refine Z.seq' (Z.Pq.body _ _ _) fun Q150 hp151 hn152 he153 => ?_
      refine Z.block' hp151 fun Q154 hp155 hn156 hx157 he158 => ?_
      have hen := Codec.ends_len (ls.take (min ls.length 20)) k34
      have hkk0 : 0 ≤ (c).tmod (((Codec.frs ((ls.take (min ls.length 20)).take k34)).length : Int) + 1) := Int.tmod_nonneg _ hc16.1
      have hkk1 : (c).tmod (((Codec.frs ((ls.take (min ls.length 20)).take k34)).length : Int) + 1) < ((Codec.frs ((ls.take (min ls.length 20)).take k34)).length : Int) + 1 := Int.tmod_lt_of_pos _ (by omega)
      refine Z.loop' hp155 (fun m a wl => ∃ (n : Nat), m = (ls.take (min ls.length 20)).length - n ∧ Z.Ch [] w31 wl ∧ (n ≤ (ls.take (min ls.length 20)).length) ∧ (((Codec.frs ((ls.take (min ls.length 20)).take n)).length : Int) ≤ (c).tmod (((Codec.frs ((ls.take (min ls.length 20)).take k34)).length : Int) + 1)) ∧ Z.Fr a 81 [] [(0, .slice pA0 ((ls.take (min ls.length 20)).length) pc0), (5, .slice A39 ((Codec.frs ((ls.take (min ls.length 20)).take k34)).length) c40), (6, .slice A42 ((Codec.ends (ls.take (min ls.length 20)) k34).length) c43), (11, .int .i64 ((c).tmod (((Codec.frs ((ls.take (min ls.length 20)).take k34)).length : Int) + 1))), (12, .int .i64 (n : Int))]) ((ls.take (min ls.length 20)).length - 0) ?_ ?_
      · replace hf := hf.setv (d := 12) (y := .int .i64 (0 : Int)) rfl (congrArg (Value.int .i64) (by first | rfl | omega | (simp; done) | (simp; omega)))
        exact ⟨0, rfl, (Z.Ch.refl w31), (by omega), (by rw [List.take_zero, Codec.frs_nil]; simp; omega), (hf.keep [0, 5, 6, 11, 12])⟩
      · rintro m169 a w159 ⟨n162, hm161, hc160, hn167, hc168, hf⟩ Q163 hp164 hn165 he166
        have hzhc160 := hc160.size
        refine Z.seq' hp164 fun Q170 hp171 hn172 he173 => ?_
        refine Z.seq' hp171 fun Q174 hp175 hn176 he177 => ?_
        refine Z.reg ?_
        refine Z.qr [.n, .n, .n, .n, .n] [55] [] [(55, .bool (decide ((n162 : Int) < ((Codec.ends (ls.take (min ls.length 20)) k34).length : Int))))] Z.k0 hf ?_; clear hf a; intro a hf
        by_cases hdec : (n162 : Int) < ((Codec.ends (ls.take (min ls.length 20)) k34).length : Int) <;> revert hdec
        · intro hp178
          replace hf := hf.setb (d := 55) (b' := true) rfl (decide_eq_true hp178)
          refine Z.qr [(.on .n), (.on .n)] [56, 57] [] [(56, .slice A42 ((Codec.ends (ls.take (min ls.length 20)) k34).length) c43), (57, .int .i64 (n162 : Int))] Z.k0 hf ?_; clear hf a; intro a hf
          refine Z.on hf rfl rfl ?_
          have hr179 := ho44.riv
          have hr180 := Z.rep_to (F' := (Z.iv (w16.heap.size) w31.heap.size)) hr179 hc160
          have hkx183 : n162 < (Codec.ends (ls.take (min ls.length 20)) k34).length := (by omega)
          obtain ⟨ad181, es182, (x183 : Int), hA184, hF185, hl186, hx187, hc188, hr189⟩ := Z.rep_el hr180 hkx183
          have hok190 := Z.rep_ok _ hr189
          have he191 := hr189.1
          have he192 : es182 = [.int .i64 x183] := by simp only [he191, List.cons_append, List.nil_append]
          rw [he192] at hc188
          refine Z.val hf rfl (Z.r_indexAddrE Try.underlying29 Try.sizeOf3 (hf.eval rfl) hA184 (hf.eval rfl) (k := n162) (by first | rfl | omega) (by omega)) ?_; clear hf a; intro a hf
          refine Z.qe [(.on (.e 0 0)), (.on .n), (.on .n), .n] [62] [] [(62, .bool (decide (x183 ≤ (c).tmod (((Codec.frs ((ls.take (min ls.length 20)).take k34)).length : Int) + 1))))] (Z.ke hc188 Z.k0) hf ?_; clear hf a; intro a hf
          refine hn176 _ _ ?_
          refine Z.condp hf rfl ?_ ?_
          · intro hp193
            refine Z.skip ?_
            refine hn172 _ _ ?_
            refine Z.block' hp164 fun Q194 hp195 hn196 hx197 he198 => ?_
            refine Z.qreg [.n, .n, .n] [12] [Z.R64 ((n162 : Int) + 1)] [(12, .int .i64 ((n162 : Int) + 1))] Z.k0 hf ?_; clear hf a; intro a hf
            refine hn196 _ _ ?_
            refine hn165 ((ls.take (min ls.length 20)).length - (n162 + 1)) _ _ ?_ ?_
            rotate_left
            replace hf := hf.setv (d := 12) (y := .int .i64 ((n162 + 1 : Nat) : Int)) rfl (congrArg (Value.int .i64) (by first | rfl | omega | (simp; done) | (simp; omega)))
            exact ⟨n162 + 1, rfl, hc160, (by omega), (by have hg := Codec.ends_get hx187; omega), (hf.keep [0, 5, 6, 11, 12])⟩
            rw [hm161]; omega
          · intro hp199
            refine Z.exit ?_
            refine he173 _ _ _ (by simp) ?_
            refine he166 _ _ _ (by simp) ?_
            refine hx157 _ _ ?_
            refine hn152 _ _ ?_
            refine Z.seq' (Z.Pq.body _ _ _) fun Q200 hp201 hn202 he203 => ?_
            refine Z.dr_reg (S := fun w' => Z.Ch [] w159 w') mixed ?_; intro w204 hc205 hz206
            refine Z.dqr [true, false, false, true, false, false, false, false, false, false, false, false, false, false, false, false, false] 15 [(0, .n), (3, .n)] [65, 68] [] [(65, .slice A39 ((Codec.frs ((ls.take (min ls.length 20)).take k34)).length) c40), (68, .slice pA0 ((ls.take (min ls.length 20)).length) pc0)] hp201 hc205 (fun w hw => Z.k0) hf ?_; clear hf a; intro a hf
            refine Z.dr_one 1 rfl (by kernel_rfl) ?_
            have hr207 := ho41.riv
            have hq208 : Z.Ch [] w31 w204 := hc160.then hc205
            have hr209 := Z.rep_to (F' := (Z.nt [])) hr207 hq208
            refine Z.call1 hf rfl (Z.r_call cf17 hf (xs := [.tmp 65]) rfl) (FramesF_spec (Codec.frs ((ls.take (min ls.length 20)).take k34)) w204 A39 c40 hr209 (by omega)) ?_; clear hf a
            rintro _ w210 ⟨g211, A212, c213, rfl, hr214, hg215, hb216, hc217⟩
            have hzhc217 := hc217.size
            refine ⟨_, rfl, ?_⟩; intro a hf
            refine Z.done ?_
            have hq218 : Z.Ch [] w159 w210 := hc205.then hc217
            refine And.intro hq218 ?_
            refine Z.dr_one 2 rfl (by kernel_rfl) ?_
            refine Z.call1 hf rfl (Z.r_call cf16 hf (xs := [.tmp 66, .const (.int .i64 99)]) rfl) (told_spec (Codec.frames (Codec.frs ((ls.take (min ls.length 20)).take k34))) g211 99 w210 A212 c213 hr214 hb216 (by omega) (by exact Nat.le_trans (Codec.frames_len _) (by first | omega | (rw [List.length_take]; omega))) (by exact Codec.frames_el _)) ?_; clear hf a
            rintro _ w219 ⟨A220, c221, rfl, ho222, hc224⟩
            have hzhc224 := hc224.size
            refine ⟨_, rfl, ?_⟩; intro a hf
            refine Z.done ?_
            have hq225 : Z.Ch [] w159 w219 := hq218.then hc224
            refine And.intro hq225 ?_
            refine Z.dr_one 4 rfl (by kernel_rfl) ?_
            have hr226 := (ho222.rep' (F' := Z.nt []) (fun _ _ => by simp [Z.nt]) (fun _ _ _ => by simp [Z.nt]))
            have hq227 : Z.Ch [] w w31 := hc17.then hc32
            have hq228 : Z.Ch [] w w159 := hq227.then hc160
            have hq229 : Z.Ch [] w w204 := hq228.then hc205
            have hq230 : Z.Ch [] w w210 := hq229.then hc217
            have hq231 : Z.Ch [] w w219 := hq230.then hc224
            have hr232 := Z.rep_to (F' := (Z.nt [])) hr6 hq231
            refine Z.call1 hf rfl (Z.r_call cf15 hf (xs := [.tmp 67, .tmp 68]) rfl) (same_spec ((Codec.frames (Codec.frs ((ls.take (min ls.length 20)).take k34))).take (Int.toNat 99)) (ls.take (min ls.length 20)) w219 A220 c221 pA0 pc0 hr226 hr232) ?_; clear hf a
            rintro _ w233 ⟨rfl, hc234⟩
            have hzhc234 := hc234.size
            refine ⟨_, rfl, ?_⟩; intro a hf
            refine Z.done ?_
            have hq235 : Z.Ch [] w159 w233 := hq225.then hc234
            refine And.intro hq235 ?_
            refine Z.dqr [true, true, true, true, true, true, false, false, false, false, false, false, false, false, false, false, false] 11 [(5, .n)] [70] [] [(70, .bool (decide (((Codec.frames (Codec.frs ((ls.take (min ls.length 20)).take k34))).take (Int.toNat 99)) = (ls.take (min ls.length 20)))))] hp201 hq235 (fun w hw => Z.k0) hf ?_; clear hf a; intro a hf
            by_cases hdec : ((Codec.frames (Codec.frs ((ls.take (min ls.length 20)).take k34))).take (Int.toNat 99)) = (ls.take (min ls.length 20)) <;> revert hdec
            · intro hp236
              replace hf := hf.setb (d := 70) (b' := true) rfl (decide_eq_true hp236)
              refine Z.dqr [true, true, true, true, true, true, true, true, false, false, false, true, true, false, false, false, false] 7 [(6, (.on .n)), (7, (.on .n)), (11, (.on .n)), (12, (.on .n))] [71, 72, 76, 77] [] [(71, .slice A39 ((Codec.frs ((ls.take (min ls.length 20)).take k34)).length) c40), (72, .int .i64 ((c).tmod (((Codec.frs ((ls.take (min ls.length 20)).take k34)).length : Int) + 1))), (76, .slice pA0 ((ls.take (min ls.length 20)).length) pc0), (77, .int .i64 (n162 : Int))] hp201 hq235 (fun w hw => Z.k0) hf ?_; clear hf a; intro a hf
              have hr237 := ho41.riv
              have hr238 := Z.rep_to (F' := (Z.iv (w16.heap.size) w31.heap.size)) hr237 hc160
              have hl239 := Z.rep_slice_len hr238
              have hr240 := Z.rep_cuth hr238 ((c).tmod (((Codec.frs ((ls.take (min ls.length 20)).take k34)).length : Int) + 1)).toNat (by omega)
              have hn241 : ((Codec.frs ((ls.take (min ls.length 20)).take k34)).take ((c).tmod (((Codec.frs ((ls.take (min ls.length 20)).take k34)).length : Int) + 1)).toNat).length = ((c).tmod (((Codec.frs ((ls.take (min ls.length 20)).take k34)).length : Int) + 1)).toNat := by first | rfl | omega | (simp only [List.length_take, List.length_drop]; done) | (simp only [List.length_take, List.length_drop]; omega)
              refine Z.dr_val 8 hf rfl rfl (by kernel_rfl) (by kernel_rfl) hp201 hq235 (Z.wanted_on hf rfl rfl) (fun _ hw => Z.r_slice_h (u := ((c).tmod (((Codec.frs ((ls.take (min ls.length 20)).take k34)).length : Int) + 1)).toNat) Try.underlying40 Try.sizeOf5 (hf.eval rfl) (hf.eval rfl) (by omega) (by omega)) ?_; clear hf a; intro a hf
              replace hf := hf.setv (d := 73) (y := .slice A39 (((Codec.frs ((ls.take (min ls.length 20)).take k34)).take ((c).tmod (((Codec.frs ((ls.take (min ls.length 20)).take k34)).length : Int) + 1)).toNat).length) c40) rfl (Z.slice_n (by first | rfl | omega | (simp only [List.length_take, List.length_drop]; done) | (simp only [List.length_take, List.length_drop]; omega) | (simp; omega)))
              have hr242 := Z.rep_to (F' := (Z.ol [] w.heap.size)) hr6 hq228
              have hl243 := Z.rep_slice_len hr242
              have hr244 := Z.rep_cuth hr242 n162 (by omega)
              have hn245 : ((ls.take (min ls.length 20)).take n162).length = n162 := by first | rfl | omega | (simp only [List.length_take, List.length_drop]; done) | (simp only [List.length_take, List.length_drop]; omega)
              refine Z.dr_val 13 hf rfl rfl (by kernel_rfl) (by kernel_rfl) hp201 hq235 (Z.wanted_on hf rfl rfl) (fun _ hw => Z.r_slice_h (u := n162) Try.underlying46 Try.sizeOf40 (hf.eval rfl) (hf.eval rfl) (by omega) (by omega)) ?_; clear hf a; intro a hf
              replace hf := hf.setv (d := 78) (y := .slice pA0 (((ls.take (min ls.length 20)).take n162).length) pc0) rfl (Z.slice_n (by first | rfl | omega | (simp only [List.length_take, List.length_drop]; done) | (simp only [List.length_take, List.length_drop]; omega) | (simp; omega)))
              refine Z.dr_one 9 rfl (by kernel_rfl) ?_
              refine Z.on hf rfl rfl ?_
              have hr246 := Z.rep_to (F' := (Z.nt [])) hr240 hq235
              refine Z.call1 hf rfl (Z.r_call cf17 hf (xs := [.tmp 73]) rfl) (FramesF_spec ((Codec.frs ((ls.take (min ls.length 20)).take k34)).take ((c).tmod (((Codec.frs ((ls.take (min ls.length 20)).take k34)).length : Int) + 1)).toNat) w233 A39 c40 hr246 (by omega)) ?_; clear hf a
              rintro _ w247 ⟨g248, A249, c250, rfl, hr251, hg252, hb253, hc254⟩
              have hzhc254 := hc254.size
              refine ⟨_, rfl, ?_⟩; intro a hf
              refine Z.done ?_
              have hq255 : Z.Ch [] w159 w247 := hq235.then hc254
              refine And.intro hq255 ?_
              refine Z.dr_one 10 rfl (by kernel_rfl) ?_
              refine Z.on hf rfl rfl ?_
              refine Z.call1 hf rfl (Z.r_call cf16 hf (xs := [.tmp 74, .const (.int .i64 99)]) rfl) (told_spec (Codec.frames ((Codec.frs ((ls.take (min ls.length 20)).take k34)).take ((c).tmod (((Codec.frs ((ls.take (min ls.length 20)).take k34)).length : Int) + 1)).toNat)) g248 99 w247 A249 c250 hr251 hb253 (by omega) (by exact Nat.le_trans (Codec.frames_len _) (by first | omega | (rw [List.length_take]; omega))) (by exact Codec.frames_el _)) ?_; clear hf a
              rintro _ w256 ⟨A257, c258, rfl, ho259, hc261⟩
              have hzhc261 := hc261.size
              refine ⟨_, rfl, ?_⟩; intro a hf
              refine Z.done ?_
              have hq262 : Z.Ch [] w159 w256 := hq255.then hc261
              refine And.intro hq262 ?_
              refine Z.dr_one 14 rfl (by kernel_rfl) ?_
              refine Z.on hf rfl rfl ?_
              have hr263 := (ho259.rep' (F' := Z.nt []) (fun _ _ => by simp [Z.nt]) (fun _ _ _ => by simp [Z.nt]))
              have hr264 := Z.rep_to (F' := (Z.nt [])) hr244 hq262
              refine Z.call1 hf rfl (Z.r_call cf15 hf (xs := [.tmp 75, .tmp 78]) rfl) (same_spec ((Codec.frames ((Codec.frs ((ls.take (min ls.length 20)).take k34)).take ((c).tmod (((Codec.frs ((ls.take (min ls.length 20)).take k34)).length : Int) + 1)).toNat)).take (Int.toNat 99)) ((ls.take (min ls.length 20)).take n162) w256 A257 c258 pA0 pc0 hr263 hr264) ?_; clear hf a
              rintro _ w265 ⟨rfl, hc266⟩
              have hzhc266 := hc266.size
              refine ⟨_, rfl, ?_⟩; intro a hf
              refine Z.done ?_
              have hq267 : Z.Ch [] w159 w265 := hq262.then hc266
              refine And.intro hq267 ?_
              refine Z.dqr [true, true, true, true, true, true, true, true, true, true, true, true, true, true, true, true, true] 0 [(15, .n), (16, .n)] [4] [] [(4, .bool (decide (((Codec.frames ((Codec.frs ((ls.take (min ls.length 20)).take k34)).take ((c).tmod (((Codec.frs ((ls.take (min ls.length 20)).take k34)).length : Int) + 1)).toNat)).take (Int.toNat 99)) = ((ls.take (min ls.length 20)).take n162))))] hp201 hq267 (fun w hw => Z.k0) hf ?_; clear hf a; intro a hf
              refine Z.dr_done (by kernel_rfl) ?_
              refine hn202 _ _ ?_
              refine Z.ret ?_
              replace hf := hf.setv (d := 4) (y := .bool true) rfl (congrArg Value.bool (by first | rfl | (apply decide_eq_true; exact Codec.whole_cut (by omega) hb46 (by omega) (by omega) (by omega) (fun h => by first | omega | (have hg := Codec.ends_get hx187; omega)))))
              have hq268 : Z.Ch [] w w233 := hq231.then hc234
              have hq269 : Z.Ch [] w w247 := hq268.then hc254
              have hq270 : Z.Ch [] w w256 := hq269.then hc261
              have hq271 : Z.Ch [] w w265 := hq270.then hc266
              refine Z.ret1 hf Try.results5 rfl ?_
              exact ⟨rfl, hq271⟩
            · intro hp272
              exfalso; exact hp272 (Codec.whole_all (by omega) hb46 hL20)
        · intro hp273
          replace hf := hf.setb (d := 55) (b' := false) rfl (decide_eq_false hp273)
          refine Z.qe [.off, .off, .off, .off, .off, .off, .n] [62] [] [(62, .bool false)] Z.k0 hf ?_; clear hf a; intro a hf
          refine hn176 _ _ ?_
          refine Z.condf hf rfl ?_
          refine Z.exit ?_
          refine he173 _ _ _ (by simp) ?_
          refine he166 _ _ _ (by simp) ?_
          refine hx157 _ _ ?_
          refine hn152 _ _ ?_
          refine Z.seq' (Z.Pq.body _ _ _) fun Q274 hp275 hn276 he277 => ?_
          refine Z.dr_reg (S := fun w' => Z.Ch [] w159 w') mixed ?_; intro w278 hc279 hz280
          refine Z.dqr [true, false, false, true, false, false, false, false, false, false, false, false, false, false, false, false, false] 15 [(0, .n), (3, .n)] [65, 68] [] [(65, .slice A39 ((Codec.frs ((ls.take (min ls.length 20)).take k34)).length) c40), (68, .slice pA0 ((ls.take (min ls.length 20)).length) pc0)] hp275 hc279 (fun w hw => Z.k0) hf ?_; clear hf a; intro a hf
          refine Z.dr_one 1 rfl (by kernel_rfl) ?_
          have hr281 := ho41.riv
          have hq282 : Z.Ch [] w31 w278 := hc160.then hc279
          have hr283 := Z.rep_to (F' := (Z.nt [])) hr281 hq282
          refine Z.call1 hf rfl (Z.r_call cf17 hf (xs := [.tmp 65]) rfl) (FramesF_spec (Codec.frs ((ls.take (min ls.length 20)).take k34)) w278 A39 c40 hr283 (by omega)) ?_; clear hf a
          rintro _ w284 ⟨g285, A286, c287, rfl, hr288, hg289, hb290, hc291⟩
          have hzhc291 := hc291.size
          refine ⟨_, rfl, ?_⟩; intro a hf
          refine Z.done ?_
          have hq292 : Z.Ch [] w159 w284 := hc279.then hc291
          refine And.intro hq292 ?_
          refine Z.dr_one 2 rfl (by kernel_rfl) ?_
          refine Z.call1 hf rfl (Z.r_call cf16 hf (xs := [.tmp 66, .const (.int .i64 99)]) rfl) (told_spec (Codec.frames (Codec.frs ((ls.take (min ls.length 20)).take k34))) g285 99 w284 A286 c287 hr288 hb290 (by omega) (by exact Nat.le_trans (Codec.frames_len _) (by first | omega | (rw [List.length_take]; omega))) (by exact Codec.frames_el _)) ?_; clear hf a
          rintro _ w293 ⟨A294, c295, rfl, ho296, hc298⟩
          have hzhc298 := hc298.size
          refine ⟨_, rfl, ?_⟩; intro a hf
          refine Z.done ?_
          have hq299 : Z.Ch [] w159 w293 := hq292.then hc298
          refine And.intro hq299 ?_
          refine Z.dr_one 4 rfl (by kernel_rfl) ?_
          have hr300 := (ho296.rep' (F' := Z.nt []) (fun _ _ => by simp [Z.nt]) (fun _ _ _ => by simp [Z.nt]))
          have hq301 : Z.Ch [] w w31 := hc17.then hc32
          have hq302 : Z.Ch [] w w159 := hq301.then hc160
          have hq303 : Z.Ch [] w w278 := hq302.then hc279
          have hq304 : Z.Ch [] w w284 := hq303.then hc291
          have hq305 : Z.Ch [] w w293 := hq304.then hc298
          have hr306 := Z.rep_to (F' := (Z.nt [])) hr6 hq305
          refine Z.call1 hf rfl (Z.r_call cf15 hf (xs := [.tmp 67, .tmp 68]) rfl) (same_spec ((Codec.frames (Codec.frs ((ls.take (min ls.length 20)).take k34))).take (Int.toNat 99)) (ls.take (min ls.length 20)) w293 A294 c295 pA0 pc0 hr300 hr306) ?_; clear hf a
          rintro _ w307 ⟨rfl, hc308⟩
          have hzhc308 := hc308.size
          refine ⟨_, rfl, ?_⟩; intro a hf
          refine Z.done ?_
          have hq309 : Z.Ch [] w159 w307 := hq299.then hc308
          refine And.intro hq309 ?_
          refine Z.dqr [true, true, true, true, true, true, false, false, false, false, false, false, false, false, false, false, false] 11 [(5, .n)] [70] [] [(70, .bool (decide (((Codec.frames (Codec.frs ((ls.take (min ls.length 20)).take k34))).take (Int.toNat 99)) = (ls.take (min ls.length 20)))))] hp275 hq309 (fun w hw => Z.k0) hf ?_; clear hf a; intro a hf
          by_cases hdec : ((Codec.frames (Codec.frs ((ls.take (min ls.length 20)).take k34))).take (Int.toNat 99)) = (ls.take (min ls.length 20)) <;> revert hdec
          · intro hp310
            replace hf := hf.setb (d := 70) (b' := true) rfl (decide_eq_true hp310)
            refine Z.dqr [true, true, true, true, true, true, true, true, false, false, false, true, true, false, false, false, false] 7 [(6, (.on .n)), (7, (.on .n)), (11, (.on .n)), (12, (.on .n))] [71, 72, 76, 77] [] [(71, .slice A39 ((Codec.frs ((ls.take (min ls.length 20)).take k34)).length) c40), (72, .int .i64 ((c).tmod (((Codec.frs ((ls.take (min ls.length 20)).take k34)).length : Int) + 1))), (76, .slice pA0 ((ls.take (min ls.length 20)).length) pc0), (77, .int .i64 (n162 : Int))] hp275 hq309 (fun w hw => Z.k0) hf ?_; clear hf a; intro a hf
            have hr311 := ho41.riv
            have hr312 := Z.rep_to (F' := (Z.iv (w16.heap.size) w31.heap.size)) hr311 hc160
            have hl313 := Z.rep_slice_len hr312
            have hr314 := Z.rep_cuth hr312 ((c).tmod (((Codec.frs ((ls.take (min ls.length 20)).take k34)).length : Int) + 1)).toNat (by omega)
            have hn315 : ((Codec.frs ((ls.take (min ls.length 20)).take k34)).take ((c).tmod (((Codec.frs ((ls.take (min ls.length 20)).take k34)).length : Int) + 1)).toNat).length = ((c).tmod (((Codec.frs ((ls.take (min ls.length 20)).take k34)).length : Int) + 1)).toNat := by first | rfl | omega | (simp only [List.length_take, List.length_drop]; done) | (simp only [List.length_take, List.length_drop]; omega)
            refine Z.dr_val 8 hf rfl rfl (by kernel_rfl) (by kernel_rfl) hp275 hq309 (Z.wanted_on hf rfl rfl) (fun _ hw => Z.r_slice_h (u := ((c).tmod (((Codec.frs ((ls.take (min ls.length 20)).take k34)).length : Int) + 1)).toNat) Try.underlying40 Try.sizeOf5 (hf.eval rfl) (hf.eval rfl) (by omega) (by omega)) ?_; clear hf a; intro a hf
            replace hf := hf.setv (d := 73) (y := .slice A39 (((Codec.frs ((ls.take (min ls.length 20)).take k34)).take ((c).tmod (((Codec.frs ((ls.take (min ls.length 20)).take k34)).length : Int) + 1)).toNat).length) c40) rfl (Z.slice_n (by first | rfl | omega | (simp only [List.length_take, List.length_drop]; done) | (simp only [List.length_take, List.length_drop]; omega) | (simp; omega)))
            have hr316 := Z.rep_to (F' := (Z.ol [] w.heap.size)) hr6 hq302
            have hl317 := Z.rep_slice_len hr316
            have hr318 := Z.rep_cuth hr316 n162 (by omega)
            have hn319 : ((ls.take (min ls.length 20)).take n162).length = n162 := by first | rfl | omega | (simp only [List.length_take, List.length_drop]; done) | (simp only [List.length_take, List.length_drop]; omega)
            refine Z.dr_val 13 hf rfl rfl (by kernel_rfl) (by kernel_rfl) hp275 hq309 (Z.wanted_on hf rfl rfl) (fun _ hw => Z.r_slice_h (u := n162) Try.underlying46 Try.sizeOf40 (hf.eval rfl) (hf.eval rfl) (by omega) (by omega)) ?_; clear hf a; intro a hf
            replace hf := hf.setv (d := 78) (y := .slice pA0 (((ls.take (min ls.length 20)).take n162).length) pc0) rfl (Z.slice_n (by first | rfl | omega | (simp only [List.length_take, List.length_drop]; done) | (simp only [List.length_take, List.length_drop]; omega) | (simp; omega)))
            refine Z.dr_one 9 rfl (by kernel_rfl) ?_
            refine Z.on hf rfl rfl ?_
            have hr320 := Z.rep_to (F' := (Z.nt [])) hr314 hq309
            refine Z.call1 hf rfl (Z.r_call cf17 hf (xs := [.tmp 73]) rfl) (FramesF_spec ((Codec.frs ((ls.take (min ls.length 20)).take k34)).take ((c).tmod (((Codec.frs ((ls.take (min ls.length 20)).take k34)).length : Int) + 1)).toNat) w307 A39 c40 hr320 (by omega)) ?_; clear hf a
            rintro _ w321 ⟨g322, A323, c324, rfl, hr325, hg326, hb327, hc328⟩
            have hzhc328 := hc328.size
            refine ⟨_, rfl, ?_⟩; intro a hf
            refine Z.done ?_
            have hq329 : Z.Ch [] w159 w321 := hq309.then hc328
            refine And.intro hq329 ?_
            refine Z.dr_one 10 rfl (by kernel_rfl) ?_
            refine Z.on hf rfl rfl ?_
            refine Z.call1 hf rfl (Z.r_call cf16 hf (xs := [.tmp 74, .const (.int .i64 99)]) rfl) (told_spec (Codec.frames ((Codec.frs ((ls.take (min ls.length 20)).take k34)).take ((c).tmod (((Codec.frs ((ls.take (min ls.length 20)).take k34)).length : Int) + 1)).toNat)) g322 99 w321 A323 c324 hr325 hb327 (by omega) (by exact Nat.le_trans (Codec.frames_len _) (by first | omega | (rw [List.length_take]; omega))) (by exact Codec.frames_el _)) ?_; clear hf a
            rintro _ w330 ⟨A331, c332, rfl, ho333, hc335⟩
            have hzhc335 := hc335.size
            refine ⟨_, rfl, ?_⟩; intro a hf
            refine Z.done ?_
            have hq336 : Z.Ch [] w159 w330 := hq329.then hc335
            refine And.intro hq336 ?_
            refine Z.dr_one 14 rfl (by kernel_rfl) ?_
            refine Z.on hf rfl rfl ?_
            have hr337 := (ho333.rep' (F' := Z.nt []) (fun _ _ => by simp [Z.nt]) (fun _ _ _ => by simp [Z.nt]))
            have hr338 := Z.rep_to (F' := (Z.nt [])) hr318 hq336
            refine Z.call1 hf rfl (Z.r_call cf15 hf (xs := [.tmp 75, .tmp 78]) rfl) (same_spec ((Codec.frames ((Codec.frs ((ls.take (min ls.length 20)).take k34)).take ((c).tmod (((Codec.frs ((ls.take (min ls.length 20)).take k34)).length : Int) + 1)).toNat)).take (Int.toNat 99)) ((ls.take (min ls.length 20)).take n162) w330 A331 c332 pA0 pc0 hr337 hr338) ?_; clear hf a
            rintro _ w339 ⟨rfl, hc340⟩
            have hzhc340 := hc340.size
            refine ⟨_, rfl, ?_⟩; intro a hf
            refine Z.done ?_
            have hq341 : Z.Ch [] w159 w339 := hq336.then hc340
            refine And.intro hq341 ?_
            refine Z.dqr [true, true, true, true, true, true, true, true, true, true, true, true, true, true, true, true, true] 0 [(15, .n), (16, .n)] [4] [] [(4, .bool (decide (((Codec.frames ((Codec.frs ((ls.take (min ls.length 20)).take k34)).take ((c).tmod (((Codec.frs ((ls.take (min ls.length 20)).take k34)).length : Int) + 1)).toNat)).take (Int.toNat 99)) = ((ls.take (min ls.length 20)).take n162))))] hp275 hq341 (fun w hw => Z.k0) hf ?_; clear hf a; intro a hf
            refine Z.dr_done (by kernel_rfl) ?_
            refine hn276 _ _ ?_
            refine Z.ret ?_
            replace hf := hf.setv (d := 4) (y := .bool true) rfl (congrArg Value.bool (by first | rfl | (apply decide_eq_true; exact Codec.whole_cut (by omega) hb46 (by omega) (by omega) (by omega) (fun h => by first | omega | (have hg := Codec.ends_get hx187; omega)))))
            have hq342 : Z.Ch [] w w307 := hq305.then hc308
            have hq343 : Z.Ch [] w w321 := hq342.then hc328
            have hq344 : Z.Ch [] w w330 := hq343.then hc335
            have hq345 : Z.Ch [] w w339 := hq344.then hc340
            refine Z.ret1 hf Try.results5 rfl ?_
            exact ⟨rfl, hq345⟩
          · intro hp346
            exfalso; exact hp346 (Codec.whole_all (by omega) hb46 hL20)

end Go.Proofs.Ytlhpkogdcgebeaa
