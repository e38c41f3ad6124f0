/- Walks: messages written whole. -/
import Derived.Test.YtlhpkogdcgebeaaW2
import Derived.Test.YtlhpkogdcgebeaaZh
set_option linter.unusedVariables false
set_option linter.unusedSimpArgs false
set_option synthInstance.maxSize 4000
set_option synthInstance.maxHeartbeats 400000
namespace Go.Proofs.Ytlhpkogdcgebeaa
open Go.RowKit
set_option maxHeartbeats 400000 in
set_option maxRecDepth 20000 in
theorem caught_ret (g : Nat) (w : World)    :
    CallsD Try.prog 36 #[.pointer (some ⟨g, 0, none⟩)] .returning w fun e u2 w' => u2 = .returning ∧ (e = .returned (.tuple #[]) ∧ Z.Ch [] w w') := by
  refine Z.enterRec (R := fun e w' => e = .returned (.tuple #[]) ∧ Z.Ch [] w w') (Or.inl ⟨rfl, rfl, rfl⟩) Try.func36 rfl Try.ntmps36 (Nat.le_of_ble_eq_true rfl) rfl fun a hf => ?_
  refine Z.block' (Z.Pq.body _ _ _) fun Q1 hp2 hn3 hx4 he5 => ?_
  refine Z.seq' hp2 fun Q6 hp7 hn8 he9 => ?_
  refine Z.reg ?_
  refine Z.val hf rfl (Z.r_eqif_nil Try.underlying20 (hf.eval rfl)) ?_; clear hf a; intro a hf
  refine Z.done ?_
  refine hn8 _ _ ?_
  refine Z.condt hf rfl ?_
  refine Z.qreg [.n] [] [] [] Z.k0 hf ?_; clear hf a; intro a hf
  refine hn3 _ _ ?_
  refine Z.end0 hf Try.results36 ?_
  exact ⟨rfl, (Z.Ch.refl w)⟩

set_option maxHeartbeats 400000 in
set_option maxRecDepth 20000 in
theorem written_msg (x : D36) (w : World) (pA0 : Option Addr) (pc0 : Nat) (pA1 : Option Addr) (pc1 : Nat) (pA2 : Option Addr) (pc2 : Nat) (pA3 : Option Addr) (pc3 : Nat) (pA4 : Option Addr) (pc4 : Nat) (pA5 : Option Addr) (pc5 : Nat) (ph0 : (Z.Ty.slice T59).rep w (Z.nt []) [.slice pA0 x.2.2.2.2.1.length pc0] x.2.2.2.2.1) (ph1 : (Z.Ty.slice T70).rep w (Z.nt []) [.slice pA1 x.2.2.2.2.2.1.length pc1] x.2.2.2.2.2.1) (ph2 : (Z.Ty.slice (Z.Ty.int .i64)).rep w (Z.nt []) [.slice pA2 x.2.2.2.2.2.2.1.1.length pc2] x.2.2.2.2.2.2.1.1) (ph3 : (Z.Ty.slice T85).rep w (Z.nt []) [.slice pA3 x.2.2.2.2.2.2.1.2.1.length pc3] x.2.2.2.2.2.2.1.2.1) (ph4 : (Z.Ty.slice T63).rep w (Z.nt []) [.slice pA4 x.2.2.2.2.2.2.1.2.2.length pc4] x.2.2.2.2.2.2.1.2.2) (ph5 : (Z.Ty.slice T57).rep w (Z.nt []) [.slice pA5 x.2.2.2.2.2.2.2.2.1.length pc5] x.2.2.2.2.2.2.2.2.1) (pk6 : Z.Ty.ok T36 x) (hb : (Codec.encMsg x).length ≤ 70368744177664) (hg : Codec.gMsg x) :
    Calls Try.prog 20 #[.func (.func 21) #[] #[], .agg #[.int .i64 x.1, .int .i64 x.2.1, .int .i64 x.2.2.1.1, .int .i64 x.2.2.1.2, .int .i64 x.2.2.2.1.1, .int .i64 x.2.2.2.1.2.1, .int .i64 x.2.2.2.1.2.2.1, .int .i64 x.2.2.2.1.2.2.2.1, .int .i64 x.2.2.2.1.2.2.2.2.1, .int .i64 x.2.2.2.1.2.2.2.2.2, .slice pA0 x.2.2.2.2.1.length pc0, .slice pA1 x.2.2.2.2.2.1.length pc1, .slice pA2 x.2.2.2.2.2.2.1.1.length pc2, .slice pA3 x.2.2.2.2.2.2.1.2.1.length pc3, .slice pA4 x.2.2.2.2.2.2.1.2.2.length pc4, .int .i64 x.2.2.2.2.2.2.2.1, .slice pA5 x.2.2.2.2.2.2.2.2.1.length pc5, .bool x.2.2.2.2.2.2.2.2.2.1, .int .i64 x.2.2.2.2.2.2.2.2.2.2]] w fun e w' => ∃ (rA0 : Option Addr) (rc0 : Nat), e = .returned (.tuple #[.slice rA0 (Codec.encMsg x).length rc0, .int .i64 0]) ∧ (Z.Ty.slice Z.Ty.byte).rep w' (Z.iv w.heap.size w'.heap.size) [.slice rA0 (Codec.encMsg x).length rc0] (Codec.encMsg x) ∧ Z.Ch [] w w' := by
  refine Z.enterDf Try.func20 rfl Try.ntmps20 (Nat.le_of_ble_eq_true rfl) fun a hf => ?_
  have hle_pA0 := Z.rep_le ph0
  have ph0o := Z.rep_ol ph0
  have hle_pA1 := Z.rep_le ph1
  have ph1o := Z.rep_ol ph1
  have hle_pA2 := Z.rep_le ph2
  have ph2o := Z.rep_ol ph2
  have hle_pA3 := Z.rep_le ph3
  have ph3o := Z.rep_ol ph3
  have hle_pA4 := Z.rep_le ph4
  have ph4o := Z.rep_ol ph4
  have hle_pA5 := Z.rep_le ph5
  have ph5o := Z.rep_ol ph5
  refine Z.seqn fun Q1 hn3 he4 => ?_
  refine Z.reg ?_
  refine Z.st_box hf rfl rfl rfl ?_; clear hf a; intro g5 w6 a hg7 hz8 hb9 hc10 hf
  refine Z.qr [.n] [] [] [] Z.k0 hf ?_; clear hf a; intro a hf
  refine Z.st_alloc hf rfl Try.zeroValue35 rfl ?_; clear hf a; intro g11 w12 a hg13 hz14 hb15 hc16 hf
  refine Z.done ?_
  refine hn3 _ _ ?_
  refine Z.seqn fun Q17 hn19 he20 => ?_
  refine Z.reg ?_
  refine Z.defer hf (Z.r_defer hf (xs := [.tmp 5]) rfl) ?_; clear hf a; intro a hf
  refine Z.done ?_
  refine hn19 _ _ ?_
  refine Z.seqn fun Q21 hn23 he24 => ?_
  refine Z.reg ?_
  refine Z.qr [.n] [7] [] [(7, .agg #[.slice none 0 0])] Z.k0 hf ?_; clear hf a; intro a hf
  refine Z.st_box hf rfl rfl rfl ?_; clear hf a; intro g25 w26 a hg27 hz28 hb29 hc30 hf
  refine Z.qe [.n] [6] [] [(6, .pointer (some ⟨g25, 0, none⟩))] Z.k0 hf ?_; clear hf a; intro a hf
  refine hn23 _ _ ?_
  refine Z.seqn fun Q31 hn33 he34 => ?_
  refine Z.reg ?_
  have hq35 : Z.Ch [] w6 w26 := hc16.then hc30
  have hb36 := hb9.ch0 hq35
  refine Z.qr [.n, .n, .b 0 0] [9, 10, 11] [] [(9, .func (.func 21) #[] #[]), (10, .pointer (some ⟨g25, 0, none⟩)), (11, .agg #[.int .i64 x.1, .int .i64 x.2.1, .int .i64 x.2.2.1.1, .int .i64 x.2.2.1.2, .int .i64 x.2.2.2.1.1, .int .i64 x.2.2.2.1.2.1, .int .i64 x.2.2.2.1.2.2.1, .int .i64 x.2.2.2.1.2.2.2.1, .int .i64 x.2.2.2.1.2.2.2.2.1, .int .i64 x.2.2.2.1.2.2.2.2.2, .slice pA0 x.2.2.2.2.1.length pc0, .slice pA1 x.2.2.2.2.2.1.length pc1, .slice pA2 x.2.2.2.2.2.2.1.1.length pc2, .slice pA3 x.2.2.2.2.2.2.1.2.1.length pc3, .slice pA4 x.2.2.2.2.2.2.1.2.2.length pc4, .int .i64 x.2.2.2.2.2.2.2.1, .slice pA5 x.2.2.2.2.2.2.2.2.1.length pc5, .bool x.2.2.2.2.2.2.2.2.2.1, .int .i64 x.2.2.2.2.2.2.2.2.2.2])] (Z.kb hb36 Z.k0) hf ?_; clear hf a; intro a hf
  have hr37 : (Z.Ty.slice Z.Ty.byte).rep w26 (Z.nt [g25]) [.slice none 0 0] [] := Z.rep_nil _
  have hq38 : Z.Ch [] w w12 := hc10.then hc16
  have hq39 : Z.Ch [] w w26 := hq38.then hc30
  have hr40 := Z.rep_to (F' := (Z.nt [g25])) ph0o hq39
  have hr41 := Z.rep_to (F' := (Z.nt [g25])) ph1o hq39
  have hr42 := Z.rep_to (F' := (Z.nt [g25])) ph2o hq39
  have hr43 := Z.rep_to (F' := (Z.nt [g25])) ph3o hq39
  have hr44 := Z.rep_to (F' := (Z.nt [g25])) ph4o hq39
  have hr45 := Z.rep_to (F' := (Z.nt [g25])) ph5o hq39
  refine Z.call1 hf rfl (Z.r_callv cf21 hf (first := []) (cap := []) (xs := [.tmp 10, .tmp 11]) rfl rfl) (w_msg ([] : List UInt8) g25 x w26 none 0 pA0 pc0 pA1 pc1 pA2 pc2 pA3 pc3 pA4 pc4 pA5 pc5 hr37 hb29 hr40 hr41 hr42 hr43 hr44 hr45 pk6 (by simpa using hb) (by assumption)) ?_; clear hf a
  rintro _ w46 ⟨A47, c48, rfl, hr49, hb50, hc51⟩
  have hzhc51 := hc51.size
  refine ⟨_, rfl, ?_⟩; intro a hf
  refine Z.done ?_
  refine hn33 _ _ ?_
  refine Z.seqn fun Q52 hn54 he55 => ?_
  refine Z.reg ?_
  refine Z.qr [.n, .n, .n, .b 0 0, .n] [4] [] [(4, .slice A47 ((([] : List UInt8) ++ Codec.encMsg x).length) c48)] (Z.kb hb50 Z.k0) hf ?_; clear hf a; intro a hf
  have hq56 : Z.Ch [g25] w12 w46 := hc30.then hc51
  have hb57 := hb15.ch hq56 (by simp only [List.mem_cons, List.mem_append, List.not_mem_nil, or_false, not_or, not_false_eq_true, and_true] <;> omega)
  refine Z.st_store hf hb57 rfl rfl Try.sizeOf35 rfl rfl rfl (by simp [Value.oneCell']) rfl ?_; clear hf a; intro w58 a hz59 hb60 hc61 hf
  refine Z.done ?_
  refine hn54 _ _ ?_
  refine Z.ret ?_
  refine Z.retd hf cf36 (caught_ret (g11) w58) ?_; rintro _ w62 ⟨rfl, hc63⟩
  have hzhc63 := hc63.size
  have hq64 : Z.Ch [g11] w46 w62 := hc61.then hc63
  have hr65 := Z.rep_to (F' := (Z.iv w26.heap.size w46.heap.size)) hr49 hq64
  have hr66 : (Z.Ty.slice Z.Ty.byte).rep w62 (Z.iv w.heap.size w62.heap.size) [.slice A47 ((([] : List UInt8) ++ Codec.encMsg x).length) c48] (([] : List UInt8) ++ Codec.encMsg x) := Z.rep_as hr65 (by intro b h1 h2; (try simp only [Z.nt, Z.iv, Z.no, Z.ol] at h1); (try simp only [Z.iv]); omega)
  have hxs67 : ([] : List UInt8) ++ Codec.encMsg x = (Codec.encMsg x : List UInt8) := by first | rfl | (simp; done)
  have hr68 := Z.rep_eq hr66 hxs67
  replace hf := hf.setv (d := 4) (y := .slice A47 ((Codec.encMsg x).length) c48) rfl (by rw [← hxs67] <;> first | done | rfl)
  have hb69 := hb60.ch0 hc63
  refine ⟨_, rfl, _, Z.res_tmp_cell hf Try.results20 rfl rfl Try.isAgg35 hb69 rfl, ?_⟩
  have hq70 : Z.Ch [g25] w w46 := hq39.then hc51
  have hq71 : Z.Ch [g25, g11] w w58 := hq70.then hc61
  have hq72 : Z.Ch [g25, g11] w w62 := hq71.then hc63
  exact ⟨A47, c48, rfl, hr68, (Z.Ch.mono hq72 (by intro k hk; (try simp only [List.mem_cons, List.mem_append, List.not_mem_nil, or_false, false_or] at hk ⊢) <;> omega))⟩

set_option maxHeartbeats 400000 in
set_option maxRecDepth 20000 in
theorem Msg_spec (x : D36) (w : World) (pA0 : Option Addr) (pc0 : Nat) (pA1 : Option Addr) (pc1 : Nat) (pA2 : Option Addr) (pc2 : Nat) (pA3 : Option Addr) (pc3 : Nat) (pA4 : Option Addr) (pc4 : Nat) (pA5 : Option Addr) (pc5 : Nat) (ph0 : (Z.Ty.slice T59).rep w (Z.nt []) [.slice pA0 x.2.2.2.2.1.length pc0] x.2.2.2.2.1) (ph1 : (Z.Ty.slice T70).rep w (Z.nt []) [.slice pA1 x.2.2.2.2.2.1.length pc1] x.2.2.2.2.2.1) (ph2 : (Z.Ty.slice (Z.Ty.int .i64)).rep w (Z.nt []) [.slice pA2 x.2.2.2.2.2.2.1.1.length pc2] x.2.2.2.2.2.2.1.1) (ph3 : (Z.Ty.slice T85).rep w (Z.nt []) [.slice pA3 x.2.2.2.2.2.2.1.2.1.length pc3] x.2.2.2.2.2.2.1.2.1) (ph4 : (Z.Ty.slice T63).rep w (Z.nt []) [.slice pA4 x.2.2.2.2.2.2.1.2.2.length pc4] x.2.2.2.2.2.2.1.2.2) (ph5 : (Z.Ty.slice T57).rep w (Z.nt []) [.slice pA5 x.2.2.2.2.2.2.2.2.1.length pc5] x.2.2.2.2.2.2.2.2.1) (pk6 : Z.Ty.ok T36 x) (hb : (Codec.encMsg x).length ≤ 70368744177664) (hg : Codec.gMsg x) :
    Calls Try.prog 8 #[.agg #[.int .i64 x.1, .int .i64 x.2.1, .int .i64 x.2.2.1.1, .int .i64 x.2.2.1.2, .int .i64 x.2.2.2.1.1, .int .i64 x.2.2.2.1.2.1, .int .i64 x.2.2.2.1.2.2.1, .int .i64 x.2.2.2.1.2.2.2.1, .int .i64 x.2.2.2.1.2.2.2.2.1, .int .i64 x.2.2.2.1.2.2.2.2.2, .slice pA0 x.2.2.2.2.1.length pc0, .slice pA1 x.2.2.2.2.2.1.length pc1, .slice pA2 x.2.2.2.2.2.2.1.1.length pc2, .slice pA3 x.2.2.2.2.2.2.1.2.1.length pc3, .slice pA4 x.2.2.2.2.2.2.1.2.2.length pc4, .int .i64 x.2.2.2.2.2.2.2.1, .slice pA5 x.2.2.2.2.2.2.2.2.1.length pc5, .bool x.2.2.2.2.2.2.2.2.2.1, .int .i64 x.2.2.2.2.2.2.2.2.2.2]] w fun e w' => ∃ (rA0 : Option Addr) (rc0 : Nat), e = .returned (.tuple #[.slice rA0 (Codec.encMsg x).length rc0, .int .i64 0]) ∧ (Z.Ty.slice Z.Ty.byte).rep w' (Z.iv w.heap.size w'.heap.size) [.slice rA0 (Codec.encMsg x).length rc0] (Codec.encMsg x) ∧ Z.Ch [] w w' := by
  refine Z.enter Try.func8 rfl Try.ntmps8 (Nat.le_of_ble_eq_true rfl) fun a hf => ?_
  have hle_pA0 := Z.rep_le ph0
  have ph0o := Z.rep_ol ph0
  have hle_pA1 := Z.rep_le ph1
  have ph1o := Z.rep_ol ph1
  have hle_pA2 := Z.rep_le ph2
  have ph2o := Z.rep_ol ph2
  have hle_pA3 := Z.rep_le ph3
  have ph3o := Z.rep_ol ph3
  have hle_pA4 := Z.rep_le ph4
  have ph4o := Z.rep_ol ph4
  have hle_pA5 := Z.rep_le ph5
  have ph5o := Z.rep_ol ph5
  refine Z.seq' (Z.Pq.body _ _ _) fun Q1 hp2 hn3 he4 => ?_
  refine Z.reg ?_
  refine Z.st_box hf rfl rfl rfl ?_; clear hf a; intro g5 w6 a hg7 hz8 hb9 hc10 hf
  refine Z.qe [.n, .n] [] [] [] Z.k0 hf ?_; clear hf a; intro a hf
  refine hn3 _ _ ?_
  refine Z.seq' (Z.Pq.body _ _ _) fun Q11 hp12 hn13 he14 => ?_
  refine Z.reg ?_
  refine Z.qr [.b 0 0] [4] [] [(4, .agg #[.int .i64 x.1, .int .i64 x.2.1, .int .i64 x.2.2.1.1, .int .i64 x.2.2.1.2, .int .i64 x.2.2.2.1.1, .int .i64 x.2.2.2.1.2.1, .int .i64 x.2.2.2.1.2.2.1, .int .i64 x.2.2.2.1.2.2.2.1, .int .i64 x.2.2.2.1.2.2.2.2.1, .int .i64 x.2.2.2.1.2.2.2.2.2, .slice pA0 x.2.2.2.2.1.length pc0, .slice pA1 x.2.2.2.2.2.1.length pc1, .slice pA2 x.2.2.2.2.2.2.1.1.length pc2, .slice pA3 x.2.2.2.2.2.2.1.2.1.length pc3, .slice pA4 x.2.2.2.2.2.2.1.2.2.length pc4, .int .i64 x.2.2.2.2.2.2.2.1, .slice pA5 x.2.2.2.2.2.2.2.2.1.length pc5, .bool x.2.2.2.2.2.2.2.2.2.1, .int .i64 x.2.2.2.2.2.2.2.2.2.2])] (Z.kb hb9 Z.k0) hf ?_; clear hf a; intro a hf
  have hr15 := Z.rep_to (F' := (Z.nt [])) ph0o hc10
  have hr16 := Z.rep_to (F' := (Z.nt [])) ph1o hc10
  have hr17 := Z.rep_to (F' := (Z.nt [])) ph2o hc10
  have hr18 := Z.rep_to (F' := (Z.nt [])) ph3o hc10
  have hr19 := Z.rep_to (F' := (Z.nt [])) ph4o hc10
  have hr20 := Z.rep_to (F' := (Z.nt [])) ph5o hc10
  refine Z.call1 hf rfl (Z.r_call cf20 hf (xs := [.func 21, .tmp 4]) rfl) (written_msg x w6 pA0 pc0 pA1 pc1 pA2 pc2 pA3 pc3 pA4 pc4 pA5 pc5 hr15 hr16 hr17 hr18 hr19 hr20 pk6 (by omega) (by assumption)) ?_; clear hf a
  rintro _ w21 ⟨A22, c23, rfl, hr24, hc25⟩
  have hzhc25 := hc25.size
  refine ⟨_, rfl, ?_⟩; intro a hf
  refine Z.qe [.n, .n, .n, .n] [2, 3] [] [(2, .slice A22 ((Codec.encMsg x).length) c23), (3, .int .i64 0)] Z.k0 hf ?_; clear hf a; intro a hf
  refine hn13 _ _ ?_
  refine Z.ret ?_
  have hr26 : (Z.Ty.slice Z.Ty.byte).rep w21 (Z.iv w.heap.size w21.heap.size) [.slice A22 ((Codec.encMsg x).length) c23] (Codec.encMsg x) := Z.rep_as hr24 (by intro b h1 h2; (try simp only [Z.nt, Z.iv, Z.no, Z.ol] at h1); (try simp only [Z.iv]); omega)
  have hq27 : Z.Ch [] w w21 := hc10.then hc25
  refine Z.ret2 hf Try.results8 rfl rfl ?_
  exact ⟨A22, c23, rfl, hr26, hq27⟩

set_option maxHeartbeats 400000 in
set_option maxRecDepth 20000 in
theorem Entries1_spec (b : List UInt8) (g : Nat) (xs : List D57) (w : World) (pA0 : Option Addr) (pc0 : Nat) (pA1 : Option Addr) (pc1 : Nat) (ph0 : (Z.Ty.slice Z.Ty.byte).rep w (Z.nt [g]) [.slice pA0 b.length pc0] b) (pb1 : Z.Blk w g 90 [.slice pA0 b.length pc0]) (ph1 : (Z.Ty.slice T57).rep w (Z.nt [g]) [.slice pA1 xs.length pc1] xs) (hb : b.length + (Codec.encList Codec.encEntry xs).length ≤ 70368744177664) (hl : xs.length ≤ 65536) (he : ∀ a ∈ xs, Codec.gEntry a) :
    Calls Try.prog 33 #[.pointer (some ⟨g, 0, none⟩), .slice pA1 xs.length pc1] w fun e w' => ∃ (rA0 : Option Addr) (rc0 : Nat), e = .returned (.tuple #[]) ∧ (Z.Ty.slice Z.Ty.byte).rep w' (Z.iv w.heap.size w'.heap.size) [.slice rA0 (b ++ Codec.encList Codec.encEntry xs).length rc0] (b ++ Codec.encList Codec.encEntry xs) ∧ Z.Blk w' g 90 [.slice rA0 (b ++ Codec.encList Codec.encEntry xs).length rc0] ∧ Z.Ch [g] w w' := by
  refine Z.enter Try.func33 rfl Try.ntmps33 (Nat.le_of_ble_eq_true rfl) fun a hf => ?_
  have hlt_g := pb1.lt
  have hle_pA1 := Z.rep_le ph1
  have ph1o := Z.rep_ol ph1
  have hle_pA0 := Z.rep_le ph0
  have ph0o := Z.rep_ol ph0
  refine Z.reg ?_
  refine Z.qr [.n, .n, .n, .n] [4, 5, 7] [] [(4, .pointer (some ⟨g, 0, none⟩)), (5, .slice pA1 xs.length pc1), (7, .func (.func 35) #[.pointer (some ⟨g, 0, none⟩)] #[])] Z.k0 hf ?_; clear hf a; intro a hf
  have hr1 := Z.rep_to (F' := (Z.nt [g])) ph0o (Z.Ch.refl w)
  have hr2 := Z.rep_to (F' := (Z.nt [g])) ph1o (Z.Ch.refl w)
  refine Z.call1 hf rfl (Z.r_call cf34 hf (xs := [.tmp 4, .tmp 5, .tmp 7]) rfl) (p_entries b g xs w pA0 pc0 pA1 pc1 hr1 pb1 hr2 (by first | omega | (simp only [List.length_append, List.flatMap_cons, List.flatMap_nil, List.flatten_cons, List.flatten_nil, List.length_nil, List.append_nil]; omega)) (by assumption) (by assumption)) ?_; clear hf a
  rintro _ w3 ⟨A4, c5, rfl, hr6, hb7, hc8⟩
  have hzhc8 := hc8.size
  refine ⟨_, rfl, ?_⟩; intro a hf
  refine Z.done ?_
  have hr9 : (Z.Ty.slice Z.Ty.byte).rep w3 (Z.iv w.heap.size w3.heap.size) [.slice A4 ((b ++ Codec.encList Codec.encEntry xs).length) c5] (b ++ Codec.encList Codec.encEntry xs) := Z.rep_as hr6 (by intro b h1 h2; (try simp only [Z.nt, Z.iv, Z.no, Z.ol] at h1); (try simp only [Z.iv]); omega)
  refine Z.end0 hf Try.results33 ?_
  exact ⟨A4, c5, rfl, hr9, hb7, hc8⟩

set_option maxHeartbeats 400000 in
set_option maxRecDepth 20000 in
theorem written_entries (xs : List D57) (w : World) (pA0 : Option Addr) (pc0 : Nat) (ph0 : (Z.Ty.slice T57).rep w (Z.nt []) [.slice pA0 xs.length pc0] xs) (hb : (Codec.encList Codec.encEntry xs).length ≤ 70368744177664) (hl : xs.length ≤ 65536) (he : ∀ a ∈ xs, Codec.gEntry a) :
    Calls Try.prog 32 #[.func (.func 33) #[] #[], .slice pA0 xs.length pc0] w fun e w' => ∃ (rA0 : Option Addr) (rc0 : Nat), e = .returned (.tuple #[.slice rA0 (Codec.encList Codec.encEntry xs).length rc0, .int .i64 0]) ∧ (Z.Ty.slice Z.Ty.byte).rep w' (Z.iv w.heap.size w'.heap.size) [.slice rA0 (Codec.encList Codec.encEntry xs).length rc0] (Codec.encList Codec.encEntry xs) ∧ Z.Ch [] w w' := by
  refine Z.enterDf Try.func32 rfl Try.ntmps32 (Nat.le_of_ble_eq_true rfl) fun a hf => ?_
  have hle_pA0 := Z.rep_le ph0
  have ph0o := Z.rep_ol ph0
  refine Z.seqn fun Q1 hn3 he4 => ?_
  refine Z.reg ?_
  refine Z.qr [.n] [] [] [] Z.k0 hf ?_; clear hf a; intro a hf
  refine Z.st_alloc hf rfl Try.zeroValue35 rfl ?_; clear hf a; intro g5 w6 a hg7 hz8 hb9 hc10 hf
  refine Z.done ?_
  refine hn3 _ _ ?_
  refine Z.seqn fun Q11 hn13 he14 => ?_
  refine Z.reg ?_
  refine Z.defer hf (Z.r_defer hf (xs := [.tmp 5]) rfl) ?_; clear hf a; intro a hf
  refine Z.done ?_
  refine hn13 _ _ ?_
  refine Z.seqn fun Q15 hn17 he18 => ?_
  refine Z.reg ?_
  refine Z.qr [.n] [7] [] [(7, .agg #[.slice none 0 0])] Z.k0 hf ?_; clear hf a; intro a hf
  refine Z.st_box hf rfl rfl rfl ?_; clear hf a; intro g19 w20 a hg21 hz22 hb23 hc24 hf
  refine Z.qe [.n] [6] [] [(6, .pointer (some ⟨g19, 0, none⟩))] Z.k0 hf ?_; clear hf a; intro a hf
  refine hn17 _ _ ?_
  refine Z.seqn fun Q25 hn27 he28 => ?_
  refine Z.reg ?_
  refine Z.qr [.n, .n, .n] [9, 10, 11] [] [(9, .func (.func 33) #[] #[]), (10, .pointer (some ⟨g19, 0, none⟩)), (11, .slice pA0 xs.length pc0)] Z.k0 hf ?_; clear hf a; intro a hf
  have hr29 : (Z.Ty.slice Z.Ty.byte).rep w20 (Z.nt [g19]) [.slice none 0 0] [] := Z.rep_nil _
  have hq30 : Z.Ch [] w w20 := hc10.then hc24
  have hr31 := Z.rep_to (F' := (Z.nt [g19])) ph0o hq30
  refine Z.call1 hf rfl (Z.r_callv cf33 hf (first := []) (cap := []) (xs := [.tmp 10, .tmp 11]) rfl rfl) (Entries1_spec ([] : List UInt8) g19 xs w20 none 0 pA0 pc0 hr29 hb23 hr31 (by simpa using hb) (by assumption) (by assumption)) ?_; clear hf a
  rintro _ w32 ⟨A33, c34, rfl, hr35, hb36, hc37⟩
  have hzhc37 := hc37.size
  refine ⟨_, rfl, ?_⟩; intro a hf
  refine Z.done ?_
  refine hn27 _ _ ?_
  refine Z.seqn fun Q38 hn40 he41 => ?_
  refine Z.reg ?_
  refine Z.qr [.n, .n, .n, .b 0 0, .n] [4] [] [(4, .slice A33 ((([] : List UInt8) ++ Codec.encList Codec.encEntry xs).length) c34)] (Z.kb hb36 Z.k0) hf ?_; clear hf a; intro a hf
  have hq42 : Z.Ch [g19] w6 w32 := hc24.then hc37
  have hb43 := hb9.ch hq42 (by simp only [List.mem_cons, List.mem_append, List.not_mem_nil, or_false, not_or, not_false_eq_true, and_true] <;> omega)
  refine Z.st_store hf hb43 rfl rfl Try.sizeOf35 rfl rfl rfl (by simp [Value.oneCell']) rfl ?_; clear hf a; intro w44 a hz45 hb46 hc47 hf
  refine Z.done ?_
  refine hn40 _ _ ?_
  refine Z.ret ?_
  refine Z.retd hf cf36 (caught_ret (g5) w44) ?_; rintro _ w48 ⟨rfl, hc49⟩
  have hzhc49 := hc49.size
  have hq50 : Z.Ch [g5] w32 w48 := hc47.then hc49
  have hr51 := Z.rep_to (F' := (Z.iv w20.heap.size w32.heap.size)) hr35 hq50
  have hr52 : (Z.Ty.slice Z.Ty.byte).rep w48 (Z.iv w.heap.size w48.heap.size) [.slice A33 ((([] : List UInt8) ++ Codec.encList Codec.encEntry xs).length) c34] (([] : List UInt8) ++ Codec.encList Codec.encEntry xs) := Z.rep_as hr51 (by intro b h1 h2; (try simp only [Z.nt, Z.iv, Z.no, Z.ol] at h1); (try simp only [Z.iv]); omega)
  have hxs53 : ([] : List UInt8) ++ Codec.encList Codec.encEntry xs = (Codec.encList Codec.encEntry xs : List UInt8) := by first | rfl | (simp; done)
  have hr54 := Z.rep_eq hr52 hxs53
  replace hf := hf.setv (d := 4) (y := .slice A33 ((Codec.encList Codec.encEntry xs).length) c34) rfl (by rw [← hxs53] <;> first | done | rfl)
  have hb55 := hb46.ch0 hc49
  refine ⟨_, rfl, _, Z.res_tmp_cell hf Try.results32 rfl rfl Try.isAgg35 hb55 rfl, ?_⟩
  have hq56 : Z.Ch [g19] w w32 := hq30.then hc37
  have hq57 : Z.Ch [g19, g5] w w44 := hq56.then hc47
  have hq58 : Z.Ch [g19, g5] w w48 := hq57.then hc49
  exact ⟨A33, c34, rfl, hr54, (Z.Ch.mono hq58 (by intro k hk; (try simp only [List.mem_cons, List.mem_append, List.not_mem_nil, or_false, false_or] at hk ⊢) <;> omega))⟩

set_option maxHeartbeats 400000 in
set_option maxRecDepth 20000 in
theorem Entries_spec (xs : List D57) (w : World) (pA0 : Option Addr) (pc0 : Nat) (ph0 : (Z.Ty.slice T57).rep w (Z.nt []) [.slice pA0 xs.length pc0] xs) (hb : (Codec.encList Codec.encEntry xs).length ≤ 70368744177664) (hl : xs.length ≤ 65536) (he : ∀ a ∈ xs, Codec.gEntry a) :
    Calls Try.prog 18 #[.slice pA0 xs.length pc0] w fun e w' => ∃ (rA0 : Option Addr) (rc0 : Nat), e = .returned (.tuple #[.slice rA0 (Codec.encList Codec.encEntry xs).length rc0, .int .i64 0]) ∧ (Z.Ty.slice Z.Ty.byte).rep w' (Z.iv w.heap.size w'.heap.size) [.slice rA0 (Codec.encList Codec.encEntry xs).length rc0] (Codec.encList Codec.encEntry xs) ∧ Z.Ch [] w w' := by
  refine Z.enter Try.func18 rfl Try.ntmps18 (Nat.le_of_ble_eq_true rfl) fun a hf => ?_
  have hle_pA0 := Z.rep_le ph0
  have ph0o := Z.rep_ol ph0
  refine Z.qseq [.n, .n] [] [] [] Z.k0 hf ?_; clear hf a; intro a hf
  refine Z.seq' (Z.Pq.body _ _ _) fun Q1 hp2 hn3 he4 => ?_
  refine Z.reg ?_
  refine Z.qr [.n] [4] [] [(4, .slice pA0 xs.length pc0)] Z.k0 hf ?_; clear hf a; intro a hf
  have hr5 := Z.rep_to (F' := (Z.nt [])) ph0o (Z.Ch.refl w)
  refine Z.call1 hf rfl (Z.r_call cf32 hf (xs := [.func 33, .tmp 4]) rfl) (written_entries xs w pA0 pc0 hr5 (by omega) (by assumption) (by assumption)) ?_; clear hf a
  rintro _ w6 ⟨A7, c8, rfl, hr9, hc10⟩
  have hzhc10 := hc10.size
  refine ⟨_, rfl, ?_⟩; intro a hf
  refine Z.qe [.n, .n, .n, .n] [2, 3] [] [(2, .slice A7 ((Codec.encList Codec.encEntry xs).length) c8), (3, .int .i64 0)] Z.k0 hf ?_; clear hf a; intro a hf
  refine hn3 _ _ ?_
  refine Z.ret ?_
  have hr11 : (Z.Ty.slice Z.Ty.byte).rep w6 (Z.iv w.heap.size w6.heap.size) [.slice A7 ((Codec.encList Codec.encEntry xs).length) c8] (Codec.encList Codec.encEntry xs) := Z.rep_as hr9 (by intro b h1 h2; (try simp only [Z.nt, Z.iv, Z.no, Z.ol] at h1); (try simp only [Z.iv]); omega)
  refine Z.ret2 hf Try.results18 rfl rfl ?_
  exact ⟨A7, c8, rfl, hr11, hc10⟩

end Go.Proofs.Ytlhpkogdcgebeaa
