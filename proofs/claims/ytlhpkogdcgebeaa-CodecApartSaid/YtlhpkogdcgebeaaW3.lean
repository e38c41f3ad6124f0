/- Walks: messages written whole. -/
import Derived.Test.YtlhpkogdcgebeaaW2
import Derived.Test.YtlhpkogdcgebeaaZh
set_option linter.unusedVariables false
set_option linter.unusedSimpArgs false
namespace Go.Proofs.Ytlhpkogdcgebeaa
open Go.RowKit
set_option maxHeartbeats 400000 in
set_option maxRecDepth 20000 in
theorem caught_ret (g : Nat) (w : World)    :
    CallsD Try.prog 36 #[.pointer (some ⟨g, 0, none⟩)] .returning w fun e u2 w' => u2 = .returning ∧ (e = .returned (.tuple #[]) ∧ Z.Ch [] w w') := by
  refine Z.enterRec (R := fun e w' => e = .returned (.tuple #[]) ∧ Z.Ch [] w w') (Or.inl ⟨rfl, rfl, rfl⟩) Try.func36 rfl Try.ntmps36 (Nat.le_of_ble_eq_true rfl) rfl fun a hf => ?_
  replace hf : Z.Fr a 15 [] [(5, .nilIface), (0, .pointer (some ⟨g, 0, none⟩))] := hf
  refine Z.block' (Z.Pq.body _ _ _) fun Q1 hp2 hn3 hx4 he5 => ?_
  refine Z.seq' hp2 fun Q6 hp7 hn8 he9 => ?_
  refine Z.reg ?_
  refine Z.val hf rfl (Z.r_eqif_nil Try.underlying20 (hf.eval rfl)) ?_; clear hf a; intro a hf
  refine Z.done ?_
  refine hn8 _ _ ?_
  replace hf : Z.Fr a 15 [] [(0, .pointer (some ⟨g, 0, none⟩)), (5, .nilIface), (7, .bool true)] := hf.keep [0, 5, 7]
  refine Z.condt hf rfl ?_
  refine Z.reg ?_
  refine Z.val hf rfl (Z.r_assign (hf.eval rfl)) ?_; clear hf a; intro a hf
  refine Z.done ?_
  refine hn3 _ _ ?_
  refine Z.end0 hf Try.results36 ?_
  exact ⟨rfl, (Z.Ch.refl w)⟩

set_option maxHeartbeats 400000 in
set_option maxRecDepth 20000 in
theorem written_msg (x : (Int × Int × (Int × Int) × (Int × Int × (Int × Int × Int × Int)) × (List (Int × ByteArray)) × (List ((Int × Int) × (Int × Int × (Int × Int × Int × Int)) × Int)) × ((List Int) × (List (Int × Int × (List Int) × (Int × Int × ByteArray) × ByteArray × Int × Int)) × (List (Int × Int × Int × Int × (Int × Int × ByteArray)))) × Int × (List (Int × Int × ByteArray × Int)) × Bool × Int)) (w : World) (pA0 : Option Addr) (pc0 : Nat) (pA1 : Option Addr) (pc1 : Nat) (pA2 : Option Addr) (pc2 : Nat) (pA3 : Option Addr) (pc3 : Nat) (pA4 : Option Addr) (pc4 : Nat) (pA5 : Option Addr) (pc5 : Nat) (ph0 : (Z.Ty.slice (Z.Ty.pair (Z.Ty.int .i64) Z.Ty.str)).rep w (Z.nt []) [.slice pA0 x.2.2.2.2.1.length pc0] x.2.2.2.2.1) (ph1 : (Z.Ty.slice (Z.Ty.pair (Z.Ty.pair (Z.Ty.int .i64) (Z.Ty.int .i64)) (Z.Ty.pair (Z.Ty.pair (Z.Ty.int .i64) (Z.Ty.pair (Z.Ty.int .i64) (Z.Ty.pair (Z.Ty.int .i64) (Z.Ty.pair (Z.Ty.int .i64) (Z.Ty.pair (Z.Ty.int .i64) (Z.Ty.int .i64)))))) (Z.Ty.int .i64)))).rep w (Z.nt []) [.slice pA1 x.2.2.2.2.2.1.length pc1] x.2.2.2.2.2.1) (ph2 : (Z.Ty.slice (Z.Ty.int .i64)).rep w (Z.nt []) [.slice pA2 x.2.2.2.2.2.2.1.1.length pc2] x.2.2.2.2.2.2.1.1) (ph3 : (Z.Ty.slice (Z.Ty.pair (Z.Ty.int .i64) (Z.Ty.pair (Z.Ty.int .i64) (Z.Ty.pair (Z.Ty.slice (Z.Ty.int .i64)) (Z.Ty.pair (Z.Ty.pair (Z.Ty.int .i64) (Z.Ty.pair (Z.Ty.int .i64) Z.Ty.str)) (Z.Ty.pair Z.Ty.str (Z.Ty.pair (Z.Ty.int .i64) (Z.Ty.int .i64)))))))).rep w (Z.nt []) [.slice pA3 x.2.2.2.2.2.2.1.2.1.length pc3] x.2.2.2.2.2.2.1.2.1) (ph4 : (Z.Ty.slice (Z.Ty.pair (Z.Ty.int .i64) (Z.Ty.pair (Z.Ty.int .i64) (Z.Ty.pair (Z.Ty.int .i64) (Z.Ty.pair (Z.Ty.int .i64) (Z.Ty.pair (Z.Ty.int .i64) (Z.Ty.pair (Z.Ty.int .i64) Z.Ty.str))))))).rep w (Z.nt []) [.slice pA4 x.2.2.2.2.2.2.1.2.2.length pc4] x.2.2.2.2.2.2.1.2.2) (ph5 : (Z.Ty.slice (Z.Ty.pair (Z.Ty.int .i64) (Z.Ty.pair (Z.Ty.int .i64) (Z.Ty.pair Z.Ty.str (Z.Ty.int .i64))))).rep w (Z.nt []) [.slice pA5 x.2.2.2.2.2.2.2.2.1.length pc5] x.2.2.2.2.2.2.2.2.1) (pk6 : Z.Ty.ok (Z.Ty.pair (Z.Ty.int .i64) (Z.Ty.pair (Z.Ty.int .i64) (Z.Ty.pair (Z.Ty.pair (Z.Ty.int .i64) (Z.Ty.int .i64)) (Z.Ty.pair (Z.Ty.pair (Z.Ty.int .i64) (Z.Ty.pair (Z.Ty.int .i64) (Z.Ty.pair (Z.Ty.int .i64) (Z.Ty.pair (Z.Ty.int .i64) (Z.Ty.pair (Z.Ty.int .i64) (Z.Ty.int .i64)))))) (Z.Ty.pair (Z.Ty.slice (Z.Ty.pair (Z.Ty.int .i64) Z.Ty.str)) (Z.Ty.pair (Z.Ty.slice (Z.Ty.pair (Z.Ty.pair (Z.Ty.int .i64) (Z.Ty.int .i64)) (Z.Ty.pair (Z.Ty.pair (Z.Ty.int .i64) (Z.Ty.pair (Z.Ty.int .i64) (Z.Ty.pair (Z.Ty.int .i64) (Z.Ty.pair (Z.Ty.int .i64) (Z.Ty.pair (Z.Ty.int .i64) (Z.Ty.int .i64)))))) (Z.Ty.int .i64)))) (Z.Ty.pair (Z.Ty.pair (Z.Ty.slice (Z.Ty.int .i64)) (Z.Ty.pair (Z.Ty.slice (Z.Ty.pair (Z.Ty.int .i64) (Z.Ty.pair (Z.Ty.int .i64) (Z.Ty.pair (Z.Ty.slice (Z.Ty.int .i64)) (Z.Ty.pair (Z.Ty.pair (Z.Ty.int .i64) (Z.Ty.pair (Z.Ty.int .i64) Z.Ty.str)) (Z.Ty.pair Z.Ty.str (Z.Ty.pair (Z.Ty.int .i64) (Z.Ty.int .i64)))))))) (Z.Ty.slice (Z.Ty.pair (Z.Ty.int .i64) (Z.Ty.pair (Z.Ty.int .i64) (Z.Ty.pair (Z.Ty.int .i64) (Z.Ty.pair (Z.Ty.int .i64) (Z.Ty.pair (Z.Ty.int .i64) (Z.Ty.pair (Z.Ty.int .i64) Z.Ty.str))))))))) (Z.Ty.pair (Z.Ty.int .i64) (Z.Ty.pair (Z.Ty.slice (Z.Ty.pair (Z.Ty.int .i64) (Z.Ty.pair (Z.Ty.int .i64) (Z.Ty.pair Z.Ty.str (Z.Ty.int .i64))))) (Z.Ty.pair Z.Ty.bool (Z.Ty.int .i64))))))))))) x) (hb : (Codec.encMsg x).length ≤ 70368744177664) (hg : Codec.gMsg x) :
    Calls Try.prog 20 #[.func (.func 21) #[] #[], .agg #[.int .i64 x.1, .int .i64 x.2.1, .int .i64 x.2.2.1.1, .int .i64 x.2.2.1.2, .int .i64 x.2.2.2.1.1, .int .i64 x.2.2.2.1.2.1, .int .i64 x.2.2.2.1.2.2.1, .int .i64 x.2.2.2.1.2.2.2.1, .int .i64 x.2.2.2.1.2.2.2.2.1, .int .i64 x.2.2.2.1.2.2.2.2.2, .slice pA0 x.2.2.2.2.1.length pc0, .slice pA1 x.2.2.2.2.2.1.length pc1, .slice pA2 x.2.2.2.2.2.2.1.1.length pc2, .slice pA3 x.2.2.2.2.2.2.1.2.1.length pc3, .slice pA4 x.2.2.2.2.2.2.1.2.2.length pc4, .int .i64 x.2.2.2.2.2.2.2.1, .slice pA5 x.2.2.2.2.2.2.2.2.1.length pc5, .bool x.2.2.2.2.2.2.2.2.2.1, .int .i64 x.2.2.2.2.2.2.2.2.2.2]] w fun e w' => ∃ (rA0 : Option Addr) (rc0 : Nat), e = .returned (.tuple #[.slice rA0 (Codec.encMsg x).length rc0, .int .i64 0]) ∧ (Z.Ty.slice Z.Ty.byte).rep w' (Z.iv w.heap.size w'.heap.size) [.slice rA0 (Codec.encMsg x).length rc0] (Codec.encMsg x) ∧ Z.Ch [] w w' := by
  refine Z.enterDf Try.func20 rfl Try.ntmps20 (Nat.le_of_ble_eq_true rfl) fun a hf => ?_
  replace hf : Z.Fr a 17 [] [(0, .func (.func 21) #[] #[]), (1, .agg #[.int .i64 x.1, .int .i64 x.2.1, .int .i64 x.2.2.1.1, .int .i64 x.2.2.1.2, .int .i64 x.2.2.2.1.1, .int .i64 x.2.2.2.1.2.1, .int .i64 x.2.2.2.1.2.2.1, .int .i64 x.2.2.2.1.2.2.2.1, .int .i64 x.2.2.2.1.2.2.2.2.1, .int .i64 x.2.2.2.1.2.2.2.2.2, .slice pA0 x.2.2.2.2.1.length pc0, .slice pA1 x.2.2.2.2.2.1.length pc1, .slice pA2 x.2.2.2.2.2.2.1.1.length pc2, .slice pA3 x.2.2.2.2.2.2.1.2.1.length pc3, .slice pA4 x.2.2.2.2.2.2.1.2.2.length pc4, .int .i64 x.2.2.2.2.2.2.2.1, .slice pA5 x.2.2.2.2.2.2.2.2.1.length pc5, .bool x.2.2.2.2.2.2.2.2.2.1, .int .i64 x.2.2.2.2.2.2.2.2.2.2])] := hf
  have hle_pA0 := Z.rep_le ph0
  have ph0o := Z.rep_ol ph0
  have hle_pA1 := Z.rep_le ph1
  have ph1o := Z.rep_ol ph1
  have hle_pA2 := Z.rep_le ph2
  have ph2o := Z.rep_ol ph2
  have hle_pA3 := Z.rep_le ph3
  have ph3o := Z.rep_ol ph3
  have hle_pA4 := Z.rep_le ph4
  have ph4o := Z.rep_ol ph4
  have hle_pA5 := Z.rep_le ph5
  have ph5o := Z.rep_ol ph5
  refine Z.seqn fun Q1 hn3 he4 => ?_
  refine Z.reg ?_
  refine Z.st_box hf rfl rfl rfl ?_; clear hf a; intro g5 w6 a hg7 hz8 hb9 hc10 hf
  refine Z.val hf rfl (Z.r_assign (hf.eval rfl)) ?_; clear hf a; intro a hf
  refine Z.st_alloc hf rfl Try.zeroValue35 rfl ?_; clear hf a; intro g11 w12 a hg13 hz14 hb15 hc16 hf
  refine Z.done ?_
  refine hn3 _ _ ?_
  replace hf : Z.Fr a 17 [] [(0, .func (.func 21) #[] #[]), (3, .pointer (some ⟨g5, 0, none⟩)), (5, .pointer (some ⟨g11, 0, none⟩))] := hf.keep [0, 3, 5]
  refine Z.seqn fun Q17 hn19 he20 => ?_
  refine Z.reg ?_
  refine Z.defer hf (Z.r_defer hf (xs := [.tmp 5]) rfl) ?_; clear hf a; intro a hf
  refine Z.done ?_
  refine hn19 _ _ ?_
  replace hf : Z.Fr a 17 [{ target := .fn (.func 36) #[], args := List.toArray [.pointer (some ⟨g11, 0, none⟩)] }] [(0, .func (.func 21) #[] #[]), (3, .pointer (some ⟨g5, 0, none⟩)), (5, .pointer (some ⟨g11, 0, none⟩))] := hf.keep [0, 3, 5]
  refine Z.seqn fun Q21 hn23 he24 => ?_
  refine Z.reg ?_
  refine Z.val hf rfl (Z.r_build hf Try.underlying90 Try.zeroValue90 (parts := []) rfl (pl := #[(0, 1)]) (fun _ => by kernel_rfl) rfl) ?_; clear hf a; intro a hf
  refine Z.st_box hf rfl rfl rfl ?_; clear hf a; intro g25 w26 a hg27 hz28 hb29 hc30 hf
  refine Z.val hf rfl (Z.r_assign (hf.eval rfl)) ?_; clear hf a; intro a hf
  refine Z.done ?_
  refine hn23 _ _ ?_
  replace hf : Z.Fr a 17 [{ target := .fn (.func 36) #[], args := List.toArray [.pointer (some ⟨g11, 0, none⟩)] }] [(0, .func (.func 21) #[] #[]), (3, .pointer (some ⟨g5, 0, none⟩)), (5, .pointer (some ⟨g11, 0, none⟩)), (6, .pointer (some ⟨g25, 0, none⟩))] := hf.keep [0, 3, 5, 6]
  refine Z.seqn fun Q31 hn33 he34 => ?_
  refine Z.reg ?_
  refine Z.val hf rfl (Z.r_move (hf.eval rfl)) ?_; clear hf a; intro a hf
  refine Z.val hf rfl (Z.r_move (hf.eval rfl)) ?_; clear hf a; intro a hf
  have hq35 : Z.Ch [] w6 w26 := hc16.then hc30 (by simp) (by simp)
  have hb36 := hb9.ch0 hq35
  refine Z.val hf rfl (Z.r_loadBN Try.isAgg37 Try.sizeOf37 (hf.eval rfl) hb36 rfl rfl) ?_; clear hf a; intro a hf
  have hr37 : (Z.Ty.slice Z.Ty.byte).rep w26 (Z.nt [g25]) [.slice none 0 0] [] := Z.rep_nil _
  have hq38 : Z.Ch [] w w12 := hc10.then hc16 (by simp) (by simp)
  have hq39 : Z.Ch [] w w26 := hq38.then hc30 (by simp) (by simp)
  have hr40 : (Z.Ty.slice (Z.Ty.pair (Z.Ty.int .i64) Z.Ty.str)).rep w26 (Z.nt [g25]) [.slice pA0 x.2.2.2.2.1.length pc0] x.2.2.2.2.1 := Z.rep_to ph0o hq39 (by intro b h1 h2; (try simp only [Z.nt, Z.iv, Z.no, Z.ol, List.mem_cons, List.not_mem_nil, or_false, not_or, not_false_eq_true] at h1); (try simp only [Z.nt, Z.iv, Z.no, Z.ol, List.mem_cons, List.mem_append, List.not_mem_nil, or_false, not_or, not_false_eq_true, true_and, and_true]) <;> omega)
  have hr41 : (Z.Ty.slice (Z.Ty.pair (Z.Ty.pair (Z.Ty.int .i64) (Z.Ty.int .i64)) (Z.Ty.pair (Z.Ty.pair (Z.Ty.int .i64) (Z.Ty.pair (Z.Ty.int .i64) (Z.Ty.pair (Z.Ty.int .i64) (Z.Ty.pair (Z.Ty.int .i64) (Z.Ty.pair (Z.Ty.int .i64) (Z.Ty.int .i64)))))) (Z.Ty.int .i64)))).rep w26 (Z.nt [g25]) [.slice pA1 x.2.2.2.2.2.1.length pc1] x.2.2.2.2.2.1 := Z.rep_to ph1o hq39 (by intro b h1 h2; (try simp only [Z.nt, Z.iv, Z.no, Z.ol, List.mem_cons, List.not_mem_nil, or_false, not_or, not_false_eq_true] at h1); (try simp only [Z.nt, Z.iv, Z.no, Z.ol, List.mem_cons, List.mem_append, List.not_mem_nil, or_false, not_or, not_false_eq_true, true_and, and_true]) <;> omega)
  have hr42 : (Z.Ty.slice (Z.Ty.int .i64)).rep w26 (Z.nt [g25]) [.slice pA2 x.2.2.2.2.2.2.1.1.length pc2] x.2.2.2.2.2.2.1.1 := Z.rep_to ph2o hq39 (by intro b h1 h2; (try simp only [Z.nt, Z.iv, Z.no, Z.ol, List.mem_cons, List.not_mem_nil, or_false, not_or, not_false_eq_true] at h1); (try simp only [Z.nt, Z.iv, Z.no, Z.ol, List.mem_cons, List.mem_append, List.not_mem_nil, or_false, not_or, not_false_eq_true, true_and, and_true]) <;> omega)
  have hr43 : (Z.Ty.slice (Z.Ty.pair (Z.Ty.int .i64) (Z.Ty.pair (Z.Ty.int .i64) (Z.Ty.pair (Z.Ty.slice (Z.Ty.int .i64)) (Z.Ty.pair (Z.Ty.pair (Z.Ty.int .i64) (Z.Ty.pair (Z.Ty.int .i64) Z.Ty.str)) (Z.Ty.pair Z.Ty.str (Z.Ty.pair (Z.Ty.int .i64) (Z.Ty.int .i64)))))))).rep w26 (Z.nt [g25]) [.slice pA3 x.2.2.2.2.2.2.1.2.1.length pc3] x.2.2.2.2.2.2.1.2.1 := Z.rep_to ph3o hq39 (by intro b h1 h2; (try simp only [Z.nt, Z.iv, Z.no, Z.ol, List.mem_cons, List.not_mem_nil, or_false, not_or, not_false_eq_true] at h1); (try simp only [Z.nt, Z.iv, Z.no, Z.ol, List.mem_cons, List.mem_append, List.not_mem_nil, or_false, not_or, not_false_eq_true, true_and, and_true]) <;> omega)
  have hr44 : (Z.Ty.slice (Z.Ty.pair (Z.Ty.int .i64) (Z.Ty.pair (Z.Ty.int .i64) (Z.Ty.pair (Z.Ty.int .i64) (Z.Ty.pair (Z.Ty.int .i64) (Z.Ty.pair (Z.Ty.int .i64) (Z.Ty.pair (Z.Ty.int .i64) Z.Ty.str))))))).rep w26 (Z.nt [g25]) [.slice pA4 x.2.2.2.2.2.2.1.2.2.length pc4] x.2.2.2.2.2.2.1.2.2 := Z.rep_to ph4o hq39 (by intro b h1 h2; (try simp only [Z.nt, Z.iv, Z.no, Z.ol, List.mem_cons, List.not_mem_nil, or_false, not_or, not_false_eq_true] at h1); (try simp only [Z.nt, Z.iv, Z.no, Z.ol, List.mem_cons, List.mem_append, List.not_mem_nil, or_false, not_or, not_false_eq_true, true_and, and_true]) <;> omega)
  have hr45 : (Z.Ty.slice (Z.Ty.pair (Z.Ty.int .i64) (Z.Ty.pair (Z.Ty.int .i64) (Z.Ty.pair Z.Ty.str (Z.Ty.int .i64))))).rep w26 (Z.nt [g25]) [.slice pA5 x.2.2.2.2.2.2.2.2.1.length pc5] x.2.2.2.2.2.2.2.2.1 := Z.rep_to ph5o hq39 (by intro b h1 h2; (try simp only [Z.nt, Z.iv, Z.no, Z.ol, List.mem_cons, List.not_mem_nil, or_false, not_or, not_false_eq_true] at h1); (try simp only [Z.nt, Z.iv, Z.no, Z.ol, List.mem_cons, List.mem_append, List.not_mem_nil, or_false, not_or, not_false_eq_true, true_and, and_true]) <;> omega)
  have hcall := w_msg (([] : List UInt8)) (g25) (x) w26 (none) (0) (pA0) (pc0) (pA1) (pc1) (pA2) (pc2) (pA3) (pc3) (pA4) (pc4) (pA5) (pc5) hr37 hb29 hr40 hr41 hr42 hr43 hr44 hr45 pk6 (by simpa using hb) (by assumption)
  refine Z.call1 hf rfl (Z.r_callv cf21 hf (first := []) (cap := []) (xs := [.tmp 10, .tmp 11]) rfl rfl) hcall ?_; clear hcall hf a
  rintro _ w46 ⟨A47, c48, rfl, hr49, hb50, hc51⟩
  have hzhc51 := hc51.size
  refine ⟨_, rfl, ?_⟩; intro a hf
  refine Z.done ?_
  refine hn33 _ _ ?_
  replace hf : Z.Fr a 17 [{ target := .fn (.func 36) #[], args := List.toArray [.pointer (some ⟨g11, 0, none⟩)] }] [(5, .pointer (some ⟨g11, 0, none⟩)), (6, .pointer (some ⟨g25, 0, none⟩))] := hf.keep [5, 6]
  refine Z.seqn fun Q52 hn54 he55 => ?_
  refine Z.reg ?_
  refine Z.val hf rfl (Z.r_move (hf.eval rfl)) ?_; clear hf a; intro a hf
  refine Z.val hf rfl (Z.r_nilCheck (hf.eval rfl)) ?_; clear hf a; intro a hf
  refine Z.val hf rfl (Z.r_fieldAddrB Try.underlying90 rfl Try.sizeOf40 (hf.eval rfl) rfl) ?_; clear hf a; intro a hf
  refine Z.val hf rfl (Z.r_loadB Try.isAgg40 (hf.eval rfl) hb50 rfl) ?_; clear hf a; intro a hf
  refine Z.val hf rfl (Z.r_assign (hf.eval rfl)) ?_; clear hf a; intro a hf
  have hq56 : Z.Ch [g25] w12 w46 := hc30.then hc51 (by simp) (by simp)
  have hb57 := hb15.ch hq56 (by simp only [List.mem_cons, List.mem_append, List.not_mem_nil, or_false, not_or, not_false_eq_true, and_true] <;> omega)
  refine Z.st_store hf hb57 rfl rfl Try.sizeOf35 rfl rfl rfl (by simp [Value.oneCell']) rfl ?_; clear hf a; intro w58 a hz59 hb60 hc61 hf
  refine Z.done ?_
  refine hn54 _ _ ?_
  replace hf : Z.Fr a 17 [{ target := .fn (.func 36) #[], args := List.toArray [.pointer (some ⟨g11, 0, none⟩)] }] [(4, .slice A47 ((([] : List UInt8) ++ Codec.encMsg x).length) c48), (5, .pointer (some ⟨g11, 0, none⟩))] := hf.keep [4, 5]
  refine wp_ret ?_
  refine Z.retd hf cf36 (caught_ret (g11) w58) ?_; rintro _ w62 ⟨rfl, hc63⟩
  have hzhc63 := hc63.size
  have hq64 : Z.Ch [g11] w46 w62 := hc61.then hc63 (by simp) (by simp)
  have hr65 : (Z.Ty.slice Z.Ty.byte).rep w62 (Z.iv w26.heap.size w46.heap.size) [.slice A47 ((([] : List UInt8) ++ Codec.encMsg x).length) c48] (([] : List UInt8) ++ Codec.encMsg x) := Z.rep_to hr49 hq64 (by intro b h1 h2; (try simp only [Z.nt, Z.iv, Z.no, Z.ol, List.mem_cons, List.not_mem_nil, or_false, not_or, not_false_eq_true] at h1); (try simp only [Z.nt, Z.iv, Z.no, Z.ol, List.mem_cons, List.mem_append, List.not_mem_nil, or_false, not_or, not_false_eq_true, true_and, and_true]) <;> omega)
  have hr66 : (Z.Ty.slice Z.Ty.byte).rep w62 (Z.iv w.heap.size w62.heap.size) [.slice A47 ((([] : List UInt8) ++ Codec.encMsg x).length) c48] (([] : List UInt8) ++ Codec.encMsg x) := Z.rep_as hr65 (by intro b h1 h2; (try simp only [Z.nt, Z.iv, Z.no, Z.ol] at h1); (try simp only [Z.iv]); omega)
  have hxs67 : ([] : List UInt8) ++ Codec.encMsg x = (Codec.encMsg x : List UInt8) := by first | rfl | (simp; done)
  have hr68 := Z.rep_eq hr66 hxs67
  replace hf := hf.setv (d := 4) (y := .slice A47 ((Codec.encMsg x).length) c48) rfl (by rw [← hxs67] <;> first | done | rfl)
  have hb69 := hb60.ch0 hc63
  refine ⟨_, rfl, _, Z.res_tmp_cell hf Try.results20 rfl rfl Try.isAgg35 hb69 rfl, ?_⟩
  have hq70 : Z.Ch [g25] w w46 := hq39.then hc51 (by simp) (by simp)
  have hq71 : Z.Ch [g25, g11] w w58 := hq70.then hc61 (by simp) (by simp)
  have hq72 : Z.Ch [g25, g11] w w62 := hq71.then hc63 (by simp) (by simp)
  exact ⟨A47, c48, rfl, hr68, (Z.Ch.mono hq72 (by intro k hk; (try simp only [List.mem_cons, List.mem_append, List.not_mem_nil, or_false, false_or] at hk ⊢) <;> omega))⟩

set_option maxHeartbeats 400000 in
set_option maxRecDepth 20000 in
theorem Msg_spec (x : (Int × Int × (Int × Int) × (Int × Int × (Int × Int × Int × Int)) × (List (Int × ByteArray)) × (List ((Int × Int) × (Int × Int × (Int × Int × Int × Int)) × Int)) × ((List Int) × (List (Int × Int × (List Int) × (Int × Int × ByteArray) × ByteArray × Int × Int)) × (List (Int × Int × Int × Int × (Int × Int × ByteArray)))) × Int × (List (Int × Int × ByteArray × Int)) × Bool × Int)) (w : World) (pA0 : Option Addr) (pc0 : Nat) (pA1 : Option Addr) (pc1 : Nat) (pA2 : Option Addr) (pc2 : Nat) (pA3 : Option Addr) (pc3 : Nat) (pA4 : Option Addr) (pc4 : Nat) (pA5 : Option Addr) (pc5 : Nat) (ph0 : (Z.Ty.slice (Z.Ty.pair (Z.Ty.int .i64) Z.Ty.str)).rep w (Z.nt []) [.slice pA0 x.2.2.2.2.1.length pc0] x.2.2.2.2.1) (ph1 : (Z.Ty.slice (Z.Ty.pair (Z.Ty.pair (Z.Ty.int .i64) (Z.Ty.int .i64)) (Z.Ty.pair (Z.Ty.pair (Z.Ty.int .i64) (Z.Ty.pair (Z.Ty.int .i64) (Z.Ty.pair (Z.Ty.int .i64) (Z.Ty.pair (Z.Ty.int .i64) (Z.Ty.pair (Z.Ty.int .i64) (Z.Ty.int .i64)))))) (Z.Ty.int .i64)))).rep w (Z.nt []) [.slice pA1 x.2.2.2.2.2.1.length pc1] x.2.2.2.2.2.1) (ph2 : (Z.Ty.slice (Z.Ty.int .i64)).rep w (Z.nt []) [.slice pA2 x.2.2.2.2.2.2.1.1.length pc2] x.2.2.2.2.2.2.1.1) (ph3 : (Z.Ty.slice (Z.Ty.pair (Z.Ty.int .i64) (Z.Ty.pair (Z.Ty.int .i64) (Z.Ty.pair (Z.Ty.slice (Z.Ty.int .i64)) (Z.Ty.pair (Z.Ty.pair (Z.Ty.int .i64) (Z.Ty.pair (Z.Ty.int .i64) Z.Ty.str)) (Z.Ty.pair Z.Ty.str (Z.Ty.pair (Z.Ty.int .i64) (Z.Ty.int .i64)))))))).rep w (Z.nt []) [.slice pA3 x.2.2.2.2.2.2.1.2.1.length pc3] x.2.2.2.2.2.2.1.2.1) (ph4 : (Z.Ty.slice (Z.Ty.pair (Z.Ty.int .i64) (Z.Ty.pair (Z.Ty.int .i64) (Z.Ty.pair (Z.Ty.int .i64) (Z.Ty.pair (Z.Ty.int .i64) (Z.Ty.pair (Z.Ty.int .i64) (Z.Ty.pair (Z.Ty.int .i64) Z.Ty.str))))))).rep w (Z.nt []) [.slice pA4 x.2.2.2.2.2.2.1.2.2.length pc4] x.2.2.2.2.2.2.1.2.2) (ph5 : (Z.Ty.slice (Z.Ty.pair (Z.Ty.int .i64) (Z.Ty.pair (Z.Ty.int .i64) (Z.Ty.pair Z.Ty.str (Z.Ty.int .i64))))).rep w (Z.nt []) [.slice pA5 x.2.2.2.2.2.2.2.2.1.length pc5] x.2.2.2.2.2.2.2.2.1) (pk6 : Z.Ty.ok (Z.Ty.pair (Z.Ty.int .i64) (Z.Ty.pair (Z.Ty.int .i64) (Z.Ty.pair (Z.Ty.pair (Z.Ty.int .i64) (Z.Ty.int .i64)) (Z.Ty.pair (Z.Ty.pair (Z.Ty.int .i64) (Z.Ty.pair (Z.Ty.int .i64) (Z.Ty.pair (Z.Ty.int .i64) (Z.Ty.pair (Z.Ty.int .i64) (Z.Ty.pair (Z.Ty.int .i64) (Z.Ty.int .i64)))))) (Z.Ty.pair (Z.Ty.slice (Z.Ty.pair (Z.Ty.int .i64) Z.Ty.str)) (Z.Ty.pair (Z.Ty.slice (Z.Ty.pair (Z.Ty.pair (Z.Ty.int .i64) (Z.Ty.int .i64)) (Z.Ty.pair (Z.Ty.pair (Z.Ty.int .i64) (Z.Ty.pair (Z.Ty.int .i64) (Z.Ty.pair (Z.Ty.int .i64) (Z.Ty.pair (Z.Ty.int .i64) (Z.Ty.pair (Z.Ty.int .i64) (Z.Ty.int .i64)))))) (Z.Ty.int .i64)))) (Z.Ty.pair (Z.Ty.pair (Z.Ty.slice (Z.Ty.int .i64)) (Z.Ty.pair (Z.Ty.slice (Z.Ty.pair (Z.Ty.int .i64) (Z.Ty.pair (Z.Ty.int .i64) (Z.Ty.pair (Z.Ty.slice (Z.Ty.int .i64)) (Z.Ty.pair (Z.Ty.pair (Z.Ty.int .i64) (Z.Ty.pair (Z.Ty.int .i64) Z.Ty.str)) (Z.Ty.pair Z.Ty.str (Z.Ty.pair (Z.Ty.int .i64) (Z.Ty.int .i64)))))))) (Z.Ty.slice (Z.Ty.pair (Z.Ty.int .i64) (Z.Ty.pair (Z.Ty.int .i64) (Z.Ty.pair (Z.Ty.int .i64) (Z.Ty.pair (Z.Ty.int .i64) (Z.Ty.pair (Z.Ty.int .i64) (Z.Ty.pair (Z.Ty.int .i64) Z.Ty.str))))))))) (Z.Ty.pair (Z.Ty.int .i64) (Z.Ty.pair (Z.Ty.slice (Z.Ty.pair (Z.Ty.int .i64) (Z.Ty.pair (Z.Ty.int .i64) (Z.Ty.pair Z.Ty.str (Z.Ty.int .i64))))) (Z.Ty.pair Z.Ty.bool (Z.Ty.int .i64))))))))))) x) (hb : (Codec.encMsg x).length ≤ 70368744177664) (hg : Codec.gMsg x) :
    Calls Try.prog 8 #[.agg #[.int .i64 x.1, .int .i64 x.2.1, .int .i64 x.2.2.1.1, .int .i64 x.2.2.1.2, .int .i64 x.2.2.2.1.1, .int .i64 x.2.2.2.1.2.1, .int .i64 x.2.2.2.1.2.2.1, .int .i64 x.2.2.2.1.2.2.2.1, .int .i64 x.2.2.2.1.2.2.2.2.1, .int .i64 x.2.2.2.1.2.2.2.2.2, .slice pA0 x.2.2.2.2.1.length pc0, .slice pA1 x.2.2.2.2.2.1.length pc1, .slice pA2 x.2.2.2.2.2.2.1.1.length pc2, .slice pA3 x.2.2.2.2.2.2.1.2.1.length pc3, .slice pA4 x.2.2.2.2.2.2.1.2.2.length pc4, .int .i64 x.2.2.2.2.2.2.2.1, .slice pA5 x.2.2.2.2.2.2.2.2.1.length pc5, .bool x.2.2.2.2.2.2.2.2.2.1, .int .i64 x.2.2.2.2.2.2.2.2.2.2]] w fun e w' => ∃ (rA0 : Option Addr) (rc0 : Nat), e = .returned (.tuple #[.slice rA0 (Codec.encMsg x).length rc0, .int .i64 0]) ∧ (Z.Ty.slice Z.Ty.byte).rep w' (Z.iv w.heap.size w'.heap.size) [.slice rA0 (Codec.encMsg x).length rc0] (Codec.encMsg x) ∧ Z.Ch [] w w' := by
  refine Z.enter Try.func8 rfl Try.ntmps8 (Nat.le_of_ble_eq_true rfl) fun a hf => ?_
  replace hf : Z.Fr a 8 [] [(0, .agg #[.int .i64 x.1, .int .i64 x.2.1, .int .i64 x.2.2.1.1, .int .i64 x.2.2.1.2, .int .i64 x.2.2.2.1.1, .int .i64 x.2.2.2.1.2.1, .int .i64 x.2.2.2.1.2.2.1, .int .i64 x.2.2.2.1.2.2.2.1, .int .i64 x.2.2.2.1.2.2.2.2.1, .int .i64 x.2.2.2.1.2.2.2.2.2, .slice pA0 x.2.2.2.2.1.length pc0, .slice pA1 x.2.2.2.2.2.1.length pc1, .slice pA2 x.2.2.2.2.2.2.1.1.length pc2, .slice pA3 x.2.2.2.2.2.2.1.2.1.length pc3, .slice pA4 x.2.2.2.2.2.2.1.2.2.length pc4, .int .i64 x.2.2.2.2.2.2.2.1, .slice pA5 x.2.2.2.2.2.2.2.2.1.length pc5, .bool x.2.2.2.2.2.2.2.2.2.1, .int .i64 x.2.2.2.2.2.2.2.2.2.2])] := hf
  have hle_pA0 := Z.rep_le ph0
  have ph0o := Z.rep_ol ph0
  have hle_pA1 := Z.rep_le ph1
  have ph1o := Z.rep_ol ph1
  have hle_pA2 := Z.rep_le ph2
  have ph2o := Z.rep_ol ph2
  have hle_pA3 := Z.rep_le ph3
  have ph3o := Z.rep_ol ph3
  have hle_pA4 := Z.rep_le ph4
  have ph4o := Z.rep_ol ph4
  have hle_pA5 := Z.rep_le ph5
  have ph5o := Z.rep_ol ph5
  refine Z.seq' (Z.Pq.body _ _ _) fun Q1 hp2 hn3 he4 => ?_
  refine Z.reg ?_
  refine Z.st_box hf rfl rfl rfl ?_; clear hf a; intro g5 w6 a hg7 hz8 hb9 hc10 hf
  refine Z.val hf rfl (Z.r_assign (hf.eval rfl)) ?_; clear hf a; intro a hf
  refine Z.val hf rfl (Z.r_assign (hf.eval rfl)) ?_; clear hf a; intro a hf
  refine Z.done ?_
  refine hn3 _ _ ?_
  replace hf : Z.Fr a 8 [] [(1, .pointer (some ⟨g5, 0, none⟩))] := hf.keep [1]
  refine Z.seq' (Z.Pq.body _ _ _) fun Q11 hp12 hn13 he14 => ?_
  refine Z.reg ?_
  refine Z.val hf rfl (Z.r_loadBN Try.isAgg37 Try.sizeOf37 (hf.eval rfl) hb9 rfl rfl) ?_; clear hf a; intro a hf
  have hr15 : (Z.Ty.slice (Z.Ty.pair (Z.Ty.int .i64) Z.Ty.str)).rep w6 (Z.nt []) [.slice pA0 x.2.2.2.2.1.length pc0] x.2.2.2.2.1 := Z.rep_to ph0o hc10 (by intro b h1 h2; (try simp only [Z.nt, Z.iv, Z.no, Z.ol, List.mem_cons, List.not_mem_nil, or_false, not_or, not_false_eq_true] at h1); (try simp only [Z.nt, Z.iv, Z.no, Z.ol, List.mem_cons, List.mem_append, List.not_mem_nil, or_false, not_or, not_false_eq_true, true_and, and_true]) <;> omega)
  have hr16 : (Z.Ty.slice (Z.Ty.pair (Z.Ty.pair (Z.Ty.int .i64) (Z.Ty.int .i64)) (Z.Ty.pair (Z.Ty.pair (Z.Ty.int .i64) (Z.Ty.pair (Z.Ty.int .i64) (Z.Ty.pair (Z.Ty.int .i64) (Z.Ty.pair (Z.Ty.int .i64) (Z.Ty.pair (Z.Ty.int .i64) (Z.Ty.int .i64)))))) (Z.Ty.int .i64)))).rep w6 (Z.nt []) [.slice pA1 x.2.2.2.2.2.1.length pc1] x.2.2.2.2.2.1 := Z.rep_to ph1o hc10 (by intro b h1 h2; (try simp only [Z.nt, Z.iv, Z.no, Z.ol, List.mem_cons, List.not_mem_nil, or_false, not_or, not_false_eq_true] at h1); (try simp only [Z.nt, Z.iv, Z.no, Z.ol, List.mem_cons, List.mem_append, List.not_mem_nil, or_false, not_or, not_false_eq_true, true_and, and_true]) <;> omega)
  have hr17 : (Z.Ty.slice (Z.Ty.int .i64)).rep w6 (Z.nt []) [.slice pA2 x.2.2.2.2.2.2.1.1.length pc2] x.2.2.2.2.2.2.1.1 := Z.rep_to ph2o hc10 (by intro b h1 h2; (try simp only [Z.nt, Z.iv, Z.no, Z.ol, List.mem_cons, List.not_mem_nil, or_false, not_or, not_false_eq_true] at h1); (try simp only [Z.nt, Z.iv, Z.no, Z.ol, List.mem_cons, List.mem_append, List.not_mem_nil, or_false, not_or, not_false_eq_true, true_and, and_true]) <;> omega)
  have hr18 : (Z.Ty.slice (Z.Ty.pair (Z.Ty.int .i64) (Z.Ty.pair (Z.Ty.int .i64) (Z.Ty.pair (Z.Ty.slice (Z.Ty.int .i64)) (Z.Ty.pair (Z.Ty.pair (Z.Ty.int .i64) (Z.Ty.pair (Z.Ty.int .i64) Z.Ty.str)) (Z.Ty.pair Z.Ty.str (Z.Ty.pair (Z.Ty.int .i64) (Z.Ty.int .i64)))))))).rep w6 (Z.nt []) [.slice pA3 x.2.2.2.2.2.2.1.2.1.length pc3] x.2.2.2.2.2.2.1.2.1 := Z.rep_to ph3o hc10 (by intro b h1 h2; (try simp only [Z.nt, Z.iv, Z.no, Z.ol, List.mem_cons, List.not_mem_nil, or_false, not_or, not_false_eq_true] at h1); (try simp only [Z.nt, Z.iv, Z.no, Z.ol, List.mem_cons, List.mem_append, List.not_mem_nil, or_false, not_or, not_false_eq_true, true_and, and_true]) <;> omega)
  have hr19 : (Z.Ty.slice (Z.Ty.pair (Z.Ty.int .i64) (Z.Ty.pair (Z.Ty.int .i64) (Z.Ty.pair (Z.Ty.int .i64) (Z.Ty.pair (Z.Ty.int .i64) (Z.Ty.pair (Z.Ty.int .i64) (Z.Ty.pair (Z.Ty.int .i64) Z.Ty.str))))))).rep w6 (Z.nt []) [.slice pA4 x.2.2.2.2.2.2.1.2.2.length pc4] x.2.2.2.2.2.2.1.2.2 := Z.rep_to ph4o hc10 (by intro b h1 h2; (try simp only [Z.nt, Z.iv, Z.no, Z.ol, List.mem_cons, List.not_mem_nil, or_false, not_or, not_false_eq_true] at h1); (try simp only [Z.nt, Z.iv, Z.no, Z.ol, List.mem_cons, List.mem_append, List.not_mem_nil, or_false, not_or, not_false_eq_true, true_and, and_true]) <;> omega)
  have hr20 : (Z.Ty.slice (Z.Ty.pair (Z.Ty.int .i64) (Z.Ty.pair (Z.Ty.int .i64) (Z.Ty.pair Z.Ty.str (Z.Ty.int .i64))))).rep w6 (Z.nt []) [.slice pA5 x.2.2.2.2.2.2.2.2.1.length pc5] x.2.2.2.2.2.2.2.2.1 := Z.rep_to ph5o hc10 (by intro b h1 h2; (try simp only [Z.nt, Z.iv, Z.no, Z.ol, List.mem_cons, List.not_mem_nil, or_false, not_or, not_false_eq_true] at h1); (try simp only [Z.nt, Z.iv, Z.no, Z.ol, List.mem_cons, List.mem_append, List.not_mem_nil, or_false, not_or, not_false_eq_true, true_and, and_true]) <;> omega)
  have hcall := written_msg (x) w6 (pA0) (pc0) (pA1) (pc1) (pA2) (pc2) (pA3) (pc3) (pA4) (pc4) (pA5) (pc5) hr15 hr16 hr17 hr18 hr19 hr20 pk6 (by omega) (by assumption)
  refine Z.call1 hf rfl (Z.r_call cf20 hf (xs := [.func 21, .tmp 4]) rfl) hcall ?_; clear hcall hf a
  rintro _ w21 ⟨A22, c23, rfl, hr24, hc25⟩
  have hzhc25 := hc25.size
  refine ⟨_, rfl, ?_⟩; intro a hf
  refine Z.val hf rfl (Z.r_extract (hf.eval rfl) rfl) ?_; clear hf a; intro a hf
  refine Z.val hf rfl (Z.r_extract (hf.eval rfl) rfl) ?_; clear hf a; intro a hf
  refine Z.val hf rfl (Z.r_assign (hf.eval rfl)) ?_; clear hf a; intro a hf
  refine Z.val hf rfl (Z.r_assign (hf.eval rfl)) ?_; clear hf a; intro a hf
  refine Z.done ?_
  refine hn13 _ _ ?_
  replace hf : Z.Fr a 8 [] [(2, .slice A22 ((Codec.encMsg x).length) c23), (3, .int .i64 0)] := hf.keep [2, 3]
  refine wp_ret ?_
  have hr26 : (Z.Ty.slice Z.Ty.byte).rep w21 (Z.iv w.heap.size w21.heap.size) [.slice A22 ((Codec.encMsg x).length) c23] (Codec.encMsg x) := Z.rep_as hr24 (by intro b h1 h2; (try simp only [Z.nt, Z.iv, Z.no, Z.ol] at h1); (try simp only [Z.iv]); omega)
  have hq27 : Z.Ch [] w w21 := hc10.then hc25 (by simp) (by simp)
  refine Z.ret2 hf Try.results8 rfl rfl ?_
  exact ⟨A22, c23, rfl, hr26, hq27⟩

set_option maxHeartbeats 400000 in
set_option maxRecDepth 20000 in
theorem Entries1_spec (b : List UInt8) (g : Nat) (xs : List (Int × Int × ByteArray × Int)) (w : World) (pA0 : Option Addr) (pc0 : Nat) (pA1 : Option Addr) (pc1 : Nat) (ph0 : (Z.Ty.slice Z.Ty.byte).rep w (Z.nt [g]) [.slice pA0 b.length pc0] b) (pb1 : Z.Blk w g 90 [.slice pA0 b.length pc0]) (ph1 : (Z.Ty.slice (Z.Ty.pair (Z.Ty.int .i64) (Z.Ty.pair (Z.Ty.int .i64) (Z.Ty.pair Z.Ty.str (Z.Ty.int .i64))))).rep w (Z.nt [g]) [.slice pA1 xs.length pc1] xs) (hb : b.length + (Codec.encList Codec.encEntry xs).length ≤ 70368744177664) (hl : xs.length ≤ 65536) (he : ∀ a ∈ xs, Codec.gEntry a) :
    Calls Try.prog 33 #[.pointer (some ⟨g, 0, none⟩), .slice pA1 xs.length pc1] w fun e w' => ∃ (rA0 : Option Addr) (rc0 : Nat), e = .returned (.tuple #[]) ∧ (Z.Ty.slice Z.Ty.byte).rep w' (Z.iv w.heap.size w'.heap.size) [.slice rA0 (b ++ Codec.encList Codec.encEntry xs).length rc0] (b ++ Codec.encList Codec.encEntry xs) ∧ Z.Blk w' g 90 [.slice rA0 (b ++ Codec.encList Codec.encEntry xs).length rc0] ∧ Z.Ch [g] w w' := by
  refine Z.enter Try.func33 rfl Try.ntmps33 (Nat.le_of_ble_eq_true rfl) fun a hf => ?_
  replace hf : Z.Fr a 9 [] [(0, .pointer (some ⟨g, 0, none⟩)), (1, .slice pA1 xs.length pc1)] := hf
  have hlt_g := pb1.lt
  have hle_pA1 := Z.rep_le ph1
  have ph1o := Z.rep_ol ph1
  have hle_pA0 := Z.rep_le ph0
  have ph0o := Z.rep_ol ph0
  refine Z.reg ?_
  refine Z.val hf rfl (Z.r_move (hf.eval rfl)) ?_; clear hf a; intro a hf
  refine Z.val hf rfl (Z.r_move (hf.eval rfl)) ?_; clear hf a; intro a hf
  refine Z.val hf rfl (Z.r_move (hf.eval rfl)) ?_; clear hf a; intro a hf
  refine Z.val hf rfl (Z.r_makeFunc' hf (xs := [.tmp 6]) (ys := []) rfl rfl) ?_; clear hf a; intro a hf
  have hr1 : (Z.Ty.slice Z.Ty.byte).rep w (Z.nt [g]) [.slice pA0 b.length pc0] b := Z.rep_to ph0o (Z.Ch.refl w) (by intro b h1 h2; (try simp only [Z.nt, Z.iv, Z.no, Z.ol, List.mem_cons, List.not_mem_nil, or_false, not_or, not_false_eq_true] at h1); (try simp only [Z.nt, Z.iv, Z.no, Z.ol, List.mem_cons, List.mem_append, List.not_mem_nil, or_false, not_or, not_false_eq_true, true_and, and_true]) <;> omega)
  have hr2 : (Z.Ty.slice (Z.Ty.pair (Z.Ty.int .i64) (Z.Ty.pair (Z.Ty.int .i64) (Z.Ty.pair Z.Ty.str (Z.Ty.int .i64))))).rep w (Z.nt [g]) [.slice pA1 xs.length pc1] xs := Z.rep_to ph1o (Z.Ch.refl w) (by intro b h1 h2; (try simp only [Z.nt, Z.iv, Z.no, Z.ol, List.mem_cons, List.not_mem_nil, or_false, not_or, not_false_eq_true] at h1); (try simp only [Z.nt, Z.iv, Z.no, Z.ol, List.mem_cons, List.mem_append, List.not_mem_nil, or_false, not_or, not_false_eq_true, true_and, and_true]) <;> omega)
  have hcall := p_entries (b) (g) (xs) w (pA0) (pc0) (pA1) (pc1) hr1 pb1 hr2 (by first | omega | (simp only [List.length_append, List.flatMap_cons, List.flatMap_nil, List.flatten_cons, List.flatten_nil, List.length_nil, List.append_nil]; omega)) (by assumption) (by assumption)
  refine Z.call1 hf rfl (Z.r_call cf34 hf (xs := [.tmp 4, .tmp 5, .tmp 7]) rfl) hcall ?_; clear hcall hf a
  rintro _ w3 ⟨A4, c5, rfl, hr6, hb7, hc8⟩
  have hzhc8 := hc8.size
  refine ⟨_, rfl, ?_⟩; intro a hf
  refine Z.done ?_
  have hr9 : (Z.Ty.slice Z.Ty.byte).rep w3 (Z.iv w.heap.size w3.heap.size) [.slice A4 ((b ++ Codec.encList Codec.encEntry xs).length) c5] (b ++ Codec.encList Codec.encEntry xs) := Z.rep_as hr6 (by intro b h1 h2; (try simp only [Z.nt, Z.iv, Z.no, Z.ol] at h1); (try simp only [Z.iv]); omega)
  refine Z.end0 hf Try.results33 ?_
  exact ⟨A4, c5, rfl, hr9, hb7, hc8⟩

set_option maxHeartbeats 400000 in
set_option maxRecDepth 20000 in
theorem written_entries (xs : List (Int × Int × ByteArray × Int)) (w : World) (pA0 : Option Addr) (pc0 : Nat) (ph0 : (Z.Ty.slice (Z.Ty.pair (Z.Ty.int .i64) (Z.Ty.pair (Z.Ty.int .i64) (Z.Ty.pair Z.Ty.str (Z.Ty.int .i64))))).rep w (Z.nt []) [.slice pA0 xs.length pc0] xs) (hb : (Codec.encList Codec.encEntry xs).length ≤ 70368744177664) (hl : xs.length ≤ 65536) (he : ∀ a ∈ xs, Codec.gEntry a) :
    Calls Try.prog 32 #[.func (.func 33) #[] #[], .slice pA0 xs.length pc0] w fun e w' => ∃ (rA0 : Option Addr) (rc0 : Nat), e = .returned (.tuple #[.slice rA0 (Codec.encList Codec.encEntry xs).length rc0, .int .i64 0]) ∧ (Z.Ty.slice Z.Ty.byte).rep w' (Z.iv w.heap.size w'.heap.size) [.slice rA0 (Codec.encList Codec.encEntry xs).length rc0] (Codec.encList Codec.encEntry xs) ∧ Z.Ch [] w w' := by
  refine Z.enterDf Try.func32 rfl Try.ntmps32 (Nat.le_of_ble_eq_true rfl) fun a hf => ?_
  replace hf : Z.Fr a 17 [] [(0, .func (.func 33) #[] #[]), (1, .slice pA0 xs.length pc0)] := hf
  have hle_pA0 := Z.rep_le ph0
  have ph0o := Z.rep_ol ph0
  refine Z.seqn fun Q1 hn3 he4 => ?_
  refine Z.reg ?_
  refine Z.val hf rfl (Z.r_assign (hf.eval rfl)) ?_; clear hf a; intro a hf
  refine Z.st_alloc hf rfl Try.zeroValue35 rfl ?_; clear hf a; intro g5 w6 a hg7 hz8 hb9 hc10 hf
  refine Z.done ?_
  refine hn3 _ _ ?_
  replace hf : Z.Fr a 17 [] [(0, .func (.func 33) #[] #[]), (1, .slice pA0 xs.length pc0), (5, .pointer (some ⟨g5, 0, none⟩))] := hf.keep [0, 1, 5]
  refine Z.seqn fun Q11 hn13 he14 => ?_
  refine Z.reg ?_
  refine Z.defer hf (Z.r_defer hf (xs := [.tmp 5]) rfl) ?_; clear hf a; intro a hf
  refine Z.done ?_
  refine hn13 _ _ ?_
  replace hf : Z.Fr a 17 [{ target := .fn (.func 36) #[], args := List.toArray [.pointer (some ⟨g5, 0, none⟩)] }] [(0, .func (.func 33) #[] #[]), (1, .slice pA0 xs.length pc0), (5, .pointer (some ⟨g5, 0, none⟩))] := hf.keep [0, 1, 5]
  refine Z.seqn fun Q15 hn17 he18 => ?_
  refine Z.reg ?_
  refine Z.val hf rfl (Z.r_build hf Try.underlying90 Try.zeroValue90 (parts := []) rfl (pl := #[(0, 1)]) (fun _ => by kernel_rfl) rfl) ?_; clear hf a; intro a hf
  refine Z.st_box hf rfl rfl rfl ?_; clear hf a; intro g19 w20 a hg21 hz22 hb23 hc24 hf
  refine Z.val hf rfl (Z.r_assign (hf.eval rfl)) ?_; clear hf a; intro a hf
  refine Z.done ?_
  refine hn17 _ _ ?_
  replace hf : Z.Fr a 17 [{ target := .fn (.func 36) #[], args := List.toArray [.pointer (some ⟨g5, 0, none⟩)] }] [(0, .func (.func 33) #[] #[]), (1, .slice pA0 xs.length pc0), (5, .pointer (some ⟨g5, 0, none⟩)), (6, .pointer (some ⟨g19, 0, none⟩))] := hf.keep [0, 1, 5, 6]
  refine Z.seqn fun Q25 hn27 he28 => ?_
  refine Z.reg ?_
  refine Z.val hf rfl (Z.r_move (hf.eval rfl)) ?_; clear hf a; intro a hf
  refine Z.val hf rfl (Z.r_move (hf.eval rfl)) ?_; clear hf a; intro a hf
  refine Z.val hf rfl (Z.r_move (hf.eval rfl)) ?_; clear hf a; intro a hf
  have hr29 : (Z.Ty.slice Z.Ty.byte).rep w20 (Z.nt [g19]) [.slice none 0 0] [] := Z.rep_nil _
  have hq30 : Z.Ch [] w w20 := hc10.then hc24 (by simp) (by simp)
  have hr31 : (Z.Ty.slice (Z.Ty.pair (Z.Ty.int .i64) (Z.Ty.pair (Z.Ty.int .i64) (Z.Ty.pair Z.Ty.str (Z.Ty.int .i64))))).rep w20 (Z.nt [g19]) [.slice pA0 xs.length pc0] xs := Z.rep_to ph0o hq30 (by intro b h1 h2; (try simp only [Z.nt, Z.iv, Z.no, Z.ol, List.mem_cons, List.not_mem_nil, or_false, not_or, not_false_eq_true] at h1); (try simp only [Z.nt, Z.iv, Z.no, Z.ol, List.mem_cons, List.mem_append, List.not_mem_nil, or_false, not_or, not_false_eq_true, true_and, and_true]) <;> omega)
  have hcall := Entries1_spec (([] : List UInt8)) (g19) (xs) w20 (none) (0) (pA0) (pc0) hr29 hb23 hr31 (by simpa using hb) (by assumption) (by assumption)
  refine Z.call1 hf rfl (Z.r_callv cf33 hf (first := []) (cap := []) (xs := [.tmp 10, .tmp 11]) rfl rfl) hcall ?_; clear hcall hf a
  rintro _ w32 ⟨A33, c34, rfl, hr35, hb36, hc37⟩
  have hzhc37 := hc37.size
  refine ⟨_, rfl, ?_⟩; intro a hf
  refine Z.done ?_
  refine hn27 _ _ ?_
  replace hf : Z.Fr a 17 [{ target := .fn (.func 36) #[], args := List.toArray [.pointer (some ⟨g5, 0, none⟩)] }] [(5, .pointer (some ⟨g5, 0, none⟩)), (6, .pointer (some ⟨g19, 0, none⟩))] := hf.keep [5, 6]
  refine Z.seqn fun Q38 hn40 he41 => ?_
  refine Z.reg ?_
  refine Z.val hf rfl (Z.r_move (hf.eval rfl)) ?_; clear hf a; intro a hf
  refine Z.val hf rfl (Z.r_nilCheck (hf.eval rfl)) ?_; clear hf a; intro a hf
  refine Z.val hf rfl (Z.r_fieldAddrB Try.underlying90 rfl Try.sizeOf40 (hf.eval rfl) rfl) ?_; clear hf a; intro a hf
  refine Z.val hf rfl (Z.r_loadB Try.isAgg40 (hf.eval rfl) hb36 rfl) ?_; clear hf a; intro a hf
  refine Z.val hf rfl (Z.r_assign (hf.eval rfl)) ?_; clear hf a; intro a hf
  have hq42 : Z.Ch [g19] w6 w32 := hc24.then hc37 (by simp) (by simp)
  have hb43 := hb9.ch hq42 (by simp only [List.mem_cons, List.mem_append, List.not_mem_nil, or_false, not_or, not_false_eq_true, and_true] <;> omega)
  refine Z.st_store hf hb43 rfl rfl Try.sizeOf35 rfl rfl rfl (by simp [Value.oneCell']) rfl ?_; clear hf a; intro w44 a hz45 hb46 hc47 hf
  refine Z.done ?_
  refine hn40 _ _ ?_
  replace hf : Z.Fr a 17 [{ target := .fn (.func 36) #[], args := List.toArray [.pointer (some ⟨g5, 0, none⟩)] }] [(4, .slice A33 ((([] : List UInt8) ++ Codec.encList Codec.encEntry xs).length) c34), (5, .pointer (some ⟨g5, 0, none⟩))] := hf.keep [4, 5]
  refine wp_ret ?_
  refine Z.retd hf cf36 (caught_ret (g5) w44) ?_; rintro _ w48 ⟨rfl, hc49⟩
  have hzhc49 := hc49.size
  have hq50 : Z.Ch [g5] w32 w48 := hc47.then hc49 (by simp) (by simp)
  have hr51 : (Z.Ty.slice Z.Ty.byte).rep w48 (Z.iv w20.heap.size w32.heap.size) [.slice A33 ((([] : List UInt8) ++ Codec.encList Codec.encEntry xs).length) c34] (([] : List UInt8) ++ Codec.encList Codec.encEntry xs) := Z.rep_to hr35 hq50 (by intro b h1 h2; (try simp only [Z.nt, Z.iv, Z.no, Z.ol, List.mem_cons, List.not_mem_nil, or_false, not_or, not_false_eq_true] at h1); (try simp only [Z.nt, Z.iv, Z.no, Z.ol, List.mem_cons, List.mem_append, List.not_mem_nil, or_false, not_or, not_false_eq_true, true_and, and_true]) <;> omega)
  have hr52 : (Z.Ty.slice Z.Ty.byte).rep w48 (Z.iv w.heap.size w48.heap.size) [.slice A33 ((([] : List UInt8) ++ Codec.encList Codec.encEntry xs).length) c34] (([] : List UInt8) ++ Codec.encList Codec.encEntry xs) := Z.rep_as hr51 (by intro b h1 h2; (try simp only [Z.nt, Z.iv, Z.no, Z.ol] at h1); (try simp only [Z.iv]); omega)
  have hxs53 : ([] : List UInt8) ++ Codec.encList Codec.encEntry xs = (Codec.encList Codec.encEntry xs : List UInt8) := by first | rfl | (simp; done)
  have hr54 := Z.rep_eq hr52 hxs53
  replace hf := hf.setv (d := 4) (y := .slice A33 ((Codec.encList Codec.encEntry xs).length) c34) rfl (by rw [← hxs53] <;> first | done | rfl)
  have hb55 := hb46.ch0 hc49
  refine ⟨_, rfl, _, Z.res_tmp_cell hf Try.results32 rfl rfl Try.isAgg35 hb55 rfl, ?_⟩
  have hq56 : Z.Ch [g19] w w32 := hq30.then hc37 (by simp) (by simp)
  have hq57 : Z.Ch [g19, g5] w w44 := hq56.then hc47 (by simp) (by simp)
  have hq58 : Z.Ch [g19, g5] w w48 := hq57.then hc49 (by simp) (by simp)
  exact ⟨A33, c34, rfl, hr54, (Z.Ch.mono hq58 (by intro k hk; (try simp only [List.mem_cons, List.mem_append, List.not_mem_nil, or_false, false_or] at hk ⊢) <;> omega))⟩

set_option maxHeartbeats 400000 in
set_option maxRecDepth 20000 in
theorem Entries_spec (xs : List (Int × Int × ByteArray × Int)) (w : World) (pA0 : Option Addr) (pc0 : Nat) (ph0 : (Z.Ty.slice (Z.Ty.pair (Z.Ty.int .i64) (Z.Ty.pair (Z.Ty.int .i64) (Z.Ty.pair Z.Ty.str (Z.Ty.int .i64))))).rep w (Z.nt []) [.slice pA0 xs.length pc0] xs) (hb : (Codec.encList Codec.encEntry xs).length ≤ 70368744177664) (hl : xs.length ≤ 65536) (he : ∀ a ∈ xs, Codec.gEntry a) :
    Calls Try.prog 18 #[.slice pA0 xs.length pc0] w fun e w' => ∃ (rA0 : Option Addr) (rc0 : Nat), e = .returned (.tuple #[.slice rA0 (Codec.encList Codec.encEntry xs).length rc0, .int .i64 0]) ∧ (Z.Ty.slice Z.Ty.byte).rep w' (Z.iv w.heap.size w'.heap.size) [.slice rA0 (Codec.encList Codec.encEntry xs).length rc0] (Codec.encList Codec.encEntry xs) ∧ Z.Ch [] w w' := by
  refine Z.enter Try.func18 rfl Try.ntmps18 (Nat.le_of_ble_eq_true rfl) fun a hf => ?_
  replace hf : Z.Fr a 8 [] [(0, .slice pA0 xs.length pc0)] := hf
  have hle_pA0 := Z.rep_le ph0
  have ph0o := Z.rep_ol ph0
  refine Z.seq' (Z.Pq.body _ _ _) fun Q1 hp2 hn3 he4 => ?_
  refine Z.reg ?_
  refine Z.val hf rfl (Z.r_assign (hf.eval rfl)) ?_; clear hf a; intro a hf
  refine Z.val hf rfl (Z.r_assign (hf.eval rfl)) ?_; clear hf a; intro a hf
  refine Z.done ?_
  refine hn3 _ _ ?_
  replace hf : Z.Fr a 8 [] [(0, .slice pA0 xs.length pc0)] := hf.keep [0]
  refine Z.seq' (Z.Pq.body _ _ _) fun Q5 hp6 hn7 he8 => ?_
  refine Z.reg ?_
  refine Z.val hf rfl (Z.r_move (hf.eval rfl)) ?_; clear hf a; intro a hf
  have hr9 : (Z.Ty.slice (Z.Ty.pair (Z.Ty.int .i64) (Z.Ty.pair (Z.Ty.int .i64) (Z.Ty.pair Z.Ty.str (Z.Ty.int .i64))))).rep w (Z.nt []) [.slice pA0 xs.length pc0] xs := Z.rep_to ph0o (Z.Ch.refl w) (by intro b h1 h2; (try simp only [Z.nt, Z.iv, Z.no, Z.ol, List.mem_cons, List.not_mem_nil, or_false, not_or, not_false_eq_true] at h1); (try simp only [Z.nt, Z.iv, Z.no, Z.ol, List.mem_cons, List.mem_append, List.not_mem_nil, or_false, not_or, not_false_eq_true, true_and, and_true]) <;> omega)
  have hcall := written_entries (xs) w (pA0) (pc0) hr9 (by omega) (by assumption) (by assumption)
  refine Z.call1 hf rfl (Z.r_call cf32 hf (xs := [.func 33, .tmp 4]) rfl) hcall ?_; clear hcall hf a
  rintro _ w10 ⟨A11, c12, rfl, hr13, hc14⟩
  have hzhc14 := hc14.size
  refine ⟨_, rfl, ?_⟩; intro a hf
  refine Z.val hf rfl (Z.r_extract (hf.eval rfl) rfl) ?_; clear hf a; intro a hf
  refine Z.val hf rfl (Z.r_extract (hf.eval rfl) rfl) ?_; clear hf a; intro a hf
  refine Z.val hf rfl (Z.r_assign (hf.eval rfl)) ?_; clear hf a; intro a hf
  refine Z.val hf rfl (Z.r_assign (hf.eval rfl)) ?_; clear hf a; intro a hf
  refine Z.done ?_
  refine hn7 _ _ ?_
  replace hf : Z.Fr a 8 [] [(2, .slice A11 ((Codec.encList Codec.encEntry xs).length) c12), (3, .int .i64 0)] := hf.keep [2, 3]
  refine wp_ret ?_
  have hr15 : (Z.Ty.slice Z.Ty.byte).rep w10 (Z.iv w.heap.size w10.heap.size) [.slice A11 ((Codec.encList Codec.encEntry xs).length) c12] (Codec.encList Codec.encEntry xs) := Z.rep_as hr13 (by intro b h1 h2; (try simp only [Z.nt, Z.iv, Z.no, Z.ol] at h1); (try simp only [Z.iv]); omega)
  refine Z.ret2 hf Try.results18 rfl rfl ?_
  exact ⟨A11, c12, rfl, hr15, hc14⟩

end Go.Proofs.Ytlhpkogdcgebeaa
