/- The law 'CodecApart' as it is given: whatever the input, the call returns true, and each argument reads behind it as it read before. No condition. -/
import Derived.Test.YtlhpkogdcgebeaaRows
import Derived.Test.YtlhpkogdcgebeaaW4
import Derived.Test.YtlhpkogdcgebeaaZk
import Derived.WalkKit
import Derived.ProofKit
import Derived.OpenShut
import Derived.ChangeOld
import Derived.Below
namespace Go.Proofs.Ytlhpkogdcgebeaa.codecApartDone
open Go.ChangeShapes Go.WideShapes Go.ChangeAt Go.RowKit
set_option linter.unusedVariables false
theorem own : ownKnob Try.prog.godebug = none := by kernel_rfl
theorem laidOut : laidOutB Try.prog = true := by kernel_rfl
theorem ot3 : Z.OpenT Try.prog 3 (Z.Ty.int .i64) := Z.ot_int (by kernel_rfl) Try.underlying3
theorem ot2 : Z.OpenT Try.prog 2 (Z.Ty.int .i64) := Z.ot_int (by kernel_rfl) Try.underlying2
theorem ot23 : Z.OpenT Try.prog 23 (Z.Ty.pair (Z.Ty.int .i64) (Z.Ty.int .i64)) := Z.ot_struct (by kernel_rfl) Try.underlying23 ⟨rfl, ot3, rfl, ot3⟩
theorem ot24 : Z.OpenT Try.prog 24 (Z.Ty.pair (Z.Ty.int .i64) (Z.Ty.pair (Z.Ty.int .i64) (Z.Ty.pair (Z.Ty.int .i64) (Z.Ty.int .i64)))) := Z.ot_array (c := 1) (by kernel_rfl) Try.underlying24 (by kernel_rfl) (show Z.OpenPs _ [(2, 0), (2, 1), (2, 2), (2, 3)] 0 _ from ⟨rfl, ot2, rfl, ot2, rfl, ot2, rfl, ot2⟩)
theorem ot26 : Z.OpenT Try.prog 26 (Z.Ty.pair (Z.Ty.int .i64) (Z.Ty.pair (Z.Ty.int .i64) (Z.Ty.pair (Z.Ty.int .i64) (Z.Ty.pair (Z.Ty.int .i64) (Z.Ty.pair (Z.Ty.int .i64) (Z.Ty.int .i64)))))) := Z.ot_struct (by kernel_rfl) Try.underlying26 ⟨rfl, ot2, rfl, ot3, rfl, ot24⟩
theorem ot9 : Z.OpenT Try.prog 9 Z.Ty.str := Z.ot_str (by kernel_rfl) Try.underlying9
theorem ot60 : Z.OpenT Try.prog 60 (Z.Ty.pair (Z.Ty.int .i64) Z.Ty.str) := Z.ot_struct (by kernel_rfl) Try.underlying60 ⟨rfl, ot2, rfl, ot9⟩
theorem ot27 : Z.OpenT Try.prog 27 (Z.Ty.slice (Z.Ty.pair (Z.Ty.int .i64) Z.Ty.str)) := Z.ot_slice (by kernel_rfl) Try.underlying27 ot60
theorem ot71 : Z.OpenT Try.prog 71 (Z.Ty.pair (Z.Ty.pair (Z.Ty.int .i64) (Z.Ty.int .i64)) (Z.Ty.pair (Z.Ty.pair (Z.Ty.int .i64) (Z.Ty.pair (Z.Ty.int .i64) (Z.Ty.pair (Z.Ty.int .i64) (Z.Ty.pair (Z.Ty.int .i64) (Z.Ty.pair (Z.Ty.int .i64) (Z.Ty.int .i64)))))) (Z.Ty.int .i64))) := Z.ot_struct (by kernel_rfl) Try.underlying71 ⟨rfl, ot23, rfl, ot26, rfl, ot2⟩
theorem ot28 : Z.OpenT Try.prog 28 (Z.Ty.slice (Z.Ty.pair (Z.Ty.pair (Z.Ty.int .i64) (Z.Ty.int .i64)) (Z.Ty.pair (Z.Ty.pair (Z.Ty.int .i64) (Z.Ty.pair (Z.Ty.int .i64) (Z.Ty.pair (Z.Ty.int .i64) (Z.Ty.pair (Z.Ty.int .i64) (Z.Ty.pair (Z.Ty.int .i64) (Z.Ty.int .i64)))))) (Z.Ty.int .i64)))) := Z.ot_slice (by kernel_rfl) Try.underlying28 ot71
theorem ot29 : Z.OpenT Try.prog 29 (Z.Ty.slice (Z.Ty.int .i64)) := Z.ot_slice (by kernel_rfl) Try.underlying29 ot3
theorem ot62 : Z.OpenT Try.prog 62 (Z.Ty.pair (Z.Ty.int .i64) (Z.Ty.pair (Z.Ty.int .i64) Z.Ty.str)) := Z.ot_struct (by kernel_rfl) Try.underlying62 ⟨rfl, ot3, rfl, ot2, rfl, ot9⟩
theorem ot86 : Z.OpenT Try.prog 86 (Z.Ty.pair (Z.Ty.int .i64) (Z.Ty.pair (Z.Ty.int .i64) (Z.Ty.pair (Z.Ty.slice (Z.Ty.int .i64)) (Z.Ty.pair (Z.Ty.pair (Z.Ty.int .i64) (Z.Ty.pair (Z.Ty.int .i64) Z.Ty.str)) (Z.Ty.pair Z.Ty.str (Z.Ty.pair (Z.Ty.int .i64) (Z.Ty.int .i64))))))) := Z.ot_struct (by kernel_rfl) Try.underlying86 ⟨rfl, ot3, rfl, ot3, rfl, ot29, rfl, ot62, rfl, ot9, rfl, ot2, rfl, ot3⟩
theorem ot30 : Z.OpenT Try.prog 30 (Z.Ty.slice (Z.Ty.pair (Z.Ty.int .i64) (Z.Ty.pair (Z.Ty.int .i64) (Z.Ty.pair (Z.Ty.slice (Z.Ty.int .i64)) (Z.Ty.pair (Z.Ty.pair (Z.Ty.int .i64) (Z.Ty.pair (Z.Ty.int .i64) Z.Ty.str)) (Z.Ty.pair Z.Ty.str (Z.Ty.pair (Z.Ty.int .i64) (Z.Ty.int .i64)))))))) := Z.ot_slice (by kernel_rfl) Try.underlying30 ot86
theorem ot64 : Z.OpenT Try.prog 64 (Z.Ty.pair (Z.Ty.int .i64) (Z.Ty.pair (Z.Ty.int .i64) (Z.Ty.pair (Z.Ty.int .i64) (Z.Ty.pair (Z.Ty.int .i64) (Z.Ty.pair (Z.Ty.int .i64) (Z.Ty.pair (Z.Ty.int .i64) Z.Ty.str)))))) := Z.ot_struct (by kernel_rfl) Try.underlying64 ⟨rfl, ot3, rfl, ot3, rfl, ot3, rfl, ot2, rfl, ot62⟩
theorem ot31 : Z.OpenT Try.prog 31 (Z.Ty.slice (Z.Ty.pair (Z.Ty.int .i64) (Z.Ty.pair (Z.Ty.int .i64) (Z.Ty.pair (Z.Ty.int .i64) (Z.Ty.pair (Z.Ty.int .i64) (Z.Ty.pair (Z.Ty.int .i64) (Z.Ty.pair (Z.Ty.int .i64) Z.Ty.str))))))) := Z.ot_slice (by kernel_rfl) Try.underlying31 ot64
theorem ot33 : Z.OpenT Try.prog 33 (Z.Ty.pair (Z.Ty.slice (Z.Ty.int .i64)) (Z.Ty.pair (Z.Ty.slice (Z.Ty.pair (Z.Ty.int .i64) (Z.Ty.pair (Z.Ty.int .i64) (Z.Ty.pair (Z.Ty.slice (Z.Ty.int .i64)) (Z.Ty.pair (Z.Ty.pair (Z.Ty.int .i64) (Z.Ty.pair (Z.Ty.int .i64) Z.Ty.str)) (Z.Ty.pair Z.Ty.str (Z.Ty.pair (Z.Ty.int .i64) (Z.Ty.int .i64)))))))) (Z.Ty.slice (Z.Ty.pair (Z.Ty.int .i64) (Z.Ty.pair (Z.Ty.int .i64) (Z.Ty.pair (Z.Ty.int .i64) (Z.Ty.pair (Z.Ty.int .i64) (Z.Ty.pair (Z.Ty.int .i64) (Z.Ty.pair (Z.Ty.int .i64) Z.Ty.str))))))))) := Z.ot_struct (by kernel_rfl) Try.underlying33 ⟨rfl, ot29, rfl, ot30, rfl, ot31⟩
theorem ot58 : Z.OpenT Try.prog 58 (Z.Ty.pair (Z.Ty.int .i64) (Z.Ty.pair (Z.Ty.int .i64) (Z.Ty.pair Z.Ty.str (Z.Ty.int .i64)))) := Z.ot_struct (by kernel_rfl) Try.underlying58 ⟨rfl, ot3, rfl, ot2, rfl, ot9, rfl, ot2⟩
theorem ot34 : Z.OpenT Try.prog 34 (Z.Ty.slice (Z.Ty.pair (Z.Ty.int .i64) (Z.Ty.pair (Z.Ty.int .i64) (Z.Ty.pair Z.Ty.str (Z.Ty.int .i64))))) := Z.ot_slice (by kernel_rfl) Try.underlying34 ot58
theorem ot4 : Z.OpenT Try.prog 4 Z.Ty.bool := Z.ot_bool (by kernel_rfl) Try.underlying4
theorem ot35 : Z.OpenT Try.prog 35 (Z.Ty.int .i64) := Z.ot_int (by kernel_rfl) Try.underlying35
theorem ot37 : Z.OpenT Try.prog 37 (Z.Ty.pair (Z.Ty.int .i64) (Z.Ty.pair (Z.Ty.int .i64) (Z.Ty.pair (Z.Ty.pair (Z.Ty.int .i64) (Z.Ty.int .i64)) (Z.Ty.pair (Z.Ty.pair (Z.Ty.int .i64) (Z.Ty.pair (Z.Ty.int .i64) (Z.Ty.pair (Z.Ty.int .i64) (Z.Ty.pair (Z.Ty.int .i64) (Z.Ty.pair (Z.Ty.int .i64) (Z.Ty.int .i64)))))) (Z.Ty.pair (Z.Ty.slice (Z.Ty.pair (Z.Ty.int .i64) Z.Ty.str)) (Z.Ty.pair (Z.Ty.slice (Z.Ty.pair (Z.Ty.pair (Z.Ty.int .i64) (Z.Ty.int .i64)) (Z.Ty.pair (Z.Ty.pair (Z.Ty.int .i64) (Z.Ty.pair (Z.Ty.int .i64) (Z.Ty.pair (Z.Ty.int .i64) (Z.Ty.pair (Z.Ty.int .i64) (Z.Ty.pair (Z.Ty.int .i64) (Z.Ty.int .i64)))))) (Z.Ty.int .i64)))) (Z.Ty.pair (Z.Ty.pair (Z.Ty.slice (Z.Ty.int .i64)) (Z.Ty.pair (Z.Ty.slice (Z.Ty.pair (Z.Ty.int .i64) (Z.Ty.pair (Z.Ty.int .i64) (Z.Ty.pair (Z.Ty.slice (Z.Ty.int .i64)) (Z.Ty.pair (Z.Ty.pair (Z.Ty.int .i64) (Z.Ty.pair (Z.Ty.int .i64) Z.Ty.str)) (Z.Ty.pair Z.Ty.str (Z.Ty.pair (Z.Ty.int .i64) (Z.Ty.int .i64)))))))) (Z.Ty.slice (Z.Ty.pair (Z.Ty.int .i64) (Z.Ty.pair (Z.Ty.int .i64) (Z.Ty.pair (Z.Ty.int .i64) (Z.Ty.pair (Z.Ty.int .i64) (Z.Ty.pair (Z.Ty.int .i64) (Z.Ty.pair (Z.Ty.int .i64) Z.Ty.str))))))))) (Z.Ty.pair (Z.Ty.int .i64) (Z.Ty.pair (Z.Ty.slice (Z.Ty.pair (Z.Ty.int .i64) (Z.Ty.pair (Z.Ty.int .i64) (Z.Ty.pair Z.Ty.str (Z.Ty.int .i64))))) (Z.Ty.pair Z.Ty.bool (Z.Ty.int .i64))))))))))) := Z.ot_struct (by kernel_rfl) Try.underlying37 ⟨rfl, ot3, rfl, ot2, rfl, ot23, rfl, ot26, rfl, ot27, rfl, ot28, rfl, ot33, rfl, ot2, rfl, ot34, rfl, ot4, rfl, ot35⟩
set_option maxHeartbeats 1000000 in
set_option maxRecDepth 100000 in
theorem lifted (os : Os) (started : os.Started) (H : Type) (enc : TypeId × Value → H) :
    ReturnsInHanded {} Try.checked os 3 .any (Rows.codecApartSpec.pre6 enc Try.prog Try.f3 Rows.codecApartRow.domain false) (Rows.codecApartSpec.post enc Try.prog Try.f3 false true false false) := by
  refine returnsInHanded_of_change (C := Try.checked) own started (by kernel_rfl) Try.func3
    (ChangeSpec.witness6 (enc := enc) (C := Try.checked) false ⟨#[], #[.agg #[.int .i64 0, .int .i64 0, .int .i64 0, .int .i64 0, .int .i64 0, .int .i64 0, .int .i64 0, .int .i64 0, .int .i64 0, .int .i64 0, .slice none 0 0, .slice none 0 0, .slice none 0 0, .slice none 0 0, .slice none 0 0, .int .i64 0, .slice none 0 0, .bool false, .int .i64 0], .agg #[.int .i64 0, .int .i64 0, .int .i64 0, .int .i64 0, .int .i64 0, .int .i64 0, .int .i64 0, .int .i64 0, .int .i64 0, .int .i64 0, .slice none 0 0, .slice none 0 0, .slice none 0 0, .slice none 0 0, .slice none 0 0, .int .i64 0, .slice none 0 0, .bool false, .int .i64 0]], []⟩ 16 (by kernel_rfl) (by kernel_rfl) (by kernel_rfl) (by kernel_rfl)) ?_
  intro W base args ds gs before hval0 hW hcnd _
  have hval : ∀ (j : Nat) t v, Try.f3.params[j]? = some t → args[j]? = some v → Value.okWide Try.prog W .any base t v := hval0
  have hW' := hW
  obtain ⟨p, q, hA0, hV, rfl, hfz, hnd⟩ := hW
  have hA : DataW.TrodAll enc Try.prog W 0 (fun _ => true) true Try.f3.params.toList args.toList ds p := hA0
  rw [Try.params3] at hA hval
  obtain ⟨v0, vs0, d0, ds0, p0, q0, hargs, rfl, rfl, h0, r0⟩ := trodAll_cons hA
  obtain ⟨v1, vs1, d1, ds1, p1, q1, rfl, rfl, rfl, h1, r1⟩ := trodAll_cons r0
  obtain ⟨rfl, rfl, rfl⟩ := trodAll_nil r1
  obtain rfl : args = #[v0, v1] := by cases args; simp_all
  obtain ⟨rfl, rfl⟩ := trodVars_none hV
  have k0 := h0
  have lt0 : ∀ x ∈ p0, x.block < W.heap.size := by obtain ⟨m, hm⟩ := k0; exact DataW.trod_lt m _ _ _ hm
  obtain ⟨fu0, hf0⟩ := h0
  obtain ⟨x0, hx0⟩ := ot37.2 _ _ _ _ _ _ _ _ _ hf0
  obtain ⟨cs0, rfl, _⟩ := okWide_struct Try.underlying37 (hval 0 37 v0 rfl rfl)
  replace hx0 : (Z.Ty.pair (Z.Ty.int .i64) (Z.Ty.pair (Z.Ty.int .i64) (Z.Ty.pair (Z.Ty.pair (Z.Ty.int .i64) (Z.Ty.int .i64)) (Z.Ty.pair (Z.Ty.pair (Z.Ty.int .i64) (Z.Ty.pair (Z.Ty.int .i64) (Z.Ty.pair (Z.Ty.int .i64) (Z.Ty.pair (Z.Ty.int .i64) (Z.Ty.pair (Z.Ty.int .i64) (Z.Ty.int .i64)))))) (Z.Ty.pair (Z.Ty.slice (Z.Ty.pair (Z.Ty.int .i64) Z.Ty.str)) (Z.Ty.pair (Z.Ty.slice (Z.Ty.pair (Z.Ty.pair (Z.Ty.int .i64) (Z.Ty.int .i64)) (Z.Ty.pair (Z.Ty.pair (Z.Ty.int .i64) (Z.Ty.pair (Z.Ty.int .i64) (Z.Ty.pair (Z.Ty.int .i64) (Z.Ty.pair (Z.Ty.int .i64) (Z.Ty.pair (Z.Ty.int .i64) (Z.Ty.int .i64)))))) (Z.Ty.int .i64)))) (Z.Ty.pair (Z.Ty.pair (Z.Ty.slice (Z.Ty.int .i64)) (Z.Ty.pair (Z.Ty.slice (Z.Ty.pair (Z.Ty.int .i64) (Z.Ty.pair (Z.Ty.int .i64) (Z.Ty.pair (Z.Ty.slice (Z.Ty.int .i64)) (Z.Ty.pair (Z.Ty.pair (Z.Ty.int .i64) (Z.Ty.pair (Z.Ty.int .i64) Z.Ty.str)) (Z.Ty.pair Z.Ty.str (Z.Ty.pair (Z.Ty.int .i64) (Z.Ty.int .i64)))))))) (Z.Ty.slice (Z.Ty.pair (Z.Ty.int .i64) (Z.Ty.pair (Z.Ty.int .i64) (Z.Ty.pair (Z.Ty.int .i64) (Z.Ty.pair (Z.Ty.int .i64) (Z.Ty.pair (Z.Ty.int .i64) (Z.Ty.pair (Z.Ty.int .i64) Z.Ty.str))))))))) (Z.Ty.pair (Z.Ty.int .i64) (Z.Ty.pair (Z.Ty.slice (Z.Ty.pair (Z.Ty.int .i64) (Z.Ty.pair (Z.Ty.int .i64) (Z.Ty.pair Z.Ty.str (Z.Ty.int .i64))))) (Z.Ty.pair Z.Ty.bool (Z.Ty.int .i64))))))))))).rep W (Z.nt []) cs0.toList x0 := hx0
  have hok0 := Z.rep_ok _ hx0
  obtain ⟨ca1, cb2, he3, hr4, hr5⟩ := hx0
  have he6 := hr4.1
  obtain ⟨ca7, cb8, he9, hr10, hr11⟩ := hr5
  have he12 := hr10.1
  obtain ⟨ca13, cb14, he15, hr16, hr17⟩ := hr11
  obtain ⟨ca18, cb19, he20, hr21, hr22⟩ := hr16
  have he23 := hr21.1
  have he24 := hr22.1
  obtain ⟨ca25, cb26, he27, hr28, hr29⟩ := hr17
  obtain ⟨ca30, cb31, he32, hr33, hr34⟩ := hr28
  have he35 := hr33.1
  obtain ⟨ca36, cb37, he38, hr39, hr40⟩ := hr34
  have he41 := hr39.1
  obtain ⟨ca42, cb43, he44, hr45, hr46⟩ := hr40
  have he47 := hr45.1
  obtain ⟨ca48, cb49, he50, hr51, hr52⟩ := hr46
  have he53 := hr51.1
  obtain ⟨ca54, cb55, he56, hr57, hr58⟩ := hr52
  have he59 := hr57.1
  have he60 := hr58.1
  obtain ⟨ca61, cb62, he63, hr64, hr65⟩ := hr29
  obtain ⟨A66, c67, he68, hn69, hn70⟩ := Z.rep_slice hr64
  rw [he68] at hr64
  have hle_A66 := Z.rep_le hr64
  obtain ⟨ca71, cb72, he73, hr74, hr75⟩ := hr65
  obtain ⟨A76, c77, he78, hn79, hn80⟩ := Z.rep_slice hr74
  rw [he78] at hr74
  have hle_A76 := Z.rep_le hr74
  obtain ⟨ca81, cb82, he83, hr84, hr85⟩ := hr75
  obtain ⟨ca86, cb87, he88, hr89, hr90⟩ := hr84
  obtain ⟨A91, c92, he93, hn94, hn95⟩ := Z.rep_slice hr89
  rw [he93] at hr89
  have hle_A91 := Z.rep_le hr89
  obtain ⟨ca96, cb97, he98, hr99, hr100⟩ := hr90
  obtain ⟨A101, c102, he103, hn104, hn105⟩ := Z.rep_slice hr99
  rw [he103] at hr99
  have hle_A101 := Z.rep_le hr99
  obtain ⟨A106, c107, he108, hn109, hn110⟩ := Z.rep_slice hr100
  rw [he108] at hr100
  have hle_A106 := Z.rep_le hr100
  obtain ⟨ca111, cb112, he113, hr114, hr115⟩ := hr85
  have he116 := hr114.1
  obtain ⟨ca117, cb118, he119, hr120, hr121⟩ := hr115
  obtain ⟨A122, c123, he124, hn125, hn126⟩ := Z.rep_slice hr120
  rw [he124] at hr120
  have hle_A122 := Z.rep_le hr120
  obtain ⟨ca127, cb128, he129, hr130, hr131⟩ := hr121
  have he132 : _ = _ := hr130
  have he133 := hr131.1
  have he0 : cs0.toList = [.int .i64 x0.1, .int .i64 x0.2.1, .int .i64 x0.2.2.1.1, .int .i64 x0.2.2.1.2, .int .i64 x0.2.2.2.1.1, .int .i64 x0.2.2.2.1.2.1, .int .i64 x0.2.2.2.1.2.2.1, .int .i64 x0.2.2.2.1.2.2.2.1, .int .i64 x0.2.2.2.1.2.2.2.2.1, .int .i64 x0.2.2.2.1.2.2.2.2.2, .slice A66 x0.2.2.2.2.1.length c67, .slice A76 x0.2.2.2.2.2.1.length c77, .slice A91 x0.2.2.2.2.2.2.1.1.length c92, .slice A101 x0.2.2.2.2.2.2.1.2.1.length c102, .slice A106 x0.2.2.2.2.2.2.1.2.2.length c107, .int .i64 x0.2.2.2.2.2.2.2.1, .slice A122 x0.2.2.2.2.2.2.2.2.1.length c123, .bool x0.2.2.2.2.2.2.2.2.2.1, .int .i64 x0.2.2.2.2.2.2.2.2.2.2] := by simp only [he3, he6, he9, he12, he15, he20, he23, he24, he27, he32, he35, he38, he41, he44, he47, he50, he53, he56, he59, he60, he63, he68, he73, he78, he83, he88, he93, he98, he103, he108, he113, he116, he119, he124, he129, he132, he133, List.cons_append, List.nil_append]
  obtain rfl : cs0 = #[.int .i64 x0.1, .int .i64 x0.2.1, .int .i64 x0.2.2.1.1, .int .i64 x0.2.2.1.2, .int .i64 x0.2.2.2.1.1, .int .i64 x0.2.2.2.1.2.1, .int .i64 x0.2.2.2.1.2.2.1, .int .i64 x0.2.2.2.1.2.2.2.1, .int .i64 x0.2.2.2.1.2.2.2.2.1, .int .i64 x0.2.2.2.1.2.2.2.2.2, .slice A66 x0.2.2.2.2.1.length c67, .slice A76 x0.2.2.2.2.2.1.length c77, .slice A91 x0.2.2.2.2.2.2.1.1.length c92, .slice A101 x0.2.2.2.2.2.2.1.2.1.length c102, .slice A106 x0.2.2.2.2.2.2.1.2.2.length c107, .int .i64 x0.2.2.2.2.2.2.2.1, .slice A122 x0.2.2.2.2.2.2.2.2.1.length c123, .bool x0.2.2.2.2.2.2.2.2.2.1, .int .i64 x0.2.2.2.2.2.2.2.2.2.2] := by rw [← Array.toArray_toList (xs := cs0), he0]
  have k1 := h1
  have lt1 : ∀ x ∈ p1, x.block < W.heap.size := by obtain ⟨m, hm⟩ := k1; exact DataW.trod_lt m _ _ _ hm
  obtain ⟨fu1, hf1⟩ := h1
  obtain ⟨x1, hx1⟩ := ot37.2 _ _ _ _ _ _ _ _ _ hf1
  obtain ⟨cs1, rfl, _⟩ := okWide_struct Try.underlying37 (hval 1 37 v1 rfl rfl)
  replace hx1 : (Z.Ty.pair (Z.Ty.int .i64) (Z.Ty.pair (Z.Ty.int .i64) (Z.Ty.pair (Z.Ty.pair (Z.Ty.int .i64) (Z.Ty.int .i64)) (Z.Ty.pair (Z.Ty.pair (Z.Ty.int .i64) (Z.Ty.pair (Z.Ty.int .i64) (Z.Ty.pair (Z.Ty.int .i64) (Z.Ty.pair (Z.Ty.int .i64) (Z.Ty.pair (Z.Ty.int .i64) (Z.Ty.int .i64)))))) (Z.Ty.pair (Z.Ty.slice (Z.Ty.pair (Z.Ty.int .i64) Z.Ty.str)) (Z.Ty.pair (Z.Ty.slice (Z.Ty.pair (Z.Ty.pair (Z.Ty.int .i64) (Z.Ty.int .i64)) (Z.Ty.pair (Z.Ty.pair (Z.Ty.int .i64) (Z.Ty.pair (Z.Ty.int .i64) (Z.Ty.pair (Z.Ty.int .i64) (Z.Ty.pair (Z.Ty.int .i64) (Z.Ty.pair (Z.Ty.int .i64) (Z.Ty.int .i64)))))) (Z.Ty.int .i64)))) (Z.Ty.pair (Z.Ty.pair (Z.Ty.slice (Z.Ty.int .i64)) (Z.Ty.pair (Z.Ty.slice (Z.Ty.pair (Z.Ty.int .i64) (Z.Ty.pair (Z.Ty.int .i64) (Z.Ty.pair (Z.Ty.slice (Z.Ty.int .i64)) (Z.Ty.pair (Z.Ty.pair (Z.Ty.int .i64) (Z.Ty.pair (Z.Ty.int .i64) Z.Ty.str)) (Z.Ty.pair Z.Ty.str (Z.Ty.pair (Z.Ty.int .i64) (Z.Ty.int .i64)))))))) (Z.Ty.slice (Z.Ty.pair (Z.Ty.int .i64) (Z.Ty.pair (Z.Ty.int .i64) (Z.Ty.pair (Z.Ty.int .i64) (Z.Ty.pair (Z.Ty.int .i64) (Z.Ty.pair (Z.Ty.int .i64) (Z.Ty.pair (Z.Ty.int .i64) Z.Ty.str))))))))) (Z.Ty.pair (Z.Ty.int .i64) (Z.Ty.pair (Z.Ty.slice (Z.Ty.pair (Z.Ty.int .i64) (Z.Ty.pair (Z.Ty.int .i64) (Z.Ty.pair Z.Ty.str (Z.Ty.int .i64))))) (Z.Ty.pair Z.Ty.bool (Z.Ty.int .i64))))))))))).rep W (Z.nt []) cs1.toList x1 := hx1
  have hok1 := Z.rep_ok _ hx1
  obtain ⟨ca134, cb135, he136, hr137, hr138⟩ := hx1
  have he139 := hr137.1
  obtain ⟨ca140, cb141, he142, hr143, hr144⟩ := hr138
  have he145 := hr143.1
  obtain ⟨ca146, cb147, he148, hr149, hr150⟩ := hr144
  obtain ⟨ca151, cb152, he153, hr154, hr155⟩ := hr149
  have he156 := hr154.1
  have he157 := hr155.1
  obtain ⟨ca158, cb159, he160, hr161, hr162⟩ := hr150
  obtain ⟨ca163, cb164, he165, hr166, hr167⟩ := hr161
  have he168 := hr166.1
  obtain ⟨ca169, cb170, he171, hr172, hr173⟩ := hr167
  have he174 := hr172.1
  obtain ⟨ca175, cb176, he177, hr178, hr179⟩ := hr173
  have he180 := hr178.1
  obtain ⟨ca181, cb182, he183, hr184, hr185⟩ := hr179
  have he186 := hr184.1
  obtain ⟨ca187, cb188, he189, hr190, hr191⟩ := hr185
  have he192 := hr190.1
  have he193 := hr191.1
  obtain ⟨ca194, cb195, he196, hr197, hr198⟩ := hr162
  obtain ⟨A199, c200, he201, hn202, hn203⟩ := Z.rep_slice hr197
  rw [he201] at hr197
  have hle_A199 := Z.rep_le hr197
  obtain ⟨ca204, cb205, he206, hr207, hr208⟩ := hr198
  obtain ⟨A209, c210, he211, hn212, hn213⟩ := Z.rep_slice hr207
  rw [he211] at hr207
  have hle_A209 := Z.rep_le hr207
  obtain ⟨ca214, cb215, he216, hr217, hr218⟩ := hr208
  obtain ⟨ca219, cb220, he221, hr222, hr223⟩ := hr217
  obtain ⟨A224, c225, he226, hn227, hn228⟩ := Z.rep_slice hr222
  rw [he226] at hr222
  have hle_A224 := Z.rep_le hr222
  obtain ⟨ca229, cb230, he231, hr232, hr233⟩ := hr223
  obtain ⟨A234, c235, he236, hn237, hn238⟩ := Z.rep_slice hr232
  rw [he236] at hr232
  have hle_A234 := Z.rep_le hr232
  obtain ⟨A239, c240, he241, hn242, hn243⟩ := Z.rep_slice hr233
  rw [he241] at hr233
  have hle_A239 := Z.rep_le hr233
  obtain ⟨ca244, cb245, he246, hr247, hr248⟩ := hr218
  have he249 := hr247.1
  obtain ⟨ca250, cb251, he252, hr253, hr254⟩ := hr248
  obtain ⟨A255, c256, he257, hn258, hn259⟩ := Z.rep_slice hr253
  rw [he257] at hr253
  have hle_A255 := Z.rep_le hr253
  obtain ⟨ca260, cb261, he262, hr263, hr264⟩ := hr254
  have he265 : _ = _ := hr263
  have he266 := hr264.1
  have he1 : cs1.toList = [.int .i64 x1.1, .int .i64 x1.2.1, .int .i64 x1.2.2.1.1, .int .i64 x1.2.2.1.2, .int .i64 x1.2.2.2.1.1, .int .i64 x1.2.2.2.1.2.1, .int .i64 x1.2.2.2.1.2.2.1, .int .i64 x1.2.2.2.1.2.2.2.1, .int .i64 x1.2.2.2.1.2.2.2.2.1, .int .i64 x1.2.2.2.1.2.2.2.2.2, .slice A199 x1.2.2.2.2.1.length c200, .slice A209 x1.2.2.2.2.2.1.length c210, .slice A224 x1.2.2.2.2.2.2.1.1.length c225, .slice A234 x1.2.2.2.2.2.2.1.2.1.length c235, .slice A239 x1.2.2.2.2.2.2.1.2.2.length c240, .int .i64 x1.2.2.2.2.2.2.2.1, .slice A255 x1.2.2.2.2.2.2.2.2.1.length c256, .bool x1.2.2.2.2.2.2.2.2.2.1, .int .i64 x1.2.2.2.2.2.2.2.2.2.2] := by simp only [he136, he139, he142, he145, he148, he153, he156, he157, he160, he165, he168, he171, he174, he177, he180, he183, he186, he189, he192, he193, he196, he201, he206, he211, he216, he221, he226, he231, he236, he241, he246, he249, he252, he257, he262, he265, he266, List.cons_append, List.nil_append]
  obtain rfl : cs1 = #[.int .i64 x1.1, .int .i64 x1.2.1, .int .i64 x1.2.2.1.1, .int .i64 x1.2.2.1.2, .int .i64 x1.2.2.2.1.1, .int .i64 x1.2.2.2.1.2.1, .int .i64 x1.2.2.2.1.2.2.1, .int .i64 x1.2.2.2.1.2.2.2.1, .int .i64 x1.2.2.2.1.2.2.2.2.1, .int .i64 x1.2.2.2.1.2.2.2.2.2, .slice A199 x1.2.2.2.2.1.length c200, .slice A209 x1.2.2.2.2.2.1.length c210, .slice A224 x1.2.2.2.2.2.2.1.1.length c225, .slice A234 x1.2.2.2.2.2.2.1.2.1.length c235, .slice A239 x1.2.2.2.2.2.2.1.2.2.length c240, .int .i64 x1.2.2.2.2.2.2.2.1, .slice A255 x1.2.2.2.2.2.2.2.2.1.length c256, .bool x1.2.2.2.2.2.2.2.2.2.1, .int .i64 x1.2.2.2.2.2.2.2.2.2.2] := by rw [← Array.toArray_toList (xs := cs1), he1]
  clear hA0 hval0
  refine (CodecApart_spec x0 x1 W A66 c67 A76 c77 A91 c92 A101 c102 A106 c107 A122 c123 A199 c200 A209 c210 A224 c225 A234 c235 A239 c240 A255 c256 hr64 hr74 hr89 hr99 hr100 hr120 hok0 hr197 hr207 hr222 hr232 hr233 hr253 hok1).mono fun e W' ⟨he, hch⟩ => ?_
  subst he
  have bel := hch.below
  exact ⟨_, rfl, _, _, _, [], _, [], hW', trodAll_mk1 (shut_bool Try.underlying4 _), (trodAll_cons_mk (Below.trod laidOut (by kernel_rfl) (of_decide_eq_true (by kernel_rfl)) k0 bel lt0) (trodAll_cons_mk (Below.trod laidOut (by kernel_rfl) (of_decide_eq_true (by kernel_rfl)) k1 bel lt1) trodAll_mk0)), rfl, bel.frame _, fun h => by cases h⟩
theorem over : Rows.codecApartRow.holds Try.pinned (OpenSpec.ofChange Rows.codecApartSpec) :=
  OpenClaim.holds_of_wide 3 Try.f3 rfl rfl rfl rfl rfl rfl rfl ⟨rfl, rfl, rfl, rfl, rfl⟩ rfl rfl rfl rfl rfl (by kernel_rfl) Try.func3 (by kernel_rfl)
    (of_decide_eq_true (by kernel_rfl)) (by unfold Func.isWrapper; first | (rw [if_pos (by decide +kernel)]; kernel_rfl) | (rw [if_neg (by decide +kernel)]; exact ⟨rfl, rfl⟩))
    (fun os started H enc _ => lifted os started H enc)
/-- the given statement -/
theorem proved : Rows.CodecApartSaid := over
#print axioms proved
end Go.Proofs.Ytlhpkogdcgebeaa.codecApartDone
