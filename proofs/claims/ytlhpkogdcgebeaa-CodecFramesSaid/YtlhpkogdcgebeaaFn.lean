/- What the program's tables say of functions and of elements, as closed facts. -/
import Derived.Test.YtlhpkogdcgebeaaProg
import Derived.Test.YtlhpkogdcgebeaaZn
import Derived.Test.YtlhpkogdcgebeaaEnc
import Derived.KernelRfl
namespace Go.Proofs.Ytlhpkogdcgebeaa
@[reducible] def T7 : Z.Ty := (Z.Ty.pair (Z.Ty.int .i64) (Z.Ty.pair (Z.Ty.int .i64) (Z.Ty.pair Z.Ty.bool Z.Ty.byte)))
abbrev D7 : Type := Int × Int × Bool × UInt8
@[reducible] def T13 : Z.Ty := (Z.Ty.pair Z.Ty.str (Z.Ty.int .u64))
abbrev D13 : Type := ByteArray × Int
@[reducible] def T22 : Z.Ty := (Z.Ty.pair (Z.Ty.int .i64) (Z.Ty.int .i64))
abbrev D22 : Type := Int × Int
@[reducible] def T24 : Z.Ty := (Z.Ty.pair (Z.Ty.int .i64) (Z.Ty.pair (Z.Ty.int .i64) (Z.Ty.pair (Z.Ty.int .i64) (Z.Ty.int .i64))))
abbrev D24 : Type := Int × Int × Int × Int
@[reducible] def T25 : Z.Ty := (Z.Ty.pair (Z.Ty.int .i64) (Z.Ty.pair (Z.Ty.int .i64) T24))
abbrev D25 : Type := Int × Int × D24
@[reducible] def T59 : Z.Ty := (Z.Ty.pair (Z.Ty.int .i64) Z.Ty.str)
abbrev D59 : Type := Int × ByteArray
@[reducible] def T70 : Z.Ty := (Z.Ty.pair T22 (Z.Ty.pair T25 (Z.Ty.int .i64)))
abbrev D70 : Type := D22 × D25 × Int
@[reducible] def T61 : Z.Ty := (Z.Ty.pair (Z.Ty.int .i64) (Z.Ty.pair (Z.Ty.int .i64) Z.Ty.str))
abbrev D61 : Type := Int × Int × ByteArray
@[reducible] def T85 : Z.Ty := (Z.Ty.pair (Z.Ty.int .i64) (Z.Ty.pair (Z.Ty.int .i64) (Z.Ty.pair (Z.Ty.slice (Z.Ty.int .i64)) (Z.Ty.pair T61 (Z.Ty.pair Z.Ty.str (Z.Ty.pair (Z.Ty.int .i64) (Z.Ty.int .i64)))))))
abbrev D85 : Type := Int × Int × (List Int) × D61 × ByteArray × Int × Int
@[reducible] def T63 : Z.Ty := (Z.Ty.pair (Z.Ty.int .i64) (Z.Ty.pair (Z.Ty.int .i64) (Z.Ty.pair (Z.Ty.int .i64) (Z.Ty.pair (Z.Ty.int .i64) T61))))
abbrev D63 : Type := Int × Int × Int × Int × D61
@[reducible] def T32 : Z.Ty := (Z.Ty.pair (Z.Ty.slice (Z.Ty.int .i64)) (Z.Ty.pair (Z.Ty.slice T85) (Z.Ty.slice T63)))
abbrev D32 : Type := (List Int) × (List D85) × (List D63)
@[reducible] def T57 : Z.Ty := (Z.Ty.pair (Z.Ty.int .i64) (Z.Ty.pair (Z.Ty.int .i64) (Z.Ty.pair Z.Ty.str (Z.Ty.int .i64))))
abbrev D57 : Type := Int × Int × ByteArray × Int
@[reducible] def T36 : Z.Ty := (Z.Ty.pair (Z.Ty.int .i64) (Z.Ty.pair (Z.Ty.int .i64) (Z.Ty.pair T22 (Z.Ty.pair T25 (Z.Ty.pair (Z.Ty.slice T59) (Z.Ty.pair (Z.Ty.slice T70) (Z.Ty.pair T32 (Z.Ty.pair (Z.Ty.int .i64) (Z.Ty.pair (Z.Ty.slice T57) (Z.Ty.pair Z.Ty.bool (Z.Ty.int .i64)))))))))))
abbrev D36 : Type := Int × Int × D22 × D25 × (List D59) × (List D70) × D32 × Int × (List D57) × Bool × Int
@[reducible] def T89 : Z.Ty := (Z.Ty.slice Z.Ty.byte)
abbrev D89 : Type := (List UInt8)
@[reducible] def T100 : Z.Ty := (Z.Ty.slice T85)
abbrev D100 : Type := (List D85)
@[reducible] def T115 : Z.Ty := (Z.Ty.int .i64)
abbrev D115 : Type := Int
@[reducible] def T125 : Z.Ty := (Z.Ty.pair Z.Ty.bool (Z.Ty.pair (Z.Ty.slice Z.Ty.byte) (Z.Ty.int .i64)))
abbrev D125 : Type := Bool × (List UInt8) × Int
theorem cf3 : ∀ (args : Array Value) (w : World), (callFunc 3 args).run Try.prog w = .ok (.enter 3 args) w := fun args w => by kernel_rfl
theorem cf4 : ∀ (args : Array Value) (w : World), (callFunc 4 args).run Try.prog w = .ok (.enter 4 args) w := fun args w => by kernel_rfl
theorem cf5 : ∀ (args : Array Value) (w : World), (callFunc 5 args).run Try.prog w = .ok (.enter 5 args) w := fun args w => by kernel_rfl
theorem cf6 : ∀ (args : Array Value) (w : World), (callFunc 6 args).run Try.prog w = .ok (.enter 6 args) w := fun args w => by kernel_rfl
theorem cf7 : ∀ (args : Array Value) (w : World), (callFunc 7 args).run Try.prog w = .ok (.enter 7 args) w := fun args w => by kernel_rfl
theorem cf8 : ∀ (args : Array Value) (w : World), (callFunc 8 args).run Try.prog w = .ok (.enter 8 args) w := fun args w => by kernel_rfl
theorem cf9 : ∀ (args : Array Value) (w : World), (callFunc 9 args).run Try.prog w = .ok (.enter 9 args) w := fun args w => by kernel_rfl
theorem cf10 : ∀ (args : Array Value) (w : World), (callFunc 10 args).run Try.prog w = .ok (.enter 10 args) w := fun args w => by kernel_rfl
theorem cf11 : ∀ (args : Array Value) (w : World), (callFunc 11 args).run Try.prog w = .ok (.enter 11 args) w := fun args w => by kernel_rfl
theorem cf12 : ∀ (args : Array Value) (w : World), (callFunc 12 args).run Try.prog w = .ok (.enter 12 args) w := fun args w => by kernel_rfl
theorem cf13 : ∀ (args : Array Value) (w : World), (callFunc 13 args).run Try.prog w = .ok (.enter 13 args) w := fun args w => by kernel_rfl
theorem cf14 : ∀ (args : Array Value) (w : World), (callFunc 14 args).run Try.prog w = .ok (.enter 14 args) w := fun args w => by kernel_rfl
theorem cf15 : ∀ (args : Array Value) (w : World), (callFunc 15 args).run Try.prog w = .ok (.enter 15 args) w := fun args w => by kernel_rfl
theorem cf16 : ∀ (args : Array Value) (w : World), (callFunc 16 args).run Try.prog w = .ok (.enter 16 args) w := fun args w => by kernel_rfl
theorem cf17 : ∀ (args : Array Value) (w : World), (callFunc 17 args).run Try.prog w = .ok (.enter 17 args) w := fun args w => by kernel_rfl
theorem cf18 : ∀ (args : Array Value) (w : World), (callFunc 18 args).run Try.prog w = .ok (.enter 18 args) w := fun args w => by kernel_rfl
theorem cf19 : ∀ (args : Array Value) (w : World), (callFunc 19 args).run Try.prog w = .ok (.enter 19 args) w := fun args w => by kernel_rfl
theorem cf20 : ∀ (args : Array Value) (w : World), (callFunc 20 args).run Try.prog w = .ok (.enter 20 args) w := fun args w => by kernel_rfl
theorem cf21 : ∀ (args : Array Value) (w : World), (callFunc 21 args).run Try.prog w = .ok (.enter 21 args) w := fun args w => by kernel_rfl
theorem cf22 : ∀ (args : Array Value) (w : World), (callFunc 22 args).run Try.prog w = .ok (.enter 22 args) w := fun args w => by kernel_rfl
theorem cf23 : ∀ (args : Array Value) (w : World), (callFunc 23 args).run Try.prog w = .ok (.enter 23 args) w := fun args w => by kernel_rfl
theorem cf24 : ∀ (args : Array Value) (w : World), (callFunc 24 args).run Try.prog w = .ok (.enter 24 args) w := fun args w => by kernel_rfl
theorem cf25 : ∀ (args : Array Value) (w : World), (callFunc 25 args).run Try.prog w = .ok (.enter 25 args) w := fun args w => by kernel_rfl
theorem cf26 : ∀ (args : Array Value) (w : World), (callFunc 26 args).run Try.prog w = .ok (.enter 26 args) w := fun args w => by kernel_rfl
theorem cf27 : ∀ (args : Array Value) (w : World), (callFunc 27 args).run Try.prog w = .ok (.enter 27 args) w := fun args w => by kernel_rfl
theorem cf28 : ∀ (args : Array Value) (w : World), (callFunc 28 args).run Try.prog w = .ok (.enter 28 args) w := fun args w => by kernel_rfl
theorem cf29 : ∀ (args : Array Value) (w : World), (callFunc 29 args).run Try.prog w = .ok (.enter 29 args) w := fun args w => by kernel_rfl
theorem cf30 : ∀ (args : Array Value) (w : World), (callFunc 30 args).run Try.prog w = .ok (.enter 30 args) w := fun args w => by kernel_rfl
theorem cf31 : ∀ (args : Array Value) (w : World), (callFunc 31 args).run Try.prog w = .ok (.enter 31 args) w := fun args w => by kernel_rfl
theorem cf32 : ∀ (args : Array Value) (w : World), (callFunc 32 args).run Try.prog w = .ok (.enter 32 args) w := fun args w => by kernel_rfl
theorem cf33 : ∀ (args : Array Value) (w : World), (callFunc 33 args).run Try.prog w = .ok (.enter 33 args) w := fun args w => by kernel_rfl
theorem cf34 : ∀ (args : Array Value) (w : World), (callFunc 34 args).run Try.prog w = .ok (.enter 34 args) w := fun args w => by kernel_rfl
theorem cf35 : ∀ (args : Array Value) (w : World), (callFunc 35 args).run Try.prog w = .ok (.enter 35 args) w := fun args w => by kernel_rfl
theorem cf36 : ∀ (args : Array Value) (w : World), (callFunc 36 args).run Try.prog w = .ok (.enter 36 args) w := fun args w => by kernel_rfl
theorem cf37 : ∀ (args : Array Value) (w : World), (callFunc 37 args).run Try.prog w = .ok (.enter 37 args) w := fun args w => by kernel_rfl
theorem cf38 : ∀ (args : Array Value) (w : World), (callFunc 38 args).run Try.prog w = .ok (.enter 38 args) w := fun args w => by kernel_rfl
theorem cf39 : ∀ (args : Array Value) (w : World), (callFunc 39 args).run Try.prog w = .ok (.enter 39 args) w := fun args w => by kernel_rfl
theorem cf40 : ∀ (args : Array Value) (w : World), (callFunc 40 args).run Try.prog w = .ok (.enter 40 args) w := fun args w => by kernel_rfl
theorem cf41 : ∀ (args : Array Value) (w : World), (callFunc 41 args).run Try.prog w = .ok (.enter 41 args) w := fun args w => by kernel_rfl
theorem cf42 : ∀ (args : Array Value) (w : World), (callFunc 42 args).run Try.prog w = .ok (.enter 42 args) w := fun args w => by kernel_rfl
theorem cf43 : ∀ (args : Array Value) (w : World), (callFunc 43 args).run Try.prog w = .ok (.enter 43 args) w := fun args w => by kernel_rfl
theorem cf44 : ∀ (args : Array Value) (w : World), (callFunc 44 args).run Try.prog w = .ok (.enter 44 args) w := fun args w => by kernel_rfl
theorem cf45 : ∀ (args : Array Value) (w : World), (callFunc 45 args).run Try.prog w = .ok (.enter 45 args) w := fun args w => by kernel_rfl
theorem cf46 : ∀ (args : Array Value) (w : World), (callFunc 46 args).run Try.prog w = .ok (.enter 46 args) w := fun args w => by kernel_rfl
theorem cf47 : ∀ (args : Array Value) (w : World), (callFunc 47 args).run Try.prog w = .ok (.enter 47 args) w := fun args w => by kernel_rfl
theorem cf48 : ∀ (args : Array Value) (w : World), (callFunc 48 args).run Try.prog w = .ok (.enter 48 args) w := fun args w => by kernel_rfl
theorem cf49 : ∀ (args : Array Value) (w : World), (callFunc 49 args).run Try.prog w = .ok (.enter 49 args) w := fun args w => by kernel_rfl
theorem cf50 : ∀ (args : Array Value) (w : World), (callFunc 50 args).run Try.prog w = .ok (.enter 50 args) w := fun args w => by kernel_rfl
theorem cf51 : ∀ (args : Array Value) (w : World), (callFunc 51 args).run Try.prog w = .ok (.enter 51 args) w := fun args w => by kernel_rfl
theorem cf52 : ∀ (args : Array Value) (w : World), (callFunc 52 args).run Try.prog w = .ok (.enter 52 args) w := fun args w => by kernel_rfl
theorem cf53 : ∀ (args : Array Value) (w : World), (callFunc 53 args).run Try.prog w = .ok (.enter 53 args) w := fun args w => by kernel_rfl
theorem cf54 : ∀ (args : Array Value) (w : World), (callFunc 54 args).run Try.prog w = .ok (.enter 54 args) w := fun args w => by kernel_rfl
theorem cf55 : ∀ (args : Array Value) (w : World), (callFunc 55 args).run Try.prog w = .ok (.enter 55 args) w := fun args w => by kernel_rfl
theorem cf56 : ∀ (args : Array Value) (w : World), (callFunc 56 args).run Try.prog w = .ok (.enter 56 args) w := fun args w => by kernel_rfl
theorem cf57 : ∀ (args : Array Value) (w : World), (callFunc 57 args).run Try.prog w = .ok (.enter 57 args) w := fun args w => by kernel_rfl
theorem cf58 : ∀ (args : Array Value) (w : World), (callFunc 58 args).run Try.prog w = .ok (.enter 58 args) w := fun args w => by kernel_rfl
theorem cf59 : ∀ (args : Array Value) (w : World), (callFunc 59 args).run Try.prog w = .ok (.enter 59 args) w := fun args w => by kernel_rfl
theorem cf61 : ∀ (args : Array Value) (w : World), (callFunc 61 args).run Try.prog w = .ok (.enter 61 args) w := fun args w => by kernel_rfl
theorem cf62 : ∀ (args : Array Value) (w : World), (callFunc 62 args).run Try.prog w = .ok (.enter 62 args) w := fun args w => by kernel_rfl
theorem cf63 : ∀ (args : Array Value) (w : World), (callFunc 63 args).run Try.prog w = .ok (.enter 63 args) w := fun args w => by kernel_rfl
theorem cf64 : ∀ (args : Array Value) (w : World), (callFunc 64 args).run Try.prog w = .ok (.enter 64 args) w := fun args w => by kernel_rfl
theorem cf65 : ∀ (args : Array Value) (w : World), (callFunc 65 args).run Try.prog w = .ok (.enter 65 args) w := fun args w => by kernel_rfl
theorem cf66 : ∀ (args : Array Value) (w : World), (callFunc 66 args).run Try.prog w = .ok (.enter 66 args) w := fun args w => by kernel_rfl
theorem cf67 : ∀ (args : Array Value) (w : World), (callFunc 67 args).run Try.prog w = .ok (.enter 67 args) w := fun args w => by kernel_rfl
theorem cf68 : ∀ (args : Array Value) (w : World), (callFunc 68 args).run Try.prog w = .ok (.enter 68 args) w := fun args w => by kernel_rfl
theorem mixed : Try.prog.follows .mixedOrders = true := by kernel_rfl
theorem nz60 : ∀ (args : Array Value) (w : World), (callFunc 60 args).run Try.prog w = ((Extern.BytealgMakeNoZero.makeNoZero #[3] #[40] args).run Try.prog w).andThen fun v w' => .ok (.value v) w' := fun args w => run_callFunc_extern Try.func60 (by kernel_rfl) (by kernel_rfl) (by kernel_rfl) (e := Extern.BytealgMakeNoZero.makeNoZero #[3] #[40]) (by kernel_rfl) args w
theorem inf2 : Try.prog.info? 2 = some Try.t2 ∧ Try.t2.zero = some (.int .i64 0) ∧ Try.t2.size = 1 ∧ Try.t2.bytes = 8 ∧ Array.size (Value.cells (.int .i64 0)) = 1 := ⟨by kernel_rfl, rfl, rfl, rfl, rfl⟩
theorem inf2.sz : (Try.prog.info? 2).map (·.size) = some 1 := by rw [inf2.1]; rfl
theorem inf3 : Try.prog.info? 3 = some Try.t3 ∧ Try.t3.zero = some (.int .i64 0) ∧ Try.t3.size = 1 ∧ Try.t3.bytes = 8 ∧ Array.size (Value.cells (.int .i64 0)) = 1 := ⟨by kernel_rfl, rfl, rfl, rfl, rfl⟩
theorem inf3.sz : (Try.prog.info? 3).map (·.size) = some 1 := by rw [inf3.1]; rfl
theorem inf5 : Try.prog.info? 5 = some Try.t5 ∧ Try.t5.zero = some (.int .u8 0) ∧ Try.t5.size = 1 ∧ Try.t5.bytes = 1 ∧ Array.size (Value.cells (.int .u8 0)) = 1 := ⟨by kernel_rfl, rfl, rfl, rfl, rfl⟩
theorem inf5.sz : (Try.prog.info? 5).map (·.size) = some 1 := by rw [inf5.1]; rfl
theorem inf40 : Try.prog.info? 40 = some Try.t40 ∧ Try.t40.zero = some (.slice none 0 0) ∧ Try.t40.size = 1 ∧ Try.t40.bytes = 24 ∧ Array.size (Value.cells (.slice none 0 0)) = 1 := ⟨by kernel_rfl, rfl, rfl, rfl, rfl⟩
theorem inf40.sz : (Try.prog.info? 40).map (·.size) = some 1 := by rw [inf40.1]; rfl
theorem inf58 : Try.prog.info? 58 = some Try.t58 ∧ Try.t58.zero = some (.agg #[.int .i64 0, .int .i64 0, .string (ByteArray.mk #[]), .int .i64 0]) ∧ Try.t58.size = 4 ∧ Try.t58.bytes = 40 ∧ Array.size (Value.cells (.agg #[.int .i64 0, .int .i64 0, .string (ByteArray.mk #[]), .int .i64 0])) = 4 := ⟨by kernel_rfl, rfl, rfl, rfl, rfl⟩
theorem inf58.sz : (Try.prog.info? 58).map (·.size) = some 4 := by rw [inf58.1]; rfl
theorem inf60 : Try.prog.info? 60 = some Try.t60 ∧ Try.t60.zero = some (.agg #[.int .i64 0, .string (ByteArray.mk #[])]) ∧ Try.t60.size = 2 ∧ Try.t60.bytes = 24 ∧ Array.size (Value.cells (.agg #[.int .i64 0, .string (ByteArray.mk #[])])) = 2 := ⟨by kernel_rfl, rfl, rfl, rfl, rfl⟩
theorem inf60.sz : (Try.prog.info? 60).map (·.size) = some 2 := by rw [inf60.1]; rfl
theorem inf64 : Try.prog.info? 64 = some Try.t64 ∧ Try.t64.zero = some (.agg #[.int .i64 0, .int .i64 0, .int .i64 0, .int .i64 0, .int .i64 0, .int .i64 0, .string (ByteArray.mk #[])]) ∧ Try.t64.size = 7 ∧ Try.t64.bytes = 64 ∧ Array.size (Value.cells (.agg #[.int .i64 0, .int .i64 0, .int .i64 0, .int .i64 0, .int .i64 0, .int .i64 0, .string (ByteArray.mk #[])])) = 7 := ⟨by kernel_rfl, rfl, rfl, rfl, rfl⟩
theorem inf64.sz : (Try.prog.info? 64).map (·.size) = some 7 := by rw [inf64.1]; rfl
theorem inf71 : Try.prog.info? 71 = some Try.t71 ∧ Try.t71.zero = some (.agg #[.int .i64 0, .int .i64 0, .int .i64 0, .int .i64 0, .int .i64 0, .int .i64 0, .int .i64 0, .int .i64 0, .int .i64 0]) ∧ Try.t71.size = 9 ∧ Try.t71.bytes = 72 ∧ Array.size (Value.cells (.agg #[.int .i64 0, .int .i64 0, .int .i64 0, .int .i64 0, .int .i64 0, .int .i64 0, .int .i64 0, .int .i64 0, .int .i64 0])) = 9 := ⟨by kernel_rfl, rfl, rfl, rfl, rfl⟩
theorem inf71.sz : (Try.prog.info? 71).map (·.size) = some 9 := by rw [inf71.1]; rfl
theorem inf86 : Try.prog.info? 86 = some Try.t86 ∧ Try.t86.zero = some (.agg #[.int .i64 0, .int .i64 0, .slice none 0 0, .int .i64 0, .int .i64 0, .string (ByteArray.mk #[]), .string (ByteArray.mk #[]), .int .i64 0, .int .i64 0]) ∧ Try.t86.size = 9 ∧ Try.t86.bytes = 104 ∧ Array.size (Value.cells (.agg #[.int .i64 0, .int .i64 0, .slice none 0 0, .int .i64 0, .int .i64 0, .string (ByteArray.mk #[]), .string (ByteArray.mk #[]), .int .i64 0, .int .i64 0])) = 9 := ⟨by kernel_rfl, rfl, rfl, rfl, rfl⟩
theorem inf86.sz : (Try.prog.info? 86).map (·.size) = some 9 := by rw [inf86.1]; rfl
end Go.Proofs.Ytlhpkogdcgebeaa
