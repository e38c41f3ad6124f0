/- Functions on data, and that the code computes them. * A layer over the small logic, continued: in a long open region what is known is told anew. No program in sight. * Functions on data, and that the code computes them. * A layer over the small logic, continued: where a law's walk begins. No program in sight. * Plain law of graphs: what the reference and the program say of graphs, as functions on data (no program in sight). * Plain: rounds by a count of steps are recursion over a list. * Plain: what a model is asked: a sheet's records, epochs, which sheets are the same. * A small logic over the model's walk, continued: arguments of a row, opened: what a reader treads reads as a datum. No program in sight. * The law 'ModelAsks' as it is given: whatever the input, the call returns true, and each argument reads behind it as it read before. No condition but that utf8's two tables hold what the library's text lays, which the card ties. -/
import Derived.Test.YtlbdgahbamalcaaGreatDoorA0
import Derived.Test.YtlbdgahbamalcaaGreatDoorA1
import Derived.Test.YtlbdgahbamalcaaGreatDoorA3
import Derived.OpenShut
import Derived.ShutString
import Derived.ChangeOld
import Derived.ChangeArms
import Derived.DataReads
import Derived.Test.YtlbdgahbamalcaaGreatDoorRows
import Derived.Test.YtlbdgahbamalcaaGreatDoorTie
import Derived.Test.YtlbdgahbamalcaaGreatDoorCards
import Derived.WalkKit
import Derived.ProofKit
import Derived.Below
import Derived.LaidMore
import Derived.Stop.Joined
import Derived.SevenTiedAt
import Derived.Lib.LaidIn
import Derived.Lib.LaidU8T
import Derived.PinnedBridge
import Derived.SizedLaws
section
set_option linter.unusedVariables false
set_option linter.unusedSimpArgs false
set_option maxRecDepth 20000
set_option maxHeartbeats 8000000
set_option synthInstance.maxSize 1000000
set_option synthInstance.maxHeartbeats 400000
namespace Go.Proofs.YtlbdgahbamalcaaGreatDoor
open Go.RowKit
def F.R20_Same_j1 (k1 : Int → Option Bool) (y1 : Int) (y4 : Bool) : Option Bool := if y4 = true then (some false) else (A.gd (Z.R64 (y1 + 1)) (k1 (y1 + 1)))
def F.R20_Same_l2 (a0 : (List D48)) (a1 : (List D48)) : Nat → Int → Option Bool
  | 0, _ => none
  | f + 1, y1 => if y1 < ((a0).length : Int) then ((A.ix a0 y1).bind fun x7 => ((A.ix a1 y1).bind fun x15 => (if x7.1 ≠ x15.1 then (F.R20_Same_j1 (F.R20_Same_l2 a0 a1 f) y1 true) else ((A.ix a0 y1).bind fun x23 => ((A.ix a1 y1).bind fun x31 => (if x23.2.1 ≠ x31.2.1 then (F.R20_Same_j1 (F.R20_Same_l2 a0 a1 f) y1 true) else ((A.ix a0 y1).bind fun x39 => ((A.ix a1 y1).bind fun x47 => ((F.R05_SameBag x39.2.2 x47.2.2).bind fun r55 => (F.R20_Same_j1 (F.R20_Same_l2 a0 a1 f) y1 (!r55))))))))))) else (some true)
def F.R20_Same (a0 : (List D48)) (a1 : (List D48)) : Option Bool := if ((a0).length : Int) ≠ ((a1).length : Int) then (some false) else (F.R20_Same_l2 a0 a1 A.FU 0)
theorem R20_Same_ok (a0 : (List D48)) (a1 : (List D48)) (A0_ : Option Addr) (c1_ : Nat) (A2_ : Option Addr) (c3_ : Nat) (r : Bool) (hF : F.R20_Same a0 a1 = some r) :
    A.Ct Tryz.prog 19 [.slice A0_ ((a0).length) c1_, .slice A2_ ((a1).length) c3_] [(0, .ln T48 A0_ c1_ a0), (1, .ln T48 A2_ c3_ a1)] [] (fun v H' => v = .bool r ∧ H' = []) := by
 refine A.Ct.enter Tryz.func19 rfl Tryz.ntmps19 rfl fun w0 F0 => ?_
 rw [F.R20_Same] at hF
 refine A.xl 1 ?_
 refine A.q0 [] [] [.n] [] ?_
 refine A.dl 3 ?_
 refine A.q0 [] [] [.n, .n, .n, .n, .n] [(10, .bool (decide (((a0).length : Int) ≠ ((a1).length : Int))))] ?_
 refine A.dx 1 ?_
 refine A.AX.cnd rfl hF (fun hb hF => ?_) (fun hb hF => ?_)
 ·refine A.xl 1 ?_
  refine A.q0 [] [] [.n] [(4, .bool false)] ?_
  refine A.dx 1 ?_
  obtain rfl := Option.some.inj hF
  exact A.rt1 [] ⟨rfl, rfl⟩
 refine A.xl 4 ?_
 refine A.q0 [] [] [.n] [(5, .int .i64 0)] ?_
 refine A.dx 2 ?_
 refine A.lp_ [0, 1] [0, 1] (fun f nl nh => ∃ (y1 : Int), nl = [(5, .int .i64 y1)] ∧ nh = [] ∧ IntKind.i64.has y1 ∧ F.R20_Same_l2 a0 a1 f y1 = some r) ⟨0, rfl, rfl, (A.hasl .i64 (0) rfl), hF⟩ ?_
 rintro f3 _ _ ⟨y1, rfl, rfl, hy2, hF⟩
 rcases f3 with _ | f3
 ·exact A.no0 hF
 rw [F.R20_Same_l2] at hF
 refine A.xl 2 ?_
 refine A.q0 [] [] [.n, .n, .n, .n] [(14, .bool (decide (y1 < ((a0).length : Int))))] ?_
 refine A.dx 1 ?_
 refine A.AX.cnd rfl hF (fun hb hF => ?_) (fun hb hF => ?_)
 ·refine A.xx 4 ?_
  refine A.AX.join [0, 1, 5] [0, 1] (fun nl nh => ∃ (y4 : Bool), nl = [(54, .bool y4)] ∧ nh = [] ∧ F.R20_Same_j1 (F.R20_Same_l2 a0 a1 f3) y1 y4 = some r) ?_ ?_
  ·refine A.AX.drF mixed 38 38 [0, 0, 3, 4, 8, 0, 0, 96, 128, 256, 528, 1024, 2048, 2048, 14336, 18432, 34816, 2048, 2048, 395264, 526336, 1050624, 2164736, 4196352, 8390656, 16777216, 16777216, 117440512, 150994944, 285212672, 16777216, 16777216, 3238002688, 4311744512, 8606711808, 17733517312, 34376515584, 68736253952] [0, 0, 3, 4, 8, 0, 0, 96, 128, 256, 528, 1024, 2048, 2048, 14336, 18432, 34816, 2048, 2048, 395264, 526336, 1050624, 2164736, 4196352, 8388608, 16777216, 16777216, 117440512, 150994944, 285212672, 16777216, 16777216, 3238002688, 4311744512, 8606711808, 17733517312, 34376515584, 68736253952] fun hT6 => ?_
   refine A.AH.qF hT6 A.pb [] [0, 1] [] [] 0 99 34 [(0, .n), (1, .n), (5, .n), (6, .n)] [17, 18, 22, 23] [] [(17, .slice A0_ ((a0).length) c1_), (18, .int .i64 y1), (22, .slice A2_ ((a1).length) c3_), (23, .int .i64 y1)] trivial ?_
   obtain ⟨x7, hv8, hF⟩ := A.bd_some hF
   refine A.AH.pkl 0 106 hv8 fun ho9 => ?_
   intro A11 c12 b13 o14 hA10
   refine A.AH.v A.pb [0, 1] [0, 1, 106, 107] 2 (A.mb 38 103) rfl (fun a w hf hh => A.r_ixa (t := T48) hv8 hA10 hf) ?_
   refine A.AH.qF hT6 A.pb [0, 1, 106, 107] [0, 1, 106, 107] [] [106] 103 127 31 [(3, .n), (4, .e 0 0)] [21] [] [(21, .string x7.1)] trivial ?_
   obtain ⟨x15, hv16, hF⟩ := A.bd_some hF
   refine A.AH.pkl 1 108 hv16 fun ho17 => ?_
   intro A19 c20 b21 o22 hA18
   refine A.AH.v A.pb [0, 1, 106, 107] [0, 1, 106, 107, 108, 109] 7 (A.mb 38 255) rfl (fun a w hf hh => A.r_ixa (t := T48) hv16 hA18 hf) ?_
   refine A.AH.qF hT6 A.pb [0, 1, 106, 107, 108, 109] [0, 1, 106, 107, 108, 109] [] [108] 255 4095 26 [(8, .n), (9, .e 0 0), (10, .n), (11, .n)] [28] [] [(28, .bool (decide (x7.1 ≠ x15.1)))] trivial ?_
   refine A.AH.cnp (j := 28) rfl hF (fun hb hF => ?_) (fun hb hF => ?_)
   ·refine A.AH.qF hT6 A.pb [0, 1, 106, 107, 108, 109] [0, 1, 106, 107, 108, 109] [] [] 4095 274877906943 0 [(12, .off), (13, .off), (17, .off), (18, .off), (14, .off), (19, .off), (15, .off), (20, .off), (16, .off), (21, .off), (22, .off), (23, .n), (24, .n), (25, .off), (26, .off), (30, .off), (31, .off), (27, .off), (32, .off), (28, .off), (33, .off), (29, .off), (34, .off), (35, .off), (36, .off), (37, .n)] [54] [] [(54, .bool true)] trivial ?_
    refine A.AH.doneF hT6 ?_
    exact A.j ⟨true, rfl, rfl, hF⟩
   refine A.AH.qF hT6 A.pb [0, 1, 106, 107, 108, 109] [0, 1, 106, 107, 108, 109] [] [] 4095 409599 22 [(12, .on .n), (13, .on .n), (17, .on .n), (18, .on .n)] [29, 30, 34, 35] [] [(29, .slice A0_ ((a0).length) c1_), (30, .int .i64 y1), (34, .slice A2_ ((a1).length) c3_), (35, .int .i64 y1)] trivial ?_
   obtain ⟨x23, hv24, hF⟩ := A.bd_some hF
   refine A.AH.pkl 0 110 hv24 fun ho25 => ?_
   intro A27 c28 b29 o30 hA26
   refine A.AH.vg A.pb [0, 1, 106, 107, 108, 109] [0, 1, 106, 107, 108, 109, 110, 111] 14 (A.mb 38 425983) (dj := 28) rfl (fun a w hf hh => A.r_ixa (t := T48) hv24 hA26 hf) ?_
   refine A.AH.qF hT6 A.pb [0, 1, 106, 107, 108, 109, 110, 111] [0, 1, 106, 107, 108, 109, 110, 111] [] [110] 425983 524287 19 [(15, .on .n), (16, .on (.e 0 1))] [33] [] [(33, .int .i64 x23.2.1)] trivial ?_
   obtain ⟨x31, hv32, hF⟩ := A.bd_some hF
   refine A.AH.pkl 1 112 hv32 fun ho33 => ?_
   intro A35 c36 b37 o38 hA34
   refine A.AH.vg A.pb [0, 1, 106, 107, 108, 109, 110, 111] [0, 1, 106, 107, 108, 109, 110, 111, 112, 113] 19 (A.mb 38 1048575) (dj := 28) rfl (fun a w hf hh => A.r_ixa (t := T48) hv32 hA34 hf) ?_
   refine A.AH.qF hT6 A.pb [0, 1, 106, 107, 108, 109, 110, 111, 112, 113] [0, 1, 106, 107, 108, 109, 110, 111, 112, 113] [] [112] 1048575 33554431 13 [(20, .on .n), (21, .on (.e 0 1)), (22, .on .n), (23, .n), (24, .n)] [41] [] [(41, .bool (decide (x23.2.1 ≠ x31.2.1)))] trivial ?_
   refine A.AH.cnp (j := 41) rfl hF (fun hb hF => ?_) (fun hb hF => ?_)
   ·refine A.AH.qF hT6 A.pb [0, 1, 106, 107, 108, 109, 110, 111, 112, 113] [0, 1, 106, 107, 108, 109, 110, 111, 112, 113] [] [] 33554431 274877906943 0 [(25, .off), (26, .off), (30, .off), (31, .off), (27, .off), (32, .off), (28, .off), (33, .off), (29, .off), (34, .off), (35, .off), (36, .off), (37, .n)] [54] [] [(54, .bool true)] trivial ?_
    refine A.AH.doneF hT6 ?_
    exact A.j ⟨true, rfl, rfl, hF⟩
   refine A.AH.qF hT6 A.pb [0, 1, 106, 107, 108, 109, 110, 111, 112, 113] [0, 1, 106, 107, 108, 109, 110, 111, 112, 113] [] [] 33554431 3355443199 9 [(25, .on .n), (26, .on .n), (30, .on .n), (31, .on .n)] [42, 43, 47, 48] [] [(42, .slice A0_ ((a0).length) c1_), (43, .int .i64 y1), (47, .slice A2_ ((a1).length) c3_), (48, .int .i64 y1)] trivial ?_
   obtain ⟨x39, hv40, hF⟩ := A.bd_some hF
   refine A.AH.pkl 0 114 hv40 fun ho41 => ?_
   intro A43 c44 b45 o46 hA42
   refine A.AH.vg A.pb [0, 1, 106, 107, 108, 109, 110, 111, 112, 113] [0, 1, 106, 107, 108, 109, 110, 111, 112, 113, 114, 115] 27 (A.mb 38 3489660927) (dj := 41) rfl (fun a w hf hh => A.r_ixa (t := T48) hv40 hA42 hf) ?_
   refine A.AH.qF hT6 A.pb [0, 1, 106, 107, 108, 109, 110, 111, 112, 113, 114, 115] [0, 1, 106, 107, 108, 109, 110, 111, 112, 113, 114, 115] [] [114] 3489660927 4294967295 6 [(28, .on .n), (29, .on (.e 0 2))] [46] [] [(46, .slice A43 ((x39.2.2).length) c44)] trivial ?_
   obtain ⟨x47, hv48, hF⟩ := A.bd_some hF
   refine A.AH.pkl 1 116 hv48 fun ho49 => ?_
   intro A51 c52 b53 o54 hA50
   refine A.AH.vg A.pb [0, 1, 106, 107, 108, 109, 110, 111, 112, 113, 114, 115] [0, 1, 106, 107, 108, 109, 110, 111, 112, 113, 114, 115, 116, 117] 32 (A.mb 38 8589934591) (dj := 41) rfl (fun a w hf hh => A.r_ixa (t := T48) hv48 hA50 hf) ?_
   refine A.AH.qF hT6 A.pb [0, 1, 106, 107, 108, 109, 110, 111, 112, 113, 114, 115, 116, 117] [0, 1, 106, 107, 108, 109, 110, 111, 112, 113, 114, 115, 116, 117] [] [116] 8589934591 34359738367 3 [(33, .on .n), (34, .on (.e 0 2))] [51] [] [(51, .slice A51 ((x47.2.2).length) c52)] trivial ?_
   refine A.AH.oneF hT6 35 ?_
   refine A.AL.on (dj := 41) rfl rfl ?_
   obtain ⟨r55, hv56, hF⟩ := A.bd_some hF
   refine A.AL.call 118 [] (first := []) (cap := []) cf40 (R05_SameBag_ok x39.2.2 x47.2.2 A43 c44 A51 c52 r55 hv56) (.l 115 (.l 117 .nil)) ?_
   rintro _ _ ⟨rfl, rfl⟩
   refine ⟨by kernel_rfl, ?_⟩
   refine A.AH.nxF 68719476735 [0, 1, 106, 107, 108, 109, 110, 111, 112, 113, 114, 115, 116, 117] ?_
   refine A.AH.qF hT6 A.pb [0, 1, 106, 107, 108, 109, 110, 111, 112, 113, 114, 115, 116, 117] [0, 1, 106, 107, 108, 109, 110, 111, 112, 113, 114, 115, 116, 117] [] [] 68719476735 274877906943 0 [(36, .on .n), (37, .n)] [54] [] [(54, .bool (!r55))] trivial ?_
   refine A.AH.doneF hT6 ?_
   exact A.j ⟨(!r55), rfl, rfl, hF⟩
  rintro _ _ ⟨y4, rfl, rfl, hF⟩
  rw [F.R20_Same_j1] at hF
  refine A.AX.cnb rfl hF (fun hb hF => ?_) (fun hb hF => ?_)
  ·refine A.xl 1 ?_
   refine A.q0 [] [] [.n] [(4, .bool false)] ?_
   refine A.dx 1 ?_
   obtain rfl := Option.some.inj hF
   exact A.rt1 [] ⟨rfl, rfl⟩
  refine A.xl 3 ?_
  obtain ⟨hc5, hF⟩ := A.gd_some hF
  refine A.q [] [] [.n, .n, .n] [Z.R64 (y1 + 1)] [(5, .int .i64 (y1 + 1))] hc5 ?_
  refine A.AL.done ?_
  exact A.j ⟨_, Nat.lt_succ_self _, ⟨(y1 + 1), rfl, rfl, (Z.i64_has hc5), hF⟩⟩
 refine A.xl 3 ?_
 refine A.q0 [] [] [.n] [(4, .bool true)] ?_
 refine A.dx 1 ?_
 obtain rfl := Option.some.inj hF
 exact A.rt1 [] ⟨rfl, rfl⟩
end Go.Proofs.YtlbdgahbamalcaaGreatDoor
end

section
set_option linter.unusedVariables false
namespace Go.A
open Go.RowKit Go.Z
section
variable {r : Option Nat} {P : Program} {ops : Array Oper} {Q : Exit → Act → World → Prop} {C : Cx} {l : List (Nat × Value)} {H Hq : List (Nat × Res)} {m f : Nat} {li : List Bool}
/-- what is known, told anew -/
theorem AH.cov (ks : List Nat) (H' : List (Nat × Res)) (h : AH r P ops Q Hq m f li C l H') (e : kpH H ks ks = H' := by kernel_rfl) : AH r P ops Q Hq m f li C l H := fun a w hf hh => h a w hf (hh.cov ks e)
theorem AH.cvl (l' : List (Nat × Value)) (h : AH r P ops Q Hq m f li C l' H) (e : Z.kp l (l'.map (·.1)) = l' := by kernel_rfl) : AH r P ops Q Hq m f li C l H := fun a w hf hh => h a w (Fr.cov hf e) hh
end
end Go.A
end

section
set_option linter.unusedVariables false
set_option linter.unusedSimpArgs false
set_option maxRecDepth 20000
set_option maxHeartbeats 8000000
set_option synthInstance.maxSize 1000000
set_option synthInstance.maxHeartbeats 400000
namespace Go.Proofs.YtlbdgahbamalcaaGreatDoor
open Go.RowKit
def F.model_Of_2_it_l1 (b0 : (List D45)) : Nat → Int → Option (List (D27 × Int))
  | 0, _ => none
  | f + 1, y1 => if y1 < ((b0).length : Int) then ((A.ix b0 y1).bind fun x9 => (A.cns ((x9.1.1, x9.1.2), x9.2) (A.gd (Z.R64 (y1 + 1)) ((F.model_Of_2_it_l1 b0 f) (y1 + 1))))) else (some [])
def F.model_Of_2_it (b0 : (List D45)) : Option (List (D27 × Int)) := F.model_Of_2_it_l1 b0 A.FU 0
theorem model_Of_2_it_sq (b0 : (List D45)) (g0_ : Nat) (A1_ : Option Addr) (c2_ : Nat) (xs : List (D27 × Int)) (hF : F.model_Of_2_it b0 = some xs) :
    A.Sq Tryz.prog 33 [.pointer (some ⟨g0_, 0, none⟩)] [(0, .el none g0_ 0 [.slice A1_ ((b0).length) c2_]), (1, .sh (.slice T45) [.slice A1_ (b0).length c2_] b0)] (Z.Ty.pair T27 (Z.Ty.int .i64)) (fun cs => [Z.vof true (cs.take 2), Z.vof false (cs.drop 2)]) xs := by
 refine A.Sq.enter Tryz.func33 rfl Tryz.ntmps33 rfl fun lid w0 J Jx Φ hY hJ0 => ?_
 obtain ⟨rs0, hrs⟩ : ∃ rs0, rs0 = xs := ⟨_, rfl⟩
 have hR0 : A.Rem xs 0 rs0 := hrs ▸ A.Rem.zero xs
 rw [F.model_Of_2_it, ← hrs] at hF
 clear hrs
 refine A.xl 1 ?_
 refine A.q0 [] [0] [.e 0 0, .n, .n] [(5, .slice A1_ ((b0).length) c2_), (6, .int .i64 ((b0).length : Int)), (7, .int .i64 0)] ?_
 refine A.dx 2 ?_
 refine A.AX.loopC (A.CY 19 Φ) (0, w0) [0, 5, 6] [1] [1] (fun f i nl nh => ∃ (y1 : Int), ∃ (rs : List (D27 × Int)), nl = [(7, .int .i64 y1)] ∧ nh = [] ∧ IntKind.i64.has y1 ∧ J i.1 i.2 ∧ A.Rem xs i.1 rs ∧ F.model_Of_2_it_l1 b0 f y1 = some rs) A.FU [(7, .int .i64 0)] [] ⟨0, _, rfl, rfl, (A.hasl .i64 (0) rfl), hJ0, hR0, hF⟩ ?_
 rintro f3 ⟨k4, w5⟩ _ _ ⟨y1, rs8, rfl, rfl, hy2, hJ6, hR7, hF⟩
 rcases f3 with _ | f3
 ·exact A.no0 hF
 rw [F.model_Of_2_it_l1] at hF
 refine A.xl 1 ?_
 refine A.q0 [] [] [.n] [(8, .bool (decide (y1 < ((b0).length : Int))))] ?_
 refine A.dx 2 ?_
 refine A.AX.cnd rfl hF (fun hb hF => ?_) (fun hb hF => ?_)
 ·refine A.xl 5 ?_
  obtain ⟨x9, hv10, hF⟩ := A.bd_some hF
  refine A.AL.ixs 1 6 hv10 fun ho11 => ?_
  intro b12 o13
  refine A.q0 [] [6] [.e 0 0] [(10, .agg #[.int .i64 x9.1.1, .string x9.1.2, .int .i64 x9.2])] ?_
  refine A.AL.alloc 7 (cs := [.int .i64 0, .string (ByteArray.mk #[]), .int .i64 0]) Tryz.zeroValue46 fun g14 => ?_
  refine A.sw 7 [] [.int .i64 x9.1.1, .string x9.1.2, .int .i64 x9.2] ?_
  refine A.dl 2 ?_
  refine A.q0 [7] [] [.n, .n, .b 0 0, .n, .b 0 2] [(11, .func (.yield lid) #[] #[]), (13, .agg #[.int .i64 x9.1.1, .string x9.1.2]), (15, .int .i64 x9.2)] ?_
  obtain ⟨rs15, hqrs15, hF⟩ := A.cns_some hF
  refine A.AL.yield (t := .pair T27 (Z.Ty.int .i64)) (x := ((x9.1.1, x9.1.2), x9.2)) hY hJ6 (hqrs15 ▸ hR7) [.int .i64 x9.1.1, .string x9.1.2, .int .i64 x9.2] ⟨⟨⟨rfl, ho11.1.1⟩, ⟨rfl, ho11.1.2⟩⟩, ⟨rfl, ho11.2⟩⟩ (fun w16 hJ17 hR18 => ?_) (fun w16 hX19 => ?_)
  ·refine A.q0 [] [] [.n] [(17, .bool false)] ?_
   refine A.dx 1 ?_
   refine A.AX.cnf rfl ?_
   refine A.xl 3 ?_
   obtain ⟨hc20, hF⟩ := A.gd_some hF
   refine A.q [] [] [.n, .n] [Z.R64 (y1 + 1)] [(7, .int .i64 (y1 + 1))] hc20 ?_
   refine A.AL.done ?_
   exact A.AE.jC (k4 + 1, w16) [1] [(7, .int .i64 (y1 + 1))] [] ⟨_, Nat.lt_succ_self _, ⟨(y1 + 1), _, rfl, rfl, (Z.i64_has hc20), hJ17, hR18, hF⟩⟩
  refine A.q0 [] [] [.n] [(17, .bool true)] ?_
  refine A.dx 1 ?_
  refine A.AX.cnt rfl ?_
  exact A.AX.rtX hY hX19
 refine A.xe 1 ?_
 obtain rfl := Option.some.inj hF
 exact A.AE.rtY hY hJ6 hR7

def F.L20_told_model_Of_2_l1 (a1 : Int) : List (D27 × Int) → (List D45) → Option (List D45)
  | [], xs29 => some xs29
  | y24 :: f, xs29 => if a1 ≤ ((xs29).length : Int) then (some xs29) else (A.gd ((List.length (α := D45) xs29 + List.length (α := D45) [((y24.1.1, y24.1.2), y24.2)]) * 32 ≤ 140737488355328) ((F.L20_told_model_Of_2_l1 a1 f) (xs29 ++ [((y24.1.1, y24.1.2), y24.2)])))
def F.L20_told_model_Of_2 (a0_0 : (List D45)) (a1 : Int) : Option (List D45) := (F.model_Of_2_it a0_0).bind fun xs15 => F.L20_told_model_Of_2_l1 a1 xs15 []
theorem L20_told_model_Of_2_ok (a0_0 : (List D45)) (a1 : Int) (g0_ : Nat) (A1_ : Option Addr) (c2_ : Nat) (h3_ : IntKind.i64.has a1) (r : (List D45)) (hF : F.L20_told_model_Of_2 a0_0 a1 = some r) :
    A.Ct Tryz.prog 9 [.func (.func 33) #[] #[.pointer (some ⟨g0_, 0, none⟩)], .int .i64 a1] [(0, .el none g0_ 0 [.slice A1_ ((a0_0).length) c2_]), (1, .sh (.slice T45) [.slice A1_ (a0_0).length c2_] a0_0)] [] (fun v H' => ∃ (A0' : Option Addr) (c1' : Nat), v = .slice A0' ((r).length) c1' ∧ H' = [(0, .own T45 46 A0' c1' r)]) := by
 refine A.Ct.enterM Tryz.func9 rfl Tryz.ntmps9 rfl fun w0 F0 => ?_
 rw [F.L20_told_model_Of_2] at hF
 refine A.xl 1 ?_
 refine A.AL.box 2 (cs := [.int .i64 a1]) fun g1 => ?_
 refine A.q0 [] [] [.n] [] ?_
 refine A.dl 2 ?_
 refine A.AL.alloc 3 (cs := [.slice none 0 0]) Tryz.zeroValue23 fun g2 => ?_
 refine A.dl 3 ?_
 refine A.q0 [] [] [.n] [(8, .func (.func 33) #[] #[.pointer (some ⟨g0_, 0, none⟩)])] ?_
 refine A.AL.val rfl (fun a w hf hh => Z.r_eqfn rfl (hf.eval rfl)) ?_
 refine A.dx 1 ?_
 refine A.AX.cnf rfl ?_
 refine A.xl 4 ?_
 refine A.q0 [] [] [.n] [(10, .func (.func 33) #[] #[.pointer (some ⟨g0_, 0, none⟩)])] ?_
 refine A.dx 2 ?_
 refine A.nil 11 T45 46 ?_
 obtain ⟨xs15, hv16, hF⟩ := A.bd_some hF
 refine A.AX.rgf 12 13 14 [0, 1, 2] [3, 11, 0, 1, 2] [13, 12, 3, 11, 0, 1, 2] (fun k nh => ∃ (xs29 : List D45), ∃ (A27 : Option Addr), ∃ (c28 : Nat), nh = [(3, .blk g2 23 [.slice A27 ((xs29).length) c28]), (11, .own T45 46 A27 c28 xs29)] ∧ F.L20_told_model_Of_2_l1 a1 (List.drop k xs15) xs29 = some r) [(3, .blk g2 23 [.slice none 0 0]), (11, .own T45 46 none 0 [])] cf33 (model_Of_2_it_sq a0_0 g0_ A1_ c2_ xs15 hv16) (fun _ => rfl) ⟨[], none, 0, rfl, hF⟩ ?_ ?_ ?_
 ·rintro k23 _ D17 L18 ⟨xs29, A27, c28, rfl, hF⟩
  exact ⟨⟨_, (.s 0 (.s 1 .nil))⟩, rfl, fun o => rfl⟩
 ·rintro k23 _ y24 D17 L18 w22 o19 ⟨xs29, A27, c28, rfl, hF⟩ hx25 hxo26 hh21
  rw [A.drop_at hx25, F.L20_told_model_Of_2_l1] at hF
  refine A.xl 1 ?_
  refine A.AL.alloc 19 (cs := [.int .i64 0, .string (ByteArray.mk #[])]) Tryz.zeroValue28 fun g30 => ?_
  refine A.sw 19 [] [.int .i64 y24.1.1, .string y24.1.2] ?_
  refine A.dl 1 ?_
  refine A.q0 [] [] [.n] [(7, .int .i64 y24.2)] ?_
  refine A.AL.done ?_
  refine A.AE.flip 12 13 fun o20 => ?_
  refine A.xl 3 ?_
  refine A.q0 [3, 2] [] [.b 0 0, .n, .b 1 0, .n] [(16, .bool (decide (a1 ≤ ((xs29).length : Int))))] ?_
  refine A.dx 1 ?_
  refine A.AX.cnd rfl hF (fun hb hF => ?_) (fun hb hF => ?_)
  ·refine A.AX.bexit hh21 [13, 1, 2, 3, 11, 12, 19] 100000 [(13, 100013), (1, 100001), (2, 100002), (3, 100003), (11, 100011), (12, 100012), (19, 100019), (0, 0)] [(1, .sh (.slice T45) [.slice A1_ (a0_0).length c2_] a0_0), (2, .blk g1 3 [.int .i64 a1]), (3, .blk g2 23 [.slice A27 ((xs29).length) c28]), (11, .own T45 46 A27 c28 xs29), (12, .ob D17 A.dfT), (19, .blk g30 28 [.int .i64 y24.1.1, .string y24.1.2]), (0, .el none g0_ 0 [.slice A1_ ((a0_0).length) c2_])] ?_ rfl rfl
   refine A.AE.x rfl ?_
   refine A.el 2 ?_
   refine A.q0 [3] [] [.b 0 0, .n] [(4, .slice A27 ((xs29).length) c28)] ?_
   refine A.dx 1 ?_
   obtain rfl := Option.some.inj hF
   exact A.AX.rtM (Ds := [D17]) [12] [(0, 11)] (.slice A27 ((xs29).length) c28) (⟨rfl, trivial⟩) (fun a w hf hh => Z.resv1 rfl (Z.rv_t hf rfl)) (⟨A27, c28, rfl, rfl⟩)
  refine A.xl 2 ?_
  refine A.q0 [3, 19] [] [.b 0 0, .b 1 0, .n, .n] [(17, .slice A27 ((xs29).length) c28), (20, .agg #[.int .i64 y24.1.1, .string y24.1.2, .int .i64 y24.2])] ?_
  refine A.AL.bsl 20 (ty := T45) (cs := [.int .i64 y24.1.1, .string y24.1.2, .int .i64 y24.2]) [((y24.1.1, y24.1.2), y24.2)] ⟨⟨⟨⟨rfl, hxo26.1.1⟩, ⟨rfl, hxo26.1.2⟩⟩, ⟨rfl, hxo26.2⟩⟩, rfl⟩ (fun g31 => ?_) Tryz.zeroValue46 Tryz.sizeOf46
  obtain ⟨hl34, hF⟩ := A.gd_some hF
  refine A.AL.app (k := 11) [] (A.rowO (k := 20) rfl) inf46 hl34 fun A32 c33 => ?_
  refine A.sw 3 [] [.slice A32 ((xs29 ++ [((y24.1.1, y24.1.2), y24.2)]).length) c33] ?_
  refine A.de 1 ?_
  exact A.AE.bn hh21 [13, 12, 3, 11, 1, 2] 100000 [(13, 100013), (12, 100012), (3, 100003), (11, 100011), (0, 0), (1, 100001), (2, 100002)] [(3, .blk g2 23 [.slice A32 ((xs29 ++ [((y24.1.1, y24.1.2), y24.2)]).length) c33]), (11, .own T45 46 A32 c33 (xs29 ++ [((y24.1.1, y24.1.2), y24.2)]))] ⟨(xs29 ++ [((y24.1.1, y24.1.2), y24.2)]), A32, c33, rfl, hF⟩ rfl rfl
 rintro _ D17 L18 ⟨xs29, A27, c28, rfl, hF⟩
 rw [List.drop_length, F.L20_told_model_Of_2_l1] at hF
 refine A.el 3 ?_
 refine A.q0 [3] [] [.b 0 0, .n] [(4, .slice A27 ((xs29).length) c28)] ?_
 refine A.dx 1 ?_
 obtain rfl := Option.some.inj hF
 exact A.AX.rtM (Ds := [D17]) [12] [(0, 11)] (.slice A27 ((xs29).length) c28) (⟨rfl, trivial⟩) (fun a w hf hh => Z.resv1 rfl (Z.rv_t hf rfl)) (⟨A27, c28, rfl, rfl⟩)

def F.slices_Values_int64_int64_1_it_l1 (b0 : (List Int)) : Nat → Int → Option (List Int)
  | 0, _ => none
  | f + 1, y1 => if y1 < ((b0).length : Int) then ((A.ix b0 y1).bind fun x9 => (A.cns x9 (A.gd (Z.R64 (y1 + 1)) ((F.slices_Values_int64_int64_1_it_l1 b0 f) (y1 + 1))))) else (some [])
def F.slices_Values_int64_int64_1_it (b0 : (List Int)) : Option (List Int) := F.slices_Values_int64_int64_1_it_l1 b0 A.FU 0
theorem slices_Values_int64_int64_1_it_sq (b0 : (List Int)) (g0_ : Nat) (A1_ : Option Addr) (c2_ : Nat) (xs : List Int) (hF : F.slices_Values_int64_int64_1_it b0 = some xs) :
    A.Sq Tryz.prog 54 [.pointer (some ⟨g0_, 0, none⟩)] [(0, .el none g0_ 0 [.slice A1_ ((b0).length) c2_]), (1, .sh (.slice (Z.Ty.int .i64)) [.slice A1_ (b0).length c2_] b0)] (Z.Ty.int .i64) (fun cs => [Z.vof false cs]) xs := by
 refine A.Sq.enter Tryz.func54 rfl Tryz.ntmps54 rfl fun lid w0 J Jx Φ hY hJ0 => ?_
 obtain ⟨rs0, hrs⟩ : ∃ rs0, rs0 = xs := ⟨_, rfl⟩
 have hR0 : A.Rem xs 0 rs0 := hrs ▸ A.Rem.zero xs
 rw [F.slices_Values_int64_int64_1_it, ← hrs] at hF
 clear hrs
 refine A.xl 1 ?_
 refine A.q0 [] [0] [.e 0 0, .n, .n] [(5, .slice A1_ ((b0).length) c2_), (6, .int .i64 ((b0).length : Int)), (7, .int .i64 0)] ?_
 refine A.dx 2 ?_
 refine A.AX.loopC (A.CY 16 Φ) (0, w0) [0, 5, 6] [1] [1] (fun f i nl nh => ∃ (y1 : Int), ∃ (rs : List Int), nl = [(7, .int .i64 y1)] ∧ nh = [] ∧ IntKind.i64.has y1 ∧ J i.1 i.2 ∧ A.Rem xs i.1 rs ∧ F.slices_Values_int64_int64_1_it_l1 b0 f y1 = some rs) A.FU [(7, .int .i64 0)] [] ⟨0, _, rfl, rfl, (A.hasl .i64 (0) rfl), hJ0, hR0, hF⟩ ?_
 rintro f3 ⟨k4, w5⟩ _ _ ⟨y1, rs8, rfl, rfl, hy2, hJ6, hR7, hF⟩
 rcases f3 with _ | f3
 ·exact A.no0 hF
 rw [F.slices_Values_int64_int64_1_it_l1] at hF
 refine A.xl 1 ?_
 refine A.q0 [] [] [.n] [(8, .bool (decide (y1 < ((b0).length : Int))))] ?_
 refine A.dx 2 ?_
 refine A.AX.cnd rfl hF (fun hb hF => ?_) (fun hb hF => ?_)
 ·refine A.xl 5 ?_
  obtain ⟨x9, hv10, hF⟩ := A.bd_some hF
  refine A.AL.ixs 1 4 hv10 fun ho11 => ?_
  intro b12 o13
  refine A.q0 [] [4] [.e 0 0, .n] [(4, .int .i64 x9)] ?_
  refine A.dl 2 ?_
  refine A.q0 [] [] [.n, .n] [(11, .func (.yield lid) #[] #[]), (12, .int .i64 x9)] ?_
  obtain ⟨rs14, hqrs14, hF⟩ := A.cns_some hF
  refine A.AL.yield hY hJ6 (hqrs14 ▸ hR7) [.int .i64 x9] ⟨rfl, ho11⟩ (fun w15 hJ16 hR17 => ?_) (fun w15 hX18 => ?_)
  ·refine A.q0 [] [] [.n] [(14, .bool false)] ?_
   refine A.dx 1 ?_
   refine A.AX.cnf rfl ?_
   refine A.xl 3 ?_
   obtain ⟨hc19, hF⟩ := A.gd_some hF
   refine A.q [] [] [.n, .n] [Z.R64 (y1 + 1)] [(7, .int .i64 (y1 + 1))] hc19 ?_
   refine A.AL.done ?_
   exact A.AE.jC (k4 + 1, w15) [1] [(7, .int .i64 (y1 + 1))] [] ⟨_, Nat.lt_succ_self _, ⟨(y1 + 1), _, rfl, rfl, (Z.i64_has hc19), hJ16, hR17, hF⟩⟩
  refine A.q0 [] [] [.n] [(14, .bool true)] ?_
  refine A.dx 1 ?_
  refine A.AX.cnt rfl ?_
  exact A.AX.rtX hY hX18
 refine A.xe 1 ?_
 obtain rfl := Option.some.inj hF
 exact A.AE.rtY hY hJ6 hR7

def F.L20_epochs_slices_Values_int64_int64_1_l1 (a1 : Int) : List Int → (List Int) → Option (List Int)
  | [], xs29 => some xs29
  | y24 :: f, xs29 => if a1 ≤ ((xs29).length : Int) then (some xs29) else (A.gd ((List.length (α := Int) xs29 + List.length (α := Int) [y24]) * 8 ≤ 140737488355328) ((F.L20_epochs_slices_Values_int64_int64_1_l1 a1 f) (xs29 ++ [y24])))
def F.L20_epochs_slices_Values_int64_int64_1 (a0_0 : (List Int)) (a1 : Int) : Option (List Int) := (F.slices_Values_int64_int64_1_it a0_0).bind fun xs15 => F.L20_epochs_slices_Values_int64_int64_1_l1 a1 xs15 []
theorem L20_epochs_slices_Values_int64_int64_1_ok (a0_0 : (List Int)) (a1 : Int) (g0_ : Nat) (A1_ : Option Addr) (c2_ : Nat) (h3_ : IntKind.i64.has a1) (r : (List Int)) (hF : F.L20_epochs_slices_Values_int64_int64_1 a0_0 a1 = some r) :
    A.Ct Tryz.prog 16 [.func (.func 54) #[] #[.pointer (some ⟨g0_, 0, none⟩)], .int .i64 a1] [(0, .el none g0_ 0 [.slice A1_ ((a0_0).length) c2_]), (1, .sh (.slice (Z.Ty.int .i64)) [.slice A1_ (a0_0).length c2_] a0_0)] [] (fun v H' => ∃ (A0' : Option Addr) (c1' : Nat), v = .slice A0' ((r).length) c1' ∧ H' = [(0, .own (Z.Ty.int .i64) 2 A0' c1' r)]) := by
 refine A.Ct.enterM Tryz.func16 rfl Tryz.ntmps16 rfl fun w0 F0 => ?_
 rw [F.L20_epochs_slices_Values_int64_int64_1] at hF
 refine A.xl 1 ?_
 refine A.AL.box 2 (cs := [.int .i64 a1]) fun g1 => ?_
 refine A.q0 [] [] [.n] [] ?_
 refine A.dl 2 ?_
 refine A.AL.alloc 3 (cs := [.slice none 0 0]) Tryz.zeroValue58 fun g2 => ?_
 refine A.dl 3 ?_
 refine A.q0 [] [] [.n] [(7, .func (.func 54) #[] #[.pointer (some ⟨g0_, 0, none⟩)])] ?_
 refine A.AL.val rfl (fun a w hf hh => Z.r_eqfn rfl (hf.eval rfl)) ?_
 refine A.dx 1 ?_
 refine A.AX.cnf rfl ?_
 refine A.xl 4 ?_
 refine A.q0 [] [] [.n] [(9, .func (.func 54) #[] #[.pointer (some ⟨g0_, 0, none⟩)])] ?_
 refine A.dx 2 ?_
 refine A.nil 10 (Z.Ty.int .i64) 2 ?_
 obtain ⟨xs15, hv16, hF⟩ := A.bd_some hF
 refine A.AX.rgf 11 12 13 [0, 1, 2] [3, 10, 0, 1, 2] [12, 11, 3, 10, 0, 1, 2] (fun k nh => ∃ (xs29 : List Int), ∃ (A27 : Option Addr), ∃ (c28 : Nat), nh = [(3, .blk g2 58 [.slice A27 ((xs29).length) c28]), (10, .own (Z.Ty.int .i64) 2 A27 c28 xs29)] ∧ F.L20_epochs_slices_Values_int64_int64_1_l1 a1 (List.drop k xs15) xs29 = some r) [(3, .blk g2 58 [.slice none 0 0]), (10, .own (Z.Ty.int .i64) 2 none 0 [])] cf54 (slices_Values_int64_int64_1_it_sq a0_0 g0_ A1_ c2_ xs15 hv16) (fun _ => rfl) ⟨[], none, 0, rfl, hF⟩ ?_ ?_ ?_
 ·rintro k23 _ D17 L18 ⟨xs29, A27, c28, rfl, hF⟩
  exact ⟨⟨_, (.s 0 (.s 1 .nil))⟩, rfl, fun o => rfl⟩
 ·rintro k23 _ y24 D17 L18 w22 o19 ⟨xs29, A27, c28, rfl, hF⟩ hx25 hxo26 hh21
  rw [A.drop_at hx25, F.L20_epochs_slices_Values_int64_int64_1_l1] at hF
  refine A.xl 0 ?_
  refine A.q0 [] [] [.n] [(6, .int .i64 y24)] ?_
  refine A.AL.done ?_
  refine A.AE.flip 11 12 fun o20 => ?_
  refine A.xl 3 ?_
  refine A.q0 [3, 2] [] [.b 0 0, .n, .b 1 0, .n] [(14, .bool (decide (a1 ≤ ((xs29).length : Int))))] ?_
  refine A.dx 1 ?_
  refine A.AX.cnd rfl hF (fun hb hF => ?_) (fun hb hF => ?_)
  ·refine A.AX.bexit hh21 [12, 1, 2, 3, 10, 11] 100000 [(12, 100012), (1, 100001), (2, 100002), (3, 100003), (10, 100010), (11, 100011), (0, 0)] [(1, .sh (.slice (Z.Ty.int .i64)) [.slice A1_ (a0_0).length c2_] a0_0), (2, .blk g1 3 [.int .i64 a1]), (3, .blk g2 58 [.slice A27 ((xs29).length) c28]), (10, .own (Z.Ty.int .i64) 2 A27 c28 xs29), (11, .ob D17 A.dfT), (0, .el none g0_ 0 [.slice A1_ ((a0_0).length) c2_])] ?_ rfl rfl
   refine A.AE.x rfl ?_
   refine A.el 2 ?_
   refine A.q0 [3] [] [.b 0 0, .n] [(4, .slice A27 ((xs29).length) c28)] ?_
   refine A.dx 1 ?_
   obtain rfl := Option.some.inj hF
   exact A.AX.rtM (Ds := [D17]) [11] [(0, 10)] (.slice A27 ((xs29).length) c28) (⟨rfl, trivial⟩) (fun a w hf hh => Z.resv1 rfl (Z.rv_t hf rfl)) (⟨A27, c28, rfl, rfl⟩)
  refine A.xl 2 ?_
  refine A.q0 [3] [] [.b 0 0, .n] [(15, .slice A27 ((xs29).length) c28), (16, .int .i64 y24)] ?_
  refine A.AL.bsl 16 (ty := (Z.Ty.int .i64)) (cs := [.int .i64 y24]) [y24] ⟨⟨rfl, hxo26⟩, rfl⟩ (fun g30 => ?_) Tryz.zeroValue2 Tryz.sizeOf2
  obtain ⟨hl33, hF⟩ := A.gd_some hF
  refine A.AL.app (k := 10) [] (A.rowO (k := 16) rfl) inf2 hl33 fun A31 c32 => ?_
  refine A.sw 3 [] [.slice A31 ((xs29 ++ [y24]).length) c32] ?_
  refine A.de 1 ?_
  exact A.AE.bn hh21 [12, 11, 3, 10, 1, 2] 100000 [(12, 100012), (11, 100011), (3, 100003), (10, 100010), (0, 0), (1, 100001), (2, 100002)] [(3, .blk g2 58 [.slice A31 ((xs29 ++ [y24]).length) c32]), (10, .own (Z.Ty.int .i64) 2 A31 c32 (xs29 ++ [y24]))] ⟨(xs29 ++ [y24]), A31, c32, rfl, hF⟩ rfl rfl
 rintro _ D17 L18 ⟨xs29, A27, c28, rfl, hF⟩
 rw [List.drop_length, F.L20_epochs_slices_Values_int64_int64_1_l1] at hF
 refine A.el 3 ?_
 refine A.q0 [3] [] [.b 0 0, .n] [(4, .slice A27 ((xs29).length) c28)] ?_
 refine A.dx 1 ?_
 obtain rfl := Option.some.inj hF
 exact A.AX.rtM (Ds := [D17]) [11] [(0, 10)] (.slice A27 ((xs29).length) c28) (⟨rfl, trivial⟩) (fun a w hf hh => Z.resv1 rfl (Z.rv_t hf rfl)) (⟨A27, c28, rfl, rfl⟩)

def F.L20_ModelAsks_j1 (y34 : Bool) : Option Bool := some y34
def F.L20_ModelAsks_j2 (a0 : (List D48)) (a1 : (List D48)) (a2 : ByteArray) (a3 : Int) (a4 : (List D39)) (a5 : UInt8) (y23 : Bool) : Option Bool := if y23 = true then ((F.L20_begun).bind fun r24 => (some r24)) else ((F.R20_Of a0 a2 a3).bind fun r26 => ((F.R20_Epochs a4).bind fun r30 => ((F.model_Of a0 a2 a3).bind fun r36 => ((F.L20_told_model_Of_2 r36 9999).bind fun r41 => ((F.slices_Equal_api_Many_api_Many r41 r26).bind fun r45 => (if r45 = true then (A.gd (Z.R64 ((a5.toNat : Int)) ∧ Z.R64 ((a5.toNat : Int))) (A.gd (0 ≤ min ((r26).length : Int) (a5.toNat : Int) ∧ (min ((r26).length : Int) (a5.toNat : Int)).toNat ≤ (r26).length) ((F.model_Of a0 a2 a3).bind fun r49 => ((F.L20_told_model_Of_2 r49 (a5.toNat : Int)).bind fun r54 => ((F.slices_Equal_api_Many_api_Many r54 (List.take ((min ((r26).length : Int) (a5.toNat : Int)).toNat) r26)).bind fun r58 => (if r58 = true then ((F.model_Epochs a4).bind fun r60 => ((F.L20_epochs_slices_Values_int64_int64_1 r60 999).bind fun r65 => ((F.slices_Equal_int64_int64 r65 r30).bind fun r69 => (if r69 = true then (A.gd (Z.R64 ((a5.toNat : Int)) ∧ Z.R64 ((a5.toNat : Int))) (A.gd (0 ≤ min ((r30).length : Int) (a5.toNat : Int) ∧ (min ((r30).length : Int) (a5.toNat : Int)).toNat ≤ (r30).length) ((F.model_Epochs a4).bind fun r73 => ((F.L20_epochs_slices_Values_int64_int64_1 r73 (a5.toNat : Int)).bind fun r78 => ((F.slices_Equal_int64_int64 r78 (List.take ((min ((r30).length : Int) (a5.toNat : Int)).toNat) r30)).bind fun r82 => (if r82 = true then ((F.model_Same a0 a1).bind fun r84 => ((F.R20_Same a0 a1).bind fun r86 => (if (r84 == r86) = true then ((F.model_Same a0 a0).bind fun r88 => (F.L20_ModelAsks_j1 r88)) else (F.L20_ModelAsks_j1 false)))) else (F.L20_ModelAsks_j1 false))))))) else (F.L20_ModelAsks_j1 false))))) else (F.L20_ModelAsks_j1 false))))))) else (F.L20_ModelAsks_j1 false)))))))
def F.L20_ModelAsks_l3 (a0 : (List D48)) (a1 : (List D48)) (a2 : ByteArray) (a3 : Int) (a4 : (List D39)) (a5 : UInt8) (r4 : (List D48)) : Nat → Int → Int → Option Bool
  | 0, _, _ => none
  | f + 1, y8, y10 => if y10 < ((r4).length : Int) then ((A.ix r4 y10).bind fun x13 => (A.gd (Z.R64 ((min ((x13.2.2).length : Int) 1048576) + (min (x13.1.size : Int) 1048576)) ∧ Z.R64 (y8 + ((min ((x13.2.2).length : Int) 1048576) + (min (x13.1.size : Int) 1048576)))) (A.gd (Z.R64 (y10 + 1)) ((F.L20_ModelAsks_l3 a0 a1 a2 a3 a4 a5 r4 f) (y8 + ((min ((x13.2.2).length : Int) 1048576) + (min (x13.1.size : Int) 1048576))) (y10 + 1))))) else ((F.L20_begun).bind fun r90 => (if (bif bif bif !r90 then true else decide ((30 : Int) < ((a0).length : Int)) then true else decide ((30 : Int) < ((a1).length : Int)) then true else decide ((2000 : Int) < y8)) = true then (F.L20_ModelAsks_j2 a0 a1 a2 a3 a4 a5 true) else ((F.L20_small a4 []).bind fun r92 => (F.L20_ModelAsks_j2 a0 a1 a2 a3 a4 a5 (!r92)))))
def F.L20_ModelAsks (a0 : (List D48)) (a1 : (List D48)) (a2 : ByteArray) (a3 : Int) (a4 : (List D39)) (a5 : UInt8) : Option Bool := A.gd (0 ≤ min ((a0).length : Int) 40 ∧ (min ((a0).length : Int) 40).toNat ≤ (a0).length) (A.gd (0 ≤ min ((a1).length : Int) 40 ∧ (min ((a1).length : Int) 40).toNat ≤ (a1).length) ((F.slices_Concat_api_Sheet_api_Sheet [List.take ((min ((a0).length : Int) 40).toNat) a0, List.take ((min ((a1).length : Int) 40).toNat) a1]).bind fun r4 => (F.L20_ModelAsks_l3 a0 a1 a2 a3 a4 a5 r4 A.FU 0 0)))
theorem L20_ModelAsks_ok (a0 : (List D48)) (a1 : (List D48)) (a2 : ByteArray) (a3 : Int) (a4 : (List D39)) (a5 : UInt8) (A0_ : Option Addr) (c1_ : Nat) (A2_ : Option Addr) (c3_ : Nat) (A6_ : Option Addr) (c7_ : Nat) (h4_ : a2.size ≤ maxLen) (h5_ : IntKind.i64.has a3) (r : Bool) (hF : F.L20_ModelAsks a0 a1 a2 a3 a4 a5 = some r) :
    A.Ct Tryz.prog 4 [.slice A0_ ((a0).length) c1_, .slice A2_ ((a1).length) c3_, .string a2, .int .i64 a3, .slice A6_ ((a4).length) c7_, .int .u8 (a5.toNat : Int)] [(0, .sh (.slice T48) [.slice A0_ (a0).length c1_] a0), (1, .sh (.slice T48) [.slice A2_ (a1).length c3_] a1), (2, .sh (.slice T39) [.slice A6_ (a4).length c7_] a4)] [] (fun v H' => v = .bool r ∧ H' = []) := by
 refine A.Ct.enter Tryz.func4 rfl Tryz.ntmps4 rfl fun w0 F0 => ?_
 rw [F.L20_ModelAsks] at hF
 refine A.xl 1 ?_
 refine A.q0 [] [] [.n] [] ?_
 refine A.dl 2 ?_
 refine A.q0 [] [] [.n] [(13, .int .i64 0)] ?_
 refine A.dx 3 ?_
 refine A.AX.dr mixed 14 14 (A.mb 14 0) ?_
 refine A.hq A.pb [] [0, 1, 2] [] [] (A.mb 14 8687) 5 [(0, .n), (1, .n), (5, .n), (6, .n), (13, .n), (2, .n), (7, .n), (3, .n), (8, .n)] [(18, .slice A0_ ((a0).length) c1_), (23, .slice A2_ ((a1).length) c3_), (31, .int .i64 0), (21, .int .i64 (min ((a0).length : Int) 40)), (26, .int .i64 (min ((a1).length : Int) 40))] ?_
 obtain ⟨hc1, hF⟩ := A.gd_some hF
 refine A.cutp 0 3 ((min ((a0).length : Int) 40).toNat) hc1.2 ?_
 refine A.AH.v A.pb [0, 1, 2] [0, 1, 2, 3] 4 (A.mb 14 8703) rfl (fun a w hf hh => A.r_cuth (v := (min ((a0).length : Int) 40).toNat) 0 hf hh (Int.toNat_of_nonneg hc1.1).symm hc1.2) ?_
 obtain ⟨hc2, hF⟩ := A.gd_some hF
 refine A.cutp 1 4 ((min ((a1).length : Int) 40).toNat) hc2.2 ?_
 refine A.AH.v A.pb [0, 1, 2, 3] [0, 1, 2, 3, 4] 9 (A.mb 14 9215) rfl (fun a w hf hh => A.r_cuth (v := (min ((a1).length : Int) 40).toNat) 1 hf hh (Int.toNat_of_nonneg hc2.1).symm hc2.2) ?_
 refine A.AH.one 10 ?_
 refine A.AL.bsl 5 (ty := (Z.Ty.slice T48)) (cs := [.slice A0_ ((List.take ((min ((a0).length : Int) 40).toNat) a0).length) c1_, .slice A2_ ((List.take ((min ((a1).length : Int) 40).toNat) a1).length) c3_]) [List.take ((min ((a0).length : Int) 40).toNat) a0, List.take ((min ((a1).length : Int) 40).toNat) a1] ⟨.inl ⟨3, rfl⟩, ⟨.inl ⟨4, rfl⟩, rfl⟩⟩ (fun g3 => ?_) Tryz.zeroValue41 Tryz.sizeOf41
 refine A.AH.nx (A.mb 14 10239) [0, 1, 2, 3, 4] ?_
 refine A.AH.one 11 ?_
 obtain ⟨r4, hv5, hF⟩ := A.bd_some hF
 refine A.AL.call 6 [] (first := []) (cap := []) cf11 (slices_Concat_api_Sheet_api_Sheet_ok [List.take ((min ((a0).length : Int) 40).toNat) a0, List.take ((min ((a1).length : Int) 40).toNat) a1] (some ⟨g3, 0, none⟩) 2 r4 hv5) (.o 5 .nil) ?_
 rintro _ _ ⟨A6, c7, rfl, rfl⟩
 refine ⟨by kernel_rfl, ?_⟩
 refine A.AH.nx (A.mb 14 12287) [0, 1, 2, 3, 4] ?_
 refine A.hq A.pb [0, 1, 2, 3, 4] [0, 1, 2, 3, 4, 5, 6] [] [] (A.mb 14 16383) 0 [(12, .n)] [(30, .int .i64 ((r4).length : Int))] ?_
 refine A.AH.done ?_
 refine A.ex 2 ?_
 refine A.lp_ [0, 1, 2, 3, 4, 5, 29, 30] [0, 1, 2, 6] (fun f nl nh => ∃ (y8 : Int), ∃ (y10 : Int), nl = [(13, .int .i64 y8), (31, .int .i64 y10)] ∧ nh = [] ∧ IntKind.i64.has y8 ∧ IntKind.i64.has y10 ∧ F.L20_ModelAsks_l3 a0 a1 a2 a3 a4 a5 r4 f y8 y10 = some r) ⟨0, 0, rfl, rfl, (A.hasl .i64 (0) rfl), (A.hasl .i64 (0) rfl), hF⟩ ?_
 rintro f12 _ _ ⟨y8, y10, rfl, rfl, hy9, hy11, hF⟩
 rcases f12 with _ | f12
 ·exact A.no0 hF
 rw [F.L20_ModelAsks_l3] at hF
 refine A.xl 1 ?_
 refine A.q0 [] [] [.n] [(32, .bool (decide (y10 < ((r4).length : Int))))] ?_
 refine A.dx 2 ?_
 refine A.AX.cnd rfl hF (fun hb hF => ?_) (fun hb hF => ?_)
 ·refine A.xl 5 ?_
  obtain ⟨x13, hv14, hF⟩ := A.bd_some hF
  refine A.AL.ixo 6 1656 hv14 fun ho15 => ?_
  intro A16 c17 g18 hA19
  refine A.q0 [] [1656] [.e 0 0] [(34, .agg #[.string x13.1, .int .i64 x13.2.1, .slice A16 ((x13.2.2).length) c17])] ?_
  refine A.AL.alloc 1658 (cs := [.string (ByteArray.mk #[]), .int .i64 0, .slice none 0 0]) Tryz.zeroValue49 fun g20 => ?_
  refine A.sw 1658 [] [.string x13.1, .int .i64 x13.2.1, .slice A16 ((x13.2.2).length) c17] ?_
  refine A.dl 1 ?_
  obtain ⟨hc21, hF⟩ := A.gd_some hF
  refine A.q [1658] [] [.n, .n, .b 0 2, .n, .n, .n, .b 0 0, .n, .n, .n, .n, .n] [Z.R64 ((min ((x13.2.2).length : Int) 1048576) + (min (x13.1.size : Int) 1048576)), Z.R64 (y8 + ((min ((x13.2.2).length : Int) 1048576) + (min (x13.1.size : Int) 1048576)))] [(13, .int .i64 (y8 + ((min ((x13.2.2).length : Int) 1048576) + (min (x13.1.size : Int) 1048576))))] hc21 ?_
  refine A.dl 2 ?_
  obtain ⟨hc22, hF⟩ := A.gd_some hF
  refine A.q [] [] [.n, .n] [Z.R64 (y10 + 1)] [(31, .int .i64 (y10 + 1))] hc22 ?_
  refine A.AL.done ?_
  exact A.j ⟨_, Nat.lt_succ_self _, ⟨(y8 + ((min ((x13.2.2).length : Int) 1048576) + (min (x13.1.size : Int) 1048576))), (y10 + 1), rfl, rfl, (Z.i64_has hc21.2), (Z.i64_has hc22), hF⟩⟩
 refine A.xx 3 ?_
 refine A.AX.join [0, 1, 2, 3, 4, 5] [0, 1, 2] (fun nl nh => ∃ (y23 : Bool), nl = [(67, .bool y23)] ∧ nh = [] ∧ F.L20_ModelAsks_j2 a0 a1 a2 a3 a4 a5 y23 = some r) ?_ ?_
 ·refine A.xl 0 ?_
  obtain ⟨r90, hv91, hF⟩ := A.bd_some hF
  refine A.AL.call 1659 [] (first := []) (cap := []) cf6 (L20_begun_ok r90 hv91) .nil ?_
  rintro _ _ ⟨rfl, rfl⟩
  refine ⟨by kernel_rfl, ?_⟩
  refine A.q0 [] [] [.n, .n, .sy .n, .sy .n, .sy .n, .pk, .n, .sy .n, .sy .n, .sy .n, .pk, .n, .sy .n, .sy .n, .pk, .n] [(63, .bool (bif bif bif !r90 then true else decide ((30 : Int) < ((a0).length : Int)) then true else decide ((30 : Int) < ((a1).length : Int)) then true else decide ((2000 : Int) < y8)))] ?_
  refine A.AL.cnd (j := 63) rfl hF (fun hF => ?_) (fun hF => ?_)
  ·refine A.q0 [] [] [.off, .off, .off, .n] [(67, .bool true)] ?_
   refine A.AL.done ?_
   exact A.j ⟨true, rfl, rfl, hF⟩
  refine A.q0 [] [] [.on .n] [(64, .slice A6_ ((a4).length) c7_)] ?_
  refine A.AL.on (dj := 63) rfl rfl ?_
  obtain ⟨r92, hv93, hF⟩ := A.bd_some hF
  refine A.AL.call 1699 [] (first := []) (cap := []) cf12 (L20_small_ok a4 [] A6_ c7_ none 0 r92 hv93) (.s 2 (.ns .nil)) ?_
  rintro _ _ ⟨rfl, rfl⟩
  refine ⟨by kernel_rfl, ?_⟩
  refine A.q0 [] [] [.on .n, .n] [(67, .bool (!r92))] ?_
  refine A.AL.done ?_
  exact A.j ⟨(!r92), rfl, rfl, hF⟩
 rintro _ _ ⟨y23, rfl, rfl, hF⟩
 rw [F.L20_ModelAsks_j2] at hF
 refine A.AX.cnb rfl hF (fun hb hF => ?_) (fun hb hF => ?_)
 ·refine A.xl 1 ?_
  obtain ⟨r24, hv25, hF⟩ := A.bd_some hF
  refine A.AL.call 1739 [] (first := []) (cap := []) cf6 (L20_begun_ok r24 hv25) .nil ?_
  rintro _ _ ⟨rfl, rfl⟩
  refine ⟨by kernel_rfl, ?_⟩
  refine A.q0 [] [] [.n] [(12, .bool r24)] ?_
  refine A.dx 1 ?_
  obtain rfl := Option.some.inj hF
  exact A.rt1 [] ⟨rfl, rfl⟩
 refine A.xl 3 ?_
 refine A.q0 [] [] [.n, .n, .n] [(69, .slice A0_ ((a0).length) c1_), (70, .string a2), (71, .int .i64 a3)] ?_
 obtain ⟨r26, hv27, hF⟩ := A.bd_some hF
 refine A.AL.call 1779 [] (first := []) (cap := []) cf13 (R20_Of_ok a0 a2 a3 A0_ c1_ h4_ h5_ r26 hv27) (.l 0 .nil) ?_
 rintro _ _ ⟨A28, c29, rfl, rfl⟩
 refine ⟨by kernel_rfl, ?_⟩
 refine A.q0 [] [] [.n] [(73, .slice A6_ ((a4).length) c7_)] ?_
 obtain ⟨r30, hv31, hF⟩ := A.bd_some hF
 refine A.AL.call 1819 [] (first := []) (cap := []) cf14 (R20_Epochs_ok a4 A6_ c7_ r30 hv31) (.l 2 .nil) ?_
 rintro _ _ ⟨A32, c33, rfl, rfl⟩
 refine ⟨by kernel_rfl, ?_⟩
 refine A.q0 [] [] [.n, .n] [(16, .slice A28 ((r26).length) c29), (17, .slice A32 ((r30).length) c33)] ?_
 refine A.dx 1 ?_
 refine A.AX.join [] [] (fun nl nh => ∃ (y34 : Bool), nl = [(12, .bool y34)] ∧ nh = [] ∧ F.L20_ModelAsks_j1 y34 = some r) ?_ ?_
 ·refine A.frz 1819 [] ?_
  refine A.AX.drF mixed 61 61 [0, 0, 0, 7, 8, 0, 48, 64, 128, 128, 128, 1920, 128, 4224, 10368, 128, 128, 65664, 128, 262272, 655488, 1081472, 2113664, 4194432, 12582912, 16777216, 50331648, 83886080, 16777216, 419430400, 553648128, 1610612736, 2147483648, 6442450944, 2147483648, 19327352832, 45097156608, 2147483648, 2147483648, 277025390592, 2147483648, 1101659111424, 2750926553088, 4537632948224, 8866959982592, 17594333528064, 52776558133248, 70368744177664, 70368744177664, 492581209243648, 70368744177664, 70368744177664, 4011018418126848, 5136918324969472, 9077567998918656, 22517998136852480, 36028797018963968, 36028797018963968, 252201579132747776, 324259173170675712, 1152921504606846975] [0, 0, 0, 7, 8, 0, 48, 64, 128, 128, 128, 1920, 128, 4224, 10368, 128, 128, 65664, 128, 262272, 655488, 1081472, 2113664, 4194432, 8388608, 16777216, 50331648, 83886080, 16777216, 419430400, 553648128, 1073741824, 2147483648, 6442450944, 2147483648, 19327352832, 45097156608, 2147483648, 2147483648, 277025390592, 2147483648, 1101659111424, 2750926553088, 4537632948224, 8866959982592, 17594333528064, 35184372088832, 70368744177664, 70368744177664, 492581209243648, 70368744177664, 70368744177664, 3448068464705536, 5136918324969472, 9077567998918656, 18014398509481984, 36028797018963968, 36028797018963968, 252201579132747776, 324259173170675712, 576460752303423488] fun hT35 => ?_
  refine A.AH.qF hT35 A.pb [] [0, 1, 2, 1779, 1819] [] [] 0 39 57 [(0, .n), (1, .n), (2, .n), (5, .n)] [75, 76, 77, 80] [] [(75, .slice A0_ ((a0).length) c1_), (76, .string a2), (77, .int .i64 a3), (80, .slice A28 ((r26).length) c29)] trivial ?_
  refine A.AH.oneF hT35 3 ?_
  obtain ⟨r36, hv37, hF⟩ := A.bd_some hF
  refine A.AL.call 1859 [] (first := []) (cap := []) cf10 (model_Of_ok a0 a2 a3 A0_ c1_ h4_ h5_ r36 hv37) (.l 0 .nil) ?_
  rintro _ _ ⟨g38, A39, c40, rfl, rfl⟩
  refine ⟨by kernel_rfl, ?_⟩
  refine A.AH.nxF 47 [0, 1, 2, 1779, 1819] ?_
  refine A.AH.oneF hT35 4 ?_
  obtain ⟨r41, hv42, hF⟩ := A.bd_some hF
  refine A.AL.call 1899 [] (first := []) (cap := []) cf9 (L20_told_model_Of_2_ok r36 9999 g38 A39 c40 (A.hasl .i64 (9999) rfl) r41 hv42) (.b 1859 (.s 1860 .nil)) ?_
  rintro _ _ ⟨A43, c44, rfl, rfl⟩
  refine ⟨by kernel_rfl, ?_⟩
  refine A.AH.nxF 63 [0, 1, 2, 1779, 1819] ?_
  refine A.AH.oneF hT35 6 ?_
  obtain ⟨r45, hv46, hF⟩ := A.bd_some hF
  refine A.AL.call 1939 [] (first := []) (cap := []) cf8 (slices_Equal_api_Many_api_Many_ok r41 r26 A43 c44 A28 c29 r45 hv46) (.o 1899 (.l 1779 .nil)) ?_
  rintro _ _ ⟨rfl, rfl⟩
  refine ⟨by kernel_rfl, ?_⟩
  refine A.AH.nxF 127 [0, 1, 2, 1779, 1819] ?_
  refine A.AH.qF hT35 A.pb [0, 1, 2, 1779, 1819] [0, 1, 2, 1779, 1819, 1859, 1860, 1899] [] [] 127 255 53 [(7, .n)] [82] [] [(82, .bool r45)] trivial ?_
  refine A.AH.cnd (j := 82) rfl hF (fun hF => ?_) (fun hF => ?_)
  ·refine A.AH.cov [0, 1, 2, 1779, 1819, 1859, 1860, 1899] [(0, .sh (.slice T48) [.slice A0_ (a0).length c1_] a0), (1, .sh (.slice T48) [.slice A2_ (a1).length c3_] a1), (2, .sh (.slice T39) [.slice A6_ (a4).length c7_] a4), (1779, .sh (.slice T45) [.slice A28 (r26).length c29] r26), (1819, .sh (.slice (Z.Ty.int .i64)) [.slice A32 (r30).length c33] r30), (1859, .blk g38 23 [.slice A39 ((r36).length) c40]), (1860, .sh (.slice T45) [.slice A39 (r36).length c40] r36), (1899, .own T45 46 A43 c44 r41)] ?_
   refine A.AH.cvl [(0, .slice A0_ ((a0).length) c1_), (1, .slice A2_ ((a1).length) c3_), (2, .string a2), (3, .int .i64 a3), (4, .slice A6_ ((a4).length) c7_), (5, .int .u8 (a5.toNat : Int)), (16, .slice A28 ((r26).length) c29), (17, .slice A32 ((r30).length) c33), (82, .bool true)] ?_
   obtain ⟨hc47, hF⟩ := A.gd_some hF
   refine A.AH.qF hT35 A.pb [0, 1, 2, 1779, 1819, 1859, 1860, 1899] [0, 1, 2, 1779, 1819, 1859, 1860, 1899] [] [] 255 2078719 42 [(8, .on .n), (9, .on .n), (10, .on .n), (12, .on .n), (15, .on .n), (16, .on .n), (18, .on .n), (13, .on .n), (17, .on .n), (19, .on .n), (20, .on .n)] [83, 84, 85, 90, 88, 95] [Z.R64 ((a5.toNat : Int)), Z.R64 ((a5.toNat : Int))] [(83, .slice A0_ ((a0).length) c1_), (84, .string a2), (85, .int .i64 a3), (90, .slice A28 ((r26).length) c29), (88, .int .i64 (a5.toNat : Int)), (95, .int .i64 (min ((r26).length : Int) (a5.toNat : Int)))] hc47 ?_
   obtain ⟨hc48, hF⟩ := A.gd_some hF
   refine A.cutp 1779 1979 ((min ((r26).length : Int) (a5.toNat : Int)).toNat) hc48.2 ?_
   refine A.AH.vg A.pb [0, 1, 2, 1779, 1819, 1859, 1860, 1899] [0, 1, 2, 1779, 1819, 1859, 1860, 1899, 1979] 21 (A.mb 61 4175871) (dj := 82) rfl (fun a w hf hh => A.r_cuth (v := (min ((r26).length : Int) (a5.toNat : Int)).toNat) 1779 hf hh (Int.toNat_of_nonneg hc48.1).symm hc48.2) ?_
   refine A.AH.oneF hT35 11 ?_
   refine A.AL.on (dj := 82) rfl rfl ?_
   obtain ⟨r49, hv50, hF⟩ := A.bd_some hF
   refine A.AL.call 1980 [] (first := []) (cap := []) cf10 (model_Of_ok a0 a2 a3 A0_ c1_ h4_ h5_ r49 hv50) (.l 0 .nil) ?_
   rintro _ _ ⟨g51, A52, c53, rfl, rfl⟩
   refine ⟨by kernel_rfl, ?_⟩
   refine A.AH.nxF 4177919 [0, 1, 2, 1779, 1819, 1859, 1860, 1899, 1979] ?_
   refine A.AH.oneF hT35 14 ?_
   refine A.AL.on (dj := 82) rfl rfl ?_
   obtain ⟨r54, hv55, hF⟩ := A.bd_some hF
   refine A.AL.call 2020 [] (first := []) (cap := []) cf9 (L20_told_model_Of_2_ok r49 (a5.toNat : Int) g51 A52 c53 (Z.i64_has hc47.1) r54 hv55) (.b 1980 (.s 1981 .nil)) ?_
   rintro _ _ ⟨A56, c57, rfl, rfl⟩
   refine ⟨by kernel_rfl, ?_⟩
   refine A.AH.nxF 4194303 [0, 1, 2, 1779, 1819, 1859, 1860, 1899, 1979] ?_
   refine A.AH.oneF hT35 22 ?_
   refine A.AL.on (dj := 82) rfl rfl ?_
   obtain ⟨r58, hv59, hF⟩ := A.bd_some hF
   refine A.AL.call 2060 [] (first := []) (cap := []) cf8 (slices_Equal_api_Many_api_Many_ok r54 (List.take ((min ((r26).length : Int) (a5.toNat : Int)).toNat) r26) A56 c57 A28 c29 r58 hv59) (.o 2020 (.l 1979 .nil)) ?_
   rintro _ _ ⟨rfl, rfl⟩
   refine ⟨by kernel_rfl, ?_⟩
   refine A.AH.nxF 8388607 [0, 1, 2, 1779, 1819, 1859, 1860, 1899, 1979] ?_
   refine A.AH.qF hT35 A.pb [0, 1, 2, 1779, 1819, 1859, 1860, 1899, 1979] [0, 1, 2, 1779, 1819, 1859, 1860, 1899, 1979, 1980, 1981, 2020] [] [] 8388607 33554431 36 [(23, .n), (24, .n)] [99] [] [(99, .bool r58)] trivial ?_
   refine A.AH.cnd (j := 99) rfl hF (fun hF => ?_) (fun hF => ?_)
   ·refine A.AH.cov [0, 1, 2, 1779, 1819, 1859, 1860, 1899, 1979, 1980, 1981, 2020] [(0, .sh (.slice T48) [.slice A0_ (a0).length c1_] a0), (1, .sh (.slice T48) [.slice A2_ (a1).length c3_] a1), (2, .sh (.slice T39) [.slice A6_ (a4).length c7_] a4), (1779, .sh (.slice T45) [.slice A28 (r26).length c29] r26), (1819, .sh (.slice (Z.Ty.int .i64)) [.slice A32 (r30).length c33] r30), (1859, .blk g38 23 [.slice A39 ((r36).length) c40]), (1860, .sh (.slice T45) [.slice A39 (r36).length c40] r36), (1899, .own T45 46 A43 c44 r41), (1979, .sh (.slice T45) [.slice A28 (List.take ((min ((r26).length : Int) (a5.toNat : Int)).toNat) r26).length c29] (List.take ((min ((r26).length : Int) (a5.toNat : Int)).toNat) r26)), (1980, .blk g51 23 [.slice A52 ((r49).length) c53]), (1981, .sh (.slice T45) [.slice A52 (r49).length c53] r49), (2020, .own T45 46 A56 c57 r54)] ?_
    refine A.AH.cvl [(0, .slice A0_ ((a0).length) c1_), (1, .slice A2_ ((a1).length) c3_), (4, .slice A6_ ((a4).length) c7_), (5, .int .u8 (a5.toNat : Int)), (17, .slice A32 ((r30).length) c33), (99, .bool true)] ?_
    refine A.AH.qF hT35 A.pb [0, 1, 2, 1779, 1819, 1859, 1860, 1899, 1979, 1980, 1981, 2020] [0, 1, 2, 1779, 1819, 1859, 1860, 1899, 1979, 1980, 1981, 2020] [] [] 33554431 335544319 34 [(25, .on .n), (28, .on .n)] [100, 103] [] [(100, .slice A6_ ((a4).length) c7_), (103, .slice A32 ((r30).length) c33)] trivial ?_
    refine A.AH.oneF hT35 26 ?_
    refine A.AL.on (dj := 99) rfl rfl ?_
    obtain ⟨r60, hv61, hF⟩ := A.bd_some hF
    refine A.AL.call 2100 [] (first := []) (cap := []) cf17 (model_Epochs_ok a4 A6_ c7_ r60 hv61) (.l 2 .nil) ?_
    rintro _ _ ⟨g62, A63, c64, rfl, rfl⟩
    refine ⟨by kernel_rfl, ?_⟩
    refine A.AH.nxF 402653183 [0, 1, 2, 1779, 1819, 1859, 1860, 1899, 1979, 1980, 1981, 2020] ?_
    refine A.AH.oneF hT35 27 ?_
    refine A.AL.on (dj := 99) rfl rfl ?_
    obtain ⟨r65, hv66, hF⟩ := A.bd_some hF
    refine A.AL.call 2140 [] (first := []) (cap := []) cf16 (L20_epochs_slices_Values_int64_int64_1_ok r60 999 g62 A63 c64 (A.hasl .i64 (999) rfl) r65 hv66) (.b 2100 (.s 2101 .nil)) ?_
    rintro _ _ ⟨A67, c68, rfl, rfl⟩
    refine ⟨by kernel_rfl, ?_⟩
    refine A.AH.nxF 536870911 [0, 1, 2, 1779, 1819, 1859, 1860, 1899, 1979, 1980, 1981, 2020] ?_
    refine A.AH.oneF hT35 29 ?_
    refine A.AL.on (dj := 99) rfl rfl ?_
    obtain ⟨r69, hv70, hF⟩ := A.bd_some hF
    refine A.AL.call 2180 [] (first := []) (cap := []) cf15 (slices_Equal_int64_int64_ok r65 r30 A67 c68 A32 c33 r69 hv70) (.o 2140 (.l 1819 .nil)) ?_
    rintro _ _ ⟨rfl, rfl⟩
    refine ⟨by kernel_rfl, ?_⟩
    refine A.AH.nxF 1073741823 [0, 1, 2, 1779, 1819, 1859, 1860, 1899, 1979, 1980, 1981, 2020] ?_
    refine A.AH.qF hT35 A.pb [0, 1, 2, 1779, 1819, 1859, 1860, 1899, 1979, 1980, 1981, 2020] [0, 1, 2, 1779, 1819, 1859, 1860, 1899, 1979, 1980, 1981, 2020, 2100, 2101, 2140] [] [] 1073741823 4294967295 29 [(30, .n), (31, .n)] [106] [] [(106, .bool r69)] trivial ?_
    refine A.AH.cnd (j := 106) rfl hF (fun hF => ?_) (fun hF => ?_)
    ·refine A.AH.cov [0, 1, 2, 1779, 1819, 1859, 1860, 1899, 1979, 1980, 1981, 2020, 2100, 2101, 2140] [(0, .sh (.slice T48) [.slice A0_ (a0).length c1_] a0), (1, .sh (.slice T48) [.slice A2_ (a1).length c3_] a1), (2, .sh (.slice T39) [.slice A6_ (a4).length c7_] a4), (1779, .sh (.slice T45) [.slice A28 (r26).length c29] r26), (1819, .sh (.slice (Z.Ty.int .i64)) [.slice A32 (r30).length c33] r30), (1859, .blk g38 23 [.slice A39 ((r36).length) c40]), (1860, .sh (.slice T45) [.slice A39 (r36).length c40] r36), (1899, .own T45 46 A43 c44 r41), (1979, .sh (.slice T45) [.slice A28 (List.take ((min ((r26).length : Int) (a5.toNat : Int)).toNat) r26).length c29] (List.take ((min ((r26).length : Int) (a5.toNat : Int)).toNat) r26)), (1980, .blk g51 23 [.slice A52 ((r49).length) c53]), (1981, .sh (.slice T45) [.slice A52 (r49).length c53] r49), (2020, .own T45 46 A56 c57 r54), (2100, .blk g62 58 [.slice A63 ((r60).length) c64]), (2101, .sh (.slice (Z.Ty.int .i64)) [.slice A63 (r60).length c64] r60), (2140, .own (Z.Ty.int .i64) 2 A67 c68 r65)] ?_
     refine A.AH.cvl [(0, .slice A0_ ((a0).length) c1_), (1, .slice A2_ ((a1).length) c3_), (4, .slice A6_ ((a4).length) c7_), (5, .int .u8 (a5.toNat : Int)), (17, .slice A32 ((r30).length) c33), (106, .bool true)] ?_
     obtain ⟨hc71, hF⟩ := A.gd_some hF
     refine A.AH.qF hT35 A.pb [0, 1, 2, 1779, 1819, 1859, 1860, 1899, 1979, 1980, 1981, 2020, 2100, 2101, 2140] [0, 1, 2, 1779, 1819, 1859, 1860, 1899, 1979, 1980, 1981, 2020, 2100, 2101, 2140] [] [] 4294967295 8718783610879 20 [(32, .on .n), (34, .on .n), (37, .on .n), (38, .on .n), (40, .on .n), (35, .on .n), (39, .on .n), (41, .on .n), (42, .on .n)] [107, 112, 110, 117] [Z.R64 ((a5.toNat : Int)), Z.R64 ((a5.toNat : Int))] [(107, .slice A6_ ((a4).length) c7_), (112, .slice A32 ((r30).length) c33), (110, .int .i64 (a5.toNat : Int)), (117, .int .i64 (min ((r30).length : Int) (a5.toNat : Int)))] hc71 ?_
     obtain ⟨hc72, hF⟩ := A.gd_some hF
     refine A.cutp 1819 2220 ((min ((r30).length : Int) (a5.toNat : Int)).toNat) hc72.2 ?_
     refine A.AH.vg A.pb [0, 1, 2, 1779, 1819, 1859, 1860, 1899, 1979, 1980, 1981, 2020, 2100, 2101, 2140] [0, 1, 2, 1779, 1819, 1859, 1860, 1899, 1979, 1980, 1981, 2020, 2100, 2101, 2140, 2220] 43 (A.mb 61 17514876633087) (dj := 106) rfl (fun a w hf hh => A.r_cuth (v := (min ((r30).length : Int) (a5.toNat : Int)).toNat) 1819 hf hh (Int.toNat_of_nonneg hc72.1).symm hc72.2) ?_
     refine A.AH.oneF hT35 33 ?_
     refine A.AL.on (dj := 106) rfl rfl ?_
     obtain ⟨r73, hv74, hF⟩ := A.bd_some hF
     refine A.AL.call 2221 [] (first := []) (cap := []) cf17 (model_Epochs_ok a4 A6_ c7_ r73 hv74) (.l 2 .nil) ?_
     rintro _ _ ⟨g75, A76, c77, rfl, rfl⟩
     refine ⟨by kernel_rfl, ?_⟩
     refine A.AH.nxF 17523466567679 [0, 1, 2, 1779, 1819, 1859, 1860, 1899, 1979, 1980, 1981, 2020, 2100, 2101, 2140, 2220] ?_
     refine A.AH.oneF hT35 36 ?_
     refine A.AL.on (dj := 106) rfl rfl ?_
     obtain ⟨r78, hv79, hF⟩ := A.bd_some hF
     refine A.AL.call 2261 [] (first := []) (cap := []) cf16 (L20_epochs_slices_Values_int64_int64_1_ok r73 (a5.toNat : Int) g75 A76 c77 (Z.i64_has hc71.1) r78 hv79) (.b 2221 (.s 2222 .nil)) ?_
     rintro _ _ ⟨A80, c81, rfl, rfl⟩
     refine ⟨by kernel_rfl, ?_⟩
     refine A.AH.nxF 17592186044415 [0, 1, 2, 1779, 1819, 1859, 1860, 1899, 1979, 1980, 1981, 2020, 2100, 2101, 2140, 2220] ?_
     refine A.AH.oneF hT35 44 ?_
     refine A.AL.on (dj := 106) rfl rfl ?_
     obtain ⟨r82, hv83, hF⟩ := A.bd_some hF
     refine A.AL.call 2301 [] (first := []) (cap := []) cf15 (slices_Equal_int64_int64_ok r78 (List.take ((min ((r30).length : Int) (a5.toNat : Int)).toNat) r30) A80 c81 A32 c33 r82 hv83) (.o 2261 (.l 2220 .nil)) ?_
     rintro _ _ ⟨rfl, rfl⟩
     refine ⟨by kernel_rfl, ?_⟩
     refine A.AH.nxF 35184372088831 [0, 1, 2, 1779, 1819, 1859, 1860, 1899, 1979, 1980, 1981, 2020, 2100, 2101, 2140, 2220] ?_
     refine A.AH.qF hT35 A.pb [0, 1, 2, 1779, 1819, 1859, 1860, 1899, 1979, 1980, 1981, 2020, 2100, 2101, 2140, 2220] [0, 1, 2, 1779, 1819, 1859, 1860, 1899, 1979, 1980, 1981, 2020, 2100, 2101, 2140, 2220, 2221, 2222, 2261] [] [] 35184372088831 140737488355327 14 [(45, .n), (46, .n)] [121] [] [(121, .bool r82)] trivial ?_
     refine A.AH.cnd (j := 121) rfl hF (fun hF => ?_) (fun hF => ?_)
     ·refine A.AH.cov [0, 1, 2, 1779, 1819, 1859, 1860, 1899, 1979, 1980, 1981, 2020, 2100, 2101, 2140, 2220, 2221, 2222, 2261] [(0, .sh (.slice T48) [.slice A0_ (a0).length c1_] a0), (1, .sh (.slice T48) [.slice A2_ (a1).length c3_] a1), (2, .sh (.slice T39) [.slice A6_ (a4).length c7_] a4), (1779, .sh (.slice T45) [.slice A28 (r26).length c29] r26), (1819, .sh (.slice (Z.Ty.int .i64)) [.slice A32 (r30).length c33] r30), (1859, .blk g38 23 [.slice A39 ((r36).length) c40]), (1860, .sh (.slice T45) [.slice A39 (r36).length c40] r36), (1899, .own T45 46 A43 c44 r41), (1979, .sh (.slice T45) [.slice A28 (List.take ((min ((r26).length : Int) (a5.toNat : Int)).toNat) r26).length c29] (List.take ((min ((r26).length : Int) (a5.toNat : Int)).toNat) r26)), (1980, .blk g51 23 [.slice A52 ((r49).length) c53]), (1981, .sh (.slice T45) [.slice A52 (r49).length c53] r49), (2020, .own T45 46 A56 c57 r54), (2100, .blk g62 58 [.slice A63 ((r60).length) c64]), (2101, .sh (.slice (Z.Ty.int .i64)) [.slice A63 (r60).length c64] r60), (2140, .own (Z.Ty.int .i64) 2 A67 c68 r65), (2220, .sh (.slice (Z.Ty.int .i64)) [.slice A32 (List.take ((min ((r30).length : Int) (a5.toNat : Int)).toNat) r30).length c33] (List.take ((min ((r30).length : Int) (a5.toNat : Int)).toNat) r30)), (2221, .blk g75 58 [.slice A76 ((r73).length) c77]), (2222, .sh (.slice (Z.Ty.int .i64)) [.slice A76 (r73).length c77] r73), (2261, .own (Z.Ty.int .i64) 2 A80 c81 r78)] ?_
      refine A.AH.cvl [(0, .slice A0_ ((a0).length) c1_), (1, .slice A2_ ((a1).length) c3_), (121, .bool true)] ?_
      refine A.AH.qF hT35 A.pb [0, 1, 2, 1779, 1819, 1859, 1860, 1899, 1979, 1980, 1981, 2020, 2100, 2101, 2140, 2220, 2221, 2222, 2261] [0, 1, 2, 1779, 1819, 1859, 1860, 1899, 1979, 1980, 1981, 2020, 2100, 2101, 2140, 2220, 2221, 2222, 2261] [] [] 140737488355327 3940649673949183 10 [(47, .on .n), (48, .on .n), (50, .on .n), (51, .on .n)] [122, 123, 125, 126] [] [(122, .slice A0_ ((a0).length) c1_), (123, .slice A2_ ((a1).length) c3_), (125, .slice A0_ ((a0).length) c1_), (126, .slice A2_ ((a1).length) c3_)] trivial ?_
      refine A.AH.oneF hT35 49 ?_
      refine A.AL.on (dj := 121) rfl rfl ?_
      obtain ⟨r84, hv85, hF⟩ := A.bd_some hF
      refine A.AL.call 2341 [] (first := []) (cap := []) cf18 (model_Same_ok a0 a1 A0_ c1_ A2_ c3_ r84 hv85) (.l 0 (.l 1 .nil)) ?_
      rintro _ _ ⟨rfl, rfl⟩
      refine ⟨by kernel_rfl, ?_⟩
      refine A.AH.nxF 4503599627370495 [0, 1, 2, 1779, 1819, 1859, 1860, 1899, 1979, 1980, 1981, 2020, 2100, 2101, 2140, 2220, 2221, 2222, 2261] ?_
      refine A.AH.oneF hT35 52 ?_
      refine A.AL.on (dj := 121) rfl rfl ?_
      obtain ⟨r86, hv87, hF⟩ := A.bd_some hF
      refine A.AL.call 2381 [] (first := []) (cap := []) cf19 (R20_Same_ok a0 a1 A0_ c1_ A2_ c3_ r86 hv87) (.l 0 (.l 1 .nil)) ?_
      rintro _ _ ⟨rfl, rfl⟩
      refine ⟨by kernel_rfl, ?_⟩
      refine A.AH.nxF 9007199254740991 [0, 1, 2, 1779, 1819, 1859, 1860, 1899, 1979, 1980, 1981, 2020, 2100, 2101, 2140, 2220, 2221, 2222, 2261] ?_
      refine A.AH.qF hT35 A.pb [0, 1, 2, 1779, 1819, 1859, 1860, 1899, 1979, 1980, 1981, 2020, 2100, 2101, 2140, 2220, 2221, 2222, 2261] [0, 1, 2, 1779, 1819, 1859, 1860, 1899, 1979, 1980, 1981, 2020, 2100, 2101, 2140, 2220, 2221, 2222, 2261] [] [] 9007199254740991 72057594037927935 5 [(53, .on .n), (54, .n), (55, .n)] [130] [] [(130, .bool (r84 == r86))] trivial ?_
      refine A.AH.cnd (j := 130) rfl hF (fun hF => ?_) (fun hF => ?_)
      ·refine A.AH.cov [0, 1, 2, 1779, 1819, 1859, 1860, 1899, 1979, 1980, 1981, 2020, 2100, 2101, 2140, 2220, 2221, 2222, 2261] [(0, .sh (.slice T48) [.slice A0_ (a0).length c1_] a0), (1, .sh (.slice T48) [.slice A2_ (a1).length c3_] a1), (2, .sh (.slice T39) [.slice A6_ (a4).length c7_] a4), (1779, .sh (.slice T45) [.slice A28 (r26).length c29] r26), (1819, .sh (.slice (Z.Ty.int .i64)) [.slice A32 (r30).length c33] r30), (1859, .blk g38 23 [.slice A39 ((r36).length) c40]), (1860, .sh (.slice T45) [.slice A39 (r36).length c40] r36), (1899, .own T45 46 A43 c44 r41), (1979, .sh (.slice T45) [.slice A28 (List.take ((min ((r26).length : Int) (a5.toNat : Int)).toNat) r26).length c29] (List.take ((min ((r26).length : Int) (a5.toNat : Int)).toNat) r26)), (1980, .blk g51 23 [.slice A52 ((r49).length) c53]), (1981, .sh (.slice T45) [.slice A52 (r49).length c53] r49), (2020, .own T45 46 A56 c57 r54), (2100, .blk g62 58 [.slice A63 ((r60).length) c64]), (2101, .sh (.slice (Z.Ty.int .i64)) [.slice A63 (r60).length c64] r60), (2140, .own (Z.Ty.int .i64) 2 A67 c68 r65), (2220, .sh (.slice (Z.Ty.int .i64)) [.slice A32 (List.take ((min ((r30).length : Int) (a5.toNat : Int)).toNat) r30).length c33] (List.take ((min ((r30).length : Int) (a5.toNat : Int)).toNat) r30)), (2221, .blk g75 58 [.slice A76 ((r73).length) c77]), (2222, .sh (.slice (Z.Ty.int .i64)) [.slice A76 (r73).length c77] r73), (2261, .own (Z.Ty.int .i64) 2 A80 c81 r78)] ?_
       refine A.AH.cvl [(0, .slice A0_ ((a0).length) c1_), (130, .bool true)] ?_
       refine A.AH.qF hT35 A.pb [0, 1, 2, 1779, 1819, 1859, 1860, 1899, 1979, 1980, 1981, 2020, 2100, 2101, 2140, 2220, 2221, 2222, 2261] [0, 1, 2, 1779, 1819, 1859, 1860, 1899, 1979, 1980, 1981, 2020, 2100, 2101, 2140, 2220, 2221, 2222, 2261] [] [] 72057594037927935 288230376151711743 3 [(56, .on .n), (57, .on .n)] [131, 132] [] [(131, .slice A0_ ((a0).length) c1_), (132, .slice A0_ ((a0).length) c1_)] trivial ?_
       refine A.AH.oneF hT35 58 ?_
       refine A.AL.on (dj := 130) rfl rfl ?_
       obtain ⟨r88, hv89, hF⟩ := A.bd_some hF
       refine A.AL.call 2421 [] (first := []) (cap := []) cf18 (model_Same_ok a0 a0 A0_ c1_ A0_ c1_ r88 hv89) (.l 0 (.l 0 .nil)) ?_
       rintro _ _ ⟨rfl, rfl⟩
       refine ⟨by kernel_rfl, ?_⟩
       refine A.AH.nxF 576460752303423487 [0, 1, 2, 1779, 1819, 1859, 1860, 1899, 1979, 1980, 1981, 2020, 2100, 2101, 2140, 2220, 2221, 2222, 2261] ?_
       refine A.AH.qF hT35 A.pb [0, 1, 2, 1779, 1819, 1859, 1860, 1899, 1979, 1980, 1981, 2020, 2100, 2101, 2140, 2220, 2221, 2222, 2261] [0, 1, 2, 1779, 1819, 1859, 1860, 1899, 1979, 1980, 1981, 2020, 2100, 2101, 2140, 2220, 2221, 2222, 2261] [] [] 576460752303423487 2305843009213693951 0 [(59, .n), (60, .n)] [12] [] [(12, .bool r88)] trivial ?_
       refine A.AH.doneF hT35 ?_
       exact A.j ⟨r88, rfl, rfl, hF⟩
      refine A.AH.qF hT35 A.pb [0, 1, 2, 1779, 1819, 1859, 1860, 1899, 1979, 1980, 1981, 2020, 2100, 2101, 2140, 2220, 2221, 2222, 2261] [0, 1, 2, 1779, 1819, 1859, 1860, 1899, 1979, 1980, 1981, 2020, 2100, 2101, 2140, 2220, 2221, 2222, 2261] [] [] 72057594037927935 2305843009213693951 0 [(56, .off), (57, .off), (58, .off), (59, .n), (60, .n)] [12] [] [(12, .bool false)] trivial ?_
      refine A.AH.doneF hT35 ?_
      exact A.j ⟨false, rfl, rfl, hF⟩
     refine A.AH.qF hT35 A.pb [0, 1, 2, 1779, 1819, 1859, 1860, 1899, 1979, 1980, 1981, 2020, 2100, 2101, 2140, 2220, 2221, 2222, 2261] [0, 1, 2, 1779, 1819, 1859, 1860, 1899, 1979, 1980, 1981, 2020, 2100, 2101, 2140, 2220, 2221, 2222, 2261] [] [] 140737488355327 2305843009213693951 0 [(47, .off), (48, .off), (50, .off), (51, .off), (49, .off), (52, .off), (53, .off), (54, .n), (55, .n), (56, .off), (57, .off), (58, .off), (59, .n), (60, .n)] [12] [] [(12, .bool false)] trivial ?_
     refine A.AH.doneF hT35 ?_
     exact A.j ⟨false, rfl, rfl, hF⟩
    refine A.AH.qF hT35 A.pb [0, 1, 2, 1779, 1819, 1859, 1860, 1899, 1979, 1980, 1981, 2020, 2100, 2101, 2140] [0, 1, 2, 1779, 1819, 1859, 1860, 1899, 1979, 1980, 1981, 2020, 2100, 2101, 2140] [] [] 4294967295 2305843009213693951 0 [(32, .off), (34, .off), (37, .off), (38, .off), (40, .off), (33, .off), (35, .off), (39, .off), (41, .off), (36, .off), (42, .off), (43, .off), (44, .off), (45, .n), (46, .n), (47, .off), (48, .off), (50, .off), (51, .off), (49, .off), (52, .off), (53, .off), (54, .n), (55, .n), (56, .off), (57, .off), (58, .off), (59, .n), (60, .n)] [12] [] [(12, .bool false)] trivial ?_
    refine A.AH.doneF hT35 ?_
    exact A.j ⟨false, rfl, rfl, hF⟩
   refine A.AH.qF hT35 A.pb [0, 1, 2, 1779, 1819, 1859, 1860, 1899, 1979, 1980, 1981, 2020] [0, 1, 2, 1779, 1819, 1859, 1860, 1899, 1979, 1980, 1981, 2020] [] [] 33554431 2305843009213693951 0 [(25, .off), (28, .off), (26, .off), (27, .off), (29, .off), (30, .n), (31, .n), (32, .off), (34, .off), (37, .off), (38, .off), (40, .off), (33, .off), (35, .off), (39, .off), (41, .off), (36, .off), (42, .off), (43, .off), (44, .off), (45, .n), (46, .n), (47, .off), (48, .off), (50, .off), (51, .off), (49, .off), (52, .off), (53, .off), (54, .n), (55, .n), (56, .off), (57, .off), (58, .off), (59, .n), (60, .n)] [12] [] [(12, .bool false)] trivial ?_
   refine A.AH.doneF hT35 ?_
   exact A.j ⟨false, rfl, rfl, hF⟩
  refine A.AH.qF hT35 A.pb [0, 1, 2, 1779, 1819, 1859, 1860, 1899] [0, 1, 2, 1779, 1819, 1859, 1860, 1899] [] [] 255 2305843009213693951 0 [(8, .off), (9, .off), (10, .off), (12, .off), (15, .off), (16, .off), (18, .off), (11, .off), (13, .off), (17, .off), (19, .off), (14, .off), (20, .off), (21, .off), (22, .off), (23, .n), (24, .n), (25, .off), (28, .off), (26, .off), (27, .off), (29, .off), (30, .n), (31, .n), (32, .off), (34, .off), (37, .off), (38, .off), (40, .off), (33, .off), (35, .off), (39, .off), (41, .off), (36, .off), (42, .off), (43, .off), (44, .off), (45, .n), (46, .n), (47, .off), (48, .off), (50, .off), (51, .off), (49, .off), (52, .off), (53, .off), (54, .n), (55, .n), (56, .off), (57, .off), (58, .off), (59, .n), (60, .n)] [12] [] [(12, .bool false)] trivial ?_
  refine A.AH.doneF hT35 ?_
  exact A.j ⟨false, rfl, rfl, hF⟩
 rintro _ _ ⟨y34, rfl, rfl, hF⟩
 rw [F.L20_ModelAsks_j1] at hF
 obtain rfl := Option.some.inj hF
 exact A.rt1 [] ⟨rfl, rfl⟩
end Go.Proofs.YtlbdgahbamalcaaGreatDoor
end

section
/- All of them. -/
end

section
set_option linter.unusedVariables false
namespace Go.A
open Go.RowKit Go.Z Go.Shelf Go.Proofs Go.Lib
def Hall (W : World) : List (Nat × Res) → Prop
  | [] => True
  | p :: H => (p.2.bl = [] ∧ p.2.ref = none ∧ p.2.holds W (fun _ => True) (fun _ _ => False)) ∧ Hall W H
theorem Hall.at {W : World} : ∀ {H : List (Nat × Res)} {k : Nat} {r : Res}, Hall W H → hk H k = some r → r.bl = [] ∧ r.ref = none ∧ r.holds W (fun _ => True) (fun _ _ => False)
  | [], _, _, _, h => by cases h
  | (d, u) :: H, k, r, ha, h => by
    rw [hk_cons] at h
    split at h
    · injection h with h; subst h; exact ha.1
    · exact ha.2.at h
theorem Hp.start {W : World} {H : List (Nat × Res)} (h : Hall W H) : Hp ⟨0, [], W, [], fun _ => True⟩ H W := by
  have hb : ∀ k b, ¬ Bk H k b := fun k b ⟨r, h1, h2⟩ => by rw [(h.at h1).1] at h2; cases h2
  refine ⟨Ch.refl W, fun k r hk => ?_, fun k b hB => (hb k b hB).elim, fun k k' b hB => (hb k b hB).elim, fun k r j hk hr => ?_⟩
  · exact Res.to (S := []) (h.at hk).2.2 (Ch.refl W) (fun b _ _ => ⟨by simp, fun k => hb k b, .inl trivial⟩) (fun b _ _ => ⟨by simp, fun k => hb k b⟩) (fun i b _ hf => hf.elim) (by simp)
  · rw [(h.at hk).2.1] at hr; cases hr
theorem Hall.sh {W : World} {t : Ty} {cs : List Value} {x : t.den} {F : Nat → Prop} (h : t.rep W F cs x) : (Res.sh t cs x).bl = [] ∧ (Res.sh t cs x).ref = none ∧ (Res.sh t cs x).holds W (fun _ => True) (fun _ _ => False) :=
  ⟨rfl, rfl, rep_as h fun _ _ _ => trivial⟩
def putCells (cs : List Value) : Obj → Obj
  | .cells _ t frozen => .cells cs.toArray t frozen
  | o => o
end Go.A
end

section
namespace Go.Graph

abbrev Fun := Int × Int × ByteArray
abbrev Nd := Int × Int × List Int × Fun × ByteArray × Int × Int
abbrev Pl := Int × Int
abbrev id (x : Nd) : Int := x.1
abbrev kind (x : Nd) : Int := x.2.1
abbrev fn (x : Nd) : Fun := x.2.2.2.1
abbrev name (x : Nd) : ByteArray := x.2.2.2.2.1
abbrev cap (x : Nd) : Int := x.2.2.2.2.2.1
/-! ### kinds -/
def insK (k : Int) : Int := if k < 1 ∨ 16 < k then -1 else if k = 1 then 0 else if k = 5 ∨ k = 9 then 2 else 1
/-! ### names -/
def letter (c : UInt8) : Bool := decide ((97 : Int) ≤ (c.toNat : Int) ∧ (c.toNat : Int) ≤ 122 ∨ (65 : Int) ≤ (c.toNat : Int) ∧ (c.toNat : Int) ≤ 90)
def digit (c : UInt8) : Bool := decide ((48 : Int) ≤ (c.toNat : Int) ∧ (c.toNat : Int) ≤ 57)
def wordy (l : List UInt8) : Bool := l.all fun c => letter c || digit c
def named (s : ByteArray) : Bool := decide (s ≠ ByteArray.mk #[]) && decide ((s.size : Int) ≤ 16) && letter (Z.bat s 0) && wordy s.data.toList
/-! ### the reference -/
def idxF (id : Int) : Nat → List Nd → Int
  | _, [] => -1
  | k, x :: r => if x.1 = id then (k : Int) else idxF id (k + 1) r
def idx (g : List Nd) (id : Int) : Int := idxF id 0 g
def namedF (kd : Int) (s : ByteArray) : List Nd → Int × Bool
  | [] => (0, false)
  | x :: r => if kind x = kd ∧ name x = s then (x.1, true) else namedF kd s r
def z0 : Nd := (0, 0, [], (0, 0, ByteArray.mk #[]), ByteArray.mk #[], 0, 0)
def at_ (g : List Nd) (i : Int) : Nd := (g[i.toNat]?).getD z0
def ownT (g : List Nd) (n : Nd) : Bool := if n.2.1 ≠ 1 ∧ n.2.1 ≠ 15 then decide (n.2.2.2.2.1 = ByteArray.mk #[]) else named n.2.2.2.2.1 && decide ((namedF n.2.1 n.2.2.2.2.1 g).1 = n.1)
def ownC (n : Nd) : Prop := n.2.1 = 14 ∧ (n.2.2.2.2.2.1 < 1 ∨ 8 < n.2.2.2.2.2.1 ∨ n.2.2.2.2.2.2 < 1 ∨ 4 < n.2.2.2.2.2.2) ∨ n.2.1 ≠ 14 ∧ (n.2.2.2.2.2.1 ≠ 0 ∨ n.2.2.2.2.2.2 ≠ 0)
instance (n : Nd) : Decidable (ownC n) := by unfold ownC; infer_instance
def own (g : List Nd) (i : Int) (n : Nd) : Bool :=
  if n.1 < 1 ∨ 255 < n.1 ∨ 0 < i ∧ n.1 ≤ (at_ g (i - 1)).1 ∨ insK n.2.1 < 0 ∨ (n.2.2.1.length : Int) ≠ insK n.2.1 then false else if ownC n then false else ownT g n
/-! ### the reference: order and depths -/
def bget (l : List Bool) (i : Int) : Bool := (l[i.toNat]?).getD false
def iget (l : List Int) (i : Int) : Int := (l[i.toNat]?).getD 0
def readyF (g : List Nd) (done : List Bool) (kd : Int) : List Int → Bool
  | [] => true
  | k :: r => if kd ≠ 14 ∧ bget done (idx g k) = false then false else readyF g done kd r
def ready (g : List Nd) (done : List Bool) (n : Nd) : Bool := readyF g done n.2.1 n.2.2.1
def firstF (g : List Nd) (done : List Bool) : Nat → List Nd → Int → Int
  | _, [], a => a
  | i, x :: r, a => firstF g done (i + 1) r (if (a < 0 ∧ bget done i = false) ∧ ready g done x = true then i else a)
def orderF (g : List Nd) : Nat → List Bool → List Int → Option (List Int)
  | 0, _, l => some l
  | f + 1, done, l => if firstF g done 0 g (-1) < 0 then none else orderF g f (done.set (firstF g done 0 g (-1)).toNat true) (l ++ [firstF g done 0 g (-1)])
def order (g : List Nd) : List Int × Bool := match orderF g g.length (List.replicate g.length false) [] with
  | some l => (l, true)
  | none => ([], false)
def d0 : List Int → Int
  | [] => 0
  | a :: _ => a
def InB (d : List Int) : Prop := ∀ i, 0 ≤ iget d i ∧ iget d i ≤ 4
theorem InB.rep (n : Nat) : InB (List.replicate n 0) := fun i => by
  unfold iget; rw [List.getElem?_replicate]; split <;> simp
theorem InB.set {d : List Int} (h : InB d) (p : Nat) {v : Int} (h0 : 0 ≤ v) (h1 : v ≤ 4) : InB (d.set p v) := fun i => by
  unfold iget; rw [List.getElem?_set]
  have := h i
  unfold iget at this
  split
  · split <;> simp <;> omega
  · exact this
/-! ### the reference: places -/
/-! ### the reference: whether places are among some -/
/-! ### summaries -/
/-! ### names, rune by rune -/
/-! ### functions of nodes -/
/-! ### runes, by the reference -/
def second (s : ByteArray) (i : Nat) : UInt8 := if i + 1 < s.size then Z.bat s (i + 1) else 0
end Go.Graph
end

section
set_option linter.unusedVariables false
set_option linter.unusedSimpArgs false
namespace Go.A
open Go.Z
theorem r64n {n : Nat} (h : n < 4611686018427387904) : R64 ((n : Int) + 1) := ⟨by omega, by omega⟩
theorem gd1 {α : Type} {p : Prop} [Decidable p] (h : p) (x : Option α) : gd p x = x := if_pos h
theorem ixn {α : Type} {xs : List α} {k : Nat} {x : α} (h : xs[k]? = some x) : ix xs (k : Int) = some x := by rw [ix_nat]; exact h
theorem dropx {α : Type} {xs : List α} {k : Nat} {x : α} (h : xs[k]? = some x) : xs.drop k = x :: xs.drop (k + 1) := by
  obtain ⟨h1, h2⟩ := List.getElem?_eq_some_iff.1 h
  rw [List.drop_eq_getElem_cons h1, h2]
theorem ba {p q : Prop} [Decidable p] [Decidable q] : (bif decide p then decide q else false) = decide (p ∧ q) := by by_cases h : p <;> simp [h]
theorem bo {p q : Prop} [Decidable p] [Decidable q] : (bif decide p then true else decide q) = decide (p ∨ q) := by by_cases h : p <;> simp [h]
theorem bn {p : Prop} [Decidable p] : (!decide p) = decide (¬ p) := by by_cases h : p <;> simp [h]
/-- rounds over a row -/
theorem lp {α σ ρ : Type} (xs : List α) (L : Nat → σ → Int → Option ρ) (G : Nat → List α → σ → Option ρ) (P : Nat → σ → Prop)
    (h0 : ∀ f s, P xs.length s → L (f + 1) s (xs.length : Int) = G xs.length [] s)
    (h1 : ∀ f s (k : Nat) x, xs[k]? = some x → k < xs.length → P k s → (∀ s', P (k + 1) s' → L f s' ((k : Int) + 1) = G (k + 1) (xs.drop (k + 1)) s') → L (f + 1) s k = G k (x :: xs.drop (k + 1)) s)
    (hl : xs.length < FU) (s : σ) (hs : P 0 s) : L FU s 0 = G 0 xs s := by
  have main : ∀ (n k f : Nat) (s : σ), k + n = xs.length → n < f → P k s → L f s (k : Int) = G k (xs.drop k) s := by
    intro n
    induction n with
    | zero =>
      intro k f s hk hf hp
      obtain ⟨f, rfl⟩ : ∃ f', f = f' + 1 := ⟨f - 1, by omega⟩
      obtain rfl : k = xs.length := by omega
      rw [List.drop_eq_nil_of_le (Nat.le_refl _)]; exact h0 f s hp
    | succ n ih =>
      intro k f s hk hf hp
      obtain ⟨f, rfl⟩ : ∃ f', f = f' + 1 := ⟨f - 1, by omega⟩
      have hx : xs[k]? = some xs[k] := List.getElem?_eq_getElem (by omega)
      rw [dropx hx]
      exact h1 f s k _ hx (by omega) hp fun s' hp' => ih (k + 1) f s' (by omega) (by omega) hp'
  have := main xs.length 0 FU s (by omega) hl hs
  simpa using this
/-- the same, with the index alone -/
theorem lp0 {α ρ : Type} (xs : List α) (L : Nat → Int → Option ρ) (G : Nat → List α → Option ρ)
    (h0 : ∀ f, L (f + 1) (xs.length : Int) = G xs.length [])
    (h1 : ∀ f (k : Nat) x, xs[k]? = some x → k < xs.length → L f ((k : Int) + 1) = G (k + 1) (xs.drop (k + 1)) → L (f + 1) k = G k (x :: xs.drop (k + 1)))
    (hl : xs.length < FU) : L FU 0 = G 0 xs :=
  lp xs (fun f (_ : Unit) y => L f y) (fun k l _ => G k l) (fun _ _ => True) (fun f s _ => h0 f) (fun f s k x hx hk _ ih => h1 f k x hx hk (ih () trivial)) hl () trivial
end Go.A
namespace Go.Proofs.YtlbdgahbamalcaaGreatDoor
open Go.RowKit Go.Graph
theorem FU_big : (18446744073709551616 : Nat) < A.FU := by decide
end Go.Proofs.YtlbdgahbamalcaaGreatDoor
end

section
set_option linter.unusedVariables false
set_option linter.unusedSimpArgs false
set_option synthInstance.maxSize 1000000
set_option synthInstance.maxHeartbeats 400000
namespace Go.A
/-- rounds that hold two rows together, place by place -/
theorem eqk2 {α ρ : Type} [DecidableEq α] (a b : List α) (L : Nat → Int → Option ρ) (t e : Option ρ) (hl : a.length = b.length) (h0 : ∀ f, L (f + 1) (a.length : Int) = t)
    (h1 : ∀ f (k : Nat) x y, a[k]? = some x → b[k]? = some y → k < a.length → L (f + 1) (k : Int) = if x = y then L f ((k : Int) + 1) else e) (hlt : a.length < FU) : L FU 0 = if a = b then t else e := by
  have := lp0 a L (fun k l => if l = b.drop k then t else e)
    (fun f => by rw [h0, hl, List.drop_eq_nil_of_le (Nat.le_refl _), if_pos rfl])
    (fun f k x hx hk ih => by
      have hy : b[k]? = some b[k] := List.getElem?_eq_getElem (by omega)
      rw [h1 f k x _ hx hy hk, dropx hy, ih]
      by_cases h : x = b[k]
      · rw [if_pos h]
        by_cases h2 : a.drop (k + 1) = b.drop (k + 1)
        · rw [if_pos h2, if_pos (by rw [h, h2])]
        · rw [if_neg h2, if_neg (fun e => h2 (List.cons.inj e).2)]
      · rw [if_neg h, if_neg (fun e => h (List.cons.inj e).1)]) hlt
  rw [this, List.drop_zero]
theorem ited {p : Prop} [Decidable p] : (if p then some true else some false) = some (decide p) := by by_cases h : p <;> simp [h]
end Go.A
namespace Go.Proofs.YtlbdgahbamalcaaGreatDoor
open Go.RowKit Go.Graph
abbrev Mn' : Type := (Int × ByteArray) × Int
abbrev Sht : Type := ByteArray × Int × List Mn'
abbrev Gvn : Type := Int × Int × Int × ByteArray
/-! ### in order, each once -/
def cpJ : Int → List Int → List Int
  | _, [] => []
  | p, x :: l => if x = p then cpJ p l else x :: cpJ x l
def cpI : List Int → List Int
  | [] => []
  | p :: t => p :: cpJ p t
theorem CompactI (l : List Int) (hl : l.length ≤ 1000000000) : F.slices_Compact_int64_int64 l = some (cpI l) := by
  have hFU := FU_big
  rw [F.slices_Compact_int64_int64]
  by_cases h2 : l.length < 2
  · rw [if_pos (by omega)]
    cases l with
    | nil => rfl
    | cons p t =>
      have : t = [] := by cases t with
        | nil => rfl
        | cons a b => simp only [List.length_cons] at h2; omega
      subst this
      rfl
  · rw [if_neg (by omega)]
    -- the second round: k is the first place that has what stands ahead of it
    have second : ∀ (k : Nat) (hk : k < l.length), 1 ≤ k → ∀ (q j f i : Nat) (xs : List Int) (p : Int), k + j + q = l.length → q < f → 1 ≤ j → k ≤ i → i ≤ k + j - 1 → xs.length = l.length → xs.drop (k + j - 1) = l.drop (k + j - 1) → l[k + j - 1]? = some p →
        F.slices_Compact_int64_int64_l2 l (k : Int) f xs (i : Int) (j : Int) = some (xs.take i ++ cpJ p (l.drop (k + j))) := by
      intro k hk hk1 q
      induction q with
      | zero =>
        intro j f i xs p hq hf hj hi hij hx hd hp
        obtain ⟨f, rfl⟩ : ∃ f', f = f' + 1 := ⟨f - 1, by omega⟩
        rw [F.slices_Compact_int64_int64_l2, if_neg (by omega), A.gd1 ⟨by omega, by omega⟩, A.gd1 ⟨by omega, by simp; omega⟩, Int.toNat_natCast, List.take_append_of_le_length (by rw [List.length_take]; omega), List.take_take, Nat.min_self, List.drop_eq_nil_of_le (by omega)]
        simp [cpJ]
      | succ q ih =>
        intro j f i xs p hq hf hj hi hij hx hd hp
        obtain ⟨f, rfl⟩ : ∃ f', f = f' + 1 := ⟨f - 1, by omega⟩
        obtain ⟨y, hy⟩ : ∃ y, l[k + j]? = some y := ⟨_, List.getElem?_eq_getElem (by omega)⟩
        have gx : ∀ t, k + j - 1 ≤ t → xs[t]? = l[t]? := fun t ht => by
          have := congrArg (fun z => z[t - (k + j - 1)]?) hd
          simp only [List.getElem?_drop] at this
          rw [show k + j - 1 + (t - (k + j - 1)) = t by omega] at this
          exact this
        have y1 : (xs.drop k)[j]? = some y := by rw [List.getElem?_drop, gx _ (by omega)]; exact hy
        have y2 : (xs.drop k)[j - 1]? = some p := by rw [List.getElem?_drop, gx _ (by omega), show k + (j - 1) = k + j - 1 by omega]; exact hp
        have hxi : xs[i]? = some xs[i] := List.getElem?_eq_getElem (by omega)
        have ej : (j : Int) - 1 = ((j - 1 : Nat) : Int) := by omega
        have ej1 : (j : Int) + 1 = ((j + 1 : Nat) : Int) := by omega
        have ei1 : (i : Int) + 1 = ((i + 1 : Nat) : Int) := by omega
        rw [F.slices_Compact_int64_int64_l2, if_pos (by omega), A.gd1 ⟨by omega, by omega⟩, Int.toNat_natCast, A.gd1 (by omega), A.ixn y1, Option.bind_some, A.gd1 (by omega), ej, A.ixn y2, Option.bind_some, A.dropx hy]
        show (if y ≠ p then _ else _) = some (xs.take i ++ cpJ p (y :: l.drop (k + j + 1)))
        unfold cpJ
        by_cases e : y = p
        · rw [if_neg (fun h => h e), if_pos e, F.slices_Compact_int64_int64_j1, A.gd1 ⟨by omega, by omega⟩, ej1]
          exact ih (j + 1) f i xs p (by omega) (by omega) (by omega) hi (by omega) hx (by
            have := congrArg (List.drop 1) hd
            rw [List.drop_drop, List.drop_drop] at this
            rw [show k + (j + 1) - 1 = k + j - 1 + 1 by omega]; exact this) (by rw [show k + (j + 1) - 1 = k + j by omega, hy, e])
        · rw [if_pos e, if_neg e, A.gd1 (by omega), Option.bind_some, A.ixn hxi, Option.bind_some, A.gd1 ⟨by omega, by omega⟩, F.slices_Compact_int64_int64_j1, A.gd1 ⟨by omega, by omega⟩, ej1, ei1, Int.toNat_natCast]
          rw [ih (j + 1) f (i + 1) (xs.set i y) y (by omega) (by omega) (by omega) (by omega) (by omega) (by rw [List.length_set]; exact hx) (by
            rw [List.drop_set_of_lt (by omega)]
            have := congrArg (List.drop 1) hd
            rw [List.drop_drop, List.drop_drop] at this
            rw [show k + (j + 1) - 1 = k + j - 1 + 1 by omega]; exact this) (by rw [show k + (j + 1) - 1 = k + j by omega, hy])]
          have : (xs.set i y).take (i + 1) = xs.take i ++ [y] := by
            rw [List.take_add_one, List.getElem?_set_self (by omega), List.take_set_of_le (by omega)]; rfl
          rw [this, List.append_assoc]; rfl
    have first : ∀ (q k f : Nat) (p : Int), k + q = l.length → q < f → 1 ≤ k → l[k - 1]? = some p → F.slices_Compact_int64_int64_l3 l f (k : Int) = some (l.take k ++ cpJ p (l.drop k)) := by
      intro q
      induction q with
      | zero =>
        intro k f p hk hf h1 hp
        obtain ⟨f, rfl⟩ : ∃ f', f = f' + 1 := ⟨f - 1, by omega⟩
        rw [F.slices_Compact_int64_int64_l3, if_neg (by omega), List.drop_eq_nil_of_le (by omega), List.take_of_length_le (by omega)]; simp [cpJ]
      | succ q ih =>
        intro k f p hk hf h1 hp
        obtain ⟨f, rfl⟩ : ∃ f', f = f' + 1 := ⟨f - 1, by omega⟩
        obtain ⟨y, hy⟩ : ∃ y, l[k]? = some y := ⟨_, List.getElem?_eq_getElem (by omega)⟩
        have ek : (k : Int) - 1 = ((k - 1 : Nat) : Int) := by omega
        rw [F.slices_Compact_int64_int64_l3, if_pos (by omega), A.gd1 ⟨by omega, by omega⟩, A.ixn hy, Option.bind_some, ek, A.ixn hp, Option.bind_some]
        show (if y = p then _ else _) = _
        by_cases e : y = p
        · rw [if_pos e, A.gd1 ⟨by omega, by omega⟩]
          have := second k (by omega) h1 (l.length - (k + 1)) 1 A.FU k l y (by omega) (by omega) (by omega) (by omega) (by omega) rfl rfl (by rw [show k + 1 - 1 = k by omega]; exact hy)
          refine this.trans ?_
          rw [A.dropx hy]
          conv => rhs; rw [cpJ]
          rw [if_pos e, e]
        · rw [if_neg e, A.gd1 ⟨by omega, by omega⟩, show (k : Int) + 1 = ((k + 1 : Nat) : Int) by omega, ih (k + 1) f y (by omega) (by omega) (by omega) (by rw [show k + 1 - 1 = k by omega]; exact hy), A.dropx hy, List.take_add_one, hy]
          conv => rhs; rw [cpJ]
          rw [if_neg e]; simp
    obtain ⟨p, t, rfl⟩ : ∃ p t, l = p :: t := by
      cases l with
      | nil => simp at h2
      | cons p t => exact ⟨p, t, rfl⟩
    have := first ((p :: t).length - 1) 1 A.FU p (by omega) (by omega) (by omega) rfl
    refine (show F.slices_Compact_int64_int64_l3 (p :: t) A.FU 1 = _ from this).trans ?_
    rfl

theorem cpJ_mem : ∀ {l : List Int} {p r : Int}, r ∈ p :: cpJ p l ↔ r ∈ p :: l
  | [], p, r => by simp [cpJ]
  | x :: l, p, r => by
    unfold cpJ
    by_cases h : x = p
    · subst h
      rw [if_pos rfl, cpJ_mem]; simp
    · rw [if_neg h, List.mem_cons, cpJ_mem, List.mem_cons, List.mem_cons, List.mem_cons]
theorem cpJ_pw : ∀ {l : List Int} {p : Int}, (p :: l).Pairwise (fun a b => a ≤ b) → (p :: cpJ p l).Pairwise (· < ·)
  | [], p, _ => List.pairwise_singleton ..
  | x :: l, p, h => by
    obtain ⟨h1, h2⟩ := List.pairwise_cons.1 h
    unfold cpJ
    by_cases e : x = p
    · subst e
      rw [if_pos rfl]
      exact cpJ_pw h2
    · rw [if_neg e]
      have ih := cpJ_pw h2
      have hpx : p < x := by have := h1 x (List.mem_cons_self ..); omega
      refine List.pairwise_cons.2 ⟨fun b hb => ?_, ih⟩
      rcases List.mem_cons.1 hb with hb | hb
      · rw [hb]; exact hpx
      · have := (List.pairwise_cons.1 ih).1 b hb; omega
theorem cpI_ok {l : List Int} (h : l.Pairwise (fun a b => a ≤ b)) : (cpI l).Pairwise (· < ·) ∧ ∀ s, s ∈ cpI l ↔ s ∈ l := by
  cases l with
  | nil => exact ⟨List.Pairwise.nil, fun s => Iff.rfl⟩
  | cons p t => exact ⟨cpJ_pw h, fun s => cpJ_mem⟩
/-- rows that rise are told by what is in them -/
theorem rise_eq {a b : List Int} (ha : a.Pairwise (· < ·)) (hb : b.Pairwise (· < ·)) (h : ∀ x, x ∈ a ↔ x ∈ b) : a = b := by
  have na : a.Nodup := ha.imp fun {x y} h => by omega
  have nb : b.Nodup := hb.imp fun {x y} h => by omega
  exact List.Perm.eq_of_pairwise (le := fun x y => x < y) (fun x y _ _ h1 h2 => by omega) ha hb ((List.perm_ext_iff_of_nodup na nb).2 h)
def insI (e : Int) : List Int → List Int
  | [] => [e]
  | x :: r => if x = e then x :: r else if e < x then e :: x :: r else x :: insI e r
theorem insI_mem (e : Int) : ∀ (l : List Int) (x : Int), x ∈ insI e l ↔ x = e ∨ x ∈ l
  | [], x => by simp [insI]
  | y :: r, x => by
    unfold insI
    by_cases h : y = e
    · rw [if_pos h, List.mem_cons, h]; constructor
      · intro h1; exact .inr h1
      · rintro (h1 | h1)
        · exact .inl h1
        · exact h1
    · rw [if_neg h]
      by_cases h2 : e < y
      · rw [if_pos h2, List.mem_cons]
      · rw [if_neg h2, List.mem_cons, insI_mem e r x, List.mem_cons]
        constructor
        · rintro (h1 | h1 | h1)
          · exact .inr (.inl h1)
          · exact .inl h1
          · exact .inr (.inr h1)
        · rintro (h1 | h1 | h1)
          · exact .inr (.inl h1)
          · exact .inl h1
          · exact .inr (.inr h1)
theorem insI_pw (e : Int) : ∀ (l : List Int), l.Pairwise (· < ·) → (insI e l).Pairwise (· < ·)
  | [], _ => List.pairwise_singleton ..
  | y :: r, h => by
    obtain ⟨h1, h2⟩ := List.pairwise_cons.1 h
    unfold insI
    by_cases hy : y = e
    · rw [if_pos hy]; exact h
    · rw [if_neg hy]
      by_cases h3 : e < y
      · rw [if_pos h3]
        refine List.pairwise_cons.2 ⟨fun b hb => ?_, h⟩
        rcases List.mem_cons.1 hb with hb | hb
        · omega
        · have := h1 b hb; omega
      · rw [if_neg h3]
        refine List.pairwise_cons.2 ⟨fun b hb => ?_, insI_pw e r h2⟩
        rcases (insI_mem e r b).1 hb with hb | hb
        · omega
        · exact h1 b hb
def insAll : List Gvn → List Int → List Int
  | [], l => l
  | g :: r, l => insAll r (insI g.2.1 l)
theorem insI_len (e : Int) : ∀ l : List Int, (insI e l).length ≤ l.length + 1
  | [] => by simp [insI]
  | y :: r => by
    unfold insI
    have := insI_len e r
    split
    · simp
    · split <;> simp <;> omega
theorem insAll_ok : ∀ (g : List Gvn) (l : List Int), l.Pairwise (· < ·) → (insAll g l).Pairwise (· < ·) ∧ (∀ x, x ∈ insAll g l ↔ x ∈ l ∨ ∃ y ∈ g, y.2.1 = x) ∧ (insAll g l).length ≤ l.length + g.length
  | [], l, h => ⟨h, by simp [insAll], Nat.le_refl _⟩
  | y :: g, l, h => by
    obtain ⟨h1, h2, h3⟩ := insAll_ok g (insI y.2.1 l) (insI_pw _ l h)
    refine ⟨h1, fun x => ?_, ?_⟩
    · show x ∈ insAll g (insI y.2.1 l) ↔ _
      rw [h2, insI_mem]
      constructor
      · rintro ((h4 | h4) | ⟨z, h4, h5⟩)
        · exact .inr ⟨y, List.mem_cons_self .., h4.symm⟩
        · exact .inl h4
        · exact .inr ⟨z, List.mem_cons_of_mem _ h4, h5⟩
      · rintro (h4 | ⟨z, h4, h5⟩)
        · exact .inl (.inr h4)
        · rcases List.mem_cons.1 h4 with h4 | h4
          · exact .inl (.inl (by rw [← h5, h4]))
          · exact .inr ⟨z, h4, h5⟩
    · have := insI_len y.2.1 l
      have h3 : (insAll g (insI y.2.1 l)).length ≤ _ := h3
      show (insAll g (insI y.2.1 l)).length ≤ _
      simp only [List.length_cons]
      omega
/-! ### epochs -/
theorem R_Epochs (g : List Gvn) (hg : g.length ≤ 100) : F.R20_Epochs g = some (insAll g []) := by
  have hFU := FU_big
  unfold F.R20_Epochs
  refine A.lp g (fun f xs y => F.R20_Epochs_l6 g f xs y) (fun _ r xs => some (insAll r xs)) (fun k (xs : List Int) => xs.length ≤ k) (fun f xs _ => ?_) (fun f xs k x hx hk hp ih => ?_) (by omega) [] (Nat.le_refl _)
  · rw [F.R20_Epochs_l6, if_neg (by omega)]; rfl
  · rw [F.R20_Epochs_l6, if_pos (by omega), A.ixn hx, Option.bind_some]
    have nxt : ∀ ys : List Int, ys.length ≤ k + 1 → F.R20_Epochs_j4 (fun xs y => F.R20_Epochs_l6 g f xs y) (k : Int) ys = some (insAll (g.drop (k + 1)) ys) := fun ys hy => by
      rw [F.R20_Epochs_j4, A.gd1 (A.r64n (by omega))]; exact ih ys hy
    have inner := A.lp xs (fun f2 (s : List Int × Bool) y => F.R20_Epochs_l5 (fun xs y => F.R20_Epochs_l6 g f xs y) xs (k : Int) x f2 s.1 s.2 y) (fun _ r s => some (insAll (g.drop (k + 1)) (s.1 ++ if s.2 = true then r else insI x.2.1 r)))
      (fun i s => s.1.length + (if s.2 = true then 0 else 1) ≤ i + 1)
      (fun f2 s hs => by
        obtain ⟨ws, d⟩ := s
        show F.R20_Epochs_l5 _ xs (k : Int) x (f2 + 1) ws d (xs.length : Int) = some _
        have hs : ws.length + (if d = true then 0 else 1) ≤ xs.length + 1 := hs
        rw [F.R20_Epochs_l5, if_neg (by omega)]
        cases d with
        | true =>
          rw [if_neg (by simp), nxt _ (by simp at hs; omega)]
          simp
        | false =>
          rw [if_pos (by simp), A.gd1 (by simp at hs ⊢; omega), nxt _ (by simp at hs ⊢; omega)]
          simp [insI])
      (fun f2 s i y hy hi hs ih2 => by
        obtain ⟨ws, d⟩ := s
        have hs : ws.length + (if d = true then 0 else 1) ≤ i + 1 := hs
        show F.R20_Epochs_l5 _ xs (k : Int) x (f2 + 1) ws d (i : Int) = some (insAll (g.drop (k + 1)) (ws ++ if d = true then y :: xs.drop (i + 1) else insI x.2.1 (y :: xs.drop (i + 1))))
        have J1 : ∀ (vs : List Int) (b : Bool), vs.length + 1 + (if b = true then 0 else 1) ≤ i + 2 → F.R20_Epochs_j1 (F.R20_Epochs_l5 (fun xs y => F.R20_Epochs_l6 g f xs y) xs (k : Int) x f2) xs (i : Int) vs b = some (insAll (g.drop (k + 1)) (vs ++ [y] ++ if b = true then xs.drop (i + 1) else insI x.2.1 (xs.drop (i + 1)))) := fun vs b hv => by
          have hv1 : vs.length ≤ i + 1 := by split at hv <;> omega
          rw [F.R20_Epochs_j1, A.ixn hy, Option.bind_some, A.gd1 (by simp; omega), A.gd1 (A.r64n (by omega))]
          exact ih2 (vs ++ [y], b) (by show (vs ++ [y]).length + (if b = true then 0 else 1) ≤ i + 1 + 1; rw [List.length_append, List.length_singleton]; omega)
        rw [F.R20_Epochs_l5, if_pos (by omega), A.ixn hy, Option.bind_some]
        unfold insI
        cases d with
        | true =>
          have hs : ws.length ≤ i + 1 := by simpa using hs
          have e1 : F.R20_Epochs_j3 (F.R20_Epochs_l5 (fun xs y => F.R20_Epochs_l6 g f xs y) xs (k : Int) x f2) xs x ws (i : Int) true = F.R20_Epochs_j1 (F.R20_Epochs_l5 (fun xs y => F.R20_Epochs_l6 g f xs y) xs (k : Int) x f2) xs (i : Int) ws true := by
            rw [F.R20_Epochs_j3, if_neg (by simp), F.R20_Epochs_j2, if_neg (by simp)]
          rw [ite_self, e1, J1 ws true (by simp; omega)]
          simp
        | false =>
          have hs : ws.length ≤ i := by simpa using hs
          by_cases h1 : y = x.2.1
          · rw [if_pos h1, F.R20_Epochs_j3, if_neg (by simp), F.R20_Epochs_j2, if_neg (by simp), J1 ws true (by simp; omega)]
            simp [h1]
          · rw [if_neg h1, F.R20_Epochs_j3, if_pos (by simp), A.ixn hy, Option.bind_some, F.R20_Epochs_j2]
            by_cases h2 : x.2.1 < y
            · rw [if_pos (decide_eq_true h2), A.gd1 (by simp; omega), J1 _ true (by simp; omega)]
              simp [h1, h2]
            · rw [if_neg (by rw [decide_eq_true_iff]; exact h2), J1 ws false (by simp; omega)]
              simp [h1, h2])
      (by omega) ([], false) (by simp)
    exact inner
theorem srt64_pw (l : List Int) : (A.srt64 l).Pairwise (fun a b => a ≤ b) := by
  have := List.pairwise_mergeSort (le := fun (x y : Int) => decide (x ≤ y)) (fun a b c h1 h2 => by simp at h1 h2 ⊢; omega) (fun a b => by simp; omega) l
  exact this.imp fun {a b} h => by simpa using h
theorem P_Epochs (g : List Gvn) (hg : g.length ≤ 100) : F.model_Epochs g = some (insAll g []) := by
  have hFU := FU_big
  unfold F.model_Epochs
  have main := A.lp g (fun f xs y => F.model_Epochs_l1 g f xs y) (fun _ r (xs : List Int) => ((F.slices_Sort_int64_int64 (xs ++ r.map fun x => x.2.1)).bind fun r18 => ((F.slices_Compact_int64_int64 r18).bind fun r21 => ((F.slices_Values_int64_int64 r21).bind fun r25 => (some r25))))) (fun k (xs : List Int) => xs.length ≤ k)
    (fun f xs _ => by rw [F.model_Epochs_l1, if_neg (by omega)]; simp)
    (fun f xs k x hx hk hp ih => by
      rw [F.model_Epochs_l1, if_pos (by omega), A.ixn hx, Option.bind_some, A.gd1 (by simp; omega), A.gd1 (A.r64n (by omega)), ih _ (by simp; omega)]
      simp) (by omega) [] (Nat.le_refl _)
  rw [main, List.nil_append, F.slices_Sort_int64_int64, A.gd1 (by rw [List.length_map]; omega), Option.bind_some, CompactI _ (by unfold A.srt64; rw [List.length_mergeSort, List.length_map]; omega), Option.bind_some, F.slices_Values_int64_int64, Option.bind_some]
  congr 1
  obtain ⟨h1, h2⟩ := cpI_ok (srt64_pw (g.map fun x => x.2.1))
  obtain ⟨h3, h4, _⟩ := insAll_ok g [] List.Pairwise.nil
  refine rise_eq h1 h3 fun x => ?_
  rw [h2, h4]
  unfold A.srt64
  rw [List.mem_mergeSort]
  simp
/-! ### equal rows -/
theorem EqM (a b : List Mn') (ha : a.length ≤ 100000) : F.slices_Equal_api_Many_api_Many a b = some (decide (a = b)) := by
  unfold F.slices_Equal_api_Many_api_Many
  by_cases hl : a.length = b.length
  · rw [if_neg (by omega)]
    rw [A.eqk2 a b (fun f y => F.slices_Equal_api_Many_api_Many_l1 a b f y) (some true) (some false) hl (fun f => by rw [F.slices_Equal_api_Many_api_Many_l1, if_neg (by omega)])
      (fun f k x y hx hy hk => by
        rw [F.slices_Equal_api_Many_api_Many_l1, if_pos (by omega), A.ixn hx, Option.bind_some, A.ixn hy, Option.bind_some]
        show (if x ≠ y then _ else _) = _
        by_cases h : x = y
        · rw [if_neg (fun e => e h), if_pos h, A.gd1 (A.r64n (by omega))]
        · rw [if_pos h, if_neg h]) (by have := FU_big; omega), A.ited]
  · rw [if_pos (by omega), decide_eq_false (fun e => hl (by rw [e]))]
theorem BagM (a b : List Mn') (ha : a.length ≤ 100000) : F.R05_SameBag a b = some (decide (a = b)) := by
  unfold F.R05_SameBag
  by_cases hl : a.length = b.length
  · rw [if_neg (by omega)]
    rw [A.eqk2 a b (fun f y => F.R05_SameBag_l1 a b f y) (some true) (some false) hl (fun f => by rw [F.R05_SameBag_l1, if_neg (by omega)])
      (fun f k x y hx hy hk => by
        rw [F.R05_SameBag_l1, if_pos (by omega), A.ixn hx, Option.bind_some, A.ixn hy, Option.bind_some]
        show (if x ≠ y then _ else _) = _
        by_cases h : x = y
        · rw [if_neg (fun e => e h), if_pos h, A.gd1 (A.r64n (by omega))]
        · rw [if_pos h, if_neg h]) (by have := FU_big; omega), A.ited]
  · rw [if_pos (by omega), decide_eq_false (fun e => hl (by rw [e]))]
theorem EqI' (a b : List Int) (ha : a.length ≤ 100000) : F.slices_Equal_int64_int64 a b = some (decide (a = b)) := by
  unfold F.slices_Equal_int64_int64
  by_cases hl : a.length = b.length
  · rw [if_neg (by omega)]
    rw [A.eqk2 a b (fun f y => F.slices_Equal_int64_int64_l1 a b f y) (some true) (some false) hl (fun f => by rw [F.slices_Equal_int64_int64_l1, if_neg (by omega)])
      (fun f k x y hx hy hk => by
        rw [F.slices_Equal_int64_int64_l1, if_pos (by omega), A.ixn hx, Option.bind_some, A.ixn hy, Option.bind_some]
        by_cases h : x = y
        · rw [if_neg (fun e => e h), if_pos h, A.gd1 (A.r64n (by omega))]
        · rw [if_pos h, if_neg h]) (by have := FU_big; omega), A.ited]
  · rw [if_pos (by omega), decide_eq_false (fun e => hl (by rw [e]))]
/-! ### sheets -/
def Sm' (l : List Sht) : Prop := l.length ≤ 1000 ∧ ∀ s ∈ l, s.2.2.length ≤ 2000
theorem P_same1 (x y : Sht) (hx : x.2.2.length ≤ 2000) : F.model_Same_1 x y = some (decide (x = y)) := by
  obtain ⟨a, b, c⟩ := x
  obtain ⟨a', b', c'⟩ := y
  unfold F.model_Same_1 F.model_Same_1_j1
  dsimp only at hx ⊢
  rw [A.ba]
  by_cases h1 : a = a' ∧ b = b'
  · rw [if_pos (decide_eq_true h1), EqM _ _ (by omega), Option.bind_some]
    congr 1
    refine decide_eq_decide.2 ⟨fun h => by rw [h1.1, h1.2, h], fun h => by injection h with _ h; injection h⟩
  · rw [if_neg (by rw [decide_eq_true_iff]; exact h1), decide_eq_false (fun h => h1 (by injection h with h2 h; injection h with h3 h; exact ⟨h2, h3⟩))]
theorem P_Same' (a b : List Sht) (ha : Sm' a) : F.model_Same a b = some (decide (a = b)) := by
  have hal := ha.1
  unfold F.model_Same F.slices_EqualFunc_api_Sheet_api_Sheet_api_Sheet_api_Sheet_model_Same_1
  by_cases hl : a.length = b.length
  · rw [if_neg (by omega)]
    rw [A.eqk2 a b (fun f y => F.slices_EqualFunc_api_Sheet_api_Sheet_api_Sheet_api_Sheet_model_Same_1_l1 a b f y) (some true) (some false) hl (fun f => by rw [F.slices_EqualFunc_api_Sheet_api_Sheet_api_Sheet_api_Sheet_model_Same_1_l1, if_neg (by omega)])
      (fun f k x y hx hy hk => by
        rw [F.slices_EqualFunc_api_Sheet_api_Sheet_api_Sheet_api_Sheet_model_Same_1_l1, if_pos (by omega), A.ixn hx, Option.bind_some, A.ixn hy, Option.bind_some]
        rw [show F.model_Same_1 (x.1, x.2.1, x.2.2) (y.1, y.2.1, y.2.2) = some (decide (x = y)) from P_same1 x y (ha.2 _ (List.mem_of_getElem? hx)), Option.bind_some]
        by_cases h : x = y
        · rw [decide_eq_true h, Bool.not_true, if_neg Bool.false_ne_true, if_pos h, A.gd1 (A.r64n (by omega))]
        · rw [decide_eq_false h, Bool.not_false, if_pos rfl, if_neg h]) (by have := FU_big; omega), A.ited, Option.bind_some]
  · rw [if_pos (by omega), Option.bind_some, decide_eq_false (fun e => hl (by rw [e]))]
theorem R_Same' (a b : List Sht) (ha : Sm' a) : F.R20_Same a b = some (decide (a = b)) := by
  have hal := ha.1
  unfold F.R20_Same
  by_cases hl : a.length = b.length
  · rw [if_neg (by omega)]
    rw [A.eqk2 a b (fun f y => F.R20_Same_l2 a b f y) (some true) (some false) hl (fun f => by rw [F.R20_Same_l2, if_neg (by omega)])
      (fun f k x y hx hy hk => by
        have hxl := ha.2 _ (List.mem_of_getElem? hx)
        obtain ⟨x1, x2, x3⟩ := x
        obtain ⟨y1, y2, y3⟩ := y
        have ext : (x1, x2, x3) = (y1, y2, y3) ↔ x1 = y1 ∧ x2 = y2 ∧ x3 = y3 := by simp only [Prod.mk.injEq]
        rw [F.R20_Same_l2, if_pos (by omega), A.ixn hx, Option.bind_some, A.ixn hy, Option.bind_some]
        dsimp only at hxl ⊢
        by_cases h1 : x1 = y1
        · rw [if_neg (fun e => e h1), Option.bind_some, Option.bind_some]
          by_cases h2 : x2 = y2
          · rw [if_neg (fun e => e h2), Option.bind_some, Option.bind_some, BagM _ _ (by show x3.length ≤ 100000; omega), Option.bind_some, F.R20_Same_j1]
            by_cases h3 : x3 = y3
            · rw [decide_eq_true h3, Bool.not_true, if_neg Bool.false_ne_true, A.gd1 (A.r64n (by omega)), if_pos (ext.2 ⟨h1, h2, h3⟩)]
            · rw [decide_eq_false h3, Bool.not_false, if_pos rfl, if_neg (fun h => h3 (ext.1 h).2.2)]
          · rw [if_pos h2, F.R20_Same_j1, if_pos rfl, if_neg (fun h => h2 (ext.1 h).2.1)]
        · rw [if_pos h1, F.R20_Same_j1, if_pos rfl, if_neg (fun h => h1 (ext.1 h).1)]) (by have := FU_big; omega), A.ited]
  · rw [if_pos (by omega), decide_eq_false (fun e => hl (by rw [e]))]
def ofS (n : ByteArray) (e : Int) : List Sht → List Mn'
  | [] => []
  | s :: r => if s.1 = n ∧ s.2.1 = e then s.2.2 else ofS n e r
theorem R_Of (l : List Sht) (n : ByteArray) (e : Int) (hl : l.length ≤ 1000) : F.R20_Of l n e = some (ofS n e l) := by
  unfold F.R20_Of
  refine A.lp0 l (fun f y => F.R20_Of_l2 l n e f y) (fun _ r => some (ofS n e r)) (fun f => ?_) (fun f k x hx hk ih => ?_) (by have := FU_big; omega)
  · rw [F.R20_Of_l2, if_neg (by omega)]; rfl
  · rw [F.R20_Of_l2, if_pos (by omega), A.ixn hx, Option.bind_some, Option.bind_some]
    unfold ofS
    by_cases h1 : x.1 = n
    · rw [if_pos h1, F.R20_Of_j1]
      by_cases h2 : x.2.1 = e
      · rw [if_pos (decide_eq_true h2), A.ixn hx, Option.bind_some, if_pos ⟨h1, h2⟩]
      · rw [if_neg (by rw [decide_eq_true_iff]; exact h2), A.gd1 (A.r64n (by omega)), if_neg (fun h => h2 h.2)]; exact ih
    · rw [if_neg h1, F.R20_Of_j1, if_neg (by simp), A.gd1 (A.r64n (by omega)), if_neg (fun h => h1 h.1)]; exact ih
theorem P_Of (l : List Sht) (n : ByteArray) (e : Int) (hl : Sm' l) : F.model_Of l n e = some (ofS n e l) := by
  have hl1 := hl.1
  have idx := A.lp0 l (fun f y => F.slices_IndexFunc_api_Sheet_api_Sheet_model_Of_1_l1 l n e f y) (fun k r => (match r.findIdx? (fun s => decide (s.1 = n ∧ s.2.1 = e)) with | some i => some ((k + i : Nat) : Int) | none => some (-1)))
    (fun f => by rw [F.slices_IndexFunc_api_Sheet_api_Sheet_model_Of_1_l1, if_neg (by omega)]; rfl)
    (fun f k x hx hk ih => by
      rw [F.slices_IndexFunc_api_Sheet_api_Sheet_model_Of_1_l1, if_pos (by omega), A.ixn hx, Option.bind_some, F.model_Of_1, Option.bind_some, A.ba, List.findIdx?_cons]
      by_cases h : x.1 = n ∧ x.2.1 = e
      · rw [if_pos (decide_eq_true h), if_pos (decide_eq_true h)]; simp
      · rw [if_neg (by rw [decide_eq_true_iff]; exact h), A.gd1 (A.r64n (by omega)), ih, if_neg (by rw [decide_eq_true_iff]; exact h)]
        cases List.findIdx? (fun s : Sht => decide (s.1 = n ∧ s.2.1 = e)) (l.drop (k + 1)) with
        | none => rfl
        | some i => simp; omega) (by have := FU_big; omega)
  have key : ∀ (r : List Sht), (match r.findIdx? (fun s => decide (s.1 = n ∧ s.2.1 = e)) with | some i => ∃ x, r[i]? = some x ∧ ofS n e r = x.2.2 | none => ofS n e r = []) := fun r => by
    induction r with
    | nil => rfl
    | cons s r ih =>
      rw [List.findIdx?_cons]
      unfold ofS
      by_cases h : s.1 = n ∧ s.2.1 = e
      · rw [if_pos (decide_eq_true h), if_pos h]; exact ⟨s, rfl, rfl⟩
      · rw [if_neg (by rw [decide_eq_true_iff]; exact h), if_neg h]
        cases hf : List.findIdx? (fun s : Sht => decide (s.1 = n ∧ s.2.1 = e)) r with
        | none => rw [hf] at ih; exact ih
        | some i => rw [hf] at ih; exact ih
  have key := key l
  unfold F.model_Of F.slices_IndexFunc_api_Sheet_api_Sheet_model_Of_1 F.model_Of_j1
  rw [show F.slices_IndexFunc_api_Sheet_api_Sheet_model_Of_1_l1 l n e A.FU 0 = _ from idx]
  cases hf : l.findIdx? (fun s => decide (s.1 = n ∧ s.2.1 = e)) with
  | none =>
    rw [hf] at key
    rw [key]; rfl
  | some i =>
    rw [hf] at key
    obtain ⟨x, h1, h2⟩ := key
    dsimp only
    have := hl.2 x (List.mem_of_getElem? h1)
    rw [Nat.zero_add, Option.bind_some, if_pos (by omega), A.ixn h1, Option.bind_some, F.slices_Clone_api_Many_api_Many, A.gd1 (by simp; omega), Option.bind_some, List.nil_append, h2]
theorem ofS_len {l : List Sht} (n : ByteArray) (e : Int) (hl : Sm' l) : (ofS n e l).length ≤ 2000 := by
  have : ∀ r : List Sht, (∀ s ∈ r, s.2.2.length ≤ 2000) → (ofS n e r).length ≤ 2000 := fun r => by
    induction r with
    | nil => intro _; simp [ofS]
    | cons s r ih =>
      intro h
      unfold ofS
      split
      · exact h s (List.mem_cons_self ..)
      · exact ih fun t ht => h t (List.mem_cons_of_mem _ ht)
  exact this l hl.2
theorem told_ok (l : List Mn') (m : Int) (hl : l.length ≤ 2000) (hm : 0 ≤ m) : F.L20_told_model_Of_2 l m = some (l.take m.toNat) := by
  have it := A.lp0 l (fun f y => F.model_Of_2_it_l1 l f y) (fun _ r => some r) (fun f => by rw [F.model_Of_2_it_l1, if_neg (by omega)])
    (fun f k x hx hk ih => by rw [F.model_Of_2_it_l1, if_pos (by omega), A.ixn hx, Option.bind_some, A.gd1 (A.r64n (by omega)), ih]; rfl) (by have := FU_big; omega)
  have go : ∀ (r xs : List Mn'), xs.length + r.length ≤ 2000 → F.L20_told_model_Of_2_l1 m r xs = some (xs ++ r.take (m.toNat - xs.length)) := fun r => by
    induction r with
    | nil => intro xs _; rw [F.L20_told_model_Of_2_l1]; simp
    | cons y r ih =>
      intro xs hx
      rw [List.length_cons] at hx
      rw [F.L20_told_model_Of_2_l1]
      by_cases h : m ≤ (xs.length : Int)
      · rw [if_pos h, show m.toNat - xs.length = 0 by omega]; simp
      · rw [if_neg h, A.gd1 (by simp; omega), ih _ (by simp; omega)]
        obtain ⟨k, hk⟩ : ∃ k, m.toNat - xs.length = k + 1 := ⟨m.toNat - xs.length - 1, by omega⟩
        rw [hk, List.take_succ_cons, show m.toNat - (xs ++ [((y.1.1, y.1.2), y.2)]).length = k by simp; omega]
        simp
  unfold F.L20_told_model_Of_2 F.model_Of_2_it
  rw [show F.model_Of_2_it_l1 l A.FU 0 = some l from it, Option.bind_some, go l [] (by simpa using hl)]
  simp
theorem epochs_ok (l : List Int) (m : Int) (hl : l.length ≤ 2000) (hm : 0 ≤ m) : F.L20_epochs_slices_Values_int64_int64_1 l m = some (l.take m.toNat) := by
  have it := A.lp0 l (fun f y => F.slices_Values_int64_int64_1_it_l1 l f y) (fun _ r => some r) (fun f => by rw [F.slices_Values_int64_int64_1_it_l1, if_neg (by omega)])
    (fun f k x hx hk ih => by rw [F.slices_Values_int64_int64_1_it_l1, if_pos (by omega), A.ixn hx, Option.bind_some, A.gd1 (A.r64n (by omega)), ih]; rfl) (by have := FU_big; omega)
  have go : ∀ (r xs : List Int), xs.length + r.length ≤ 2000 → F.L20_epochs_slices_Values_int64_int64_1_l1 m r xs = some (xs ++ r.take (m.toNat - xs.length)) := fun r => by
    induction r with
    | nil => intro xs _; rw [F.L20_epochs_slices_Values_int64_int64_1_l1]; simp
    | cons y r ih =>
      intro xs hx
      rw [List.length_cons] at hx
      rw [F.L20_epochs_slices_Values_int64_int64_1_l1]
      by_cases h : m ≤ (xs.length : Int)
      · rw [if_pos h, show m.toNat - xs.length = 0 by omega]; simp
      · rw [if_neg h, A.gd1 (by simp; omega), ih _ (by simp; omega)]
        obtain ⟨k, hk⟩ : ∃ k, m.toNat - xs.length = k + 1 := ⟨m.toNat - xs.length - 1, by omega⟩
        rw [hk, List.take_succ_cons, show m.toNat - (xs ++ [y]).length = k by simp; omega]
        simp
  unfold F.L20_epochs_slices_Values_int64_int64_1 F.slices_Values_int64_int64_1_it
  rw [show F.slices_Values_int64_int64_1_it_l1 l A.FU 0 = some l from it, Option.bind_some, go l [] (by simpa using hl)]
  simp

/-! ### small, all of both -/
theorem small_ok (g : List Gvn) : ∃ b, F.L20_small g [] = some b ∧ (b = true → g.length ≤ 24) := by
  have hFU := FU_big
  have l1 : ∀ y : Int, F.L20_small_l1 g [] A.FU y 0 = some (bif bif decide ((g.length : Int) ≤ 24) then decide (((List.length (α := Int × Int × ByteArray × Int × Int) []) : Int) ≤ 60) else false then decide (y ≤ 4000) else false) := fun y => by
    obtain ⟨f, hf⟩ : ∃ f, A.FU = f + 1 := ⟨A.FU - 1, by omega⟩
    rw [hf, F.L20_small_l1, if_neg (by simp)]
    rfl
  have hn : ∃ n : Nat, n ≤ 99 ∧ min ((g.length : Int)) 99 = n ∧ n ≤ g.length := ⟨min g.length 99, by omega, by omega, by omega⟩
  obtain ⟨n, hn1, hn2, hn3⟩ := hn
  have main := A.lp (g.take (min (g.length : Int) 99).toNat) (fun f (y : Int) i => F.L20_small_l2 g [] f y i) (fun _ r y => F.L20_small_l1 g [] A.FU (r.foldl (fun y x => min (y + min (x.2.2.2.size : Int) 1048576) 1048576) y) 0) (fun _ y => 0 ≤ y ∧ y ≤ 1048576)
    (fun f y _ => by rw [F.L20_small_l2, if_neg (by omega), A.gd1 (by decide)]; rfl)
    (fun f y k x hx hk hp ih => by
      rw [hn2, List.length_take, Int.toNat_natCast] at hk
      rw [F.L20_small_l2, if_pos (by rw [hn2, List.length_take, Int.toNat_natCast]; omega), A.ixn hx, Option.bind_some, A.gd1 ⟨by omega, by omega⟩, A.gd1 (A.r64n (by omega)), ih _ (by omega)]
      rfl) (by rw [List.length_take, hn2]; omega) 0 (by omega)
  unfold F.L20_small
  rw [A.gd1 (by omega), show F.L20_small_l2 g [] A.FU 0 0 = _ from main, l1]
  refine ⟨_, rfl, fun h => ?_⟩
  by_cases h1 : (g.length : Int) ≤ 24
  · omega
  · simp [h1] at h
theorem Concat_ok (a b : List Sht) (ha : a.length ≤ 100) (hb : b.length ≤ 100) : F.slices_Concat_api_Sheet_api_Sheet [a, b] = some (a ++ b) := by
  obtain ⟨f, hf⟩ : ∃ f, A.FU = f + 3 := ⟨A.FU - 3, by have := FU_big; omega⟩
  unfold F.slices_Concat_api_Sheet_api_Sheet
  have e0 : A.ix [a, b] 0 = some a := rfl
  have e1 : A.ix [a, b] (0 + 1) = some b := rfl
  have l1 : F.slices_Concat_api_Sheet_api_Sheet_l1 [a, b] A.FU [] 0 = some (a ++ b) := by
    rw [hf, F.slices_Concat_api_Sheet_api_Sheet_l1, if_pos (by simp), e0, Option.bind_some, A.gd1 (by simp; omega), A.gd1 (by decide), F.slices_Concat_api_Sheet_api_Sheet_l1, if_pos (by simp), e1, Option.bind_some, A.gd1 (by simp; omega), A.gd1 (by decide), F.slices_Concat_api_Sheet_api_Sheet_l1, if_neg (by simp)]
    simp
  rw [hf, F.slices_Concat_api_Sheet_api_Sheet_l2, if_pos (by simp), e0, Option.bind_some, A.gd1 ⟨by omega, by omega⟩, if_neg (by omega), A.gd1 (by decide), F.slices_Concat_api_Sheet_api_Sheet_l2, if_pos (by simp), e1, Option.bind_some, A.gd1 ⟨by omega, by omega⟩, if_neg (by omega), A.gd1 (by decide), F.slices_Concat_api_Sheet_api_Sheet_l2, if_neg (by simp)]
  rw [F.slices_Grow_api_Sheet_api_Sheet, A.gd1 (by omega), Option.bind_some, l1]
def szS (s : Sht) : Int := min (s.2.2.length : Int) 1048576 + min (s.1.size : Int) 1048576
def sumS : List Sht → Int → Int
  | [], y => y
  | s :: r, y => sumS r (y + szS s)
theorem szS_b (s : Sht) : 0 ≤ szS s ∧ szS s ≤ 2097152 := by unfold szS; omega
theorem sumS_ge : ∀ (l : List Sht) (y : Int), y ≤ sumS l y
  | [], y => Int.le_refl _
  | s :: r, y => by have := sumS_ge r (y + szS s); have := szS_b s; show y ≤ sumS r (y + szS s); omega
theorem sumS_mem : ∀ (l : List Sht) (y : Int), 0 ≤ y → sumS l y ≤ 2000 → ∀ s ∈ l, s.2.2.length ≤ 2000
  | [], _, _, _, s, hs => by cases hs
  | x :: r, y, h0, h, s, hs => by
    have h : sumS r (y + szS x) ≤ 2000 := h
    have hb := szS_b x
    rcases List.mem_cons.1 hs with rfl | hs
    · have h5 : y + szS s ≤ 2000 := Int.le_trans (sumS_ge r (y + szS s)) h
      clear h hb
      unfold szS at h5
      omega
    · exact sumS_mem r (y + szS x) (by omega) h s hs
theorem modelAsks_plain {P1 P2 P3 P4 P5 P6 : Prop} (a b : List Sht) (name : ByteArray) (epoch : Int) (given : List Gvn) (most : UInt8) (_ : P1) (_ : P2) (_ : P3) (_ : P4) (_ : P5) (_ : P6) : F.L20_ModelAsks a b name epoch given most = some true := by
  have hFU := FU_big
  have hm : (most.toNat : Int) ≤ 255 := by have := most.toNat_lt; omega
  have bg : F.L20_begun = some true := rfl
  obtain ⟨n, hn1, hn2⟩ : ∃ n : Nat, min ((a.length : Int)) 40 = n ∧ n = min a.length 40 := ⟨min a.length 40, by omega, rfl⟩
  obtain ⟨m, hm1, hm2⟩ : ∃ n : Nat, min ((b.length : Int)) 40 = n ∧ n = min b.length 40 := ⟨min b.length 40, by omega, rfl⟩
  unfold F.L20_ModelAsks
  rw [A.gd1 (by omega), A.gd1 (by omega), hn1, hm1, Int.toNat_natCast, Int.toNat_natCast, Concat_ok _ _ (by rw [List.length_take]; omega) (by rw [List.length_take]; omega), Option.bind_some]
  have hlen : (a.take n ++ b.take m).length ≤ 80 := by rw [List.length_append, List.length_take, List.length_take]; omega
  have main := A.lp (a.take n ++ b.take m) (fun f (y : Int) i => F.L20_ModelAsks_l3 a b name epoch given most (a.take n ++ b.take m) f y i) (fun k r y => (if (bif bif bif !true then true else decide ((30 : Int) < ((a).length : Int)) then true else decide ((30 : Int) < ((b).length : Int)) then true else decide ((2000 : Int) < sumS r y)) = true then (F.L20_ModelAsks_j2 a b name epoch given most true) else ((F.L20_small given []).bind fun r92 => (F.L20_ModelAsks_j2 a b name epoch given most (!r92)))))
    (fun k y => 0 ≤ y ∧ y ≤ 2097152 * (k : Int))
    (fun f y _ => by rw [F.L20_ModelAsks_l3, if_neg (by omega), bg, Option.bind_some]; rfl)
    (fun f y k x hx hk hp ih => by
      have hb := szS_b x
      unfold szS at hb
      have h1 : Z.R64 (min (x.2.2.length : Int) 1048576 + min (x.1.size : Int) 1048576) ∧ Z.R64 (y + (min (x.2.2.length : Int) 1048576 + min (x.1.size : Int) 1048576)) := ⟨⟨by omega, by omega⟩, ⟨by omega, by omega⟩⟩
      rw [F.L20_ModelAsks_l3, if_pos (by omega), A.ixn hx, Option.bind_some, A.gd1 h1, A.gd1 (A.r64n (by omega)), ih _ (by omega)]
      rfl) (by omega) 0 (by omega)
  rw [show F.L20_ModelAsks_l3 a b name epoch given most (a.take n ++ b.take m) A.FU 0 0 = _ from main]
  have yes : F.L20_ModelAsks_j2 a b name epoch given most true = some true := by rw [F.L20_ModelAsks_j2, if_pos rfl, bg]; rfl
  by_cases hc : (30 : Int) < (a.length : Int) ∨ (30 : Int) < (b.length : Int) ∨ (2000 : Int) < sumS (a.take n ++ b.take m) 0
  · rw [if_pos, yes]
    rcases hc with hc | hc | hc
    · simp [hc]
    · simp [hc]
    · rw [decide_eq_true hc]; simp
  · rw [if_neg (by simp only [not_or] at hc; simp [hc])]
    simp only [not_or] at hc
    obtain ⟨c1, c2, c3⟩ := hc
    obtain ⟨s, hs1, hs2⟩ := small_ok given
    rw [hs1, Option.bind_some]
    cases s with
    | false => rw [Bool.not_false, yes]
    | true =>
      have hg := hs2 rfl
      have hall := sumS_mem (a.take n ++ b.take m) 0 (by omega) (by omega)
      have ta : a.take n = a := List.take_of_length_le (by omega)
      have tb : b.take m = b := List.take_of_length_le (by omega)
      rw [ta, tb] at hall
      have sa : Sm' a := ⟨by omega, fun s hs => hall s (List.mem_append_left _ hs)⟩
      have hl := ofS_len name epoch sa
      obtain ⟨_, _, he⟩ := insAll_ok given [] List.Pairwise.nil
      have he : (insAll given []).length ≤ 24 := by simp at he; omega
      have hr : Z.R64 ((most.toNat : Int)) ∧ Z.R64 ((most.toNat : Int)) := ⟨⟨by omega, by omega⟩, ⟨by omega, by omega⟩⟩
      rw [Bool.not_true, F.L20_ModelAsks_j2, if_neg (by simp), R_Of _ _ _ (by omega), Option.bind_some, R_Epochs _ (by omega), Option.bind_some, P_Of _ _ _ sa, Option.bind_some,
        told_ok _ _ hl (by omega), Option.bind_some, List.take_of_length_le (by show (ofS name epoch a).length ≤ 9999; omega), EqM _ _ (by omega), Option.bind_some, if_pos (by simp), A.gd1 hr, A.gd1 (by omega), Option.bind_some, told_ok _ _ hl (by omega), Option.bind_some]
      have e1 : (ofS name epoch a).take (min ((ofS name epoch a).length : Int) (most.toNat : Int)).toNat = (ofS name epoch a).take ((most.toNat : Int)).toNat := by
        rw [show (min ((ofS name epoch a).length : Int) (most.toNat : Int)).toNat = min most.toNat (ofS name epoch a).length by omega, Int.toNat_natCast, ← List.take_take, List.take_length]
      have e2 : (insAll given []).take (min ((insAll given []).length : Int) (most.toNat : Int)).toNat = (insAll given []).take ((most.toNat : Int)).toNat := by
        rw [show (min ((insAll given []).length : Int) (most.toNat : Int)).toNat = min most.toNat (insAll given []).length by omega, Int.toNat_natCast, ← List.take_take, List.take_length]
      rw [e1, EqM _ _ (by rw [List.length_take]; omega), Option.bind_some, if_pos (by simp), P_Epochs _ (by omega), Option.bind_some, epochs_ok _ _ (by omega) (by omega), Option.bind_some, List.take_of_length_le (by show (insAll given []).length ≤ 999; omega), EqI' _ _ (by omega), Option.bind_some, if_pos (by simp), A.gd1 hr, A.gd1 (by omega), Option.bind_some,
        epochs_ok _ _ (by omega) (by omega), Option.bind_some, e2, EqI' _ _ (by rw [List.length_take]; omega), Option.bind_some, if_pos (by simp), P_Same' _ _ sa, Option.bind_some, R_Same' _ _ sa, Option.bind_some, if_pos (by simp), P_Same' _ _ sa, Option.bind_some, F.L20_ModelAsks_j1]
      simp
end Go.Proofs.YtlbdgahbamalcaaGreatDoor
end

section
namespace Go.Z
open Go.RowKit
/-- whatever is trodden as a T reads as a t -/
def OpenT (P : Program) (T : TypeId) (t : Ty) : Prop :=
  P.cellsOf T = t.size ∧ ∀ (H : Type) (enc : TypeId × Value → H) (w : World) (base : Nat) (spare : Nat → Bool) (held : Bool) (fuel : Nat) (cs : List Value) (x : DataW H × List MemPlace),
    DataW.trod enc P w base spare held fuel T cs = some x → ∃ y : t.den, t.rep w (nt []) cs y
section
variable {P : Program} {T e : TypeId}
theorem ot_int {k : IntKind} (hc : P.cellsOf T = 1) (ht : P.underlying T = some (.int k)) : OpenT P T (.int k) := ⟨hc, fun H enc w base spare held fuel cs x h => by
  obtain ⟨n, rfl, _, hw⟩ := DataW.trod_int ht h
  refine ⟨n, rfl, ?_⟩
  simp only [Lit.wf, Bool.and_eq_true, decide_eq_true_eq] at hw
  exact hw⟩
theorem ot_byte (hc : P.cellsOf T = 1) (ht : P.underlying T = some (.int .u8)) : OpenT P T .byte := ⟨hc, fun H enc w base spare held fuel cs x h => by
  obtain ⟨n, rfl, _, hw⟩ := DataW.trod_int ht h
  simp [Lit.wf, IntKind.min, IntKind.max, IntKind.signed, IntKind.bits] at hw
  exact ⟨UInt8.ofNat n.toNat, congrArg (fun z => [Value.int .u8 z]) (u8_of (by omega))⟩⟩
theorem ot_str (hc : P.cellsOf T = 1) (ht : P.underlying T = some .string) : OpenT P T .str := ⟨hc, fun H enc w base spare held fuel cs x h => by
  obtain ⟨s, rfl, _, hs⟩ := DataW.trod_string ht h
  exact ⟨s, rfl, hs⟩⟩

/-- parts of a struct or of an array, in a row -/
def OpenPs (P : Program) : List (TypeId × Nat) → Nat → Ty → Prop
  | [], _, _ => False
  | [(T, o')], o, t => o' = o ∧ OpenT P T t
  | (T, o') :: p :: ps, o, .pair a b => o' = o ∧ OpenT P T a ∧ OpenPs P (p :: ps) (o + a.size) b
  | _ :: _ :: _, _, _ => False
theorem open_ps {H : Type} {enc : TypeId × Value → H} {w : World} {base : Nat} {spare : Nat → Bool} {held : Bool} {fuel : Nat} {cs : List Value} :
    ∀ (ps : List (TypeId × Nat)) (o : Nat) (t : Ty), OpenPs P ps o t → (∀ p ∈ ps, ∃ x, DataW.trod enc P w base spare held fuel p.1 ((cs.drop p.2).take (P.cellsOf p.1)) = some x) → ∃ y : t.den, t.rep w (nt []) ((cs.drop o).take t.size) y
  | [], _, _, h, _ => h.elim
  | [(T, o')], o, t, h, hx => by
    obtain ⟨rfl, ⟨hc, ho⟩⟩ := h
    obtain ⟨x, hx⟩ := hx (T, o') (List.mem_singleton.2 rfl)
    rw [← hc]; exact ho _ _ _ _ _ _ _ _ _ hx
  | (T, o') :: p :: ps, o, .pair a b, h, hx => by
    obtain ⟨rfl, ⟨hc, ho⟩, hr⟩ := h
    obtain ⟨x, h1⟩ := hx (T, o') (List.mem_cons_self ..)
    obtain ⟨ya, hya⟩ := ho _ _ _ _ _ _ _ _ _ h1
    obtain ⟨yb, hyb⟩ := open_ps (p :: ps) _ b hr fun q hq => hx q (List.mem_cons_of_mem _ hq)
    refine ⟨(ya, yb), _, _, ?_, hya, hyb⟩
    show (cs.drop o').take (a.size + b.size) = _
    rw [hc, List.take_add, List.drop_drop]
  | _ :: _ :: _, _, .int _, h, _ => h.elim
  | _ :: _ :: _, _, .byte, h, _ => h.elim
  | _ :: _ :: _, _, .bool, h, _ => h.elim
  | _ :: _ :: _, _, .str, h, _ => h.elim
  | _ :: _ :: _, _, .slice _, h, _ => h.elim
theorem ot_struct {fs : List Field} {t : Ty} (hc : P.cellsOf T = t.size) (ht : P.underlying T = some (.struct fs.toArray)) (h : OpenPs P (fs.map fun f => (f.type, f.offset)) 0 t) : OpenT P T t := ⟨hc, fun H enc w base spare held fuel cs x hx => by
  obtain ⟨xs, n, _, _, hl, hs, hf⟩ := DataW.trod_struct ht hx
  have hcs : cs = (cs.drop 0).take t.size := by rw [List.drop_zero, List.take_of_length_le (by omega)]
  rw [hcs]
  refine open_ps (fuel := n) (enc := enc) (base := base) (spare := spare) (held := held) _ 0 t h fun p hp => ?_
  obtain ⟨f, hf1, rfl⟩ := List.mem_map.1 hp
  obtain ⟨i, hi, he⟩ := List.getElem_of_mem hf1
  have h1 := hf i f (by rw [List.getElem?_toArray, List.getElem?_eq_getElem hi, he])
  rw [h1, List.getElem?_eq_getElem (by rw [hs]; simpa using hi)]
  exact ⟨_, rfl⟩⟩
/-- rows of elements -/
theorem rows_of {t : Ty} {w : World} {g : Addr} : ∀ (n : Nat), (∀ i, i < n → ∃ (cs : List Value) (y : t.den), cs.length = t.size ∧ (∀ j u, cs[j]? = some u → w.cell? (g.add (i * t.size + j)) = some u) ∧ t.rep w (nt []) cs y) →
    ∃ (cells : List Value) (ys : List t.den), ys.length = n ∧ cells.length = n * t.size ∧ (∀ j u, cells[j]? = some u → w.cell? (g.add j) = some u) ∧ ∀ (i : Nat) (y : t.den), ys[i]? = some y → t.rep w (nt []) ((cells.drop (i * t.size)).take t.size) y
  | 0, _ => ⟨[], [], rfl, by simp, by simp, by simp⟩
  | n + 1, h => by
    obtain ⟨cells, ys, h1, h2, h3, h4⟩ := rows_of n fun i hi => h i (by omega)
    obtain ⟨cs, y, c1, c2, c3⟩ := h n (by omega)
    refine ⟨cells ++ cs, ys ++ [y], by simp [h1], by rw [List.length_append, h2, c1, Nat.succ_mul], fun j u hj => ?_, ?_⟩
    · by_cases hlt : j < cells.length
      · rw [List.getElem?_append_left hlt] at hj; exact h3 j u hj
      · rw [List.getElem?_append_right (by omega)] at hj
        have := c2 _ u hj
        rwa [h2, show n * t.size + (j - n * t.size) = j by omega] at this
    · refine rep_append (xs := ys) (ys := [y]) (by rw [h2, h1]) h4 fun i y' hi => ?_
      have : i = 0 := by have := (List.getElem?_eq_some_iff.1 hi).1; simp at this; omega
      subst this
      simp at hi; subst hi
      rw [Nat.zero_mul, List.drop_zero, List.take_of_length_le (by omega)]; exact c3
theorem ot_slice {t : Ty} (hc : P.cellsOf T = 1) (ht : P.underlying T = some (.slice e)) (h : OpenT P e t) : OpenT P T (.slice t) := ⟨hc, fun H enc w base spare held fuel cs x hx => by
  rcases DataW.trod_slice ht hx with ⟨rfl, _⟩ | ⟨ad, len, cap, elems, rest, n, _, rfl, _, hb, hl, hm, hlen, hel, _, _⟩
  · exact ⟨[], rep_nil _⟩
  · have each : ∀ i, i < len → ∃ (cs : List Value) (y : t.den), cs.length = t.size ∧ (∀ j u, cs[j]? = some u → w.cell? (ad.add (i * t.size + j)) = some u) ∧ t.rep w (nt []) cs y := fun i hi => by
      have h1 := hel i hi
      rw [List.getElem?_eq_getElem (by omega), Option.bind_eq_some_iff] at h1
      obtain ⟨cs', h2, h3⟩ := h1
      obtain ⟨_, h4, h5⟩ := World.cells?_some h2
      obtain ⟨y, hy⟩ := h.2 _ _ _ _ _ _ _ _ _ h3
      rw [h.1] at h4 h5
      refine ⟨cs', y, h4, fun j u hj => ?_, hy⟩
      have hlt := (List.getElem?_eq_some_iff.1 hj).1
      have := h5 j (by omega)
      rw [add_add] at this
      rw [this, hj]
    obtain ⟨cells, ys, h1, h2, h3, h4⟩ := rows_of len each
    by_cases hz : len = 0
    · subst hz
      have : ys = [] := List.eq_nil_of_length_eq_zero h1
      subst this
      exact ⟨[], some ad, cap, [], rfl, by simp, hm, by simp, .inl rfl, by simp⟩
    · have hp := pos_size t
      have hlt : 0 < cells.length := by rw [h2]; exact Nat.mul_pos (by omega) hp
      have h0 := h3 0 _ (List.getElem?_eq_getElem hlt)
      have hspot := World.cell?_spot h0
      obtain ⟨b, off, spot⟩ := ad
      simp only [Addr.add] at hspot
      subst hspot
      refine ⟨ys, some ⟨b, off, none⟩, cap, cells, by rw [h1], by omega, hm, by rw [h1]; exact h2, .inr ⟨b, off, rfl, by simp [nt], fun j u hj => ?_⟩, h4⟩
      have := h3 j u hj
      rwa [Addr.add_lit] at this⟩
end
end Go.Z
end

section
namespace Go.Proofs.YtlbdgahbamalcaaGreatDoor.modelAsksDone
open Go.ChangeShapes Go.WideShapes Go.ChangeAt Go.RowKit
set_option linter.unusedVariables false
theorem own : ownKnob Tryz.prog.godebug = none := by kernel_rfl
theorem laidOut : laidOutB Tryz.prog = true := by kernel_rfl
theorem ot9 : Z.OpenT Tryz.prog 9 Z.Ty.str := Z.ot_str (by kernel_rfl) Tryz.underlying9
theorem ot2 : Z.OpenT Tryz.prog 2 (Z.Ty.int .i64) := Z.ot_int (by kernel_rfl) Tryz.underlying2
theorem ot28 : Z.OpenT Tryz.prog 28 T27 := Z.ot_struct (by kernel_rfl) Tryz.underlying28 ⟨rfl, ot2, rfl, ot9⟩
theorem ot46 : Z.OpenT Tryz.prog 46 T45 := Z.ot_struct (by kernel_rfl) Tryz.underlying46 ⟨rfl, ot28, rfl, ot2⟩
theorem ot23 : Z.OpenT Tryz.prog 23 (Z.Ty.slice T45) := Z.ot_slice (by kernel_rfl) Tryz.underlying23 ot46
theorem ot49 : Z.OpenT Tryz.prog 49 T48 := Z.ot_struct (by kernel_rfl) Tryz.underlying49 ⟨rfl, ot9, rfl, ot2, rfl, ot23⟩
theorem ot41 : Z.OpenT Tryz.prog 41 (Z.Ty.slice T48) := Z.ot_slice (by kernel_rfl) Tryz.underlying41 ot49
theorem ot3 : Z.OpenT Tryz.prog 3 (Z.Ty.int .i64) := Z.ot_int (by kernel_rfl) Tryz.underlying3
theorem ot40 : Z.OpenT Tryz.prog 40 T39 := Z.ot_struct (by kernel_rfl) Tryz.underlying40 ⟨rfl, ot3, rfl, ot2, rfl, ot28⟩
theorem ot38 : Z.OpenT Tryz.prog 38 (Z.Ty.slice T39) := Z.ot_slice (by kernel_rfl) Tryz.underlying38 ot40
theorem ot5 : Z.OpenT Tryz.prog 5 Z.Ty.byte := Z.ot_byte (by kernel_rfl) Tryz.underlying5
set_option maxRecDepth 100000 in
theorem laid_met (os : Os) (args : Array Value) : laidMetH Tryz.prog Rows.modelAsksRow.laid (({ World.holding Tryz.prog os ⟨#[], #[], []⟩ with heap := ((World.holding Tryz.prog os ⟨#[], #[], []⟩).heap.modify 0 (A.putCells A.tabF)).modify 1 (A.putCells A.tabA) } : World).forCall (fun _ _ => 0) ⟨#[], args, []⟩).memory := by
  rw [MakeChecks.laidMetH_plain _ _ _ (by kernel_rfl)]
  exact (LaidIn.of_run (l := Rows.modelAsksRow.laid) [1, 0] 8 (by kernel_rfl) (by kernel_rfl) (by kernel_rfl) (by kernel_rfl)).met
theorem of_laid {W : World} (h : laidMetH Tryz.prog Rows.modelAsksRow.laid W) : Lib.Utf8Tabs 0 1 W := by
  rw [MakeChecks.laidMetH_plain _ _ _ (by kernel_rfl)] at h
  have h1 := Lib.laidMet.reads h (.tail _ (.head _))
  rw [show Rows.laid_unicode_utf8_first = Lib.firstData from Pinned.utf8First_eq] at h1
  have h2 := Lib.laidMet.reads h (.head _)
  rw [show (Rows.laid_unicode_utf8_acceptRanges : DataW Unit) = Lib.acceptData by kernel_rfl] at h2
  exact utf8Tabs_of_readsT (U8Types.of196 Tryz.laysValid) ⟨by kernel_rfl, by kernel_rfl, by kernel_rfl, by kernel_rfl, by kernel_rfl, by kernel_rfl, by kernel_rfl⟩ h1 h2
set_option maxHeartbeats 1000000 in
set_option maxRecDepth 100000 in
theorem lifted (os : Os) (started : os.Started) (H : Type) (enc : TypeId × Value → H) :
    ReturnsInHanded {} Tryz.checked os 4 .any (fun w args => (Rows.modelAsksSpec.pre enc Tryz.prog Tryz.f4 [] false w args ∧ laidMetH Tryz.prog Rows.modelAsksRow.laid w) ∧ sizedMet enc Tryz.prog Tryz.f4 (OpenSpec.ofChange Rows.modelAsksSpec) false w args) (Rows.modelAsksSpec.post enc Tryz.prog Tryz.f4 false true false false) := by
  refine returnsInHanded_of_change_and (C := Tryz.checked) (X := fun w _ => laidMetH Tryz.prog Rows.modelAsksRow.laid w) (fun _ _ _ hh h => h.of_heap hh) own started (by kernel_rfl) Tryz.func4
    (ChangeSpec.witness_shaped (enc := enc) (C := Tryz.checked) (os := os) (X := fun w _ => laidMetH Tryz.prog Rows.modelAsksRow.laid w) false ({ World.holding Tryz.prog os ⟨#[], #[], []⟩ with heap := ((World.holding Tryz.prog os ⟨#[], #[], []⟩).heap.modify 0 (A.putCells A.tabF)).modify 1 (A.putCells A.tabA) }) #[.slice none 0 0, .slice none 0 0, .string (ByteArray.mk #[]), .int .i64 0, .slice none 0 0, .int .u8 0] 16 rfl (World.shaped_of_RefB (by kernel_rfl) (by kernel_rfl)) (by kernel_rfl) (by kernel_rfl) (by kernel_rfl) (laid_met os _)) ?_
  intro W base args ds gs before hval0 hW hcnd hsz0 hL _
  have hval : ∀ (j : Nat) t v, Tryz.f4.params[j]? = some t → args[j]? = some v → Value.okWide Tryz.prog W .any base t v := hval0
  have hW' := hW
  obtain ⟨p, q, hA0, hV, rfl, hfz, hnd⟩ := hW
  have hA : DataW.TrodAll enc Tryz.prog W 0 (fun _ => true) true Tryz.f4.params.toList args.toList ds p := hA0
  rw [Tryz.params4] at hA hval
  obtain ⟨v0, vs0, d0, ds0, p0, q0, hargs, rfl, rfl, h0, r0⟩ := trodAll_cons hA
  obtain ⟨v1, vs1, d1, ds1, p1, q1, rfl, rfl, rfl, h1, r1⟩ := trodAll_cons r0
  obtain ⟨v2, vs2, d2, ds2, p2, q2, rfl, rfl, rfl, h2, r2⟩ := trodAll_cons r1
  obtain ⟨v3, vs3, d3, ds3, p3, q3, rfl, rfl, rfl, h3, r3⟩ := trodAll_cons r2
  obtain ⟨v4, vs4, d4, ds4, p4, q4, rfl, rfl, rfl, h4, r4⟩ := trodAll_cons r3
  obtain ⟨v5, vs5, d5, ds5, p5, q5, rfl, rfl, rfl, h5, r5⟩ := trodAll_cons r4
  obtain ⟨rfl, rfl, rfl⟩ := trodAll_nil r5
  obtain rfl : args = #[v0, v1, v2, v3, v4, v5] := by cases args; simp_all
  obtain ⟨rfl, rfl⟩ := trodVars_none hV
  have k0 := h0
  have lt0 : ∀ x ∈ p0, x.block < W.heap.size := by obtain ⟨m, hm⟩ := k0; exact DataW.trod_lt m _ _ _ hm
  obtain ⟨fu0, hf0⟩ := h0
  obtain ⟨x0, hx0⟩ := ot41.2 _ _ _ _ _ _ _ _ _ hf0
  obtain ⟨a0, n0, c0, rfl⟩ := okWide_slice Tryz.underlying41 (hval 0 41 v0 rfl rfl)
  replace hx0 : (Z.Ty.slice T48).rep W (Z.nt []) [.slice a0 n0 c0] x0 := hx0
  have hn0 := (Z.rep_slice_len hx0).1
  subst hn0
  have k1 := h1
  have lt1 : ∀ x ∈ p1, x.block < W.heap.size := by obtain ⟨m, hm⟩ := k1; exact DataW.trod_lt m _ _ _ hm
  obtain ⟨fu1, hf1⟩ := h1
  obtain ⟨x1, hx1⟩ := ot41.2 _ _ _ _ _ _ _ _ _ hf1
  obtain ⟨a1, n1, c1, rfl⟩ := okWide_slice Tryz.underlying41 (hval 1 41 v1 rfl rfl)
  replace hx1 : (Z.Ty.slice T48).rep W (Z.nt []) [.slice a1 n1 c1] x1 := hx1
  have hn1 := (Z.rep_slice_len hx1).1
  subst hn1
  have k2 := h2
  have lt2 : ∀ x ∈ p2, x.block < W.heap.size := by obtain ⟨m, hm⟩ := k2; exact DataW.trod_lt m _ _ _ hm
  obtain ⟨fu2, hf2⟩ := h2
  obtain ⟨x2, hx2⟩ := ot9.2 _ _ _ _ _ _ _ _ _ hf2
  obtain ⟨u2, rfl⟩ := okWide_string Tryz.underlying9 (hval 2 9 v2 rfl rfl)
  have he2 := hx2.1
  replace he2 : u2 = x2 := by simpa [Value.cells] using he2
  subst he2
  have hok2 := hx2.2
  have k3 := h3
  have lt3 : ∀ x ∈ p3, x.block < W.heap.size := by obtain ⟨m, hm⟩ := k3; exact DataW.trod_lt m _ _ _ hm
  obtain ⟨fu3, hf3⟩ := h3
  obtain ⟨x3, hx3⟩ := ot2.2 _ _ _ _ _ _ _ _ _ hf3
  obtain ⟨u3, rfl⟩ := okWide_int Tryz.underlying2 (hval 3 2 v3 rfl rfl)
  have he3 := hx3.1
  replace he3 : u3 = x3 := by simpa [Value.cells] using he3
  subst he3
  have hok3 := hx3.2
  have k4 := h4
  have lt4 : ∀ x ∈ p4, x.block < W.heap.size := by obtain ⟨m, hm⟩ := k4; exact DataW.trod_lt m _ _ _ hm
  obtain ⟨fu4, hf4⟩ := h4
  obtain ⟨x4, hx4⟩ := ot38.2 _ _ _ _ _ _ _ _ _ hf4
  obtain ⟨a4, n4, c4, rfl⟩ := okWide_slice Tryz.underlying38 (hval 4 38 v4 rfl rfl)
  replace hx4 : (Z.Ty.slice T39).rep W (Z.nt []) [.slice a4 n4 c4] x4 := hx4
  have hn4 := (Z.rep_slice_len hx4).1
  subst hn4
  have k5 := h5
  have lt5 : ∀ x ∈ p5, x.block < W.heap.size := by obtain ⟨m, hm⟩ := k5; exact DataW.trod_lt m _ _ _ hm
  obtain ⟨fu5, hf5⟩ := h5
  obtain ⟨x5, hx5⟩ := ot5.2 _ _ _ _ _ _ _ _ _ hf5
  obtain ⟨u5, rfl⟩ := okWide_int Tryz.underlying5 (hval 5 5 v5 rfl rfl)
  have he5 := hx5
  replace he5 : u5 = (x5.toNat : Int) := by simpa [Value.cells, Z.Ty.rep] using he5
  subst he5
  clear hA0 hval0
  have htab := of_laid hL
  have hF : F.L20_ModelAsks x0 x1 u2 u3 x4 x5 = some true := modelAsks_plain x0 x1 u2 u3 x4 x5 (Z.rep_ok _ hx0) (Z.rep_ok _ hx1) hok2 hok3 (Z.rep_ok _ hx4) trivial
  have hct := L20_ModelAsks_ok x0 x1 u2 u3 x4 x5 a0 c0 a1 c1 a4 c4 hok2 hok3 true hF
  refine (hct W (fun _ => True) (A.Hp.start ⟨A.Hall.sh hx0, A.Hall.sh hx1, A.Hall.sh hx4, trivial⟩)).mono ?_
  rintro e W' ⟨v, H', rfl, ⟨rfl, rfl⟩, hh⟩
  have bel := hh.ch.below
  exact ⟨_, rfl, _, _, _, [], _, [], hW', trodAll_mk1 (shut_bool Tryz.underlying4 _), (trodAll_cons_mk (Below.trod laidOut (by kernel_rfl) (of_decide_eq_true (by kernel_rfl)) k0 bel lt0) (trodAll_cons_mk (Below.trod laidOut (by kernel_rfl) (of_decide_eq_true (by kernel_rfl)) k1 bel lt1) (trodAll_cons_mk (Below.trod laidOut (by kernel_rfl) (of_decide_eq_true (by kernel_rfl)) k2 bel lt2) (trodAll_cons_mk (Below.trod laidOut (by kernel_rfl) (of_decide_eq_true (by kernel_rfl)) k3 bel lt3) (trodAll_cons_mk (Below.trod laidOut (by kernel_rfl) (of_decide_eq_true (by kernel_rfl)) k4 bel lt4) (trodAll_cons_mk (Below.trod laidOut (by kernel_rfl) (of_decide_eq_true (by kernel_rfl)) k5 bel lt5) trodAll_mk0)))))), rfl, bel.frame _, fun h => by cases h⟩
theorem over : Rows.modelAsksRow.holds Tryz.pinned (OpenSpec.ofChange Rows.modelAsksSpec) :=
  OpenClaim.holds_of_wide 4 Tryz.f4 rfl rfl rfl rfl rfl rfl rfl ⟨rfl, rfl, rfl, rfl, rfl⟩ rfl rfl rfl rfl rfl (by kernel_rfl) Tryz.func4 (by kernel_rfl)
    (of_decide_eq_true (by kernel_rfl)) (by unfold Func.isWrapper; first | (rw [if_pos (by decide +kernel)]; kernel_rfl) | (rw [if_neg (by decide +kernel)]; exact ⟨rfl, rfl⟩))
    (fun os started H enc _ => lifted os started H enc)
/-- the given statement -/
theorem proved : Rows.ModelAsksCardSaid :=
  Claim7.holds_tied_plain_at .later [] [.data, .pinned] true (true, "e68e5aa3dd94ebe97bd187235bbec7ad43c4c1dd95d4011420fb773a5659b156") true
    over (fun _ h => by cases h) (by kernel_rfl) (fun _ h => by cases h) modelAsks_row_tie rfl ⟨rfl, rfl⟩ (by kernel_rfl) rfl
    (fun f fn hf hfn => by
      obtain rfl : f = 4 := Option.some.inj ((show Tryz.prog.funcNamed Rows.modelAsksRow.func = some 4 by kernel_rfl).symm.trans hf) |>.symm
      obtain rfl : fn = Tryz.f4 := (Option.some.inj (Tryz.func4.symm.trans hfn)).symm
      exact ⟨by kernel_rfl, fun j t ht => by
        rw [Tryz.params4] at ht
        have hm : t ∈ [41, 41, 9, 2, 38, 5] := by simpa using Array.mem_of_getElem? ht
        have hall : ([41, 41, 9, 2, 38, 5].all fun u => !Tryz.prog.wantsStandIn u) = true := by kernel_rfl
        exact (show Tryz.prog.wantsStandIn t = false by simpa using List.all_eq_true.1 hall t hm)⟩)
    (by kernel_rfl)
#print axioms proved
end Go.Proofs.YtlbdgahbamalcaaGreatDoor.modelAsksDone
end
