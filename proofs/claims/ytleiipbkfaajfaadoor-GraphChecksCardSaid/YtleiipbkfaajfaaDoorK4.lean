/- Functions on data, and that the code computes them. * Functions on data, and that the code computes them. * Functions on data, and that the code computes them. * Functions on data, and that the code computes them. * Functions on data, and that the code computes them. * A layer over the small logic, continued: where a law's walk begins. No program in sight. * Plain law of graphs: what the reference and the program say of graphs, as functions on data (no program in sight). * Plain: rounds by a count of steps are recursion over a list; small functions of graphs. * Plain: names, rune by rune; functions of nodes. * Plain: what a text's bytes are, by the reference and by the model's decoder. * Plain: functions of nodes may be; a node for itself. * Plain: what is wrong with nodes, by the program and by the reference. * Plain: the first part of what may be wrong with a graph. * Plain: the first part of what may be wrong with a graph, by the reference: the same. * Plain: the order of nodes, by the program and by the reference: the same. -/
import Derived.Test.YtleiipbkfaajfaaDoorK0
import Derived.Test.YtleiipbkfaajfaaDoorK1
import Derived.Test.YtleiipbkfaajfaaDoorK3
import Derived.Test.YtleiipbkfaajfaaDoorK2
import Derived.Lib.TrimUEq
section
set_option linter.unusedVariables false
set_option linter.unusedSimpArgs false
set_option maxRecDepth 20000
set_option maxHeartbeats 8000000
set_option synthInstance.maxSize 1000000
set_option synthInstance.maxHeartbeats 400000
namespace Go.Proofs.YtleiipbkfaajfaaDoor
open Go.RowKit
def F.R08_parts_j1 (k40 : Int → Option Int) (y34 : Int) (y61 : Bool) : Option Int := if y61 = true then (some 80) else (A.gd (Z.R64 (y34 + 1)) (k40 (y34 + 1)))
def F.R08_parts_l2 (k39 : Int → Option Int) (a0 : D23) (y31 : Int) : Nat → Int → Option Int
  | 0, _ => none
  | f + 1, y34 => (A.ix a0 y31).bind fun x37 => (if y34 < ((x37.2.2.1).length : Int) then ((A.ix a0 y31).bind fun x44 => ((A.ix x44.2.2.1 y34).bind fun x52 => ((F.R08_index a0 x52).bind fun r58 => (if r58 < 0 then (F.R08_parts_j1 (F.R08_parts_l2 k39 a0 y31 f) y34 true) else ((A.ix a0 r58).bind fun x63 => (F.R08_parts_j1 (F.R08_parts_l2 k39 a0 y31 f) y34 (decide (x63.2.1 = 15)))))))) else (A.gd (Z.R64 (y31 + 1)) (k39 (y31 + 1))))
def F.R08_parts_l3 (a0 : D23) : Nat → Int → Option Int
  | 0, _ => none
  | f + 1, y31 => if y31 < ((a0).length : Int) then (F.R08_parts_l2 (F.R08_parts_l3 a0 f) a0 y31 A.FU 0) else (some 0)
def F.R08_parts_l4 (a0 : D23) : Nat → Int → Option Int
  | 0, _ => none
  | f + 1, y8 => if y8 < ((a0).length : Int) then ((A.ix a0 y8).bind fun x11 => ((A.ix a0 y8).bind fun x19 => ((F.R06_Check x11.2.1 (x19.2.2.2.1.1, x19.2.2.2.1.2.1, x19.2.2.2.1.2.2)).bind fun r27 => (if r27 ≠ 0 then (some 60) else (A.gd (Z.R64 (y8 + 1)) ((F.R08_parts_l4 a0 f) (y8 + 1))))))) else (F.R08_parts_l3 a0 A.FU 0)
def F.R08_parts_l5 (a0 : D23) : Nat → Int → Option Int
  | 0, _ => none
  | f + 1, y2 => if y2 < ((a0).length : Int) then ((F.R08_own a0 y2).bind fun r5 => (if (!r5) = true then (some 80) else (A.gd (Z.R64 (y2 + 1)) ((F.R08_parts_l5 a0 f) (y2 + 1))))) else (F.R08_parts_l4 a0 A.FU 0)
def F.R08_parts (a0 : D23) : Option Int := if (32 : Int) < ((a0).length : Int) then (some 80) else (F.R08_parts_l5 a0 A.FU 0)
theorem R08_parts_ok (a0 : D23) (A0_ : Option Addr) (c1_ : Nat) (r : Int) (hF : F.R08_parts a0 = some r) :
    A.Ct Tryd.prog 83 [.agg #[.slice A0_ ((a0).length) c1_]] [(0, .sh (.slice T39) [.slice A0_ (a0).length c1_] a0)] [] (fun v H' => v = .int .i64 r ∧ H' = [] ∧ IntKind.i64.has r) := by
  refine A.Ct.enter Tryd.func83 rfl Tryd.ntmps83 rfl fun w0 F0 => ?_
  rw [F.R08_parts] at hF
  refine A.AX.sr ?_
  refine A.AL.box 1 (cs := [.slice A0_ ((a0).length) c1_]) fun g1 => ?_
  refine A.AL.q [] [] [.n] [] [] [] trivial ?_
  refine A.AL.dn ?_
  refine A.AX.seq ?_
  refine A.AX.sr ?_
  refine A.AL.q [1] [] [.n, .b 0 0, .n, .n] [11] [] [(11, .bool (decide ((32 : Int) < ((a0).length : Int))))] trivial ?_
  refine A.AL.dn ?_
  refine A.AX.cnd rfl hF (fun hb hF => ?_) (fun hb hF => ?_)
  · refine A.AX.sr ?_
    refine A.AL.q [] [] [.n] [2] [] [(2, .int .i64 80)] trivial ?_
    refine A.AL.dn ?_
    obtain rfl := Option.some.inj hF
    exact A.AX.ret [] (.int .i64 80) (fun a w hf hh => Z.resv1 rfl (Z.rv_t hf rfl)) (⟨rfl, rfl, (A.hasl .i64 (80) rfl)⟩)
  · refine A.AX.skip ?_
    refine A.AE.c ?_
    refine A.AX.seq ?_
    refine A.AX.sr ?_
    refine A.AL.q [] [] [.n] [3] [] [(3, .int .i64 0)] trivial ?_
    refine A.AL.dn ?_
    refine A.AX.block ?_
    refine A.AX.loop [1] [0, 1] [0, 1] (fun f nl nh => ∃ (y2 : Int), nl = [(3, .int .i64 y2)] ∧ nh = [] ∧ IntKind.i64.has y2 ∧ F.R08_parts_l5 a0 f y2 = some r) A.FU [(3, .int .i64 0)] [] ⟨0, rfl, rfl, (A.hasl .i64 (0) rfl), hF⟩ ?_
    rintro f4 _ _ ⟨y2, rfl, rfl, hy3, hF⟩
    cases f4 with
    | zero => exact A.no0 hF
    | succ f4 =>
      rw [F.R08_parts_l5] at hF
      refine A.AX.seq ?_
      refine A.AX.sr ?_
      refine A.AL.q [1] [] [.n, .n, .b 0 0, .n, .n] [16] [] [(16, .bool (decide (y2 < ((a0).length : Int))))] trivial ?_
      refine A.AL.dn ?_
      refine A.AX.cnd rfl hF (fun hb hF => ?_) (fun hb hF => ?_)
      · refine A.AX.skip ?_
        refine A.AE.c ?_
        refine A.AX.seq ?_
        refine A.AX.block ?_
        refine A.AX.sr ?_
        refine A.AL.q [1] [] [.b 0 0, .n] [19, 20] [] [(19, .agg #[.slice A0_ ((a0).length) c1_]), (20, .int .i64 y2)] trivial ?_
        obtain ⟨r5, hv6, hF⟩ := A.bd_some hF
        refine A.AL.call 2884 [] (first := []) (cap := []) cf101 (R08_own_ok a0 y2 A0_ c1_ hy3 r5 hv6) (.s 0 .nil) ?_
        rintro _ _ ⟨rfl, rfl⟩
        refine ⟨by kernel_rfl, ?_⟩
        refine A.AL.q [] [] [.n] [22] [] [(22, .bool (!r5))] trivial ?_
        refine A.AL.dn ?_
        refine A.AX.cnb rfl hF (fun hb hF => ?_) (fun hb hF => ?_)
        · refine A.AX.sr ?_
          refine A.AL.q [] [] [.n] [2] [] [(2, .int .i64 80)] trivial ?_
          refine A.AL.dn ?_
          obtain rfl := Option.some.inj hF
          exact A.AX.ret [] (.int .i64 80) (fun a w hf hh => Z.resv1 rfl (Z.rv_t hf rfl)) (⟨rfl, rfl, (A.hasl .i64 (80) rfl)⟩)
        · refine A.AX.skip ?_
          refine A.AE.b ?_
          refine A.AE.c ?_
          refine A.AX.reg ?_
          obtain ⟨hc7, hF⟩ := A.gd_some hF
          refine A.AL.q [] [] [.n, .n, .n] [3] [Z.R64 (y2 + 1)] [(3, .int .i64 (y2 + 1))] hc7 ?_
          refine A.AL.done ?_
          exact A.AE.j [0, 1] [(3, .int .i64 (y2 + 1))] [] ⟨_, Nat.lt_succ_self _, ⟨(y2 + 1), rfl, rfl, (Z.i64_has hc7), hF⟩⟩
      · refine A.AX.exit rfl ?_
        refine A.AE.c ?_
        refine A.AX.seq ?_
        refine A.AX.sr ?_
        refine A.AL.q [] [] [.n] [4] [] [(4, .int .i64 0)] trivial ?_
        refine A.AL.dn ?_
        refine A.AX.block ?_
        refine A.AX.loop [1] [0, 1] [0, 1] (fun f nl nh => ∃ (y8 : Int), nl = [(4, .int .i64 y8)] ∧ nh = [] ∧ IntKind.i64.has y8 ∧ F.R08_parts_l4 a0 f y8 = some r) A.FU [(4, .int .i64 0)] [] ⟨0, rfl, rfl, (A.hasl .i64 (0) rfl), hF⟩ ?_
        rintro f10 _ _ ⟨y8, rfl, rfl, hy9, hF⟩
        cases f10 with
        | zero => exact A.no0 hF
        | succ f10 =>
          rw [F.R08_parts_l4] at hF
          refine A.AX.seq ?_
          refine A.AX.sr ?_
          refine A.AL.q [1] [] [.n, .n, .b 0 0, .n, .n] [27] [] [(27, .bool (decide (y8 < ((a0).length : Int))))] trivial ?_
          refine A.AL.dn ?_
          refine A.AX.cnd rfl hF (fun hb hF => ?_) (fun hb hF => ?_)
          · refine A.AX.skip ?_
            refine A.AE.c ?_
            refine A.AX.seq ?_
            refine A.AX.block ?_
            refine A.AX.seq ?_
            refine A.AX.dr mixed 14 14 [false, false, false, false, false, false, false, false, false, false, false, false, false, false] ?_
            refine A.AH.q (A.pk_kont (Z.Pq.body _ _ _)) [] [0, 1] [1] [] [true, true, true, false, false, false, true, true, true, false, false, false, false, false] 8 [(0, .n), (2, .n), (6, .n), (8, .n), (1, .b 0 0), (7, .b 0 0)] [32, 38, 31, 37] [] [(32, .int .i64 y8), (38, .int .i64 y8), (31, .slice A0_ ((a0).length) c1_), (37, .slice A0_ ((a0).length) c1_)] trivial ?_
            obtain ⟨x11, hv12, hF⟩ := A.bd_some hF
            refine A.AH.pks 0 3858 hv12 fun ho13 => ?_
            intro A15 c16 b17 o18 hA14
            refine A.AH.v (A.pk_kont (Z.Pq.body _ _ _)) [0, 1] [0, 1, 3858, 3859] 3 [true, true, true, true, false, false, true, true, true, false, false, false, false, false] rfl (fun a w hf hh => A.r_ixa (t := T39) hv12 hA14 hf) ?_
            refine A.AH.q (A.pk_kont (Z.Pq.body _ _ _)) [0, 1, 3858, 3859] [0, 1, 3858, 3859] [] [3858] [true, true, true, true, true, true, true, true, true, false, false, false, false, false] 5 [(4, .n), (5, .e 0 1)] [35] [] [(35, .int .i64 x11.2.1)] trivial ?_
            obtain ⟨x19, hv20, hF⟩ := A.bd_some hF
            refine A.AH.pks 0 3860 hv20 fun ho21 => ?_
            intro A23 c24 b25 o26 hA22
            refine A.AH.v (A.pk_kont (Z.Pq.body _ _ _)) [0, 1, 3858, 3859] [0, 1, 3858, 3859, 3860, 3861] 9 [true, true, true, true, true, true, true, true, true, true, false, false, false, false] rfl (fun a w hf hh => A.r_ixa (t := T39) hv20 hA22 hf) ?_
            refine A.AH.q (A.pk_kont (Z.Pq.body _ _ _)) [0, 1, 3858, 3859, 3860, 3861] [0, 1, 3858, 3859, 3860, 3861] [] [3860] [true, true, true, true, true, true, true, true, true, true, true, true, false, false] 2 [(10, .n), (11, .e 0 3)] [41] [] [(41, .agg #[.int .i64 x19.2.2.2.1.1, .int .i64 x19.2.2.2.1.2.1, .string x19.2.2.2.1.2.2])] trivial ?_
            refine A.AH.one 12 ?_
            obtain ⟨r27, hv28, hF⟩ := A.bd_some hF
            refine A.AL.call 3862 [] (first := []) (cap := []) cf102 (R06_Check_ok x11.2.1 (x19.2.2.2.1.1, x19.2.2.2.1.2.1, x19.2.2.2.1.2.2) ho13.2.1 ho21.2.2.2.1.1 ho21.2.2.2.1.2.1 ho21.2.2.2.1.2.2 r27 hv28) .nil ?_
            rintro _ _ ⟨rfl, rfl, hr29⟩
            refine ⟨by kernel_rfl, ?_⟩
            refine A.AH.nx [true, true, true, true, true, true, true, true, true, true, true, true, true, false] [0, 1, 3858, 3859, 3860, 3861] ?_
            refine A.AH.q (A.pk_kont (Z.Pq.body _ _ _)) [0, 1, 3858, 3859, 3860, 3861] [0, 1, 3858, 3859, 3860, 3861] [] [] [true, true, true, true, true, true, true, true, true, true, true, true, true, true] 0 [(13, .n)] [43] [] [(43, .bool (decide (r27 ≠ 0)))] trivial ?_
            refine A.AH.done ?_
            refine A.AE.c ?_
            refine A.AX.cnd rfl hF (fun hb hF => ?_) (fun hb hF => ?_)
            · refine A.AX.sr ?_
              refine A.AL.q [] [] [.n] [2] [] [(2, .int .i64 60)] trivial ?_
              refine A.AL.dn ?_
              obtain rfl := Option.some.inj hF
              exact A.AX.ret [] (.int .i64 60) (fun a w hf hh => Z.resv1 rfl (Z.rv_t hf rfl)) (⟨rfl, rfl, (A.hasl .i64 (60) rfl)⟩)
            · refine A.AX.skip ?_
              refine A.AE.b ?_
              refine A.AE.c ?_
              refine A.AX.reg ?_
              obtain ⟨hc30, hF⟩ := A.gd_some hF
              refine A.AL.q [] [] [.n, .n, .n] [4] [Z.R64 (y8 + 1)] [(4, .int .i64 (y8 + 1))] hc30 ?_
              refine A.AL.done ?_
              exact A.AE.j [0, 1] [(4, .int .i64 (y8 + 1))] [] ⟨_, Nat.lt_succ_self _, ⟨(y8 + 1), rfl, rfl, (Z.i64_has hc30), hF⟩⟩
          · refine A.AX.exit rfl ?_
            refine A.AE.c ?_
            refine A.AX.seq ?_
            refine A.AX.sr ?_
            refine A.AL.q [] [] [.n] [5] [] [(5, .int .i64 0)] trivial ?_
            refine A.AL.dn ?_
            refine A.AX.block ?_
            refine A.AX.loop [1] [0, 1] [0, 1] (fun f nl nh => ∃ (y31 : Int), nl = [(5, .int .i64 y31)] ∧ nh = [] ∧ IntKind.i64.has y31 ∧ F.R08_parts_l3 a0 f y31 = some r) A.FU [(5, .int .i64 0)] [] ⟨0, rfl, rfl, (A.hasl .i64 (0) rfl), hF⟩ ?_
            rintro f33 _ _ ⟨y31, rfl, rfl, hy32, hF⟩
            cases f33 with
            | zero => exact A.no0 hF
            | succ f33 =>
              rw [F.R08_parts_l3] at hF
              refine A.AX.seq ?_
              refine A.AX.sr ?_
              refine A.AL.q [1] [] [.n, .n, .b 0 0, .n, .n] [48] [] [(48, .bool (decide (y31 < ((a0).length : Int))))] trivial ?_
              refine A.AL.dn ?_
              refine A.AX.cnd rfl hF (fun hb hF => ?_) (fun hb hF => ?_)
              · refine A.AX.skip ?_
                refine A.AE.c ?_
                refine A.AX.seq ?_
                refine A.AX.block ?_
                refine A.AX.sr ?_
                refine A.AL.q [] [] [.n] [6] [] [(6, .int .i64 0)] trivial ?_
                refine A.AL.dn ?_
                refine A.AX.block ?_
                refine A.AX.loop [1, 5] [0, 1] [0, 1] (fun f nl nh => ∃ (y34 : Int), nl = [(6, .int .i64 y34)] ∧ nh = [] ∧ IntKind.i64.has y34 ∧ F.R08_parts_l2 (F.R08_parts_l3 a0 f33) a0 y31 f y34 = some r) A.FU [(6, .int .i64 0)] [] ⟨0, rfl, rfl, (A.hasl .i64 (0) rfl), hF⟩ ?_
                rintro f36 _ _ ⟨y34, rfl, rfl, hy35, hF⟩
                cases f36 with
                | zero => exact A.no0 hF
                | succ f36 =>
                  rw [F.R08_parts_l2] at hF
                  refine A.AX.seq ?_
                  refine A.AX.sr ?_
                  refine A.AL.q [1] [] [.n, .n, .b 0 0, .n] [51, 53, 54] [] [(51, .int .i64 y34), (53, .slice A0_ ((a0).length) c1_), (54, .int .i64 y31)] trivial ?_
                  obtain ⟨x37, hv38, hF⟩ := A.bd_some hF
                  refine A.AL.ixs 0 4278 hv38 fun ho39 => ?_
                  intro A40 c41 b42 o43
                  refine A.AL.q [] [4278] [.n, .e 0 2, .n, .n] [59] [] [(59, .bool (decide (y34 < ((x37.2.2.1).length : Int))))] trivial ?_
                  refine A.AL.dn ?_
                  refine A.AX.cnd rfl hF (fun hb hF => ?_) (fun hb hF => ?_)
                  · refine A.AX.skip ?_
                    refine A.AE.c ?_
                    refine A.AX.seq ?_
                    refine A.AX.block ?_
                    refine A.AX.seq ?_
                    refine A.AX.dr mixed 12 12 [false, false, false, false, false, false, false, false, false, false, false, false] ?_
                    refine A.AH.q (A.pk_kont (Z.Pq.body _ _ _)) [] [0, 1, 4278, 4279] [1] [] [true, true, true, true, false, false, false, true, false, false, false, false] 7 [(0, .b 0 0), (1, .n), (3, .n), (7, .n), (2, .b 0 0)] [62, 65, 69, 64] [] [(62, .agg #[.slice A0_ ((a0).length) c1_]), (65, .int .i64 y31), (69, .int .i64 y34), (64, .slice A0_ ((a0).length) c1_)] trivial ?_
                    obtain ⟨x44, hv45, hF⟩ := A.bd_some hF
                    refine A.AH.pks 0 4280 hv45 fun ho46 => ?_
                    intro A48 c49 b50 o51 hA47
                    refine A.AH.v (A.pk_kont (Z.Pq.body _ _ _)) [0, 1, 4278, 4279] [0, 1, 4278, 4279, 4280, 4281] 4 [true, true, true, true, true, false, false, true, false, false, false, false] rfl (fun a w hf hh => A.r_ixa (t := T39) hv45 hA47 hf) ?_
                    refine A.AH.q (A.pk_kont (Z.Pq.body _ _ _)) [0, 1, 4278, 4279, 4280, 4281] [0, 1, 4278, 4279, 4280, 4281] [] [4280] [true, true, true, true, true, true, true, true, false, false, false, false] 4 [(5, .n), (6, .e 0 2)] [68] [] [(68, .slice A48 ((x44.2.2.1).length) c49)] trivial ?_
                    obtain ⟨x52, hv53, hF⟩ := A.bd_some hF
                    refine A.AH.pks 4281 4282 hv53 fun ho54 => ?_
                    intro b56 o57 hA55
                    refine A.AH.v (A.pk_kont (Z.Pq.body _ _ _)) [0, 1, 4278, 4279, 4280, 4281] [0, 1, 4278, 4279, 4280, 4281, 4282] 8 [true, true, true, true, true, true, true, true, true, false, false, false] rfl (fun a w hf hh => A.r_ixa (t := (Z.Ty.int .i64)) hv53 hA55 hf) ?_
                    refine A.AH.q (A.pk_kont (Z.Pq.body _ _ _)) [0, 1, 4278, 4279, 4280, 4281, 4282] [0, 1, 4278, 4279, 4280, 4281, 4282] [] [4282] [true, true, true, true, true, true, true, true, true, true, false, false] 2 [(9, .e 0 0)] [71] [] [(71, .int .i64 x52)] trivial ?_
                    refine A.AH.one 10 ?_
                    obtain ⟨r58, hv59, hF⟩ := A.bd_some hF
                    refine A.AL.call 4283 [] (first := []) (cap := []) cf60 (R08_index_ok a0 x52 A0_ c1_ ho54 r58 hv59) (.s 0 .nil) ?_
                    rintro _ _ ⟨rfl, rfl, hr60⟩
                    refine ⟨by kernel_rfl, ?_⟩
                    refine A.AH.nx [true, true, true, true, true, true, true, true, true, true, true, false] [0, 1, 4278, 4279, 4280, 4281, 4282] ?_
                    refine A.AH.q (A.pk_kont (Z.Pq.body _ _ _)) [0, 1, 4278, 4279, 4280, 4281, 4282] [0, 1, 4278, 4279, 4280, 4281, 4282] [] [] [true, true, true, true, true, true, true, true, true, true, true, true] 0 [(11, .n)] [7] [] [(7, .int .i64 r58)] trivial ?_
                    refine A.AH.done ?_
                    refine A.AE.c ?_
                    refine A.AX.join [1, 5, 6] [0, 1] (fun nl nh => ∃ (y61 : Bool), nl = [(83, .bool y61)] ∧ nh = [] ∧ F.R08_parts_j1 (F.R08_parts_l2 (F.R08_parts_l3 a0 f33) a0 y31 f36) y34 y61 = some r) ?_ ?_
                    · refine A.AX.reg ?_
                      refine A.AL.q [] [] [.n, .n, .n] [75] [] [(75, .bool (decide (r58 < 0)))] trivial ?_
                      refine A.AL.cnp (j := 75) rfl hF (fun hb hF => ?_) (fun hb hF => ?_)
                      · refine A.AL.q [] [] [.off, .off, .off, .off, .off, .off, .off, .n] [83] [] [(83, .bool true)] trivial ?_
                        refine A.AL.done ?_
                        exact A.AE.j [0, 1] [(83, .bool true)] [] ⟨true, rfl, rfl, hF⟩
                      · refine A.AL.q [1] [] [.on .n, .on (.b 0 0), .on .n] [77, 78] [] [(77, .slice A0_ ((a0).length) c1_), (78, .int .i64 r58)] trivial ?_
                        refine A.AL.on (dj := 75) rfl rfl ?_
                        obtain ⟨x63, hv64, hF⟩ := A.bd_some hF
                        refine A.AL.ixs 0 4323 hv64 fun ho65 => ?_
                        intro A66 c67 b68 o69
                        refine A.AL.q [] [4323] [.on .n, .on (.e 0 1), .on .n, .n] [83] [] [(83, .bool (decide (x63.2.1 = 15)))] trivial ?_
                        refine A.AL.done ?_
                        exact A.AE.j [0, 1] [(83, .bool (decide (x63.2.1 = 15)))] [] ⟨(decide (x63.2.1 = 15)), rfl, rfl, hF⟩
                    · rintro _ _ ⟨y61, rfl, rfl, hF⟩
                      rw [F.R08_parts_j1] at hF
                      refine A.AX.cnb rfl hF (fun hb hF => ?_) (fun hb hF => ?_)
                      · refine A.AX.sr ?_
                        refine A.AL.q [] [] [.n] [2] [] [(2, .int .i64 80)] trivial ?_
                        refine A.AL.dn ?_
                        obtain rfl := Option.some.inj hF
                        exact A.AX.ret [] (.int .i64 80) (fun a w hf hh => Z.resv1 rfl (Z.rv_t hf rfl)) (⟨rfl, rfl, (A.hasl .i64 (80) rfl)⟩)
                      · refine A.AX.skip ?_
                        refine A.AE.b ?_
                        refine A.AE.c ?_
                        refine A.AX.reg ?_
                        obtain ⟨hc62, hF⟩ := A.gd_some hF
                        refine A.AL.q [] [] [.n, .n, .n] [6] [Z.R64 (y34 + 1)] [(6, .int .i64 (y34 + 1))] hc62 ?_
                        refine A.AL.done ?_
                        exact A.AE.j [0, 1] [(6, .int .i64 (y34 + 1))] [] ⟨_, Nat.lt_succ_self _, ⟨(y34 + 1), rfl, rfl, (Z.i64_has hc62), hF⟩⟩
                  · refine A.AX.exit rfl ?_
                    refine A.AE.b ?_
                    refine A.AE.c ?_
                    refine A.AX.reg ?_
                    obtain ⟨hc70, hF⟩ := A.gd_some hF
                    refine A.AL.q [] [] [.n, .n, .n] [5] [Z.R64 (y31 + 1)] [(5, .int .i64 (y31 + 1))] hc70 ?_
                    refine A.AL.done ?_
                    exact A.AE.j [0, 1] [(5, .int .i64 (y31 + 1))] [] ⟨_, Nat.lt_succ_self _, ⟨(y31 + 1), rfl, rfl, (Z.i64_has hc70), hF⟩⟩
              · refine A.AX.exit rfl ?_
                refine A.AE.c ?_
                refine A.AX.sr ?_
                refine A.AL.q [] [] [.n] [2] [] [(2, .int .i64 0)] trivial ?_
                refine A.AL.dn ?_
                obtain rfl := Option.some.inj hF
                exact A.AX.ret [] (.int .i64 0) (fun a w hf hh => Z.resv1 rfl (Z.rv_t hf rfl)) (⟨rfl, rfl, (A.hasl .i64 (0) rfl)⟩)

def F.R08_ready_j1 (k1 : Int → Option Bool) (y3 : Int) (y6 : Bool) : Option Bool := if y6 = true then (some false) else (A.gd (Z.R64 (y3 + 1)) (k1 (y3 + 1)))
def F.R08_ready_l2 (a0 : D23) (a1 : D39) (a2 : (List Bool)) : Nat → Int → Option Bool
  | 0, _ => none
  | f + 1, y3 => if y3 < ((a1.2.2.1).length : Int) then (if a1.2.1 ≠ 14 then ((A.ix a1.2.2.1 y3).bind fun x8 => ((F.R08_index a0 x8).bind fun r14 => ((A.ix a2 r14).bind fun x17 => (F.R08_ready_j1 (F.R08_ready_l2 a0 a1 a2 f) y3 (!x17))))) else (F.R08_ready_j1 (F.R08_ready_l2 a0 a1 a2 f) y3 false)) else (some true)
def F.R08_ready (a0 : D23) (a1 : D39) (a2 : (List Bool)) : Option Bool := F.R08_ready_l2 a0 a1 a2 A.FU 0
theorem R08_ready_ok (a0 : D23) (a1 : D39) (a2 : (List Bool)) (A0_ : Option Addr) (c1_ : Nat) (A4_ : Option Addr) (c5_ : Nat) (A12_ : Option Addr) (c13_ : Nat) (h2_ : IntKind.i64.has a1.1) (h3_ : IntKind.i64.has a1.2.1) (h6_ : IntKind.i64.has a1.2.2.2.1.1) (h7_ : IntKind.i64.has a1.2.2.2.1.2.1) (h8_ : a1.2.2.2.1.2.2.size ≤ maxLen) (h9_ : a1.2.2.2.2.1.size ≤ maxLen) (h10_ : IntKind.i64.has a1.2.2.2.2.2.1) (h11_ : IntKind.i64.has a1.2.2.2.2.2.2) (r : Bool) (hF : F.R08_ready a0 a1 a2 = some r) :
    A.Ct Tryd.prog 103 [.agg #[.slice A0_ ((a0).length) c1_], .agg #[.int .i64 a1.1, .int .i64 a1.2.1, .slice A4_ ((a1.2.2.1).length) c5_, .int .i64 a1.2.2.2.1.1, .int .i64 a1.2.2.2.1.2.1, .string a1.2.2.2.1.2.2, .string a1.2.2.2.2.1, .int .i64 a1.2.2.2.2.2.1, .int .i64 a1.2.2.2.2.2.2], .slice A12_ ((a2).length) c13_] [(0, .sh (.slice T39) [.slice A0_ (a0).length c1_] a0), (1, .sh (.slice (Z.Ty.int .i64)) [.slice A4_ (a1.2.2.1).length c5_] a1.2.2.1), (2, .ln Z.Ty.bool A12_ c13_ a2)] [] (fun v H' => v = .bool r ∧ H' = []) := by
  refine A.Ct.enter Tryd.func103 rfl Tryd.ntmps103 rfl fun w0 F0 => ?_
  rw [F.R08_ready] at hF
  refine A.AX.sr ?_
  refine A.AL.box 3 (cs := [.slice A0_ ((a0).length) c1_]) fun g1 => ?_
  refine A.AL.box 4 (cs := [.int .i64 a1.1, .int .i64 a1.2.1, .slice A4_ ((a1.2.2.1).length) c5_, .int .i64 a1.2.2.2.1.1, .int .i64 a1.2.2.2.1.2.1, .string a1.2.2.2.1.2.2, .string a1.2.2.2.2.1, .int .i64 a1.2.2.2.2.2.1, .int .i64 a1.2.2.2.2.2.2]) fun g2 => ?_
  refine A.AL.q [] [] [.n] [] [] [] trivial ?_
  refine A.AL.dn ?_
  refine A.AX.seq ?_
  refine A.AX.sr ?_
  refine A.AL.q [] [] [.n] [7] [] [(7, .int .i64 0)] trivial ?_
  refine A.AL.dn ?_
  refine A.AX.block ?_
  refine A.AX.loop [2, 3, 4] [0, 1, 2, 3, 4] [0, 1, 2, 3, 4] (fun f nl nh => ∃ (y3 : Int), nl = [(7, .int .i64 y3)] ∧ nh = [] ∧ IntKind.i64.has y3 ∧ F.R08_ready_l2 a0 a1 a2 f y3 = some r) A.FU [(7, .int .i64 0)] [] ⟨0, rfl, rfl, (A.hasl .i64 (0) rfl), hF⟩ ?_
  rintro f5 _ _ ⟨y3, rfl, rfl, hy4, hF⟩
  cases f5 with
  | zero => exact A.no0 hF
  | succ f5 =>
    rw [F.R08_ready_l2] at hF
    refine A.AX.seq ?_
    refine A.AX.sr ?_
    refine A.AL.q [4] [] [.n, .n, .b 0 2, .n, .n] [12] [] [(12, .bool (decide (y3 < ((a1.2.2.1).length : Int))))] trivial ?_
    refine A.AL.dn ?_
    refine A.AX.cnd rfl hF (fun hb hF => ?_) (fun hb hF => ?_)
    · refine A.AX.skip ?_
      refine A.AE.c ?_
      refine A.AX.seq ?_
      refine A.AX.block ?_
      refine A.AX.join [2, 3, 4, 7] [0, 1, 2, 3, 4] (fun nl nh => ∃ (y6 : Bool), nl = [(30, .bool y6)] ∧ nh = [] ∧ F.R08_ready_j1 (F.R08_ready_l2 a0 a1 a2 f5) y3 y6 = some r) ?_ ?_
      · refine A.AX.dr mixed 16 16 [false, false, false, false, false, false, false, false, false, false, false, false, false, false, false, false] ?_
        refine A.AH.q (A.pk_kont (Z.Pq.body _ _ _)) [] [0, 1, 2, 3, 4] [4] [] [true, true, true, true, false, false, false, false, false, false, false, false, false, false, false, false] 12 [(0, .n), (1, .b 0 1), (2, .n), (3, .n)] [18] [] [(18, .bool (decide (a1.2.1 ≠ 14)))] trivial ?_
        refine A.AH.cnp (j := 18) rfl hF (fun hb hF => ?_) (fun hb hF => ?_)
        · refine A.AH.q (A.pk_kont (Z.Pq.body _ _ _)) [0, 1, 2, 3, 4] [0, 1, 2, 3, 4] [3, 4] [] [true, true, true, true, true, true, true, true, true, false, false, false, false, false, false, false] 7 [(4, .on .n), (5, .on (.b 0 0)), (6, .on .n), (8, .on .n), (7, .on (.b 1 2))] [19, 20, 23, 22] [] [(19, .slice A12_ ((a2).length) c13_), (20, .agg #[.slice A0_ ((a0).length) c1_]), (23, .int .i64 y3), (22, .slice A4_ ((a1.2.2.1).length) c5_)] trivial ?_
          obtain ⟨x8, hv9, hF⟩ := A.bd_some hF
          refine A.AH.pks 1 89 hv9 fun ho10 => ?_
          intro b12 o13 hA11
          refine A.AH.vg (A.pk_kont (Z.Pq.body _ _ _)) [0, 1, 2, 3, 4] [0, 1, 2, 3, 4, 89] 9 [true, true, true, true, true, true, true, true, true, true, false, false, false, false, false, false] (dj := 18) rfl (fun a w hf hh => A.r_ixa (t := (Z.Ty.int .i64)) hv9 hA11 hf) ?_
          refine A.AH.q (A.pk_kont (Z.Pq.body _ _ _)) [0, 1, 2, 3, 4, 89] [0, 1, 2, 3, 4, 89] [] [89] [true, true, true, true, true, true, true, true, true, true, true, false, false, false, false, false] 5 [(10, .on (.e 0 0))] [25] [] [(25, .int .i64 x8)] trivial ?_
          refine A.AH.one 11 ?_
          refine A.AL.on (dj := 18) rfl rfl ?_
          obtain ⟨r14, hv15, hF⟩ := A.bd_some hF
          refine A.AL.call 90 [] (first := []) (cap := []) cf60 (R08_index_ok a0 x8 A0_ c1_ ho10 r14 hv15) (.s 0 .nil) ?_
          rintro _ _ ⟨rfl, rfl, hr16⟩
          refine ⟨by kernel_rfl, ?_⟩
          refine A.AH.nx [true, true, true, true, true, true, true, true, true, true, true, true, false, false, false, false] [0, 1, 2, 3, 4, 89] ?_
          obtain ⟨x17, hv18, hF⟩ := A.bd_some hF
          refine A.AH.pkl 2 130 hv18 fun ho19 => ?_
          intro b21 o22 hA20
          refine A.AH.vg (A.pk_kont (Z.Pq.body _ _ _)) [0, 1, 2, 3, 4, 89] [0, 1, 2, 3, 4, 89, 130] 12 [true, true, true, true, true, true, true, true, true, true, true, true, true, false, false, false] (dj := 18) rfl (fun a w hf hh => A.r_ixa (t := Z.Ty.bool) hv18 hA20 hf) ?_
          refine A.AH.q (A.pk_kont (Z.Pq.body _ _ _)) [0, 1, 2, 3, 4, 89, 130] [0, 1, 2, 3, 4, 89, 130] [] [130] [true, true, true, true, true, true, true, true, true, true, true, true, true, true, true, true] 0 [(13, .on (.e 0 0)), (14, .on .n), (15, .n)] [30] [] [(30, .bool (!x17))] trivial ?_
          refine A.AH.done ?_
          exact A.AE.j [0, 1, 2, 3, 4] [(30, .bool (!x17))] [] ⟨(!x17), rfl, rfl, hF⟩
        · refine A.AH.q (A.pk_kont (Z.Pq.body _ _ _)) [0, 1, 2, 3, 4] [0, 1, 2, 3, 4] [] [] [true, true, true, true, true, true, true, true, true, true, true, true, true, true, true, true] 0 [(4, .off), (5, .off), (6, .off), (8, .off), (7, .off), (9, .off), (10, .off), (11, .off), (12, .off), (13, .off), (14, .off), (15, .n)] [30] [] [(30, .bool false)] trivial ?_
          refine A.AH.done ?_
          exact A.AE.j [0, 1, 2, 3, 4] [(30, .bool false)] [] ⟨false, rfl, rfl, hF⟩
      · rintro _ _ ⟨y6, rfl, rfl, hF⟩
        rw [F.R08_ready_j1] at hF
        refine A.AX.cnb rfl hF (fun hb hF => ?_) (fun hb hF => ?_)
        · refine A.AX.sr ?_
          refine A.AL.q [] [] [.n] [6] [] [(6, .bool false)] trivial ?_
          refine A.AL.dn ?_
          obtain rfl := Option.some.inj hF
          exact A.AX.ret [] (.bool false) (fun a w hf hh => Z.resv1 rfl (Z.rv_t hf rfl)) (⟨rfl, rfl⟩)
        · refine A.AX.skip ?_
          refine A.AE.b ?_
          refine A.AE.c ?_
          refine A.AX.reg ?_
          obtain ⟨hc7, hF⟩ := A.gd_some hF
          refine A.AL.q [] [] [.n, .n, .n] [7] [Z.R64 (y3 + 1)] [(7, .int .i64 (y3 + 1))] hc7 ?_
          refine A.AL.done ?_
          exact A.AE.j [0, 1, 2, 3, 4] [(7, .int .i64 (y3 + 1))] [] ⟨_, Nat.lt_succ_self _, ⟨(y3 + 1), rfl, rfl, (Z.i64_has hc7), hF⟩⟩
    · refine A.AX.exit rfl ?_
      refine A.AE.c ?_
      refine A.AX.sr ?_
      refine A.AL.q [] [] [.n] [6] [] [(6, .bool true)] trivial ?_
      refine A.AL.dn ?_
      obtain rfl := Option.some.inj hF
      exact A.AX.ret [] (.bool true) (fun a w hf hh => Z.resv1 rfl (Z.rv_t hf rfl)) (⟨rfl, rfl⟩)
end Go.Proofs.YtleiipbkfaajfaaDoor
end

section
set_option linter.unusedVariables false
set_option linter.unusedSimpArgs false
set_option maxRecDepth 20000
set_option maxHeartbeats 8000000
set_option synthInstance.maxSize 1000000
set_option synthInstance.maxHeartbeats 400000
namespace Go.Proofs.YtleiipbkfaajfaaDoor
open Go.RowKit
def F.R08_order_j1 (k5 : Int → Int → Option ((List Int) × Bool)) (y14 : Int) (y17 : Int) : Option ((List Int) × Bool) := A.gd (Z.R64 (y14 + 1)) (k5 y17 (y14 + 1))
def F.R08_order_j2 (k5 : Int → Int → Option ((List Int) × Bool)) (y12 : Int) (y14 : Int) (y20 : Bool) : Option ((List Int) × Bool) := if y20 = true then (F.R08_order_j1 k5 y14 y14) else (F.R08_order_j1 k5 y14 y12)
def F.R08_order_l3 (k4 : (List Bool) → (List Int) → Option ((List Int) × Bool)) (a0 : D23) (xs6 : List Bool) (xs10 : List Int) : Nat → Int → Int → Option ((List Int) × Bool)
  | 0, _, _ => none
  | f + 1, y12, y14 => if (bif decide (y14 < ((a0).length : Int)) then decide (y14 < ((a0).length : Int)) else false) = true then (if y12 < 0 then ((A.ix xs6 y14).bind fun x21 => (if (!x21) = true then ((A.ix a0 y14).bind fun x26 => ((F.R08_ready a0 (x26.1, x26.2.1, x26.2.2.1, (x26.2.2.2.1.1, x26.2.2.2.1.2.1, x26.2.2.2.1.2.2), x26.2.2.2.2.1, x26.2.2.2.2.2.1, x26.2.2.2.2.2.2) xs6).bind fun r34 => (F.R08_order_j2 (F.R08_order_l3 k4 a0 xs6 xs10 f) y12 y14 r34))) else (F.R08_order_j2 (F.R08_order_l3 k4 a0 xs6 xs10 f) y12 y14 false))) else (F.R08_order_j2 (F.R08_order_l3 k4 a0 xs6 xs10 f) y12 y14 false)) else (if y12 < 0 then (some ([], false)) else ((A.ix xs6 y12).bind fun x36 => (A.gd ((List.length (α := Int) xs10 + List.length (α := Int) [y12]) * 8 ≤ 140737488355328) (k4 (xs6.set y12.toNat true) (xs10 ++ [y12])))))
def F.R08_order_l4 (a0 : D23) : Nat → (List Bool) → (List Int) → Option ((List Int) × Bool)
  | 0, _, _ => none
  | f + 1, xs6, xs10 => if ((xs10).length : Int) < ((a0).length : Int) then (F.R08_order_l3 (F.R08_order_l4 a0 f) a0 xs6 xs10 A.FU (-1) 0) else (some (xs10, true))
def F.R08_order (a0 : D23) : Option ((List Int) × Bool) := A.gd (1 * ((a0).length) ≤ 140737488355328) (F.R08_order_l4 a0 A.FU (List.replicate ((a0).length) false) [])
theorem R08_order_ok (a0 : D23) (A0_ : Option Addr) (c1_ : Nat) (r : (List Int) × Bool) (hF : F.R08_order a0 = some r) :
    A.Ct Tryd.prog 84 [.agg #[.slice A0_ ((a0).length) c1_]] [(0, .sh (.slice T39) [.slice A0_ (a0).length c1_] a0)] [] (fun v H' => ∃ (A0' : Option Addr) (c1' : Nat), v = .tuple #[.slice A0' ((r.1).length) c1', .bool r.2] ∧ H' = [(0, .own (Z.Ty.int .i64) 3 A0' c1' r.1)]) := by
  refine A.Ct.enter Tryd.func84 rfl Tryd.ntmps84 rfl fun w0 F0 => ?_
  rw [F.R08_order] at hF
  refine A.AX.sr ?_
  refine A.AL.box 1 (cs := [.slice A0_ ((a0).length) c1_]) fun g1 => ?_
  refine A.AL.q [] [] [.n, .n] [] [] [] trivial ?_
  refine A.AL.dn ?_
  refine A.AX.sr ?_
  refine A.AL.q [] [] [.n] [4] [] [(4, .slice none 0 0)] trivial ?_
  refine A.AL.dn ?_
  refine A.AX.sr ?_
  refine A.AL.q [1] [] [.n, .b 0 0, .n] [10] [] [(10, .int .i64 ((a0).length : Int))] trivial ?_
  obtain ⟨hc3, hF⟩ := A.gd_some hF
  refine A.AL.mks 2 (t := Z.Ty.bool) (u := (a0).length) (false : Bool) hc3 inf4 (fun g2 => ?_) rfl rfl rfl rfl rfl
  refine A.AL.q [] [] [.n] [5] [] [(5, .slice (some ⟨g2, 0, none⟩) ((a0).length) ((a0).length))] trivial ?_
  refine A.AL.dn ?_
  refine A.AX.seq ?_
  refine A.AX.block ?_
  refine A.nil 145 (Z.Ty.int .i64) 3 ?_
  refine A.AX.loop [1, 5] [0, 1] [2, 145, 0, 1] (fun f nl nh => ∃ (xs6 : List Bool), ∃ (xs10 : List Int), ∃ (A8 : Option Addr), ∃ (c9 : Nat), nl = [(4, .slice A8 ((xs10).length) c9)] ∧ nh = [(2, .own Z.Ty.bool 4 (some ⟨g2, 0, none⟩) ((a0).length) xs6), (145, .own (Z.Ty.int .i64) 3 A8 c9 xs10)] ∧ (a0).length = xs6.length ∧ F.R08_order_l4 a0 f xs6 xs10 = some r) A.FU [(4, .slice none 0 0)] [(2, .own Z.Ty.bool 4 (some ⟨g2, 0, none⟩) ((a0).length) (List.replicate ((a0).length) false)), (145, .own (Z.Ty.int .i64) 3 none 0 [])] ⟨(List.replicate ((a0).length) false), [], none, 0, rfl, rfl, (by rw [List.length_replicate]), hF⟩ ?_
  rintro f11 _ _ ⟨xs6, xs10, A8, c9, rfl, rfl, hn7, hF⟩
  cases f11 with
  | zero => exact A.no0 hF
  | succ f11 =>
    rw [F.R08_order_l4] at hF
    refine A.AX.seq ?_
    refine A.AX.sr ?_
    refine A.AL.q [1] [] [.n, .n, .n, .b 0 0, .n, .n] [17] [] [(17, .bool (decide (((xs10).length : Int) < ((a0).length : Int))))] trivial ?_
    refine A.AL.dn ?_
    refine A.AX.cnd rfl hF (fun hb hF => ?_) (fun hb hF => ?_)
    · refine A.AX.skip ?_
      refine A.AE.c ?_
      refine A.AX.block ?_
      refine A.AX.sr ?_
      refine A.AL.q [] [] [.n] [6] [] [(6, .int .i64 (-1))] trivial ?_
      refine A.AL.dn ?_
      refine A.AX.seq ?_
      refine A.AX.sr ?_
      refine A.AL.q [] [] [.n] [7] [] [(7, .int .i64 0)] trivial ?_
      refine A.AL.dn ?_
      refine A.AX.block ?_
      refine A.AX.loop [1, 4, 5] [0, 1, 2, 145] [0, 1, 2, 145] (fun f nl nh => ∃ (y12 : Int), ∃ (y14 : Int), nl = [(6, .int .i64 y12), (7, .int .i64 y14)] ∧ nh = [] ∧ IntKind.i64.has y12 ∧ IntKind.i64.has y14 ∧ F.R08_order_l3 (F.R08_order_l4 a0 f11) a0 xs6 xs10 f y12 y14 = some r) A.FU [(6, .int .i64 (-1)), (7, .int .i64 0)] [] ⟨(-1), 0, rfl, rfl, (A.hasl .i64 (-1) rfl), (A.hasl .i64 (0) rfl), hF⟩ ?_
      rintro f16 _ _ ⟨y12, y14, rfl, rfl, hy13, hy15, hF⟩
      cases f16 with
      | zero => exact A.no0 hF
      | succ f16 =>
        rw [F.R08_order_l3] at hF
        refine A.AX.seq ?_
        refine A.AX.sr ?_
        refine A.AL.q [1] [] [.n, .n, .b 0 0, .n, .n, .n, .sy .n, .sy .n, .sy .n, .sy .n, .pk] [28] [] [(28, .bool (bif decide (y14 < ((a0).length : Int)) then decide (y14 < ((a0).length : Int)) else false))] trivial ?_
        refine A.AL.dn ?_
        refine A.AX.cnb rfl hF (fun hb hF => ?_) (fun hb hF => ?_)
        · refine A.AX.skip ?_
          refine A.AE.c ?_
          refine A.AX.join [1, 4, 5, 7] [0, 1, 2, 145] (fun nl nh => ∃ (y17 : Int), nl = [(6, .int .i64 y17)] ∧ nh = [] ∧ IntKind.i64.has y17 ∧ F.R08_order_j1 (F.R08_order_l3 (F.R08_order_l4 a0 f11) a0 xs6 xs10 f16) y14 y17 = some r) ?_ ?_
          · refine A.AX.block ?_
            refine A.AX.join [1, 4, 5, 6, 7] [0, 1, 2, 145] (fun nl nh => ∃ (y20 : Bool), nl = [(49, .bool y20)] ∧ nh = [] ∧ F.R08_order_j2 (F.R08_order_l3 (F.R08_order_l4 a0 f11) a0 xs6 xs10 f16) y12 y14 y20 = some r) ?_ ?_
            · refine A.AX.dr mixed 19 19 [false, false, false, false, false, false, false, false, false, false, false, false, false, false, false, false, false, false, false] ?_
              refine A.AH.q (A.pk_kont (Z.Pq.body _ _ _)) [] [0, 1, 2, 145] [] [] [true, true, true, false, false, false, false, false, false, false, false, false, false, false, false, false, false, false, false] 16 [(0, .n), (1, .n), (2, .n)] [33] [] [(33, .bool (decide (y12 < 0)))] trivial ?_
              refine A.AH.cnp (j := 33) rfl hF (fun hb hF => ?_) (fun hb hF => ?_)
              · refine A.AH.q (A.pk_kont (Z.Pq.body _ _ _)) [0, 1, 2, 145] [0, 1, 2, 145] [] [] [true, true, true, true, true, false, false, false, false, false, false, false, false, false, false, false, false, false, false] 14 [(3, .on .n), (4, .on .n)] [34, 35] [] [(34, .slice (some ⟨g2, 0, none⟩) ((a0).length) ((a0).length)), (35, .int .i64 y14)] trivial ?_
                refine A.cst 34 (Z.slice_n (show (a0).length = (xs6).length from hn7)) ?_
                obtain ⟨x21, hv22, hF⟩ := A.bd_some hF
                refine A.AH.pko 2 514 hv22 fun ho23 => ?_
                intro g25 hA24
                refine A.AH.vg (A.pk_kont (Z.Pq.body _ _ _)) [0, 1, 2, 145] [0, 1, 2, 145, 514] 5 [true, true, true, true, true, true, false, false, false, false, false, false, false, false, false, false, false, false, false] (dj := 33) rfl (fun a w hf hh => A.r_ixo (t := Z.Ty.bool) hv22 hA24 hf) ?_
                refine A.AH.q (A.pk_kont (Z.Pq.body _ _ _)) [0, 1, 2, 145, 514] [0, 1, 2, 145, 514] [] [514] [true, true, true, true, true, true, true, true, true, true, false, false, false, false, false, false, false, false, false] 9 [(6, .on (.e 0 0)), (7, .on .n), (8, .n), (9, .n)] [40] [] [(40, .bool (!x21))] trivial ?_
                refine A.AH.cnd (j := 40) rfl hF (fun hF => ?_) (fun hF => ?_)
                · refine A.AH.q (A.pk_kont (Z.Pq.body _ _ _)) [0, 1, 2, 145, 514] [0, 1, 2, 145, 514] [1] [] [true, true, true, true, true, true, true, true, true, true, true, true, true, true, false, false, true, false, false] 4 [(10, .on (.b 0 0)), (11, .on .n), (13, .on .n), (16, .on .n), (12, .on (.b 0 0))] [41, 44, 47, 43] [] [(41, .agg #[.slice A0_ ((a0).length) c1_]), (44, .int .i64 y14), (47, .slice (some ⟨g2, 0, none⟩) ((a0).length) ((a0).length)), (43, .slice A0_ ((a0).length) c1_)] trivial ?_
                  obtain ⟨x26, hv27, hF⟩ := A.bd_some hF
                  refine A.AH.pks 0 515 hv27 fun ho28 => ?_
                  intro A30 c31 b32 o33 hA29
                  refine A.AH.vg (A.pk_kont (Z.Pq.body _ _ _)) [0, 1, 2, 145, 514] [0, 1, 2, 145, 514, 515, 516] 14 [true, true, true, true, true, true, true, true, true, true, true, true, true, true, true, false, true, false, false] (dj := 40) rfl (fun a w hf hh => A.r_ixa (t := T39) hv27 hA29 hf) ?_
                  refine A.AH.q (A.pk_kont (Z.Pq.body _ _ _)) [0, 1, 2, 145, 514, 515, 516] [0, 1, 2, 145, 514, 515, 516] [] [515] [true, true, true, true, true, true, true, true, true, true, true, true, true, true, true, true, true, false, false] 2 [(15, .on (.e 0 0))] [46] [] [(46, .agg #[.int .i64 x26.1, .int .i64 x26.2.1, .slice A30 ((x26.2.2.1).length) c31, .int .i64 x26.2.2.2.1.1, .int .i64 x26.2.2.2.1.2.1, .string x26.2.2.2.1.2.2, .string x26.2.2.2.2.1, .int .i64 x26.2.2.2.2.2.1, .int .i64 x26.2.2.2.2.2.2])] trivial ?_
                  refine A.AH.one 17 ?_
                  refine A.AL.on (dj := 40) rfl rfl ?_
                  refine A.cst 47 (Z.slice_n (show (a0).length = (xs6).length from hn7)) ?_
                  obtain ⟨r34, hv35, hF⟩ := A.bd_some hF
                  refine A.AL.call 517 [] (first := []) (cap := []) cf103 (R08_ready_ok a0 (x26.1, x26.2.1, x26.2.2.1, (x26.2.2.2.1.1, x26.2.2.2.1.2.1, x26.2.2.2.1.2.2), x26.2.2.2.2.1, x26.2.2.2.2.2.1, x26.2.2.2.2.2.2) xs6 A0_ c1_ A30 c31 (some ⟨g2, 0, none⟩) ((a0).length) ho28.1 ho28.2.1 ho28.2.2.2.1.1 ho28.2.2.2.1.2.1 ho28.2.2.2.1.2.2 ho28.2.2.2.2.1 ho28.2.2.2.2.2.1 ho28.2.2.2.2.2.2 r34 hv35) (.s 0 (.s 516 (.o 2 .nil))) ?_
                  rintro _ _ ⟨rfl, rfl⟩
                  refine ⟨by kernel_rfl, ?_⟩
                  refine A.AH.nx [true, true, true, true, true, true, true, true, true, true, true, true, true, true, true, true, true, true, false] [0, 1, 2, 145, 514, 515, 516] ?_
                  refine A.AH.q (A.pk_kont (Z.Pq.body _ _ _)) [0, 1, 2, 145, 514, 515, 516] [0, 1, 2, 145, 514, 515, 516] [] [] [true, true, true, true, true, true, true, true, true, true, true, true, true, true, true, true, true, true, true] 0 [(18, .n)] [49] [] [(49, .bool r34)] trivial ?_
                  refine A.AH.done ?_
                  exact A.AE.j [0, 1, 2, 145] [(49, .bool r34)] [] ⟨r34, rfl, rfl, hF⟩
                · refine A.AH.q (A.pk_kont (Z.Pq.body _ _ _)) [0, 1, 2, 145, 514] [0, 1, 2, 145, 514] [] [] [true, true, true, true, true, true, true, true, true, true, true, true, true, true, true, true, true, true, true] 0 [(10, .off), (11, .off), (13, .off), (16, .off), (12, .off), (14, .off), (15, .off), (17, .off), (18, .n)] [49] [] [(49, .bool false)] trivial ?_
                  refine A.AH.done ?_
                  exact A.AE.j [0, 1, 2, 145] [(49, .bool false)] [] ⟨false, rfl, rfl, hF⟩
              · refine A.AH.q (A.pk_kont (Z.Pq.body _ _ _)) [0, 1, 2, 145] [0, 1, 2, 145] [] [] [true, true, true, true, true, true, true, true, true, true, true, true, true, true, true, true, true, true, true] 0 [(3, .off), (4, .off), (5, .off), (6, .off), (7, .off), (8, .n), (9, .n), (10, .off), (11, .off), (13, .off), (16, .off), (12, .off), (14, .off), (15, .off), (17, .off), (18, .n)] [49] [] [(49, .bool false)] trivial ?_
                refine A.AH.done ?_
                exact A.AE.j [0, 1, 2, 145] [(49, .bool false)] [] ⟨false, rfl, rfl, hF⟩
            · rintro _ _ ⟨y20, rfl, rfl, hF⟩
              rw [F.R08_order_j2] at hF
              refine A.AX.cnb rfl hF (fun hb hF => ?_) (fun hb hF => ?_)
              · refine A.AX.reg ?_
                refine A.AL.q [] [] [.n, .n] [6] [] [(6, .int .i64 y14)] trivial ?_
                refine A.AL.done ?_
                refine A.AE.b ?_
                exact A.AE.j [0, 1, 2, 145] [(6, .int .i64 y14)] [] ⟨y14, rfl, rfl, hy15, hF⟩
              · refine A.AX.skip ?_
                refine A.AE.b ?_
                exact A.AE.j [0, 1, 2, 145] [(6, .int .i64 y12)] [] ⟨y12, rfl, rfl, hy13, hF⟩
          · rintro _ _ ⟨y17, rfl, rfl, hy18, hF⟩
            rw [F.R08_order_j1] at hF
            refine A.AX.reg ?_
            obtain ⟨hc19, hF⟩ := A.gd_some hF
            refine A.AL.q [] [] [.n, .n, .n] [7] [Z.R64 (y14 + 1)] [(7, .int .i64 (y14 + 1))] hc19 ?_
            refine A.AL.done ?_
            exact A.AE.j [0, 1, 2, 145] [(6, .int .i64 y17), (7, .int .i64 (y14 + 1))] [] ⟨_, Nat.lt_succ_self _, ⟨y17, (y14 + 1), rfl, rfl, hy18, (Z.i64_has hc19), hF⟩⟩
        · refine A.AX.exit rfl ?_
          refine A.AE.c ?_
          refine A.AX.seq ?_
          refine A.AX.sr ?_
          refine A.AL.q [] [] [.n, .n] [52] [] [(52, .bool (decide (y12 < 0)))] trivial ?_
          refine A.AL.dn ?_
          refine A.AX.cnd rfl hF (fun hb hF => ?_) (fun hb hF => ?_)
          · refine A.AX.sr ?_
            refine A.AL.q [] [] [.n, .n] [2, 3] [] [(2, .slice none 0 0), (3, .bool false)] trivial ?_
            refine A.AL.dn ?_
            obtain rfl := Option.some.inj hF
            refine A.nil 557 (Z.Ty.int .i64) 3 ?_
            exact A.AX.ret [(0, 557)] (.tuple #[.slice none 0 0, .bool false]) (fun a w hf hh => Z.resv2 rfl (Z.rv_t hf rfl) (Z.rv_t hf rfl)) (⟨none, 0, rfl, rfl⟩)
          · refine A.AX.skip ?_
            refine A.AE.c ?_
            refine A.AX.sr ?_
            refine A.AL.q [] [] [.n, .n] [53, 54] [] [(53, .slice (some ⟨g2, 0, none⟩) ((a0).length) ((a0).length)), (54, .int .i64 y12)] trivial ?_
            refine A.cst 53 (Z.slice_n (show (a0).length = (xs6).length from hn7)) ?_
            obtain ⟨x36, hv37, hF⟩ := A.bd_some hF
            refine A.AL.ixo 2 558 hv37 fun ho38 => ?_
            intro g39 hA40
            refine A.AL.setel 2 558 [558] (o := 0) (m := 1) (t := Z.Ty.bool) (new := [.bool true]) (es := [.bool x36]) true hv37 hA40 rfl ?_
            refine A.AL.dn ?_
            refine A.AX.reg ?_
            refine A.AL.q [] [] [.n, .n] [56, 57] [] [(56, .slice A8 ((xs10).length) c9), (57, .int .i64 y12)] trivial ?_
            refine A.AL.bsl 559 (ty := (Z.Ty.int .i64)) (cs := [.int .i64 y12]) [y12] ⟨⟨rfl, hy13⟩, rfl⟩ (fun g41 => ?_) Tryd.zeroValue3 Tryd.sizeOf3
            obtain ⟨hl44, hF⟩ := A.gd_some hF
            refine A.AL.app (k := 145) [] (A.rowO (k := 559) rfl) inf3 hl44 fun A42 c43 => ?_
            refine A.AL.q [] [] [.n] [4] [] [(4, .slice A42 ((xs10 ++ [y12]).length) c43)] trivial ?_
            refine A.AL.done ?_
            refine A.AE.b ?_
            exact A.AE.j [2, 145, 0, 1] [(4, .slice A42 ((xs10 ++ [y12]).length) c43)] [(2, .own Z.Ty.bool 4 (some ⟨g2, 0, none⟩) ((a0).length) (xs6.set y12.toNat true)), (145, .own (Z.Ty.int .i64) 3 A42 c43 (xs10 ++ [y12]))] ⟨_, Nat.lt_succ_self _, ⟨(xs6.set y12.toNat true), (xs10 ++ [y12]), A42, c43, rfl, rfl, (by rw [List.length_set]; exact hn7), hF⟩⟩
    · refine A.AX.exit rfl ?_
      refine A.AE.c ?_
      refine A.AX.sr ?_
      refine A.AL.q [] [] [.n, .n, .n] [2, 3] [] [(2, .slice A8 ((xs10).length) c9), (3, .bool true)] trivial ?_
      refine A.AL.dn ?_
      obtain rfl := Option.some.inj hF
      exact A.AX.ret [(0, 145)] (.tuple #[.slice A8 ((xs10).length) c9, .bool true]) (fun a w hf hh => Z.resv2 rfl (Z.rv_t hf rfl) (Z.rv_t hf rfl)) (⟨A8, c9, rfl, rfl⟩)

def F.R08_depth_j1 (y6 : Int) : Option Int := some y6
def F.R08_depth_j2 (y4 : Int) : Option Int := if (4 : Int) < y4 then (F.R08_depth_j1 (-1)) else (F.R08_depth_j1 y4)
def F.R08_depth_j3 (y2 : Int) (y23 : Bool) : Option Int := if y23 = true then (if y2 ≠ 0 then (F.R08_depth_j2 (-1)) else (F.R08_depth_j2 y2)) else (F.R08_depth_j2 y2)
def F.R08_depth_j4 (a0 : D39) (a1 : (List Int)) (y2 : Int) (y10 : Bool) : Option Int := if y10 = true then ((A.ix a1 0).bind fun x11 => ((A.ix a1 1).bind fun x17 => (if x11 ≠ x17 then (F.R08_depth_j2 (-1)) else (F.R08_depth_j2 y2)))) else (if a0.2.1 = 11 then (F.R08_depth_j3 y2 (decide (a0.2.1 = 11))) else (if a0.2.1 = 16 then (F.R08_depth_j3 y2 (decide (a0.2.1 = 16))) else (F.R08_depth_j3 y2 (decide (a0.2.1 = 15)))))
def F.R08_depth_j5 (a0 : D39) (a1 : (List Int)) (y2 : Int) : Option Int := if a0.2.1 = 14 then (F.R08_depth_j2 a0.2.2.2.2.2.2) else (if a0.2.1 = 12 then (A.gd (Z.R64 (y2 + 1)) (F.R08_depth_j2 (y2 + 1))) else (if a0.2.1 = 13 then (A.gd (Z.R64 (y2 - 1)) (F.R08_depth_j2 (y2 - 1))) else (if a0.2.1 = 5 then (F.R08_depth_j4 a0 a1 y2 (decide (a0.2.1 = 5))) else (F.R08_depth_j4 a0 a1 y2 (decide (a0.2.1 = 9))))))
def F.R08_depth (a0 : D39) (a1 : (List Int)) : Option Int := if (0 : Int) < ((a1).length : Int) then ((A.ix a1 0).bind fun x24 => (F.R08_depth_j5 a0 a1 x24)) else (F.R08_depth_j5 a0 a1 0)
theorem R08_depth_ok (a0 : D39) (a1 : (List Int)) (A2_ : Option Addr) (c3_ : Nat) (A10_ : Option Addr) (c11_ : Nat) (h0_ : IntKind.i64.has a0.1) (h1_ : IntKind.i64.has a0.2.1) (h4_ : IntKind.i64.has a0.2.2.2.1.1) (h5_ : IntKind.i64.has a0.2.2.2.1.2.1) (h6_ : a0.2.2.2.1.2.2.size ≤ maxLen) (h7_ : a0.2.2.2.2.1.size ≤ maxLen) (h8_ : IntKind.i64.has a0.2.2.2.2.2.1) (h9_ : IntKind.i64.has a0.2.2.2.2.2.2) (r : Int) (hF : F.R08_depth a0 a1 = some r) :
    A.Ct Tryd.prog 104 [.agg #[.int .i64 a0.1, .int .i64 a0.2.1, .slice A2_ ((a0.2.2.1).length) c3_, .int .i64 a0.2.2.2.1.1, .int .i64 a0.2.2.2.1.2.1, .string a0.2.2.2.1.2.2, .string a0.2.2.2.2.1, .int .i64 a0.2.2.2.2.2.1, .int .i64 a0.2.2.2.2.2.2], .slice A10_ ((a1).length) c11_] [(0, .sh (.slice (Z.Ty.int .i64)) [.slice A2_ (a0.2.2.1).length c3_] a0.2.2.1), (1, .ln (Z.Ty.int .i64) A10_ c11_ a1)] [] (fun v H' => v = .int .i64 r ∧ H' = [] ∧ IntKind.i64.has r) := by
  refine A.Ct.enter Tryd.func104 rfl Tryd.ntmps104 rfl fun w0 F0 => ?_
  rw [F.R08_depth] at hF
  refine A.AX.sr ?_
  refine A.AL.box 2 (cs := [.int .i64 a0.1, .int .i64 a0.2.1, .slice A2_ ((a0.2.2.1).length) c3_, .int .i64 a0.2.2.2.1.1, .int .i64 a0.2.2.2.1.2.1, .string a0.2.2.2.1.2.2, .string a0.2.2.2.2.1, .int .i64 a0.2.2.2.2.2.1, .int .i64 a0.2.2.2.2.2.2]) fun g1 => ?_
  refine A.AL.q [] [] [.n] [] [] [] trivial ?_
  refine A.AL.dn ?_
  refine A.AX.sr ?_
  refine A.AL.q [] [] [.n] [5] [] [(5, .int .i64 0)] trivial ?_
  refine A.AL.dn ?_
  refine A.AX.join [1, 2] [0, 1, 2] (fun nl nh => ∃ (y2 : Int), nl = [(5, .int .i64 y2)] ∧ nh = [] ∧ IntKind.i64.has y2 ∧ F.R08_depth_j5 a0 a1 y2 = some r) ?_ ?_
  · refine A.AX.sr ?_
    refine A.AL.q [] [] [.n, .n, .n] [8] [] [(8, .bool (decide ((0 : Int) < ((a1).length : Int))))] trivial ?_
    refine A.AL.dn ?_
    refine A.AX.cnd rfl hF (fun hb hF => ?_) (fun hb hF => ?_)
    · refine A.AX.reg ?_
      refine A.AL.q [] [] [.n] [9] [] [(9, .slice A10_ ((a1).length) c11_)] trivial ?_
      obtain ⟨x24, hv25, hF⟩ := A.bd_some hF
      refine A.AL.ixl 1 3 hv25 fun ho26 => ?_
      intro b27 o28
      refine A.AL.q [] [3] [.e 0 0, .n] [5] [] [(5, .int .i64 x24)] trivial ?_
      refine A.AL.done ?_
      exact A.AE.j [0, 1, 2] [(5, .int .i64 x24)] [] ⟨x24, rfl, rfl, ho26, hF⟩
    · refine A.AX.skip ?_
      exact A.AE.j [0, 1, 2] [(5, .int .i64 0)] [] ⟨0, rfl, rfl, (A.hasl .i64 (0) rfl), hF⟩
  · rintro _ _ ⟨y2, rfl, rfl, hy3, hF⟩
    rw [F.R08_depth_j5] at hF
    refine A.AX.join [] [] (fun nl nh => ∃ (y4 : Int), nl = [(5, .int .i64 y4)] ∧ nh = [] ∧ IntKind.i64.has y4 ∧ F.R08_depth_j2 y4 = some r) ?_ ?_
    · refine A.AX.sr ?_
      refine A.AL.q [2] [] [.n, .b 0 1] [13] [] [(13, .int .i64 a0.2.1)] trivial ?_
      refine A.AL.dn ?_
      refine A.AX.block ?_
      refine A.AX.sr ?_
      refine A.AL.q [] [] [.n, .n] [14] [] [(14, .bool (decide (a0.2.1 = 14)))] trivial ?_
      refine A.AL.dn ?_
      refine A.AX.cnd rfl hF (fun hb hF => ?_) (fun hb hF => ?_)
      · refine A.AX.reg ?_
        refine A.AL.q [2] [] [.n, .b 0 8, .n] [5] [] [(5, .int .i64 a0.2.2.2.2.2.2)] trivial ?_
        refine A.AL.done ?_
        refine A.AE.b ?_
        exact A.AE.j [] [(5, .int .i64 a0.2.2.2.2.2.2)] [] ⟨a0.2.2.2.2.2.2, rfl, rfl, h9_, hF⟩
      · refine A.AX.sr ?_
        refine A.AL.q [] [] [.n, .n] [18] [] [(18, .bool (decide (a0.2.1 = 12)))] trivial ?_
        refine A.AL.dn ?_
        refine A.AX.cnd rfl hF (fun hb hF => ?_) (fun hb hF => ?_)
        · refine A.AX.reg ?_
          obtain ⟨hc8, hF⟩ := A.gd_some hF
          refine A.AL.q [] [] [.n, .n, .n] [5] [Z.R64 (y2 + 1)] [(5, .int .i64 (y2 + 1))] hc8 ?_
          refine A.AL.done ?_
          refine A.AE.b ?_
          exact A.AE.j [] [(5, .int .i64 (y2 + 1))] [] ⟨(y2 + 1), rfl, rfl, (Z.i64_has hc8), hF⟩
        · refine A.AX.sr ?_
          refine A.AL.q [] [] [.n, .n] [22] [] [(22, .bool (decide (a0.2.1 = 13)))] trivial ?_
          refine A.AL.dn ?_
          refine A.AX.cnd rfl hF (fun hb hF => ?_) (fun hb hF => ?_)
          · refine A.AX.reg ?_
            obtain ⟨hc9, hF⟩ := A.gd_some hF
            refine A.AL.q [] [] [.n, .n, .n] [5] [Z.R64 (y2 - 1)] [(5, .int .i64 (y2 - 1))] hc9 ?_
            refine A.AL.done ?_
            refine A.AE.b ?_
            exact A.AE.j [] [(5, .int .i64 (y2 - 1))] [] ⟨(y2 - 1), rfl, rfl, (Z.i64_has hc9), hF⟩
          · refine A.AX.join [1, 5, 13] [1] (fun nl nh => ∃ (y10 : Bool), nl = [(26, .bool y10)] ∧ nh = [] ∧ F.R08_depth_j4 a0 a1 y2 y10 = some r) ?_ ?_
            · refine A.AX.sr ?_
              refine A.AL.q [] [] [.n, .n] [26] [] [(26, .bool (decide (a0.2.1 = 5)))] trivial ?_
              refine A.AL.dn ?_
              refine A.AX.cnd rfl hF (fun hb hF => ?_) (fun hb hF => ?_)
              · refine A.AX.skip ?_
                exact A.AE.j [1] [(26, .bool (decide (a0.2.1 = 5)))] [] ⟨(decide (a0.2.1 = 5)), rfl, rfl, hF⟩
              · refine A.AX.reg ?_
                refine A.AL.q [] [] [.n, .n] [26] [] [(26, .bool (decide (a0.2.1 = 9)))] trivial ?_
                refine A.AL.done ?_
                exact A.AE.j [1] [(26, .bool (decide (a0.2.1 = 9)))] [] ⟨(decide (a0.2.1 = 9)), rfl, rfl, hF⟩
            · rintro _ _ ⟨y10, rfl, rfl, hF⟩
              rw [F.R08_depth_j4] at hF
              refine A.AX.cnb rfl hF (fun hb hF => ?_) (fun hb hF => ?_)
              · refine A.AX.seq ?_
                refine A.AX.dr mixed 7 7 [false, false, false, false, false, false, false] ?_
                refine A.AH.q (A.pk_kont (Z.Pq.body _ _ _)) [] [1] [] [] [true, false, false, true, false, false, false] 5 [(0, .n), (3, .n)] [29, 32] [] [(29, .slice A10_ ((a1).length) c11_), (32, .slice A10_ ((a1).length) c11_)] trivial ?_
                obtain ⟨x11, hv12, hF⟩ := A.bd_some hF
                refine A.AH.pkl 1 4 hv12 fun ho13 => ?_
                intro b15 o16 hA14
                refine A.AH.v (A.pk_kont (Z.Pq.body _ _ _)) [1] [1, 4] 1 [true, true, false, true, false, false, false] rfl (fun a w hf hh => A.r_ixa (t := (Z.Ty.int .i64)) hv12 hA14 hf) ?_
                refine A.AH.q (A.pk_kont (Z.Pq.body _ _ _)) [1, 4] [1, 4] [] [4] [true, true, true, true, false, false, false] 3 [(2, .e 0 0)] [31] [] [(31, .int .i64 x11)] trivial ?_
                obtain ⟨x17, hv18, hF⟩ := A.bd_some hF
                refine A.AH.pkl 1 5 hv18 fun ho19 => ?_
                intro b21 o22 hA20
                refine A.AH.v (A.pk_kont (Z.Pq.body _ _ _)) [1, 4] [1, 4, 5] 4 [true, true, true, true, true, false, false] rfl (fun a w hf hh => A.r_ixa (t := (Z.Ty.int .i64)) hv18 hA20 hf) ?_
                refine A.AH.q (A.pk_kont (Z.Pq.body _ _ _)) [1, 4, 5] [1, 4, 5] [] [5] [true, true, true, true, true, true, true] 0 [(5, .e 0 0), (6, .n)] [35] [] [(35, .bool (decide (x11 ≠ x17)))] trivial ?_
                refine A.AH.done ?_
                refine A.AE.c ?_
                refine A.AX.cnd rfl hF (fun hb hF => ?_) (fun hb hF => ?_)
                · refine A.AX.reg ?_
                  refine A.AL.q [] [] [.n] [5] [] [(5, .int .i64 (-1))] trivial ?_
                  refine A.AL.done ?_
                  refine A.AE.b ?_
                  exact A.AE.j [] [(5, .int .i64 (-1))] [] ⟨(-1), rfl, rfl, (A.hasl .i64 (-1) rfl), hF⟩
                · refine A.AX.skip ?_
                  refine A.AE.b ?_
                  exact A.AE.j [] [(5, .int .i64 y2)] [] ⟨y2, rfl, rfl, hy3, hF⟩
              · refine A.AX.join [5] [] (fun nl nh => ∃ (y23 : Bool), nl = [(36, .bool y23)] ∧ nh = [] ∧ F.R08_depth_j3 y2 y23 = some r) ?_ ?_
                · refine A.AX.sr ?_
                  refine A.AL.q [] [] [.n, .n] [36] [] [(36, .bool (decide (a0.2.1 = 11)))] trivial ?_
                  refine A.AL.dn ?_
                  refine A.AX.cnd rfl hF (fun hb hF => ?_) (fun hb hF => ?_)
                  · refine A.AX.skip ?_
                    exact A.AE.j [] [(36, .bool (decide (a0.2.1 = 11)))] [] ⟨(decide (a0.2.1 = 11)), rfl, rfl, hF⟩
                  · refine A.AX.sr ?_
                    refine A.AL.q [] [] [.n, .n] [36] [] [(36, .bool (decide (a0.2.1 = 16)))] trivial ?_
                    refine A.AL.dn ?_
                    refine A.AX.cnd rfl hF (fun hb hF => ?_) (fun hb hF => ?_)
                    · refine A.AX.skip ?_
                      exact A.AE.j [] [(36, .bool (decide (a0.2.1 = 16)))] [] ⟨(decide (a0.2.1 = 16)), rfl, rfl, hF⟩
                    · refine A.AX.reg ?_
                      refine A.AL.q [] [] [.n, .n] [36] [] [(36, .bool (decide (a0.2.1 = 15)))] trivial ?_
                      refine A.AL.done ?_
                      exact A.AE.j [] [(36, .bool (decide (a0.2.1 = 15)))] [] ⟨(decide (a0.2.1 = 15)), rfl, rfl, hF⟩
                · rintro _ _ ⟨y23, rfl, rfl, hF⟩
                  rw [F.R08_depth_j3] at hF
                  refine A.AX.cnb rfl hF (fun hb hF => ?_) (fun hb hF => ?_)
                  · refine A.AX.sr ?_
                    refine A.AL.q [] [] [.n, .n] [41] [] [(41, .bool (decide (y2 ≠ 0)))] trivial ?_
                    refine A.AL.dn ?_
                    refine A.AX.cnd rfl hF (fun hb hF => ?_) (fun hb hF => ?_)
                    · refine A.AX.reg ?_
                      refine A.AL.q [] [] [.n] [5] [] [(5, .int .i64 (-1))] trivial ?_
                      refine A.AL.done ?_
                      refine A.AE.b ?_
                      exact A.AE.j [] [(5, .int .i64 (-1))] [] ⟨(-1), rfl, rfl, (A.hasl .i64 (-1) rfl), hF⟩
                    · refine A.AX.skip ?_
                      refine A.AE.b ?_
                      exact A.AE.j [] [(5, .int .i64 y2)] [] ⟨y2, rfl, rfl, hy3, hF⟩
                  · refine A.AX.skip ?_
                    refine A.AE.b ?_
                    exact A.AE.j [] [(5, .int .i64 y2)] [] ⟨y2, rfl, rfl, hy3, hF⟩
    · rintro _ _ ⟨y4, rfl, rfl, hy5, hF⟩
      rw [F.R08_depth_j2] at hF
      refine A.AX.join [] [] (fun nl nh => ∃ (y6 : Int), nl = [(5, .int .i64 y6)] ∧ nh = [] ∧ IntKind.i64.has y6 ∧ F.R08_depth_j1 y6 = some r) ?_ ?_
      · refine A.AX.sr ?_
        refine A.AL.q [] [] [.n, .n] [43] [] [(43, .bool (decide ((4 : Int) < y4)))] trivial ?_
        refine A.AL.dn ?_
        refine A.AX.cnd rfl hF (fun hb hF => ?_) (fun hb hF => ?_)
        · refine A.AX.reg ?_
          refine A.AL.q [] [] [.n] [5] [] [(5, .int .i64 (-1))] trivial ?_
          refine A.AL.done ?_
          exact A.AE.j [] [(5, .int .i64 (-1))] [] ⟨(-1), rfl, rfl, (A.hasl .i64 (-1) rfl), hF⟩
        · refine A.AX.skip ?_
          exact A.AE.j [] [(5, .int .i64 y4)] [] ⟨y4, rfl, rfl, hy5, hF⟩
      · rintro _ _ ⟨y6, rfl, rfl, hy7, hF⟩
        rw [F.R08_depth_j1] at hF
        refine A.AX.sr ?_
        refine A.AL.q [] [] [.n, .n] [4] [] [(4, .int .i64 y6)] trivial ?_
        refine A.AL.dn ?_
        obtain rfl := Option.some.inj hF
        exact A.AX.ret [] (.int .i64 y6) (fun a w hf hh => Z.resv1 rfl (Z.rv_t hf rfl)) (⟨rfl, rfl, hy7⟩)
end Go.Proofs.YtleiipbkfaajfaaDoor
end

section
set_option linter.unusedVariables false
set_option linter.unusedSimpArgs false
set_option maxRecDepth 20000
set_option maxHeartbeats 8000000
set_option synthInstance.maxSize 1000000
set_option synthInstance.maxHeartbeats 400000
namespace Go.Proofs.YtleiipbkfaajfaaDoor
open Go.RowKit
def F.R08_depths_l1 (k5 : (List Int) → Int → Option ((List Int) × Bool)) (a0 : D23) (a1 : (List Int)) (xs6 : List Int) (y8 : Int) (x17 : D39) : Nat → (List Int) → Int → Option ((List Int) × Bool)
  | 0, _, _ => none
  | f + 1, xs28, y29 => if y29 < ((x17.2.2.1).length : Int) then ((A.ix x17.2.2.1 y29).bind fun x32 => ((F.R08_index a0 x32).bind fun r38 => ((A.ix xs6 r38).bind fun x41 => (A.gd ((List.length (α := Int) xs28 + List.length (α := Int) [x41]) * 8 ≤ 140737488355328) (A.gd (Z.R64 (y29 + 1)) ((F.R08_depths_l1 k5 a0 a1 xs6 y8 x17 f) (xs28 ++ [x41]) (y29 + 1))))))) else ((A.ix a1 y8).bind fun x51 => ((F.R08_depth (x17.1, x17.2.1, x17.2.2.1, (x17.2.2.2.1.1, x17.2.2.2.1.2.1, x17.2.2.2.1.2.2), x17.2.2.2.2.1, x17.2.2.2.2.2.1, x17.2.2.2.2.2.2) xs28).bind fun r57 => ((A.ix xs6 x51).bind fun x60 => ((A.ix a1 y8).bind fun x65 => ((A.ix (xs6.set x51.toNat r57) x65).bind fun x70 => (if x70 < 0 then (some ([], false)) else (A.gd (Z.R64 (y8 + 1)) (k5 (xs6.set x51.toNat r57) (y8 + 1)))))))))
def F.R08_depths_j2 (k7 : Int → Option ((List Int) × Bool)) (y76 : Int) (y87 : Bool) : Option ((List Int) × Bool) := if y87 = true then (some ([], false)) else (A.gd (Z.R64 (y76 + 1)) (k7 (y76 + 1)))
def F.R08_depths_l3 (a0 : D23) (xs6 : List Int) : Nat → Int → Option ((List Int) × Bool)
  | 0, _ => none
  | f + 1, y76 => if y76 < ((a0).length : Int) then ((A.ix a0 y76).bind fun x79 => (if x79.2.1 = 14 then ((A.ix x79.2.2.1 0).bind fun x89 => ((F.R08_index a0 x89).bind fun r95 => ((A.ix xs6 r95).bind fun x98 => (F.R08_depths_j2 (F.R08_depths_l3 a0 xs6 f) y76 (decide (x98 ≠ x79.2.2.2.2.2.2)))))) else (F.R08_depths_j2 (F.R08_depths_l3 a0 xs6 f) y76 false))) else (some (xs6, true))
def F.R08_depths_l4 (a0 : D23) (a1 : (List Int)) : Nat → (List Int) → Int → Option ((List Int) × Bool)
  | 0, _, _ => none
  | f + 1, xs6, y8 => if y8 < ((a1).length : Int) then ((A.ix a1 y8).bind fun x11 => ((A.ix a0 x11).bind fun x17 => (F.R08_depths_l1 (F.R08_depths_l4 a0 a1 f) a0 a1 xs6 y8 x17 A.FU [] 0))) else (F.R08_depths_l3 a0 xs6 A.FU 0)
def F.R08_depths (a0 : D23) (a1 : (List Int)) : Option ((List Int) × Bool) := A.gd (8 * ((a0).length) ≤ 140737488355328) (F.R08_depths_l4 a0 a1 A.FU (List.replicate ((a0).length) 0) 0)
theorem R08_depths_ok (a0 : D23) (a1 : (List Int)) (A0_ : Option Addr) (c1_ : Nat) (A2_ : Option Addr) (c3_ : Nat) (r : (List Int) × Bool) (hF : F.R08_depths a0 a1 = some r) :
    A.Ct Tryd.prog 85 [.agg #[.slice A0_ ((a0).length) c1_], .slice A2_ ((a1).length) c3_] [(0, .sh (.slice T39) [.slice A0_ (a0).length c1_] a0), (1, .ln (Z.Ty.int .i64) A2_ c3_ a1)] [] (fun v H' => ∃ (A0' : Option Addr) (c1' : Nat), v = .tuple #[.slice A0' ((r.1).length) c1', .bool r.2] ∧ H' = [(0, .own (Z.Ty.int .i64) 3 A0' c1' r.1)]) := by
  refine A.Ct.enter Tryd.func85 rfl Tryd.ntmps85 rfl fun w0 F0 => ?_
  rw [F.R08_depths] at hF
  refine A.AX.sr ?_
  refine A.AL.box 2 (cs := [.slice A0_ ((a0).length) c1_]) fun g1 => ?_
  refine A.AL.q [] [] [.n, .n] [] [] [] trivial ?_
  refine A.AL.dn ?_
  refine A.AX.sr ?_
  refine A.AL.q [2] [] [.n, .b 0 0, .n] [15] [] [(15, .int .i64 ((a0).length : Int))] trivial ?_
  obtain ⟨hc3, hF⟩ := A.gd_some hF
  refine A.AL.mks 3 (t := (Z.Ty.int .i64)) (u := (a0).length) (0 : Int) hc3 inf3 (fun g2 => ?_) rfl rfl rfl rfl ⟨rfl, by decide⟩
  refine A.AL.q [] [] [.n] [6] [] [(6, .slice (some ⟨g2, 0, none⟩) ((a0).length) ((a0).length))] trivial ?_
  refine A.AL.dn ?_
  refine A.AX.seq ?_
  refine A.AX.sr ?_
  refine A.AL.q [] [] [.n] [7] [] [(7, .int .i64 0)] trivial ?_
  refine A.AL.dn ?_
  refine A.AX.block ?_
  refine A.AX.loop [1, 2, 6] [0, 1, 2] [3, 0, 1, 2] (fun f nl nh => ∃ (xs6 : List Int), ∃ (y8 : Int), nl = [(7, .int .i64 y8)] ∧ nh = [(3, .own (Z.Ty.int .i64) 3 (some ⟨g2, 0, none⟩) ((a0).length) xs6)] ∧ (a0).length = xs6.length ∧ IntKind.i64.has y8 ∧ F.R08_depths_l4 a0 a1 f xs6 y8 = some r) A.FU [(7, .int .i64 0)] [(3, .own (Z.Ty.int .i64) 3 (some ⟨g2, 0, none⟩) ((a0).length) (List.replicate ((a0).length) 0))] ⟨(List.replicate ((a0).length) 0), 0, rfl, rfl, (by rw [List.length_replicate]), (A.hasl .i64 (0) rfl), hF⟩ ?_
  rintro f10 _ _ ⟨xs6, y8, rfl, rfl, hn7, hy9, hF⟩
  cases f10 with
  | zero => exact A.no0 hF
  | succ f10 =>
    rw [F.R08_depths_l4] at hF
    refine A.AX.seq ?_
    refine A.AX.sr ?_
    refine A.AL.q [] [] [.n, .n, .n, .n] [20] [] [(20, .bool (decide (y8 < ((a1).length : Int))))] trivial ?_
    refine A.AL.dn ?_
    refine A.AX.cnd rfl hF (fun hb hF => ?_) (fun hb hF => ?_)
    · refine A.AX.skip ?_
      refine A.AE.c ?_
      refine A.AX.seq ?_
      refine A.AX.block ?_
      refine A.AX.seq ?_
      refine A.AX.dr mixed 9 10 [false, false, false, false, false, false, false, false, false, false] ?_
      refine A.AH.q (A.pk_kont (Z.Pq.body _ _ _)) [] [0, 1, 2, 3] [2] [] [true, true, true, true, false, false, false, false, false, false] 6 [(0, .n), (2, .n), (3, .n), (1, .b 0 0)] [25, 26, 24] [] [(25, .slice A2_ ((a1).length) c3_), (26, .int .i64 y8), (24, .slice A0_ ((a0).length) c1_)] trivial ?_
      obtain ⟨x11, hv12, hF⟩ := A.bd_some hF
      refine A.AH.pkl 1 996 hv12 fun ho13 => ?_
      intro b15 o16 hA14
      refine A.AH.v (A.pk_kont (Z.Pq.body _ _ _)) [0, 1, 2, 3] [0, 1, 2, 3, 996] 4 [true, true, true, true, true, false, false, false, false, false] rfl (fun a w hf hh => A.r_ixa (t := (Z.Ty.int .i64)) hv12 hA14 hf) ?_
      refine A.AH.q (A.pk_kont (Z.Pq.body _ _ _)) [0, 1, 2, 3, 996] [0, 1, 2, 3, 996] [] [996] [true, true, true, true, true, true, false, false, false, false] 4 [(5, .e 0 0)] [28] [] [(28, .int .i64 x11)] trivial ?_
      obtain ⟨x17, hv18, hF⟩ := A.bd_some hF
      refine A.AH.pks 0 997 hv18 fun ho19 => ?_
      intro A21 c22 b23 o24 hA20
      refine A.AH.v (A.pk_kont (Z.Pq.body _ _ _)) [0, 1, 2, 3, 996] [0, 1, 2, 3, 996, 997, 998] 6 [true, true, true, true, true, true, true, false, false, false] rfl (fun a w hf hh => A.r_ixa (t := T39) hv18 hA20 hf) ?_
      refine A.AH.q (A.pk_kont (Z.Pq.body _ _ _)) [0, 1, 2, 3, 996, 997, 998] [0, 1, 2, 3, 996, 997, 998] [] [997] [true, true, true, true, true, true, true, true, false, false] 2 [(7, .e 0 0)] [30] [] [(30, .agg #[.int .i64 x17.1, .int .i64 x17.2.1, .slice A21 ((x17.2.2.1).length) c22, .int .i64 x17.2.2.2.1.1, .int .i64 x17.2.2.2.1.2.1, .string x17.2.2.2.1.2.2, .string x17.2.2.2.2.1, .int .i64 x17.2.2.2.2.2.1, .int .i64 x17.2.2.2.2.2.2])] trivial ?_
      refine A.AH.one 8 ?_
      refine A.AL.alloc 999 (cs := [.int .i64 0, .int .i64 0, .slice none 0 0, .int .i64 0, .int .i64 0, .string (ByteArray.mk #[]), .string (ByteArray.mk #[]), .int .i64 0, .int .i64 0]) Tryd.zeroValue40 fun g25 => ?_
      refine A.AH.nx [true, true, true, true, true, true, true, true, true, false] [0, 1, 2, 3, 996, 997, 998] ?_
      refine A.AH.one 9 ?_
      refine A.AL.store 999 [] (new := [.int .i64 x17.1, .int .i64 x17.2.1, .slice A21 ((x17.2.2.1).length) c22, .int .i64 x17.2.2.2.1.1, .int .i64 x17.2.2.2.1.2.1, .string x17.2.2.2.1.2.2, .string x17.2.2.2.2.1, .int .i64 x17.2.2.2.2.2.1, .int .i64 x17.2.2.2.2.2.2]) (cs' := [.int .i64 x17.1, .int .i64 x17.2.1, .slice A21 ((x17.2.2.1).length) c22, .int .i64 x17.2.2.2.1.1, .int .i64 x17.2.2.2.1.2.1, .string x17.2.2.2.1.2.2, .string x17.2.2.2.2.1, .int .i64 x17.2.2.2.2.2.1, .int .i64 x17.2.2.2.2.2.2]) ?_
      refine A.AH.nm [true, true, true, true, true, true, true, true, true, true] ?_
      refine A.AH.done ?_
      refine A.AE.c ?_
      refine A.AX.sr ?_
      refine A.AL.q [] [] [.n] [9] [] [(9, .slice none 0 0)] trivial ?_
      refine A.AL.dn ?_
      refine A.AX.seq ?_
      refine A.AX.sr ?_
      refine A.AL.q [] [] [.n] [10] [] [(10, .int .i64 0)] trivial ?_
      refine A.AL.dn ?_
      refine A.AX.block ?_
      refine A.nil 1089 (Z.Ty.int .i64) 3 ?_
      refine A.AX.loop [1, 2, 6, 7, 8] [0, 1, 2, 3, 998, 999] [1089, 0, 1, 2, 3, 998, 999] (fun f nl nh => ∃ (xs28 : List Int), ∃ (y29 : Int), ∃ (A26 : Option Addr), ∃ (c27 : Nat), nl = [(9, .slice A26 ((xs28).length) c27), (10, .int .i64 y29)] ∧ nh = [(1089, .own (Z.Ty.int .i64) 3 A26 c27 xs28)] ∧ IntKind.i64.has y29 ∧ F.R08_depths_l1 (F.R08_depths_l4 a0 a1 f10) a0 a1 xs6 y8 x17 f xs28 y29 = some r) A.FU [(9, .slice none 0 0), (10, .int .i64 0)] [(1089, .own (Z.Ty.int .i64) 3 none 0 [])] ⟨[], 0, none, 0, rfl, rfl, (A.hasl .i64 (0) rfl), hF⟩ ?_
      rintro f31 _ _ ⟨xs28, y29, A26, c27, rfl, rfl, hy30, hF⟩
      cases f31 with
      | zero => exact A.no0 hF
      | succ f31 =>
        rw [F.R08_depths_l1] at hF
        refine A.AX.seq ?_
        refine A.AX.sr ?_
        refine A.AL.q [999] [] [.n, .n, .b 0 2, .n, .n] [35] [] [(35, .bool (decide (y29 < ((x17.2.2.1).length : Int))))] trivial ?_
        refine A.AL.dn ?_
        refine A.AX.cnd rfl hF (fun hb hF => ?_) (fun hb hF => ?_)
        · refine A.AX.skip ?_
          refine A.AE.c ?_
          refine A.AX.seq ?_
          refine A.AX.block ?_
          refine A.AX.dr mixed 14 14 [false, false, false, false, false, false, false, false, false, false, false, false, false, false] ?_
          refine A.AH.q (A.pk_kont (Z.Pq.body _ _ _)) [] [0, 1, 2, 3, 998, 999] [2, 999] [] [true, true, true, true, true, true, false, false, false, false, false, false, false, false] 8 [(0, .n), (1, .n), (2, .b 0 0), (3, .n), (5, .n), (4, .b 1 2)] [38, 39, 40, 43, 42] [] [(38, .slice A26 ((xs28).length) c27), (39, .slice (some ⟨g2, 0, none⟩) ((a0).length) ((a0).length)), (40, .agg #[.slice A0_ ((a0).length) c1_]), (43, .int .i64 y29), (42, .slice A21 ((x17.2.2.1).length) c22)] trivial ?_
          obtain ⟨x32, hv33, hF⟩ := A.bd_some hF
          refine A.AH.pks 998 1266 hv33 fun ho34 => ?_
          intro b36 o37 hA35
          refine A.AH.v (A.pk_kont (Z.Pq.body _ _ _)) [0, 1, 2, 3, 998, 999] [0, 1, 2, 3, 998, 999, 1266] 6 [true, true, true, true, true, true, true, false, false, false, false, false, false, false] rfl (fun a w hf hh => A.r_ixa (t := (Z.Ty.int .i64)) hv33 hA35 hf) ?_
          refine A.AH.q (A.pk_kont (Z.Pq.body _ _ _)) [0, 1, 2, 3, 998, 999, 1266] [0, 1, 2, 3, 998, 999, 1266] [] [1266] [true, true, true, true, true, true, true, true, false, false, false, false, false, false] 6 [(7, .e 0 0)] [45] [] [(45, .int .i64 x32)] trivial ?_
          refine A.AH.one 8 ?_
          obtain ⟨r38, hv39, hF⟩ := A.bd_some hF
          refine A.AL.call 1267 [] (first := []) (cap := []) cf60 (R08_index_ok a0 x32 A0_ c1_ ho34 r38 hv39) (.s 0 .nil) ?_
          rintro _ _ ⟨rfl, rfl, hr40⟩
          refine ⟨by kernel_rfl, ?_⟩
          refine A.AH.nx [true, true, true, true, true, true, true, true, true, false, false, false, false, false] [0, 1, 2, 3, 998, 999, 1266] ?_
          refine A.cst 39 (Z.slice_n (show (a0).length = (xs6).length from hn7)) ?_
          obtain ⟨x41, hv42, hF⟩ := A.bd_some hF
          refine A.AH.pko 3 1307 hv42 fun ho43 => ?_
          intro g45 hA44
          refine A.AH.v (A.pk_kont (Z.Pq.body _ _ _)) [0, 1, 2, 3, 998, 999, 1266] [0, 1, 2, 3, 998, 999, 1266, 1307] 9 [true, true, true, true, true, true, true, true, true, true, false, false, false, false] rfl (fun a w hf hh => A.r_ixo (t := (Z.Ty.int .i64)) hv42 hA44 hf) ?_
          refine A.AH.q (A.pk_kont (Z.Pq.body _ _ _)) [0, 1, 2, 3, 998, 999, 1266, 1307] [0, 1, 2, 3, 998, 999, 1266, 1307] [] [1307] [true, true, true, true, true, true, true, true, true, true, true, false, false, false] 3 [(10, .e 0 0)] [48] [] [(48, .int .i64 x41)] trivial ?_
          refine A.AH.one 11 ?_
          refine A.AL.bsl 1308 (ty := (Z.Ty.int .i64)) (cs := [.int .i64 x41]) [x41] ⟨⟨rfl, ho43⟩, rfl⟩ (fun g46 => ?_) Tryd.zeroValue3 Tryd.sizeOf3
          refine A.AH.nx [true, true, true, true, true, true, true, true, true, true, true, true, false, false] [0, 1, 2, 3, 998, 999, 1266, 1307] ?_
          refine A.AH.one 12 ?_
          obtain ⟨hl49, hF⟩ := A.gd_some hF
          refine A.AL.app (k := 1089) [] (A.rowO (k := 1308) rfl) inf3 hl49 fun A47 c48 => ?_
          refine A.AH.nx [true, true, true, true, true, true, true, true, true, true, true, true, true, false] [0, 1, 2, 3, 998, 999, 1266, 1307] ?_
          refine A.AH.q (A.pk_kont (Z.Pq.body _ _ _)) [0, 1, 2, 3, 998, 999, 1266, 1307] [0, 1, 2, 3, 998, 999, 1089, 1266, 1307, 1308] [] [] [true, true, true, true, true, true, true, true, true, true, true, true, true, true] 0 [(13, .n)] [9] [] [(9, .slice A47 ((xs28 ++ [x41]).length) c48)] trivial ?_
          refine A.AH.done ?_
          refine A.AE.b ?_
          refine A.AE.c ?_
          refine A.AX.reg ?_
          obtain ⟨hc50, hF⟩ := A.gd_some hF
          refine A.AL.q [] [] [.n, .n, .n] [10] [Z.R64 (y29 + 1)] [(10, .int .i64 (y29 + 1))] hc50 ?_
          refine A.AL.done ?_
          exact A.AE.j [1089, 0, 1, 2, 3, 998, 999] [(9, .slice A47 ((xs28 ++ [x41]).length) c48), (10, .int .i64 (y29 + 1))] [(1089, .own (Z.Ty.int .i64) 3 A47 c48 (xs28 ++ [x41]))] ⟨_, Nat.lt_succ_self _, ⟨(xs28 ++ [x41]), (y29 + 1), A47, c48, rfl, rfl, (Z.i64_has hc50), hF⟩⟩
        · refine A.AX.exit rfl ?_
          refine A.AE.c ?_
          refine A.AX.seq ?_
          refine A.AX.dr mixed 9 10 [false, false, false, false, false, false, false, false, false, false] ?_
          refine A.AH.q (A.pk_kont (Z.Pq.body _ _ _)) [] [0, 1, 2, 3, 998, 999, 1089] [999] [] [true, true, true, false, false, true, true, false, false, false] 5 [(0, .n), (1, .n), (2, .n), (5, .b 0 0), (6, .n)] [51, 52, 53, 56, 57] [] [(51, .slice (some ⟨g2, 0, none⟩) ((a0).length) ((a0).length)), (52, .slice A2_ ((a1).length) c3_), (53, .int .i64 y8), (56, .agg #[.int .i64 x17.1, .int .i64 x17.2.1, .slice A21 ((x17.2.2.1).length) c22, .int .i64 x17.2.2.2.1.1, .int .i64 x17.2.2.2.1.2.1, .string x17.2.2.2.1.2.2, .string x17.2.2.2.2.1, .int .i64 x17.2.2.2.2.2.1, .int .i64 x17.2.2.2.2.2.2]), (57, .slice A26 ((xs28).length) c27)] trivial ?_
          obtain ⟨x51, hv52, hF⟩ := A.bd_some hF
          refine A.AH.pkl 1 1309 hv52 fun ho53 => ?_
          intro b55 o56 hA54
          refine A.AH.v (A.pk_kont (Z.Pq.body _ _ _)) [0, 1, 2, 3, 998, 999, 1089] [0, 1, 2, 3, 998, 999, 1089, 1309] 3 [true, true, true, true, false, true, true, false, false, false] rfl (fun a w hf hh => A.r_ixa (t := (Z.Ty.int .i64)) hv52 hA54 hf) ?_
          refine A.AH.q (A.pk_kont (Z.Pq.body _ _ _)) [0, 1, 2, 3, 998, 999, 1089, 1309] [0, 1, 2, 3, 998, 999, 1089, 1309] [] [1309] [true, true, true, true, true, true, true, false, false, false] 3 [(4, .e 0 0)] [55] [] [(55, .int .i64 x51)] trivial ?_
          refine A.AH.one 7 ?_
          obtain ⟨r57, hv58, hF⟩ := A.bd_some hF
          refine A.AL.call 1310 [] (first := []) (cap := []) cf104 (R08_depth_ok (x17.1, x17.2.1, x17.2.2.1, (x17.2.2.2.1.1, x17.2.2.2.1.2.1, x17.2.2.2.1.2.2), x17.2.2.2.2.1, x17.2.2.2.2.2.1, x17.2.2.2.2.2.2) xs28 A21 c22 A26 c27 ho19.1 ho19.2.1 ho19.2.2.2.1.1 ho19.2.2.2.1.2.1 ho19.2.2.2.1.2.2 ho19.2.2.2.2.1 ho19.2.2.2.2.2.1 ho19.2.2.2.2.2.2 r57 hv58) (.s 998 (.o 1089 .nil)) ?_
          rintro _ _ ⟨rfl, rfl, hr59⟩
          refine ⟨by kernel_rfl, ?_⟩
          refine A.AH.nx [true, true, true, true, true, true, true, true, false, false] [0, 1, 2, 3, 998, 999, 1089, 1309] ?_
          refine A.cst 51 (Z.slice_n (show (a0).length = (xs6).length from hn7)) ?_
          obtain ⟨x60, hv61, hF⟩ := A.bd_some hF
          refine A.AH.pko 3 1350 hv61 fun ho62 => ?_
          intro g64 hA63
          refine A.AH.v (A.pk_kont (Z.Pq.body _ _ _)) [0, 1, 2, 3, 998, 999, 1089, 1309] [0, 1, 2, 3, 998, 999, 1089, 1309, 1350] 8 [true, true, true, true, true, true, true, true, true, false] rfl (fun a w hf hh => A.r_ixo (t := (Z.Ty.int .i64)) hv61 hA63 hf) ?_
          refine A.AH.one 9 ?_
          refine A.AL.setel 3 1350 [1350] (o := 0) (m := 1) (t := (Z.Ty.int .i64)) (new := [.int .i64 r57]) (es := [.int .i64 x60]) r57 hv61 hA63 ⟨rfl, hr59⟩ ?_
          refine A.AH.nm [true, true, true, true, true, true, true, true, true, true] ?_
          refine A.AH.done ?_
          refine A.AE.c ?_
          refine A.AX.sr ?_
          refine A.AL.q [] [] [.n, .n, .n] [60, 61, 62] [] [(60, .slice (some ⟨g2, 0, none⟩) ((a0).length) ((a0).length)), (61, .slice A2_ ((a1).length) c3_), (62, .int .i64 y8)] trivial ?_
          obtain ⟨x65, hv66, hF⟩ := A.bd_some hF
          refine A.AL.ixl 1 1351 hv66 fun ho67 => ?_
          intro b68 o69
          refine A.AL.q [] [1351] [.e 0 0] [64] [] [(64, .int .i64 x65)] trivial ?_
          refine A.cst 60 (Z.slice_n (show (a0).length = (xs6.set x51.toNat r57).length from (by rw [List.length_set]; exact hn7))) ?_
          obtain ⟨x70, hv71, hF⟩ := A.bd_some hF
          refine A.AL.ixo 3 1352 hv71 fun ho72 => ?_
          intro g73 hA74
          refine A.AL.q [] [1352] [.e 0 0, .n] [67] [] [(67, .bool (decide (x70 < 0)))] trivial ?_
          refine A.AL.dn ?_
          refine A.AX.cnd rfl hF (fun hb hF => ?_) (fun hb hF => ?_)
          · refine A.AX.sr ?_
            refine A.AL.q [] [] [.n, .n] [4, 5] [] [(4, .slice none 0 0), (5, .bool false)] trivial ?_
            refine A.AL.dn ?_
            obtain rfl := Option.some.inj hF
            refine A.nil 1353 (Z.Ty.int .i64) 3 ?_
            exact A.AX.ret [(0, 1353)] (.tuple #[.slice none 0 0, .bool false]) (fun a w hf hh => Z.resv2 rfl (Z.rv_t hf rfl) (Z.rv_t hf rfl)) (⟨none, 0, rfl, rfl⟩)
          · refine A.AX.skip ?_
            refine A.AE.b ?_
            refine A.AE.c ?_
            refine A.AX.reg ?_
            obtain ⟨hc75, hF⟩ := A.gd_some hF
            refine A.AL.q [] [] [.n, .n, .n] [7] [Z.R64 (y8 + 1)] [(7, .int .i64 (y8 + 1))] hc75 ?_
            refine A.AL.done ?_
            exact A.AE.j [3, 0, 1, 2] [(7, .int .i64 (y8 + 1))] [(3, .own (Z.Ty.int .i64) 3 (some ⟨g2, 0, none⟩) ((a0).length) (xs6.set x51.toNat r57))] ⟨_, Nat.lt_succ_self _, ⟨(xs6.set x51.toNat r57), (y8 + 1), rfl, rfl, (by rw [List.length_set]; exact hn7), (Z.i64_has hc75), hF⟩⟩
    · refine A.AX.exit rfl ?_
      refine A.AE.c ?_
      refine A.AX.seq ?_
      refine A.AX.sr ?_
      refine A.AL.q [] [] [.n] [11] [] [(11, .int .i64 0)] trivial ?_
      refine A.AL.dn ?_
      refine A.AX.block ?_
      refine A.AX.loop [2, 6] [0, 2, 3] [0, 2, 3] (fun f nl nh => ∃ (y76 : Int), nl = [(11, .int .i64 y76)] ∧ nh = [] ∧ IntKind.i64.has y76 ∧ F.R08_depths_l3 a0 xs6 f y76 = some r) A.FU [(11, .int .i64 0)] [] ⟨0, rfl, rfl, (A.hasl .i64 (0) rfl), hF⟩ ?_
      rintro f78 _ _ ⟨y76, rfl, rfl, hy77, hF⟩
      cases f78 with
      | zero => exact A.no0 hF
      | succ f78 =>
        rw [F.R08_depths_l3] at hF
        refine A.AX.seq ?_
        refine A.AX.sr ?_
        refine A.AL.q [2] [] [.n, .n, .b 0 0, .n, .n] [72] [] [(72, .bool (decide (y76 < ((a0).length : Int))))] trivial ?_
        refine A.AL.dn ?_
        refine A.AX.cnd rfl hF (fun hb hF => ?_) (fun hb hF => ?_)
        · refine A.AX.skip ?_
          refine A.AE.c ?_
          refine A.AX.seq ?_
          refine A.AX.block ?_
          refine A.AX.sr ?_
          refine A.AL.q [2] [] [.n, .b 0 0, .n] [76, 77] [] [(76, .slice A0_ ((a0).length) c1_), (77, .int .i64 y76)] trivial ?_
          obtain ⟨x79, hv80, hF⟩ := A.bd_some hF
          refine A.AL.ixs 0 1446 hv80 fun ho81 => ?_
          intro A82 c83 b84 o85
          refine A.AL.q [] [1446] [.e 0 0] [79] [] [(79, .agg #[.int .i64 x79.1, .int .i64 x79.2.1, .slice A82 ((x79.2.2.1).length) c83, .int .i64 x79.2.2.2.1.1, .int .i64 x79.2.2.2.1.2.1, .string x79.2.2.2.1.2.2, .string x79.2.2.2.2.1, .int .i64 x79.2.2.2.2.2.1, .int .i64 x79.2.2.2.2.2.2])] trivial ?_
          refine A.AL.alloc 1448 (cs := [.int .i64 0, .int .i64 0, .slice none 0 0, .int .i64 0, .int .i64 0, .string (ByteArray.mk #[]), .string (ByteArray.mk #[]), .int .i64 0, .int .i64 0]) Tryd.zeroValue40 fun g86 => ?_
          refine A.AL.store 1448 [] (new := [.int .i64 x79.1, .int .i64 x79.2.1, .slice A82 ((x79.2.2.1).length) c83, .int .i64 x79.2.2.2.1.1, .int .i64 x79.2.2.2.1.2.1, .string x79.2.2.2.1.2.2, .string x79.2.2.2.2.1, .int .i64 x79.2.2.2.2.2.1, .int .i64 x79.2.2.2.2.2.2]) (cs' := [.int .i64 x79.1, .int .i64 x79.2.1, .slice A82 ((x79.2.2.1).length) c83, .int .i64 x79.2.2.2.1.1, .int .i64 x79.2.2.2.1.2.1, .string x79.2.2.2.1.2.2, .string x79.2.2.2.2.1, .int .i64 x79.2.2.2.2.2.1, .int .i64 x79.2.2.2.2.2.2]) ?_
          refine A.AL.dn ?_
          refine A.AX.join [2, 6, 11] [0, 2, 3] (fun nl nh => ∃ (y87 : Bool), nl = [(96, .bool y87)] ∧ nh = [] ∧ F.R08_depths_j2 (F.R08_depths_l3 a0 xs6 f78) y76 y87 = some r) ?_ ?_
          · refine A.AX.dr mixed 17 17 [false, false, false, false, false, false, false, false, false, false, false, false, false, false, false, false, false] ?_
            refine A.AH.q (A.pk_kont (Z.Pq.body _ _ _)) [] [0, 2, 3, 1446, 1447, 1448] [1448] [] [true, true, true, true, false, false, false, false, false, false, false, false, false, false, false, false, false] 13 [(0, .n), (1, .b 0 1), (2, .n), (3, .n)] [83] [] [(83, .bool (decide (x79.2.1 = 14)))] trivial ?_
            refine A.AH.cnp (j := 83) rfl hF (fun hb hF => ?_) (fun hb hF => ?_)
            · refine A.AH.q (A.pk_kont (Z.Pq.body _ _ _)) [0, 2, 3, 1446, 1447, 1448] [0, 2, 3, 1446, 1447, 1448] [2, 1448] [] [true, true, true, true, true, true, true, true, false, false, false, false, false, true, true, false, false] 7 [(4, .on .n), (5, .on (.b 0 0)), (6, .on .n), (13, .on .n), (7, .on (.b 1 2)), (14, .on (.b 1 8))] [84, 85, 87, 94] [] [(84, .slice (some ⟨g2, 0, none⟩) ((a0).length) ((a0).length)), (85, .agg #[.slice A0_ ((a0).length) c1_]), (87, .slice A82 ((x79.2.2.1).length) c83), (94, .int .i64 x79.2.2.2.2.2.2)] trivial ?_
              obtain ⟨x89, hv90, hF⟩ := A.bd_some hF
              refine A.AH.pks 1447 1449 hv90 fun ho91 => ?_
              intro b93 o94 hA92
              refine A.AH.vg (A.pk_kont (Z.Pq.body _ _ _)) [0, 2, 3, 1446, 1447, 1448] [0, 2, 3, 1446, 1447, 1448, 1449] 8 [true, true, true, true, true, true, true, true, true, false, false, false, false, true, true, false, false] (dj := 83) rfl (fun a w hf hh => A.r_ixa (t := (Z.Ty.int .i64)) hv90 hA92 hf) ?_
              refine A.AH.q (A.pk_kont (Z.Pq.body _ _ _)) [0, 2, 3, 1446, 1447, 1448, 1449] [0, 2, 3, 1446, 1447, 1448, 1449] [] [1449] [true, true, true, true, true, true, true, true, true, true, false, false, false, true, true, false, false] 5 [(9, .on (.e 0 0))] [89] [] [(89, .int .i64 x89)] trivial ?_
              refine A.AH.one 10 ?_
              refine A.AL.on (dj := 83) rfl rfl ?_
              obtain ⟨r95, hv96, hF⟩ := A.bd_some hF
              refine A.AL.call 1450 [] (first := []) (cap := []) cf60 (R08_index_ok a0 x89 A0_ c1_ ho91 r95 hv96) (.s 0 .nil) ?_
              rintro _ _ ⟨rfl, rfl, hr97⟩
              refine ⟨by kernel_rfl, ?_⟩
              refine A.AH.nx [true, true, true, true, true, true, true, true, true, true, true, false, false, true, true, false, false] [0, 2, 3, 1446, 1447, 1448, 1449] ?_
              refine A.cst 84 (Z.slice_n (show (a0).length = (xs6).length from hn7)) ?_
              obtain ⟨x98, hv99, hF⟩ := A.bd_some hF
              refine A.AH.pko 3 1490 hv99 fun ho100 => ?_
              intro g102 hA101
              refine A.AH.vg (A.pk_kont (Z.Pq.body _ _ _)) [0, 2, 3, 1446, 1447, 1448, 1449] [0, 2, 3, 1446, 1447, 1448, 1449, 1490] 11 [true, true, true, true, true, true, true, true, true, true, true, true, false, true, true, false, false] (dj := 83) rfl (fun a w hf hh => A.r_ixo (t := (Z.Ty.int .i64)) hv99 hA101 hf) ?_
              refine A.AH.q (A.pk_kont (Z.Pq.body _ _ _)) [0, 2, 3, 1446, 1447, 1448, 1449, 1490] [0, 2, 3, 1446, 1447, 1448, 1449, 1490] [] [1490] [true, true, true, true, true, true, true, true, true, true, true, true, true, true, true, true, true] 0 [(12, .on (.e 0 0)), (15, .on .n), (16, .n)] [96] [] [(96, .bool (decide (x98 ≠ x79.2.2.2.2.2.2)))] trivial ?_
              refine A.AH.done ?_
              exact A.AE.j [0, 2, 3] [(96, .bool (decide (x98 ≠ x79.2.2.2.2.2.2)))] [] ⟨(decide (x98 ≠ x79.2.2.2.2.2.2)), rfl, rfl, hF⟩
            · refine A.AH.q (A.pk_kont (Z.Pq.body _ _ _)) [0, 2, 3, 1446, 1447, 1448] [0, 2, 3, 1446, 1447, 1448] [] [] [true, true, true, true, true, true, true, true, true, true, true, true, true, true, true, true, true] 0 [(4, .off), (5, .off), (6, .off), (13, .off), (7, .off), (14, .off), (8, .off), (9, .off), (10, .off), (11, .off), (12, .off), (15, .off), (16, .n)] [96] [] [(96, .bool false)] trivial ?_
              refine A.AH.done ?_
              exact A.AE.j [0, 2, 3] [(96, .bool false)] [] ⟨false, rfl, rfl, hF⟩
          · rintro _ _ ⟨y87, rfl, rfl, hF⟩
            rw [F.R08_depths_j2] at hF
            refine A.AX.cnb rfl hF (fun hb hF => ?_) (fun hb hF => ?_)
            · refine A.AX.sr ?_
              refine A.AL.q [] [] [.n, .n] [4, 5] [] [(4, .slice none 0 0), (5, .bool false)] trivial ?_
              refine A.AL.dn ?_
              obtain rfl := Option.some.inj hF
              refine A.nil 1491 (Z.Ty.int .i64) 3 ?_
              exact A.AX.ret [(0, 1491)] (.tuple #[.slice none 0 0, .bool false]) (fun a w hf hh => Z.resv2 rfl (Z.rv_t hf rfl) (Z.rv_t hf rfl)) (⟨none, 0, rfl, rfl⟩)
            · refine A.AX.skip ?_
              refine A.AE.b ?_
              refine A.AE.c ?_
              refine A.AX.reg ?_
              obtain ⟨hc88, hF⟩ := A.gd_some hF
              refine A.AL.q [] [] [.n, .n, .n] [11] [Z.R64 (y76 + 1)] [(11, .int .i64 (y76 + 1))] hc88 ?_
              refine A.AL.done ?_
              exact A.AE.j [0, 2, 3] [(11, .int .i64 (y76 + 1))] [] ⟨_, Nat.lt_succ_self _, ⟨(y76 + 1), rfl, rfl, (Z.i64_has hc88), hF⟩⟩
        · refine A.AX.exit rfl ?_
          refine A.AE.c ?_
          refine A.AX.sr ?_
          refine A.AL.q [] [] [.n, .n, .n] [4, 5] [] [(4, .slice (some ⟨g2, 0, none⟩) ((a0).length) ((a0).length)), (5, .bool true)] trivial ?_
          refine A.AL.dn ?_
          obtain rfl := Option.some.inj hF
          refine A.cst 4 (Z.slice_n (show (a0).length = (xs6).length from hn7)) ?_
          exact A.AX.ret [(0, 3)] (.tuple #[.slice (some ⟨g2, 0, none⟩) ((xs6).length) ((a0).length), .bool true]) (fun a w hf hh => Z.resv2 rfl (Z.rv_t hf rfl) (Z.rv_t hf rfl)) (⟨(some ⟨g2, 0, none⟩), ((a0).length), rfl, rfl⟩)

def F.R08_at_l1 (a0 : (List D84)) (a1 : D54) : Nat → Int → Option Int
  | 0, _ => none
  | f + 1, y2 => if y2 < ((a0).length : Int) then ((A.ix a0 y2).bind fun x5 => (if (x5.1.1, x5.1.2) = (a1.1, a1.2) then ((A.ix a0 y2).bind fun x11 => (some x11.2)) else (A.gd (Z.R64 (y2 + 1)) ((F.R08_at_l1 a0 a1 f) (y2 + 1))))) else (some (-1))
def F.R08_at (a0 : (List D84)) (a1 : D54) : Option Int := F.R08_at_l1 a0 a1 A.FU 0
theorem R08_at_ok (a0 : (List D84)) (a1 : D54) (A0_ : Option Addr) (c1_ : Nat) (h2_ : IntKind.i64.has a1.1) (h3_ : IntKind.i64.has a1.2) (r : Int) (hF : F.R08_at a0 a1 = some r) :
    A.Ct Tryd.prog 125 [.slice A0_ ((a0).length) c1_, .agg #[.int .i64 a1.1, .int .i64 a1.2]] [(0, .ln T84 A0_ c1_ a0)] [] (fun v H' => v = .int .i64 r ∧ H' = [] ∧ IntKind.i64.has r) := by
  refine A.Ct.enter Tryd.func125 rfl Tryd.ntmps125 rfl fun w0 F0 => ?_
  rw [F.R08_at] at hF
  refine A.AX.sr ?_
  refine A.AL.box 1 (cs := [.int .i64 a1.1, .int .i64 a1.2]) fun g1 => ?_
  refine A.AL.q [] [] [.n] [] [] [] trivial ?_
  refine A.AL.dn ?_
  refine A.AX.seq ?_
  refine A.AX.sr ?_
  refine A.AL.q [] [] [.n] [5] [] [(5, .int .i64 0)] trivial ?_
  refine A.AL.dn ?_
  refine A.AX.block ?_
  refine A.AX.loop [0, 3] [0, 1] [0, 1] (fun f nl nh => ∃ (y2 : Int), nl = [(5, .int .i64 y2)] ∧ nh = [] ∧ IntKind.i64.has y2 ∧ F.R08_at_l1 a0 a1 f y2 = some r) A.FU [(5, .int .i64 0)] [] ⟨0, rfl, rfl, (A.hasl .i64 (0) rfl), hF⟩ ?_
  rintro f4 _ _ ⟨y2, rfl, rfl, hy3, hF⟩
  cases f4 with
  | zero => exact A.no0 hF
  | succ f4 =>
    rw [F.R08_at_l1] at hF
    refine A.AX.seq ?_
    refine A.AX.sr ?_
    refine A.AL.q [] [] [.n, .n, .n, .n] [9] [] [(9, .bool (decide (y2 < ((a0).length : Int))))] trivial ?_
    refine A.AL.dn ?_
    refine A.AX.cnd rfl hF (fun hb hF => ?_) (fun hb hF => ?_)
    · refine A.AX.skip ?_
      refine A.AE.c ?_
      refine A.AX.seq ?_
      refine A.AX.block ?_
      refine A.AX.seq ?_
      refine A.AX.dr mixed 7 7 [false, false, false, false, false, false, false] ?_
      refine A.AH.q (A.pk_kont (Z.Pq.body _ _ _)) [] [0, 1] [1] [] [true, true, false, false, false, true, false] 4 [(0, .n), (1, .n), (5, .b 0 0)] [12, 13, 17] [] [(12, .slice A0_ ((a0).length) c1_), (13, .int .i64 y2), (17, .agg #[.int .i64 a1.1, .int .i64 a1.2])] trivial ?_
      obtain ⟨x5, hv6, hF⟩ := A.bd_some hF
      refine A.AH.pkl 0 6 hv6 fun ho7 => ?_
      intro b9 o10 hA8
      refine A.AH.v (A.pk_kont (Z.Pq.body _ _ _)) [0, 1] [0, 1, 6] 2 [true, true, true, false, false, true, false] rfl (fun a w hf hh => A.r_ixa (t := T84) hv6 hA8 hf) ?_
      refine A.AH.q (A.pk_kont (Z.Pq.body _ _ _)) [0, 1, 6] [0, 1, 6] [] [6] [true, true, true, true, true, true, false] 1 [(3, .n), (4, .e 0 0)] [16] [] [(16, .agg #[.int .i64 x5.1.1, .int .i64 x5.1.2])] trivial ?_
      refine A.AH.v (A.pk_kont (Z.Pq.body _ _ _)) [0, 1, 6] [0, 1, 6] 6 [true, true, true, true, true, true, true] rfl (fun a w hf hh => eqagg_eql55 (x := (x5.1.1, x5.1.2)) (y := (a1.1, a1.2)) (hf.eval rfl) (hf.eval rfl)) ?_
      refine A.AH.done ?_
      refine A.AE.c ?_
      refine A.AX.cnd rfl hF (fun hb hF => ?_) (fun hb hF => ?_)
      · refine A.AX.sr ?_
        refine A.AL.q [] [] [.n, .n] [19, 20] [] [(19, .slice A0_ ((a0).length) c1_), (20, .int .i64 y2)] trivial ?_
        obtain ⟨x11, hv12, hF⟩ := A.bd_some hF
        refine A.AL.ixl 0 7 hv12 fun ho13 => ?_
        intro b14 o15
        refine A.AL.q [] [7] [.n, .e 0 2, .n] [4] [] [(4, .int .i64 x11.2)] trivial ?_
        refine A.AL.dn ?_
        obtain rfl := Option.some.inj hF
        exact A.AX.ret [] (.int .i64 x11.2) (fun a w hf hh => Z.resv1 rfl (Z.rv_t hf rfl)) (⟨rfl, rfl, ho13.2⟩)
      · refine A.AX.skip ?_
        refine A.AE.b ?_
        refine A.AE.c ?_
        refine A.AX.reg ?_
        obtain ⟨hc16, hF⟩ := A.gd_some hF
        refine A.AL.q [] [] [.n, .n, .n] [5] [Z.R64 (y2 + 1)] [(5, .int .i64 (y2 + 1))] hc16 ?_
        refine A.AL.done ?_
        exact A.AE.j [0, 1] [(5, .int .i64 (y2 + 1))] [] ⟨_, Nat.lt_succ_self _, ⟨(y2 + 1), rfl, rfl, (Z.i64_has hc16), hF⟩⟩
    · refine A.AX.exit rfl ?_
      refine A.AE.c ?_
      refine A.AX.sr ?_
      refine A.AL.q [] [] [.n] [4] [] [(4, .int .i64 (-1))] trivial ?_
      refine A.AL.dn ?_
      obtain rfl := Option.some.inj hF
      exact A.AX.ret [] (.int .i64 (-1)) (fun a w hf hh => Z.resv1 rfl (Z.rv_t hf rfl)) (⟨rfl, rfl, (A.hasl .i64 (-1) rfl)⟩)

def F.R08_open (a0 : D23) (a1 : (List D84)) (a2 : D70) (a3 : Int) : Option Bool := (F.R08_Find a0 a2.1.1).bind fun r3 => ((F.R08_at a1 (a2.2.1.1, a2.2.1.2)).bind fun r16 => (if a3 ≤ r16 then (some (bif bif decide (r3.1.2.1 ≠ 14) then true else decide (r3.1.2.2.2.2.2.2 ≠ a3) then true else decide (a2.1.2 = 2))) else (some false)))
theorem R08_open_ok (a0 : D23) (a1 : (List D84)) (a2 : D70) (a3 : Int) (A0_ : Option Addr) (c1_ : Nat) (A2_ : Option Addr) (c3_ : Nat) (h4_ : IntKind.i64.has a2.1.1) (h5_ : IntKind.i64.has a2.1.2) (h6_ : IntKind.i64.has a2.2.1.1) (h7_ : IntKind.i64.has a2.2.1.2) (h8_ : IntKind.i64.has a2.2.2.1) (h9_ : IntKind.i64.has a2.2.2.2.1) (h10_ : IntKind.i64.has a2.2.2.2.2.1) (h11_ : IntKind.i64.has a2.2.2.2.2.2.1) (h12_ : IntKind.i64.has a2.2.2.2.2.2.2.1) (h13_ : IntKind.i64.has a2.2.2.2.2.2.2.2.1) (h14_ : IntKind.i64.has a2.2.2.2.2.2.2.2.2.1) (h15_ : IntKind.i64.has a2.2.2.2.2.2.2.2.2.2) (h16_ : IntKind.i64.has a3) (r : Bool) (hF : F.R08_open a0 a1 a2 a3 = some r) :
    A.Ct Tryd.prog 105 [.agg #[.slice A0_ ((a0).length) c1_], .slice A2_ ((a1).length) c3_, .agg #[.int .i64 a2.1.1, .int .i64 a2.1.2, .int .i64 a2.2.1.1, .int .i64 a2.2.1.2, .int .i64 a2.2.2.1, .int .i64 a2.2.2.2.1, .int .i64 a2.2.2.2.2.1, .int .i64 a2.2.2.2.2.2.1, .int .i64 a2.2.2.2.2.2.2.1, .int .i64 a2.2.2.2.2.2.2.2.1, .int .i64 a2.2.2.2.2.2.2.2.2.1, .int .i64 a2.2.2.2.2.2.2.2.2.2], .int .i64 a3] [(0, .sh (.slice T39) [.slice A0_ (a0).length c1_] a0), (1, .ln T84 A2_ c3_ a1)] [] (fun v H' => v = .bool r ∧ H' = []) := by
  refine A.Ct.enter Tryd.func105 rfl Tryd.ntmps105 rfl fun w0 F0 => ?_
  rw [F.R08_open] at hF
  refine A.AX.sr ?_
  refine A.AL.box 2 (cs := [.slice A0_ ((a0).length) c1_]) fun g1 => ?_
  refine A.AL.box 3 (cs := [.int .i64 a2.1.1, .int .i64 a2.1.2, .int .i64 a2.2.1.1, .int .i64 a2.2.1.2, .int .i64 a2.2.2.1, .int .i64 a2.2.2.2.1, .int .i64 a2.2.2.2.2.1, .int .i64 a2.2.2.2.2.2.1, .int .i64 a2.2.2.2.2.2.2.1, .int .i64 a2.2.2.2.2.2.2.2.1, .int .i64 a2.2.2.2.2.2.2.2.2.1, .int .i64 a2.2.2.2.2.2.2.2.2.2]) fun g2 => ?_
  refine A.AL.q [] [] [.n] [] [] [] trivial ?_
  refine A.AL.dn ?_
  refine A.AX.sr ?_
  refine A.AL.q [2, 3] [] [.b 0 0, .n, .n, .b 1 0] [12, 15] [] [(12, .agg #[.slice A0_ ((a0).length) c1_]), (15, .int .i64 a2.1.1)] trivial ?_
  obtain ⟨r3, hv4, hF⟩ := A.bd_some hF
  refine A.AL.call 4 [] (first := []) (cap := []) cf29 (R08_Find_ok a0 a2.1.1 A0_ c1_ h4_ r3 hv4) (.s 0 .nil) ?_
  rintro _ _ ⟨A7, c8, rfl, rfl, hr5, hr6, hr9, hr10, hr11, hr12, hr13, hr14⟩
  refine ⟨by kernel_rfl, ?_⟩
  refine A.AL.q [] [] [.n, .n, .n] [17, 18] [] [(17, .agg #[.int .i64 r3.1.1, .int .i64 r3.1.2.1, .slice A7 ((r3.1.2.2.1).length) c8, .int .i64 r3.1.2.2.2.1.1, .int .i64 r3.1.2.2.2.1.2.1, .string r3.1.2.2.2.1.2.2, .string r3.1.2.2.2.2.1, .int .i64 r3.1.2.2.2.2.2.1, .int .i64 r3.1.2.2.2.2.2.2]), (18, .bool r3.2)] trivial ?_
  refine A.AL.alloc 44 (cs := [.int .i64 0, .int .i64 0, .slice none 0 0, .int .i64 0, .int .i64 0, .string (ByteArray.mk #[]), .string (ByteArray.mk #[]), .int .i64 0, .int .i64 0]) Tryd.zeroValue40 fun g15 => ?_
  refine A.AL.store 44 [] (new := [.int .i64 r3.1.1, .int .i64 r3.1.2.1, .slice A7 ((r3.1.2.2.1).length) c8, .int .i64 r3.1.2.2.2.1.1, .int .i64 r3.1.2.2.2.1.2.1, .string r3.1.2.2.2.1.2.2, .string r3.1.2.2.2.2.1, .int .i64 r3.1.2.2.2.2.2.1, .int .i64 r3.1.2.2.2.2.2.2]) (cs' := [.int .i64 r3.1.1, .int .i64 r3.1.2.1, .slice A7 ((r3.1.2.2.1).length) c8, .int .i64 r3.1.2.2.2.1.1, .int .i64 r3.1.2.2.2.1.2.1, .string r3.1.2.2.2.1.2.2, .string r3.1.2.2.2.2.1, .int .i64 r3.1.2.2.2.2.2.1, .int .i64 r3.1.2.2.2.2.2.2]) ?_
  refine A.AL.q [] [] [.n] [] [] [] trivial ?_
  refine A.AL.dn ?_
  refine A.AX.sr ?_
  refine A.AL.q [3] [] [.n, .n, .b 0 2] [19, 21] [] [(19, .slice A2_ ((a1).length) c3_), (21, .agg #[.int .i64 a2.2.1.1, .int .i64 a2.2.1.2])] trivial ?_
  obtain ⟨r16, hv17, hF⟩ := A.bd_some hF
  refine A.AL.call 45 [] (first := []) (cap := []) cf125 (R08_at_ok a1 (a2.2.1.1, a2.2.1.2) A2_ c3_ h6_ h7_ r16 hv17) (.s 1 .nil) ?_
  rintro _ _ ⟨rfl, rfl, hr18⟩
  refine ⟨by kernel_rfl, ?_⟩
  refine A.AL.q [] [] [.n, .n, .n] [25] [] [(25, .bool (decide (a3 ≤ r16)))] trivial ?_
  refine A.AL.cnp (j := 25) rfl hF (fun hb hF => ?_) (fun hb hF => ?_)
  · refine A.AL.q [44, 3] [] [.on .n, .on (.b 0 1), .on .n, .on .n, .sy .n, .sy (.b 0 8), .sy .n, .sy .n, .on .pk, .on .n, .sy .n, .sy .n, .sy (.b 1 1), .sy .n, .on .pk, .n, .n] [8] [] [(8, .bool (bif bif decide (r3.1.2.1 ≠ 14) then true else decide (r3.1.2.2.2.2.2.2 ≠ a3) then true else decide (a2.1.2 = 2)))] trivial ?_
    refine A.AL.dn ?_
    obtain rfl := Option.some.inj hF
    exact A.AX.ret [] (.bool (bif bif decide (r3.1.2.1 ≠ 14) then true else decide (r3.1.2.2.2.2.2.2 ≠ a3) then true else decide (a2.1.2 = 2))) (fun a w hf hh => Z.resv1 rfl (Z.rv_t hf rfl)) (⟨rfl, rfl⟩)
  · refine A.AL.q [] [] [.off, .off, .off, .off, .off, .off, .off, .off, .off, .off, .off, .off, .off, .off, .off, .n, .n] [8] [] [(8, .bool false)] trivial ?_
    refine A.AL.dn ?_
    obtain rfl := Option.some.inj hF
    exact A.AX.ret [] (.bool false) (fun a w hf hh => Z.resv1 rfl (Z.rv_t hf rfl)) (⟨rfl, rfl⟩)

def F.R08_on_l1 (a0 : (List D54)) (a1 : D54) : Nat → Int → Option Bool
  | 0, _ => none
  | f + 1, y2 => if y2 < ((a0).length : Int) then ((A.ix a0 y2).bind fun x5 => (if (x5.1, x5.2) = (a1.1, a1.2) then (some true) else (A.gd (Z.R64 (y2 + 1)) ((F.R08_on_l1 a0 a1 f) (y2 + 1))))) else (some false)
def F.R08_on (a0 : (List D54)) (a1 : D54) : Option Bool := F.R08_on_l1 a0 a1 A.FU 0
theorem R08_on_ok (a0 : (List D54)) (a1 : D54) (A0_ : Option Addr) (c1_ : Nat) (h2_ : IntKind.i64.has a1.1) (h3_ : IntKind.i64.has a1.2) (r : Bool) (hF : F.R08_on a0 a1 = some r) :
    A.Ct Tryd.prog 106 [.slice A0_ ((a0).length) c1_, .agg #[.int .i64 a1.1, .int .i64 a1.2]] [(0, .ln T54 A0_ c1_ a0)] [] (fun v H' => v = .bool r ∧ H' = []) := by
  refine A.Ct.enter Tryd.func106 rfl Tryd.ntmps106 rfl fun w0 F0 => ?_
  rw [F.R08_on] at hF
  refine A.AX.sr ?_
  refine A.AL.box 1 (cs := [.int .i64 a1.1, .int .i64 a1.2]) fun g1 => ?_
  refine A.AL.q [] [] [.n] [] [] [] trivial ?_
  refine A.AL.dn ?_
  refine A.AX.seq ?_
  refine A.AX.sr ?_
  refine A.AL.q [] [] [.n] [5] [] [(5, .int .i64 0)] trivial ?_
  refine A.AL.dn ?_
  refine A.AX.block ?_
  refine A.AX.loop [0, 3] [0, 1] [0, 1] (fun f nl nh => ∃ (y2 : Int), nl = [(5, .int .i64 y2)] ∧ nh = [] ∧ IntKind.i64.has y2 ∧ F.R08_on_l1 a0 a1 f y2 = some r) A.FU [(5, .int .i64 0)] [] ⟨0, rfl, rfl, (A.hasl .i64 (0) rfl), hF⟩ ?_
  rintro f4 _ _ ⟨y2, rfl, rfl, hy3, hF⟩
  cases f4 with
  | zero => exact A.no0 hF
  | succ f4 =>
    rw [F.R08_on_l1] at hF
    refine A.AX.seq ?_
    refine A.AX.sr ?_
    refine A.AL.q [] [] [.n, .n, .n, .n] [9] [] [(9, .bool (decide (y2 < ((a0).length : Int))))] trivial ?_
    refine A.AL.dn ?_
    refine A.AX.cnd rfl hF (fun hb hF => ?_) (fun hb hF => ?_)
    · refine A.AX.skip ?_
      refine A.AE.c ?_
      refine A.AX.seq ?_
      refine A.AX.block ?_
      refine A.AX.seq ?_
      refine A.AX.dr mixed 6 6 [false, false, false, false, false, false] ?_
      refine A.AH.q (A.pk_kont (Z.Pq.body _ _ _)) [] [0, 1] [1] [] [true, true, false, false, true, false] 3 [(0, .n), (1, .n), (4, .b 0 0)] [12, 13, 16] [] [(12, .slice A0_ ((a0).length) c1_), (13, .int .i64 y2), (16, .agg #[.int .i64 a1.1, .int .i64 a1.2])] trivial ?_
      obtain ⟨x5, hv6, hF⟩ := A.bd_some hF
      refine A.AH.pkl 0 4 hv6 fun ho7 => ?_
      intro b9 o10 hA8
      refine A.AH.v (A.pk_kont (Z.Pq.body _ _ _)) [0, 1] [0, 1, 4] 2 [true, true, true, false, true, false] rfl (fun a w hf hh => A.r_ixa (t := T54) hv6 hA8 hf) ?_
      refine A.AH.q (A.pk_kont (Z.Pq.body _ _ _)) [0, 1, 4] [0, 1, 4] [] [4] [true, true, true, true, true, false] 1 [(3, .e 0 0)] [15] [] [(15, .agg #[.int .i64 x5.1, .int .i64 x5.2])] trivial ?_
      refine A.AH.v (A.pk_kont (Z.Pq.body _ _ _)) [0, 1, 4] [0, 1, 4] 5 [true, true, true, true, true, true] rfl (fun a w hf hh => eqagg_eql55 (x := (x5.1, x5.2)) (y := (a1.1, a1.2)) (hf.eval rfl) (hf.eval rfl)) ?_
      refine A.AH.done ?_
      refine A.AE.c ?_
      refine A.AX.cnd rfl hF (fun hb hF => ?_) (fun hb hF => ?_)
      · refine A.AX.sr ?_
        refine A.AL.q [] [] [.n] [4] [] [(4, .bool true)] trivial ?_
        refine A.AL.dn ?_
        obtain rfl := Option.some.inj hF
        exact A.AX.ret [] (.bool true) (fun a w hf hh => Z.resv1 rfl (Z.rv_t hf rfl)) (⟨rfl, rfl⟩)
      · refine A.AX.skip ?_
        refine A.AE.b ?_
        refine A.AE.c ?_
        refine A.AX.reg ?_
        obtain ⟨hc11, hF⟩ := A.gd_some hF
        refine A.AL.q [] [] [.n, .n, .n] [5] [Z.R64 (y2 + 1)] [(5, .int .i64 (y2 + 1))] hc11 ?_
        refine A.AL.done ?_
        exact A.AE.j [0, 1] [(5, .int .i64 (y2 + 1))] [] ⟨_, Nat.lt_succ_self _, ⟨(y2 + 1), rfl, rfl, (Z.i64_has hc11), hF⟩⟩
    · refine A.AX.exit rfl ?_
      refine A.AE.c ?_
      refine A.AX.sr ?_
      refine A.AL.q [] [] [.n] [4] [] [(4, .bool false)] trivial ?_
      refine A.AL.dn ?_
      obtain rfl := Option.some.inj hF
      exact A.AX.ret [] (.bool false) (fun a w hf hh => Z.resv1 rfl (Z.rv_t hf rfl)) (⟨rfl, rfl⟩)
end Go.Proofs.YtleiipbkfaajfaaDoor
end

section
set_option linter.unusedVariables false
set_option linter.unusedSimpArgs false
set_option maxRecDepth 20000
set_option maxHeartbeats 8000000
set_option synthInstance.maxSize 1000000
set_option synthInstance.maxHeartbeats 400000
namespace Go.Proofs.YtleiipbkfaajfaaDoor
open Go.RowKit
def F.R08_round_j1 (k4 : (List D54) → (List D54) → Int → Option Bool) (y20 : Int) (xs25 : List D54) (xs28 : List D54) : Option Bool := A.gd (Z.R64 (y20 + 1)) (k4 xs25 xs28 (y20 + 1))
def F.R08_round_j2 (k4 : (List D54) → (List D54) → Int → Option Bool) (a2 : (List D70)) (xs16 : List D54) (xs19 : List D54) (y20 : Int) (y30 : Bool) : Option Bool := if y30 = true then ((A.ix a2 y20).bind fun x31 => (A.gd ((List.length (α := D54) xs16 + List.length (α := D54) [(x31.2.1.1, x31.2.1.2)]) * 16 ≤ 140737488355328) ((A.ix a2 y20).bind fun x40 => (A.gd ((List.length (α := D54) xs19 + List.length (α := D54) [(x40.2.1.1, x40.2.1.2)]) * 16 ≤ 140737488355328) (F.R08_round_j1 k4 y20 (xs16 ++ [(x31.2.1.1, x31.2.1.2)]) (xs19 ++ [(x40.2.1.1, x40.2.1.2)])))))) else (F.R08_round_j1 k4 y20 xs16 xs19)
def F.R08_round_l3 (k3 : (List D54) → (List D54) → Int → Option Bool) (a0 : D23) (a1 : (List D84)) (a2 : (List D70)) (a3 : D84) (y11 : Int) : Nat → (List D54) → (List D54) → Int → Option Bool
  | 0, _, _, _ => none
  | f + 1, xs16, xs19, y20 => if y20 < ((a2).length : Int) then ((A.ix a2 y20).bind fun x49 => ((A.ix xs19 y11).bind fun x55 => (if (x49.1.1, x49.1.2) = (x55.1, x55.2) then ((A.ix a2 y20).bind fun x60 => ((F.R08_open a0 a1 ((x60.1.1, x60.1.2), (x60.2.1.1, x60.2.1.2), (x60.2.2.1, x60.2.2.2.1, x60.2.2.2.2.1, x60.2.2.2.2.2.1, (x60.2.2.2.2.2.2.1, x60.2.2.2.2.2.2.2.1, x60.2.2.2.2.2.2.2.2.1, x60.2.2.2.2.2.2.2.2.2))) a3.2).bind fun r66 => (if r66 = true then ((A.ix a2 y20).bind fun x68 => ((F.R08_on xs16 (x68.2.1.1, x68.2.1.2)).bind fun r74 => (F.R08_round_j2 (F.R08_round_l3 k3 a0 a1 a2 a3 y11 f) a2 xs16 xs19 y20 (!r74)))) else (F.R08_round_j2 (F.R08_round_l3 k3 a0 a1 a2 a3 y11 f) a2 xs16 xs19 y20 false)))) else (F.R08_round_j2 (F.R08_round_l3 k3 a0 a1 a2 a3 y11 f) a2 xs16 xs19 y20 false)))) else (A.gd (Z.R64 (y11 + 1)) (k3 xs16 xs19 (y11 + 1)))
def F.R08_round_l4 (a0 : D23) (a1 : (List D84)) (a2 : (List D70)) (a3 : D84) : Nat → (List D54) → (List D54) → Int → Option Bool
  | 0, _, _, _ => none
  | f + 1, xs7, xs10, y11 => if y11 < ((xs10).length : Int) then (F.R08_round_l3 (F.R08_round_l4 a0 a1 a2 a3 f) a0 a1 a2 a3 y11 A.FU xs7 xs10 0) else ((F.R08_on xs7 (a3.1.1, a3.1.2)).bind fun r77 => (some r77))
def F.R08_round (a0 : D23) (a1 : (List D84)) (a2 : (List D70)) (a3 : D84) : Option Bool := F.R08_round_l4 a0 a1 a2 a3 A.FU [] [(a3.1.1, a3.1.2)] 0
theorem R08_round_ok (a0 : D23) (a1 : (List D84)) (a2 : (List D70)) (a3 : D84) (A0_ : Option Addr) (c1_ : Nat) (A2_ : Option Addr) (c3_ : Nat) (A4_ : Option Addr) (c5_ : Nat) (h6_ : IntKind.i64.has a3.1.1) (h7_ : IntKind.i64.has a3.1.2) (h8_ : IntKind.i64.has a3.2) (r : Bool) (hF : F.R08_round a0 a1 a2 a3 = some r) :
    A.Ct Tryd.prog 86 [.agg #[.slice A0_ ((a0).length) c1_], .slice A2_ ((a1).length) c3_, .slice A4_ ((a2).length) c5_, .agg #[.int .i64 a3.1.1, .int .i64 a3.1.2, .int .i64 a3.2]] [(0, .sh (.slice T39) [.slice A0_ (a0).length c1_] a0), (1, .ln T84 A2_ c3_ a1), (2, .ln T70 A4_ c5_ a2)] [] (fun v H' => v = .bool r ∧ H' = []) := by
  refine A.Ct.enter Tryd.func86 rfl Tryd.ntmps86 rfl fun w0 F0 => ?_
  rw [F.R08_round] at hF
  refine A.AX.sr ?_
  refine A.AL.box 3 (cs := [.slice A0_ ((a0).length) c1_]) fun g1 => ?_
  refine A.AL.box 4 (cs := [.int .i64 a3.1.1, .int .i64 a3.1.2, .int .i64 a3.2]) fun g2 => ?_
  refine A.AL.q [] [] [.n] [] [] [] trivial ?_
  refine A.AL.dn ?_
  refine A.AX.sr ?_
  refine A.AL.bs0 5 T54 (fun g3 => ?_) Tryd.sizeOf55
  refine A.AL.q [] [] [.n] [9] [] [(9, .slice (some ⟨g3, 0, none⟩) 0 0)] trivial ?_
  refine A.AL.dn ?_
  refine A.AX.sr ?_
  refine A.AL.q [4] [] [.n, .b 0 0] [15] [] [(15, .agg #[.int .i64 a3.1.1, .int .i64 a3.1.2])] trivial ?_
  refine A.AL.bsl 6 (ty := T54) (cs := [.int .i64 a3.1.1, .int .i64 a3.1.2]) [(a3.1.1, a3.1.2)] ⟨⟨⟨rfl, h6_⟩, ⟨rfl, h7_⟩⟩, rfl⟩ (fun g4 => ?_) Tryd.zeroValue55 Tryd.sizeOf55
  refine A.AL.q [] [] [.n] [10] [] [(10, .slice (some ⟨g4, 0, none⟩) 1 1)] trivial ?_
  refine A.AL.dn ?_
  refine A.AX.seq ?_
  refine A.AX.sr ?_
  refine A.AL.q [] [] [.n] [11] [] [(11, .int .i64 0)] trivial ?_
  refine A.AL.dn ?_
  refine A.AX.block ?_
  refine A.AX.loop [1, 2, 4, 7] [0, 1, 2, 3, 4] [5, 6, 0, 1, 2, 3, 4] (fun f nl nh => ∃ (xs7 : List D54), ∃ (xs10 : List D54), ∃ (y11 : Int), ∃ (A5 : Option Addr), ∃ (c6 : Nat), ∃ (A8 : Option Addr), ∃ (c9 : Nat), nl = [(9, .slice A5 ((xs7).length) c6), (10, .slice A8 ((xs10).length) c9), (11, .int .i64 y11)] ∧ nh = [(5, .own T54 55 A5 c6 xs7), (6, .own T54 55 A8 c9 xs10)] ∧ IntKind.i64.has y11 ∧ F.R08_round_l4 a0 a1 a2 a3 f xs7 xs10 y11 = some r) A.FU [(9, .slice (some ⟨g3, 0, none⟩) 0 0), (10, .slice (some ⟨g4, 0, none⟩) 1 1), (11, .int .i64 0)] [(5, .own T54 55 (some ⟨g3, 0, none⟩) 0 []), (6, .own T54 55 (some ⟨g4, 0, none⟩) 1 [(a3.1.1, a3.1.2)])] ⟨[], [(a3.1.1, a3.1.2)], 0, (some ⟨g3, 0, none⟩), 0, (some ⟨g4, 0, none⟩), 1, rfl, rfl, (A.hasl .i64 (0) rfl), hF⟩ ?_
  rintro f13 _ _ ⟨xs7, xs10, y11, A5, c6, A8, c9, rfl, rfl, hy12, hF⟩
  cases f13 with
  | zero => exact A.no0 hF
  | succ f13 =>
    rw [F.R08_round_l4] at hF
    refine A.AX.seq ?_
    refine A.AX.sr ?_
    refine A.AL.q [] [] [.n, .n, .n, .n] [20] [] [(20, .bool (decide (y11 < ((xs10).length : Int))))] trivial ?_
    refine A.AL.dn ?_
    refine A.AX.cnd rfl hF (fun hb hF => ?_) (fun hb hF => ?_)
    · refine A.AX.skip ?_
      refine A.AE.c ?_
      refine A.AX.seq ?_
      refine A.AX.block ?_
      refine A.AX.sr ?_
      refine A.AL.q [] [] [.n] [12] [] [(12, .int .i64 0)] trivial ?_
      refine A.AL.dn ?_
      refine A.AX.block ?_
      refine A.AX.loop [1, 2, 4, 7, 11] [0, 1, 2, 3, 4] [5, 6, 0, 1, 2, 3, 4] (fun f nl nh => ∃ (xs16 : List D54), ∃ (xs19 : List D54), ∃ (y20 : Int), ∃ (A14 : Option Addr), ∃ (c15 : Nat), ∃ (A17 : Option Addr), ∃ (c18 : Nat), nl = [(9, .slice A14 ((xs16).length) c15), (10, .slice A17 ((xs19).length) c18), (12, .int .i64 y20)] ∧ nh = [(5, .own T54 55 A14 c15 xs16), (6, .own T54 55 A17 c18 xs19)] ∧ IntKind.i64.has y20 ∧ F.R08_round_l3 (F.R08_round_l4 a0 a1 a2 a3 f13) a0 a1 a2 a3 y11 f xs16 xs19 y20 = some r) A.FU [(9, .slice A5 ((xs7).length) c6), (10, .slice A8 ((xs10).length) c9), (12, .int .i64 0)] [(5, .own T54 55 A5 c6 xs7), (6, .own T54 55 A8 c9 xs10)] ⟨xs7, xs10, 0, A5, c6, A8, c9, rfl, rfl, (A.hasl .i64 (0) rfl), hF⟩ ?_
      rintro f22 _ _ ⟨xs16, xs19, y20, A14, c15, A17, c18, rfl, rfl, hy21, hF⟩
      cases f22 with
      | zero => exact A.no0 hF
      | succ f22 =>
        rw [F.R08_round_l3] at hF
        refine A.AX.seq ?_
        refine A.AX.sr ?_
        refine A.AL.q [] [] [.n, .n, .n, .n] [26] [] [(26, .bool (decide (y20 < ((a2).length : Int))))] trivial ?_
        refine A.AL.dn ?_
        refine A.AX.cnd rfl hF (fun hb hF => ?_) (fun hb hF => ?_)
        · refine A.AX.skip ?_
          refine A.AE.c ?_
          refine A.AX.join [1, 2, 4, 7, 11, 12] [0, 1, 2, 3, 4] (fun nl nh => ∃ (xs25 : List D54), ∃ (xs28 : List D54), ∃ (A23 : Option Addr), ∃ (c24 : Nat), ∃ (A26 : Option Addr), ∃ (c27 : Nat), nl = [(9, .slice A23 ((xs25).length) c24), (10, .slice A26 ((xs28).length) c27)] ∧ nh = [(5, .own T54 55 A23 c24 xs25), (6, .own T54 55 A26 c27 xs28)] ∧ F.R08_round_j1 (F.R08_round_l3 (F.R08_round_l4 a0 a1 a2 a3 f13) a0 a1 a2 a3 y11 f22) y20 xs25 xs28 = some r) ?_ ?_
          · refine A.AX.block ?_
            refine A.AX.join [1, 2, 4, 7, 9, 10, 11, 12] [0, 1, 2, 3, 4, 5, 6] (fun nl nh => ∃ (y30 : Bool), nl = [(59, .bool y30)] ∧ nh = [] ∧ F.R08_round_j2 (F.R08_round_l3 (F.R08_round_l4 a0 a1 a2 a3 f13) a0 a1 a2 a3 y11 f22) a2 xs16 xs19 y20 y30 = some r) ?_ ?_
            · refine A.AX.dr mixed 31 31 [false, false, false, false, false, false, false, false, false, false, false, false, false, false, false, false, false, false, false, false, false, false, false, false, false, false, false, false, false, false, false] ?_
              refine A.AH.q (A.pk_kont (Z.Pq.body _ _ _)) [] [0, 1, 2, 3, 4, 5, 6] [] [] [true, true, false, false, false, true, true, false, false, false, false, false, false, false, false, false, false, false, false, false, false, false, false, false, false, false, false, false, false, false, false] 27 [(0, .n), (1, .n), (5, .n), (6, .n)] [29, 30, 34, 35] [] [(29, .slice A4_ ((a2).length) c5_), (30, .int .i64 y20), (34, .slice A17 ((xs19).length) c18), (35, .int .i64 y11)] trivial ?_
              obtain ⟨x49, hv50, hF⟩ := A.bd_some hF
              refine A.AH.pkl 2 791 hv50 fun ho51 => ?_
              intro b53 o54 hA52
              refine A.AH.v (A.pk_kont (Z.Pq.body _ _ _)) [0, 1, 2, 3, 4, 5, 6] [0, 1, 2, 3, 4, 5, 6, 791] 2 [true, true, true, false, false, true, true, false, false, false, false, false, false, false, false, false, false, false, false, false, false, false, false, false, false, false, false, false, false, false, false] rfl (fun a w hf hh => A.r_ixa (t := T70) hv50 hA52 hf) ?_
              refine A.AH.q (A.pk_kont (Z.Pq.body _ _ _)) [0, 1, 2, 3, 4, 5, 6, 791] [0, 1, 2, 3, 4, 5, 6, 791] [] [791] [true, true, true, true, true, true, true, false, false, false, false, false, false, false, false, false, false, false, false, false, false, false, false, false, false, false, false, false, false, false, false] 24 [(3, .n), (4, .e 0 0)] [33] [] [(33, .agg #[.int .i64 x49.1.1, .int .i64 x49.1.2])] trivial ?_
              obtain ⟨x55, hv56, hF⟩ := A.bd_some hF
              refine A.AH.pko 6 792 hv56 fun ho57 => ?_
              intro g59 hA58
              refine A.AH.v (A.pk_kont (Z.Pq.body _ _ _)) [0, 1, 2, 3, 4, 5, 6, 791] [0, 1, 2, 3, 4, 5, 6, 791, 792] 7 [true, true, true, true, true, true, true, true, false, false, false, false, false, false, false, false, false, false, false, false, false, false, false, false, false, false, false, false, false, false, false] rfl (fun a w hf hh => A.r_ixo (t := T54) hv56 hA58 hf) ?_
              refine A.AH.q (A.pk_kont (Z.Pq.body _ _ _)) [0, 1, 2, 3, 4, 5, 6, 791, 792] [0, 1, 2, 3, 4, 5, 6, 791, 792] [] [792] [true, true, true, true, true, true, true, true, true, false, false, false, false, false, false, false, false, false, false, false, false, false, false, false, false, false, false, false, false, false, false] 22 [(8, .e 0 0)] [37] [] [(37, .agg #[.int .i64 x55.1, .int .i64 x55.2])] trivial ?_
              refine A.AH.v (A.pk_kont (Z.Pq.body _ _ _)) [0, 1, 2, 3, 4, 5, 6, 791, 792] [0, 1, 2, 3, 4, 5, 6, 791, 792] 9 [true, true, true, true, true, true, true, true, true, true, false, false, false, false, false, false, false, false, false, false, false, false, false, false, false, false, false, false, false, false, false] rfl (fun a w hf hh => eqagg_eql55 (x := (x49.1.1, x49.1.2)) (y := (x55.1, x55.2)) (hf.eval rfl) (hf.eval rfl)) ?_
              refine A.AH.q (A.pk_kont (Z.Pq.body _ _ _)) [0, 1, 2, 3, 4, 5, 6, 791, 792] [0, 1, 2, 3, 4, 5, 6, 791, 792] [] [] [true, true, true, true, true, true, true, true, true, true, true, false, false, false, false, false, false, false, false, false, false, false, false, false, false, false, false, false, false, false, false] 20 [(10, .n)] [39] [] [(39, .bool (decide ((x49.1.1, x49.1.2) = (x55.1, x55.2))))] trivial ?_
              refine A.AH.cnp (j := 39) rfl hF (fun hb hF => ?_) (fun hb hF => ?_)
              · refine A.AH.q (A.pk_kont (Z.Pq.body _ _ _)) [0, 1, 2, 3, 4, 5, 6, 791, 792] [0, 1, 2, 3, 4, 5, 6, 791, 792] [3, 4] [] [true, true, true, true, true, true, true, true, true, true, true, true, true, true, true, false, false, true, true, false, false, false, false, false, false, false, false, false, false, false, false] 14 [(11, .on (.b 0 0)), (12, .on .n), (13, .on .n), (14, .on .n), (17, .on .n), (18, .on (.b 1 2))] [40, 41, 42, 43, 47] [] [(40, .agg #[.slice A0_ ((a0).length) c1_]), (41, .slice A2_ ((a1).length) c3_), (42, .slice A4_ ((a2).length) c5_), (43, .int .i64 y20), (47, .int .i64 a3.2)] trivial ?_
                obtain ⟨x60, hv61, hF⟩ := A.bd_some hF
                refine A.AH.pkl 2 793 hv61 fun ho62 => ?_
                intro b64 o65 hA63
                refine A.AH.vg (A.pk_kont (Z.Pq.body _ _ _)) [0, 1, 2, 3, 4, 5, 6, 791, 792] [0, 1, 2, 3, 4, 5, 6, 791, 792, 793] 15 [true, true, true, true, true, true, true, true, true, true, true, true, true, true, true, true, false, true, true, false, false, false, false, false, false, false, false, false, false, false, false] (dj := 39) rfl (fun a w hf hh => A.r_ixa (t := T70) hv61 hA63 hf) ?_
                refine A.AH.q (A.pk_kont (Z.Pq.body _ _ _)) [0, 1, 2, 3, 4, 5, 6, 791, 792, 793] [0, 1, 2, 3, 4, 5, 6, 791, 792, 793] [] [793] [true, true, true, true, true, true, true, true, true, true, true, true, true, true, true, true, true, true, true, false, false, false, false, false, false, false, false, false, false, false, false] 12 [(16, .on (.e 0 0))] [45] [] [(45, .agg #[.int .i64 x60.1.1, .int .i64 x60.1.2, .int .i64 x60.2.1.1, .int .i64 x60.2.1.2, .int .i64 x60.2.2.1, .int .i64 x60.2.2.2.1, .int .i64 x60.2.2.2.2.1, .int .i64 x60.2.2.2.2.2.1, .int .i64 x60.2.2.2.2.2.2.1, .int .i64 x60.2.2.2.2.2.2.2.1, .int .i64 x60.2.2.2.2.2.2.2.2.1, .int .i64 x60.2.2.2.2.2.2.2.2.2])] trivial ?_
                refine A.AH.one 19 ?_
                refine A.AL.on (dj := 39) rfl rfl ?_
                obtain ⟨r66, hv67, hF⟩ := A.bd_some hF
                refine A.AL.call 794 [] (first := []) (cap := []) cf105 (R08_open_ok a0 a1 ((x60.1.1, x60.1.2), (x60.2.1.1, x60.2.1.2), (x60.2.2.1, x60.2.2.2.1, x60.2.2.2.2.1, x60.2.2.2.2.2.1, (x60.2.2.2.2.2.2.1, x60.2.2.2.2.2.2.2.1, x60.2.2.2.2.2.2.2.2.1, x60.2.2.2.2.2.2.2.2.2))) a3.2 A0_ c1_ A2_ c3_ ho62.1.1 ho62.1.2 ho62.2.1.1 ho62.2.1.2 ho62.2.2.1 ho62.2.2.2.1 ho62.2.2.2.2.1 ho62.2.2.2.2.2.1 ho62.2.2.2.2.2.2.1 ho62.2.2.2.2.2.2.2.1 ho62.2.2.2.2.2.2.2.2.1 ho62.2.2.2.2.2.2.2.2.2 h8_ r66 hv67) (.s 0 (.s 1 .nil)) ?_
                rintro _ _ ⟨rfl, rfl⟩
                refine ⟨by kernel_rfl, ?_⟩
                refine A.AH.nx [true, true, true, true, true, true, true, true, true, true, true, true, true, true, true, true, true, true, true, true, false, false, false, false, false, false, false, false, false, false, false] [0, 1, 2, 3, 4, 5, 6, 791, 792, 793] ?_
                refine A.AH.q (A.pk_kont (Z.Pq.body _ _ _)) [0, 1, 2, 3, 4, 5, 6, 791, 792, 793] [0, 1, 2, 3, 4, 5, 6, 791, 792, 793] [] [] [true, true, true, true, true, true, true, true, true, true, true, true, true, true, true, true, true, true, true, true, true, true, false, false, false, false, false, false, false, false, false] 9 [(20, .n), (21, .n)] [50] [] [(50, .bool r66)] trivial ?_
                refine A.AH.cnd (j := 50) rfl hF (fun hF => ?_) (fun hF => ?_)
                · refine A.AH.q (A.pk_kont (Z.Pq.body _ _ _)) [0, 1, 2, 3, 4, 5, 6, 791, 792, 793] [0, 1, 2, 3, 4, 5, 6, 791, 792, 793] [] [] [true, true, true, true, true, true, true, true, true, true, true, true, true, true, true, true, true, true, true, true, true, true, true, true, true, false, false, false, false, false, false] 6 [(22, .on .n), (23, .on .n), (24, .on .n)] [51, 52, 53] [] [(51, .slice A14 ((xs16).length) c15), (52, .slice A4_ ((a2).length) c5_), (53, .int .i64 y20)] trivial ?_
                  obtain ⟨x68, hv69, hF⟩ := A.bd_some hF
                  refine A.AH.pkl 2 834 hv69 fun ho70 => ?_
                  intro b72 o73 hA71
                  refine A.AH.vg (A.pk_kont (Z.Pq.body _ _ _)) [0, 1, 2, 3, 4, 5, 6, 791, 792, 793] [0, 1, 2, 3, 4, 5, 6, 791, 792, 793, 834] 25 [true, true, true, true, true, true, true, true, true, true, true, true, true, true, true, true, true, true, true, true, true, true, true, true, true, true, false, false, false, false, false] (dj := 50) rfl (fun a w hf hh => A.r_ixa (t := T70) hv69 hA71 hf) ?_
                  refine A.AH.q (A.pk_kont (Z.Pq.body _ _ _)) [0, 1, 2, 3, 4, 5, 6, 791, 792, 793, 834] [0, 1, 2, 3, 4, 5, 6, 791, 792, 793, 834] [] [834] [true, true, true, true, true, true, true, true, true, true, true, true, true, true, true, true, true, true, true, true, true, true, true, true, true, true, true, true, false, false, false] 3 [(26, .on .n), (27, .on (.e 0 2))] [56] [] [(56, .agg #[.int .i64 x68.2.1.1, .int .i64 x68.2.1.2])] trivial ?_
                  refine A.AH.one 28 ?_
                  refine A.AL.on (dj := 50) rfl rfl ?_
                  obtain ⟨r74, hv75, hF⟩ := A.bd_some hF
                  refine A.AL.call 835 [] (first := []) (cap := []) cf106 (R08_on_ok xs16 (x68.2.1.1, x68.2.1.2) A14 c15 ho70.2.1.1 ho70.2.1.2 r74 hv75) (.o 5 .nil) ?_
                  rintro _ _ ⟨rfl, rfl⟩
                  refine ⟨by kernel_rfl, ?_⟩
                  refine A.AH.nx [true, true, true, true, true, true, true, true, true, true, true, true, true, true, true, true, true, true, true, true, true, true, true, true, true, true, true, true, true, false, false] [0, 1, 2, 3, 4, 5, 6, 791, 792, 793, 834] ?_
                  refine A.AH.q (A.pk_kont (Z.Pq.body _ _ _)) [0, 1, 2, 3, 4, 5, 6, 791, 792, 793, 834] [0, 1, 2, 3, 4, 5, 6, 791, 792, 793, 834] [] [] [true, true, true, true, true, true, true, true, true, true, true, true, true, true, true, true, true, true, true, true, true, true, true, true, true, true, true, true, true, true, true] 0 [(29, .on .n), (30, .n)] [59] [] [(59, .bool (!r74))] trivial ?_
                  refine A.AH.done ?_
                  exact A.AE.j [0, 1, 2, 3, 4, 5, 6] [(59, .bool (!r74))] [] ⟨(!r74), rfl, rfl, hF⟩
                · refine A.AH.q (A.pk_kont (Z.Pq.body _ _ _)) [0, 1, 2, 3, 4, 5, 6, 791, 792, 793] [0, 1, 2, 3, 4, 5, 6, 791, 792, 793] [] [] [true, true, true, true, true, true, true, true, true, true, true, true, true, true, true, true, true, true, true, true, true, true, true, true, true, true, true, true, true, true, true] 0 [(22, .off), (23, .off), (24, .off), (25, .off), (26, .off), (27, .off), (28, .off), (29, .off), (30, .n)] [59] [] [(59, .bool false)] trivial ?_
                  refine A.AH.done ?_
                  exact A.AE.j [0, 1, 2, 3, 4, 5, 6] [(59, .bool false)] [] ⟨false, rfl, rfl, hF⟩
              · refine A.AH.q (A.pk_kont (Z.Pq.body _ _ _)) [0, 1, 2, 3, 4, 5, 6, 791, 792] [0, 1, 2, 3, 4, 5, 6, 791, 792] [] [] [true, true, true, true, true, true, true, true, true, true, true, true, true, true, true, true, true, true, true, true, true, true, true, true, true, true, true, true, true, true, true] 0 [(11, .off), (12, .off), (13, .off), (14, .off), (17, .off), (15, .off), (18, .off), (16, .off), (19, .off), (20, .n), (21, .n), (22, .off), (23, .off), (24, .off), (25, .off), (26, .off), (27, .off), (28, .off), (29, .off), (30, .n)] [59] [] [(59, .bool false)] trivial ?_
                refine A.AH.done ?_
                exact A.AE.j [0, 1, 2, 3, 4, 5, 6] [(59, .bool false)] [] ⟨false, rfl, rfl, hF⟩
            · rintro _ _ ⟨y30, rfl, rfl, hF⟩
              rw [F.R08_round_j2] at hF
              refine A.AX.cnb rfl hF (fun hb hF => ?_) (fun hb hF => ?_)
              · refine A.AX.sr ?_
                refine A.AL.q [] [] [.n, .n, .n] [60, 61, 62] [] [(60, .slice A14 ((xs16).length) c15), (61, .slice A4_ ((a2).length) c5_), (62, .int .i64 y20)] trivial ?_
                obtain ⟨x31, hv32, hF⟩ := A.bd_some hF
                refine A.AL.ixl 2 875 hv32 fun ho33 => ?_
                intro b34 o35
                refine A.AL.q [] [875] [.n, .e 0 2] [65] [] [(65, .agg #[.int .i64 x31.2.1.1, .int .i64 x31.2.1.2])] trivial ?_
                refine A.AL.bsl 876 (ty := T54) (cs := [.int .i64 x31.2.1.1, .int .i64 x31.2.1.2]) [(x31.2.1.1, x31.2.1.2)] ⟨⟨⟨rfl, ho33.2.1.1⟩, ⟨rfl, ho33.2.1.2⟩⟩, rfl⟩ (fun g36 => ?_) Tryd.zeroValue55 Tryd.sizeOf55
                obtain ⟨hl39, hF⟩ := A.gd_some hF
                refine A.AL.app (k := 5) [] (A.rowO (k := 876) rfl) inf55 hl39 fun A37 c38 => ?_
                refine A.AL.q [] [] [.n] [9] [] [(9, .slice A37 ((xs16 ++ [(x31.2.1.1, x31.2.1.2)]).length) c38)] trivial ?_
                refine A.AL.dn ?_
                refine A.AX.reg ?_
                refine A.AL.q [] [] [.n, .n, .n] [68, 69, 70] [] [(68, .slice A17 ((xs19).length) c18), (69, .slice A4_ ((a2).length) c5_), (70, .int .i64 y20)] trivial ?_
                obtain ⟨x40, hv41, hF⟩ := A.bd_some hF
                refine A.AL.ixl 2 877 hv41 fun ho42 => ?_
                intro b43 o44
                refine A.AL.q [] [877] [.n, .e 0 2] [73] [] [(73, .agg #[.int .i64 x40.2.1.1, .int .i64 x40.2.1.2])] trivial ?_
                refine A.AL.bsl 878 (ty := T54) (cs := [.int .i64 x40.2.1.1, .int .i64 x40.2.1.2]) [(x40.2.1.1, x40.2.1.2)] ⟨⟨⟨rfl, ho42.2.1.1⟩, ⟨rfl, ho42.2.1.2⟩⟩, rfl⟩ (fun g45 => ?_) Tryd.zeroValue55 Tryd.sizeOf55
                obtain ⟨hl48, hF⟩ := A.gd_some hF
                refine A.AL.app (k := 6) [] (A.rowO (k := 878) rfl) inf55 hl48 fun A46 c47 => ?_
                refine A.AL.q [] [] [.n] [10] [] [(10, .slice A46 ((xs19 ++ [(x40.2.1.1, x40.2.1.2)]).length) c47)] trivial ?_
                refine A.AL.done ?_
                refine A.AE.b ?_
                exact A.AE.j [5, 6, 0, 1, 2, 3, 4] [(9, .slice A37 ((xs16 ++ [(x31.2.1.1, x31.2.1.2)]).length) c38), (10, .slice A46 ((xs19 ++ [(x40.2.1.1, x40.2.1.2)]).length) c47)] [(5, .own T54 55 A37 c38 (xs16 ++ [(x31.2.1.1, x31.2.1.2)])), (6, .own T54 55 A46 c47 (xs19 ++ [(x40.2.1.1, x40.2.1.2)]))] ⟨(xs16 ++ [(x31.2.1.1, x31.2.1.2)]), (xs19 ++ [(x40.2.1.1, x40.2.1.2)]), A37, c38, A46, c47, rfl, rfl, hF⟩
              · refine A.AX.skip ?_
                refine A.AE.b ?_
                exact A.AE.j [5, 6, 0, 1, 2, 3, 4] [(9, .slice A14 ((xs16).length) c15), (10, .slice A17 ((xs19).length) c18)] [(5, .own T54 55 A14 c15 xs16), (6, .own T54 55 A17 c18 xs19)] ⟨xs16, xs19, A14, c15, A17, c18, rfl, rfl, hF⟩
          · rintro _ _ ⟨xs25, xs28, A23, c24, A26, c27, rfl, rfl, hF⟩
            rw [F.R08_round_j1] at hF
            refine A.AX.reg ?_
            obtain ⟨hc29, hF⟩ := A.gd_some hF
            refine A.AL.q [] [] [.n, .n, .n] [12] [Z.R64 (y20 + 1)] [(12, .int .i64 (y20 + 1))] hc29 ?_
            refine A.AL.done ?_
            exact A.AE.j [5, 6, 0, 1, 2, 3, 4] [(9, .slice A23 ((xs25).length) c24), (10, .slice A26 ((xs28).length) c27), (12, .int .i64 (y20 + 1))] [(5, .own T54 55 A23 c24 xs25), (6, .own T54 55 A26 c27 xs28)] ⟨_, Nat.lt_succ_self _, ⟨xs25, xs28, (y20 + 1), A23, c24, A26, c27, rfl, rfl, (Z.i64_has hc29), hF⟩⟩
        · refine A.AX.exit rfl ?_
          refine A.AE.b ?_
          refine A.AE.c ?_
          refine A.AX.reg ?_
          obtain ⟨hc76, hF⟩ := A.gd_some hF
          refine A.AL.q [] [] [.n, .n, .n] [11] [Z.R64 (y11 + 1)] [(11, .int .i64 (y11 + 1))] hc76 ?_
          refine A.AL.done ?_
          exact A.AE.j [5, 6, 0, 1, 2, 3, 4] [(9, .slice A14 ((xs16).length) c15), (10, .slice A17 ((xs19).length) c18), (11, .int .i64 (y11 + 1))] [(5, .own T54 55 A14 c15 xs16), (6, .own T54 55 A17 c18 xs19)] ⟨_, Nat.lt_succ_self _, ⟨xs16, xs19, (y11 + 1), A14, c15, A17, c18, rfl, rfl, (Z.i64_has hc76), hF⟩⟩
    · refine A.AX.exit rfl ?_
      refine A.AE.c ?_
      refine A.AX.sr ?_
      refine A.AL.q [4] [] [.n, .n, .b 0 0] [76, 78] [] [(76, .slice A5 ((xs7).length) c6), (78, .agg #[.int .i64 a3.1.1, .int .i64 a3.1.2])] trivial ?_
      obtain ⟨r77, hv78, hF⟩ := A.bd_some hF
      refine A.AL.call 879 [] (first := []) (cap := []) cf106 (R08_on_ok xs7 (a3.1.1, a3.1.2) A5 c6 h6_ h7_ r77 hv78) (.o 5 .nil) ?_
      rintro _ _ ⟨rfl, rfl⟩
      refine ⟨by kernel_rfl, ?_⟩
      refine A.AL.q [] [] [.n] [8] [] [(8, .bool r77)] trivial ?_
      refine A.AL.dn ?_
      obtain rfl := Option.some.inj hF
      exact A.AX.ret [] (.bool r77) (fun a w hf hh => Z.resv1 rfl (Z.rv_t hf rfl)) (⟨rfl, rfl⟩)

def F.R08_whole_l1 (a0 : D23) (r5 : (List Int) × Bool) (r9 : (List Int) × Bool) (r13 : (List D84)) (r17 : (List D70)) : Nat → Int → Option ((List Int) × (List Int) × Int)
  | 0, _ => none
  | f + 1, y21 => if y21 < ((r13).length : Int) then ((A.ix r13 y21).bind fun x24 => ((F.R08_round a0 r13 r17 ((x24.1.1, x24.1.2), x24.2)).bind fun r29 => (if r29 = true then (some ([], [], 81)) else (A.gd (Z.R64 (y21 + 1)) ((F.R08_whole_l1 a0 r5 r9 r13 r17 f) (y21 + 1)))))) else (some (r5.1, r9.1, 0))
def F.R08_whole (a0 : D23) : Option ((List Int) × (List Int) × Int) := (F.R08_parts a0).bind fun r2 => (if r2 ≠ 0 then (some ([], [], r2)) else ((F.R08_order a0).bind fun r5 => (if (!r5.2) = true then (some ([], [], 81)) else ((F.R08_depths a0 r5.1).bind fun r9 => (if (!r9.2) = true then (some ([], [], 80)) else ((F.R08_spots a0 r9.1).bind fun r13 => ((F.R08_edges a0 r13).bind fun r17 => (F.R08_whole_l1 a0 r5 r9 r13 r17 A.FU 0))))))))
theorem R08_whole_ok (a0 : D23) (A0_ : Option Addr) (c1_ : Nat) (r : (List Int) × (List Int) × Int) (hF : F.R08_whole a0 = some r) :
    A.Ct Tryd.prog 54 [.agg #[.slice A0_ ((a0).length) c1_]] [(0, .sh (.slice T39) [.slice A0_ (a0).length c1_] a0)] [] (fun v H' => ∃ (A0' : Option Addr) (c1' : Nat) (A2' : Option Addr) (c3' : Nat), v = .tuple #[.slice A0' ((r.1).length) c1', .slice A2' ((r.2.1).length) c3', .int .i64 r.2.2] ∧ H' = [(0, .own (Z.Ty.int .i64) 3 A0' c1' r.1), (1, .own (Z.Ty.int .i64) 3 A2' c3' r.2.1)] ∧ IntKind.i64.has r.2.2) := by
  refine A.Ct.enter Tryd.func54 rfl Tryd.ntmps54 rfl fun w0 F0 => ?_
  rw [F.R08_whole] at hF
  refine A.AX.sr ?_
  refine A.AL.box 1 (cs := [.slice A0_ ((a0).length) c1_]) fun g1 => ?_
  refine A.AL.q [] [] [.n, .n, .n] [] [] [] trivial ?_
  refine A.AL.dn ?_
  refine A.AX.seq ?_
  refine A.AX.sr ?_
  refine A.AL.q [1] [] [.b 0 0] [12] [] [(12, .agg #[.slice A0_ ((a0).length) c1_])] trivial ?_
  obtain ⟨r2, hv3, hF⟩ := A.bd_some hF
  refine A.AL.call 2 [] (first := []) (cap := []) cf83 (R08_parts_ok a0 A0_ c1_ r2 hv3) (.s 0 .nil) ?_
  rintro _ _ ⟨rfl, rfl, hr4⟩
  refine ⟨by kernel_rfl, ?_⟩
  refine A.AL.q [] [] [.n] [5] [] [(5, .int .i64 r2)] trivial ?_
  refine A.AL.dn ?_
  refine A.AX.sr ?_
  refine A.AL.q [] [] [.n, .n] [15] [] [(15, .bool (decide (r2 ≠ 0)))] trivial ?_
  refine A.AL.dn ?_
  refine A.AX.cnd rfl hF (fun hb hF => ?_) (fun hb hF => ?_)
  · refine A.AX.sr ?_
    refine A.AL.q [] [] [.n, .n, .n, .n] [2, 3, 4] [] [(2, .slice none 0 0), (3, .slice none 0 0), (4, .int .i64 r2)] trivial ?_
    refine A.AL.dn ?_
    obtain rfl := Option.some.inj hF
    refine A.nil 42 (Z.Ty.int .i64) 3 ?_
    refine A.nil 43 (Z.Ty.int .i64) 3 ?_
    exact A.AX.ret [(0, 42), (1, 43)] (.tuple #[.slice none 0 0, .slice none 0 0, .int .i64 r2]) (fun a w hf hh => Z.resv3 rfl (Z.rv_t hf rfl) (Z.rv_t hf rfl) (Z.rv_t hf rfl)) (⟨none, 0, none, 0, rfl, rfl, hr4⟩)
  · refine A.AX.skip ?_
    refine A.AE.c ?_
    refine A.AX.sr ?_
    refine A.AL.q [1] [] [.b 0 0] [18] [] [(18, .agg #[.slice A0_ ((a0).length) c1_])] trivial ?_
    obtain ⟨r5, hv6, hF⟩ := A.bd_some hF
    refine A.AL.call 44 [] (first := []) (cap := []) cf84 (R08_order_ok a0 A0_ c1_ r5 hv6) (.s 0 .nil) ?_
    rintro _ _ ⟨A7, c8, rfl, rfl⟩
    refine ⟨by kernel_rfl, ?_⟩
    refine A.AL.q [] [] [.n, .n, .n, .n, .n] [6, 7] [] [(6, .slice A7 ((r5.1).length) c8), (7, .bool r5.2)] trivial ?_
    refine A.AL.dn ?_
    refine A.AX.seq ?_
    refine A.AX.sr ?_
    refine A.AL.q [] [] [.n, .n] [23] [] [(23, .bool (!r5.2))] trivial ?_
    refine A.AL.dn ?_
    refine A.AX.cnb rfl hF (fun hb hF => ?_) (fun hb hF => ?_)
    · refine A.AX.sr ?_
      refine A.AL.q [] [] [.n, .n, .n] [2, 3, 4] [] [(2, .slice none 0 0), (3, .slice none 0 0), (4, .int .i64 81)] trivial ?_
      refine A.AL.dn ?_
      obtain rfl := Option.some.inj hF
      refine A.nil 84 (Z.Ty.int .i64) 3 ?_
      refine A.nil 85 (Z.Ty.int .i64) 3 ?_
      exact A.AX.ret [(0, 84), (1, 85)] (.tuple #[.slice none 0 0, .slice none 0 0, .int .i64 81]) (fun a w hf hh => Z.resv3 rfl (Z.rv_t hf rfl) (Z.rv_t hf rfl) (Z.rv_t hf rfl)) (⟨none, 0, none, 0, rfl, rfl, (A.hasl .i64 (81) rfl)⟩)
    · refine A.AX.skip ?_
      refine A.AE.c ?_
      refine A.AX.sr ?_
      refine A.AL.q [1] [] [.b 0 0, .n] [25, 26] [] [(25, .agg #[.slice A0_ ((a0).length) c1_]), (26, .slice A7 ((r5.1).length) c8)] trivial ?_
      obtain ⟨r9, hv10, hF⟩ := A.bd_some hF
      refine A.AL.call 86 [] (first := []) (cap := []) cf85 (R08_depths_ok a0 r5.1 A0_ c1_ A7 c8 r9 hv10) (.s 0 (.o 44 .nil)) ?_
      rintro _ _ ⟨A11, c12, rfl, rfl⟩
      refine ⟨by kernel_rfl, ?_⟩
      refine A.AL.q [] [] [.n, .n, .n, .n, .n] [8, 7] [] [(8, .slice A11 ((r9.1).length) c12), (7, .bool r9.2)] trivial ?_
      refine A.AL.dn ?_
      refine A.AX.seq ?_
      refine A.AX.sr ?_
      refine A.AL.q [] [] [.n, .n] [31] [] [(31, .bool (!r9.2))] trivial ?_
      refine A.AL.dn ?_
      refine A.AX.cnb rfl hF (fun hb hF => ?_) (fun hb hF => ?_)
      · refine A.AX.sr ?_
        refine A.AL.q [] [] [.n, .n, .n] [2, 3, 4] [] [(2, .slice none 0 0), (3, .slice none 0 0), (4, .int .i64 80)] trivial ?_
        refine A.AL.dn ?_
        obtain rfl := Option.some.inj hF
        refine A.nil 126 (Z.Ty.int .i64) 3 ?_
        refine A.nil 127 (Z.Ty.int .i64) 3 ?_
        exact A.AX.ret [(0, 126), (1, 127)] (.tuple #[.slice none 0 0, .slice none 0 0, .int .i64 80]) (fun a w hf hh => Z.resv3 rfl (Z.rv_t hf rfl) (Z.rv_t hf rfl) (Z.rv_t hf rfl)) (⟨none, 0, none, 0, rfl, rfl, (A.hasl .i64 (80) rfl)⟩)
      · refine A.AX.skip ?_
        refine A.AE.c ?_
        refine A.AX.sr ?_
        refine A.AL.q [1] [] [.b 0 0, .n] [32, 33] [] [(32, .agg #[.slice A0_ ((a0).length) c1_]), (33, .slice A11 ((r9.1).length) c12)] trivial ?_
        obtain ⟨r13, hv14, hF⟩ := A.bd_some hF
        refine A.AL.call 128 [] (first := []) (cap := []) cf73 (R08_spots_ok a0 r9.1 A0_ c1_ A11 c12 r13 hv14) (.s 0 (.o 86 .nil)) ?_
        rintro _ _ ⟨A15, c16, rfl, rfl⟩
        refine ⟨by kernel_rfl, ?_⟩
        refine A.AL.q [] [] [.n] [9] [] [(9, .slice A15 ((r13).length) c16)] trivial ?_
        refine A.AL.dn ?_
        refine A.AX.sr ?_
        refine A.AL.q [1] [] [.b 0 0, .n] [35, 36] [] [(35, .agg #[.slice A0_ ((a0).length) c1_]), (36, .slice A15 ((r13).length) c16)] trivial ?_
        obtain ⟨r17, hv18, hF⟩ := A.bd_some hF
        refine A.AL.call 168 [] (first := []) (cap := []) cf74 (R08_edges_ok a0 r13 A0_ c1_ A15 c16 r17 hv18) (.s 0 (.o 128 .nil)) ?_
        rintro _ _ ⟨A19, c20, rfl, rfl⟩
        refine ⟨by kernel_rfl, ?_⟩
        refine A.AL.q [] [] [.n] [10] [] [(10, .slice A19 ((r17).length) c20)] trivial ?_
        refine A.AL.dn ?_
        refine A.AX.seq ?_
        refine A.AX.sr ?_
        refine A.AL.q [] [] [.n] [11] [] [(11, .int .i64 0)] trivial ?_
        refine A.AL.dn ?_
        refine A.AX.block ?_
        refine A.AX.loop [1, 6, 8, 9, 10] [0, 1, 44, 86, 128, 168] [0, 1, 44, 86, 128, 168] (fun f nl nh => ∃ (y21 : Int), nl = [(11, .int .i64 y21)] ∧ nh = [] ∧ IntKind.i64.has y21 ∧ F.R08_whole_l1 a0 r5 r9 r13 r17 f y21 = some r) A.FU [(11, .int .i64 0)] [] ⟨0, rfl, rfl, (A.hasl .i64 (0) rfl), hF⟩ ?_
        rintro f23 _ _ ⟨y21, rfl, rfl, hy22, hF⟩
        cases f23 with
        | zero => exact A.no0 hF
        | succ f23 =>
          rw [F.R08_whole_l1] at hF
          refine A.AX.seq ?_
          refine A.AX.sr ?_
          refine A.AL.q [] [] [.n, .n, .n, .n] [41] [] [(41, .bool (decide (y21 < ((r13).length : Int))))] trivial ?_
          refine A.AL.dn ?_
          refine A.AX.cnd rfl hF (fun hb hF => ?_) (fun hb hF => ?_)
          · refine A.AX.skip ?_
            refine A.AE.c ?_
            refine A.AX.seq ?_
            refine A.AX.block ?_
            refine A.AX.seq ?_
            refine A.AX.dr mixed 7 8 [false, false, false, false, false, false, false, false] ?_
            refine A.AH.q (A.pk_kont (Z.Pq.body _ _ _)) [] [0, 1, 44, 86, 128, 168] [1] [] [true, true, true, true, true, false, false, false] 3 [(0, .b 0 0), (1, .n), (2, .n), (3, .n), (4, .n)] [44, 45, 46, 47, 48] [] [(44, .agg #[.slice A0_ ((a0).length) c1_]), (45, .slice A15 ((r13).length) c16), (46, .slice A19 ((r17).length) c20), (47, .slice A15 ((r13).length) c16), (48, .int .i64 y21)] trivial ?_
            obtain ⟨x24, hv25, hF⟩ := A.bd_some hF
            refine A.AH.pko 128 294 hv25 fun ho26 => ?_
            intro g28 hA27
            refine A.AH.v (A.pk_kont (Z.Pq.body _ _ _)) [0, 1, 44, 86, 128, 168] [0, 1, 44, 86, 128, 168, 294] 5 [true, true, true, true, true, true, false, false] rfl (fun a w hf hh => A.r_ixo (t := T84) hv25 hA27 hf) ?_
            refine A.AH.q (A.pk_kont (Z.Pq.body _ _ _)) [0, 1, 44, 86, 128, 168, 294] [0, 1, 44, 86, 128, 168, 294] [] [294] [true, true, true, true, true, true, true, false] 1 [(6, .e 0 0)] [50] [] [(50, .agg #[.int .i64 x24.1.1, .int .i64 x24.1.2, .int .i64 x24.2])] trivial ?_
            refine A.AH.one 7 ?_
            obtain ⟨r29, hv30, hF⟩ := A.bd_some hF
            refine A.AL.call 295 [] (first := []) (cap := []) cf86 (R08_round_ok a0 r13 r17 ((x24.1.1, x24.1.2), x24.2) A0_ c1_ A15 c16 A19 c20 ho26.1.1 ho26.1.2 ho26.2 r29 hv30) (.s 0 (.o 128 (.o 168 .nil))) ?_
            rintro _ _ ⟨rfl, rfl⟩
            refine ⟨by kernel_rfl, ?_⟩
            refine A.AH.nm [true, true, true, true, true, true, true, true] ?_
            refine A.AH.done ?_
            refine A.AE.c ?_
            refine A.AX.cnb rfl hF (fun hb hF => ?_) (fun hb hF => ?_)
            · refine A.AX.sr ?_
              refine A.AL.q [] [] [.n, .n, .n] [2, 3, 4] [] [(2, .slice none 0 0), (3, .slice none 0 0), (4, .int .i64 81)] trivial ?_
              refine A.AL.dn ?_
              obtain rfl := Option.some.inj hF
              refine A.nil 335 (Z.Ty.int .i64) 3 ?_
              refine A.nil 336 (Z.Ty.int .i64) 3 ?_
              exact A.AX.ret [(0, 335), (1, 336)] (.tuple #[.slice none 0 0, .slice none 0 0, .int .i64 81]) (fun a w hf hh => Z.resv3 rfl (Z.rv_t hf rfl) (Z.rv_t hf rfl) (Z.rv_t hf rfl)) (⟨none, 0, none, 0, rfl, rfl, (A.hasl .i64 (81) rfl)⟩)
            · refine A.AX.skip ?_
              refine A.AE.b ?_
              refine A.AE.c ?_
              refine A.AX.reg ?_
              obtain ⟨hc31, hF⟩ := A.gd_some hF
              refine A.AL.q [] [] [.n, .n, .n] [11] [Z.R64 (y21 + 1)] [(11, .int .i64 (y21 + 1))] hc31 ?_
              refine A.AL.done ?_
              exact A.AE.j [0, 1, 44, 86, 128, 168] [(11, .int .i64 (y21 + 1))] [] ⟨_, Nat.lt_succ_self _, ⟨(y21 + 1), rfl, rfl, (Z.i64_has hc31), hF⟩⟩
          · refine A.AX.exit rfl ?_
            refine A.AE.c ?_
            refine A.AX.sr ?_
            refine A.AL.q [] [] [.n, .n, .n, .n, .n] [2, 3, 4] [] [(2, .slice A7 ((r5.1).length) c8), (3, .slice A11 ((r9.1).length) c12), (4, .int .i64 0)] trivial ?_
            refine A.AL.dn ?_
            obtain rfl := Option.some.inj hF
            exact A.AX.ret [(0, 44), (1, 86)] (.tuple #[.slice A7 ((r5.1).length) c8, .slice A11 ((r9.1).length) c12, .int .i64 0]) (fun a w hf hh => Z.resv3 rfl (Z.rv_t hf rfl) (Z.rv_t hf rfl) (Z.rv_t hf rfl)) (⟨A7, c8, A11, c12, rfl, rfl, (A.hasl .i64 (0) rfl)⟩)
end Go.Proofs.YtleiipbkfaajfaaDoor
end

section
set_option linter.unusedVariables false
set_option linter.unusedSimpArgs false
set_option maxRecDepth 20000
set_option maxHeartbeats 8000000
set_option synthInstance.maxSize 1000000
set_option synthInstance.maxHeartbeats 400000
namespace Go.Proofs.YtleiipbkfaajfaaDoor
open Go.RowKit
def F.R08_Order_l1 (a0 : D23) (r2 : (List Int) × (List Int) × Int) : Nat → (List Int) → Int → Option ((List Int) × Int)
  | 0, _, _ => none
  | f + 1, xs11, y12 => if y12 < ((r2.1).length : Int) then ((A.ix r2.1 y12).bind fun x15 => ((A.ix a0 x15).bind fun x20 => (A.gd ((List.length (α := Int) xs11 + List.length (α := Int) [x20.1]) * 8 ≤ 140737488355328) (A.gd (Z.R64 (y12 + 1)) ((F.R08_Order_l1 a0 r2 f) (xs11 ++ [x20.1]) (y12 + 1)))))) else (some (xs11, 0))
def F.R08_Order (a0 : D23) : Option ((List Int) × Int) := (F.R08_whole a0).bind fun r2 => (if r2.2.2 ≠ 0 then (some ([], r2.2.2)) else (F.R08_Order_l1 a0 r2 A.FU [] 0))
theorem R08_Order_ok (a0 : D23) (A0_ : Option Addr) (c1_ : Nat) (r : (List Int) × Int) (hF : F.R08_Order a0 = some r) :
    A.Ct Tryd.prog 13 [.agg #[.slice A0_ ((a0).length) c1_]] [(0, .sh (.slice T39) [.slice A0_ (a0).length c1_] a0)] [] (fun v H' => ∃ (A0' : Option Addr) (c1' : Nat), v = .tuple #[.slice A0' ((r.1).length) c1', .int .i64 r.2] ∧ H' = [(0, .own (Z.Ty.int .i64) 3 A0' c1' r.1)] ∧ IntKind.i64.has r.2) := by
  refine A.Ct.enter Tryd.func13 rfl Tryd.ntmps13 rfl fun w0 F0 => ?_
  rw [F.R08_Order] at hF
  refine A.AX.sr ?_
  refine A.AL.box 1 (cs := [.slice A0_ ((a0).length) c1_]) fun g1 => ?_
  refine A.AL.q [] [] [.n, .n] [] [] [] trivial ?_
  refine A.AL.dn ?_
  refine A.AX.sr ?_
  refine A.AL.q [1] [] [.b 0 0] [10] [] [(10, .agg #[.slice A0_ ((a0).length) c1_])] trivial ?_
  obtain ⟨r2, hv3, hF⟩ := A.bd_some hF
  refine A.AL.call 2 [] (first := []) (cap := []) cf54 (R08_whole_ok a0 A0_ c1_ r2 hv3) (.s 0 .nil) ?_
  rintro _ _ ⟨A4, c5, A6, c7, rfl, rfl, hr8⟩
  refine ⟨by kernel_rfl, ?_⟩
  refine A.AL.q [] [] [.n, .n, .n, .n, .n, .n, .n] [4, 6] [] [(4, .slice A4 ((r2.1).length) c5), (6, .int .i64 r2.2.2)] trivial ?_
  refine A.AL.dn ?_
  refine A.AX.seq ?_
  refine A.AX.sr ?_
  refine A.AL.q [] [] [.n, .n] [16] [] [(16, .bool (decide (r2.2.2 ≠ 0)))] trivial ?_
  refine A.AL.dn ?_
  refine A.AX.cnd rfl hF (fun hb hF => ?_) (fun hb hF => ?_)
  · refine A.AX.sr ?_
    refine A.AL.q [] [] [.n, .n, .n] [2, 3] [] [(2, .slice none 0 0), (3, .int .i64 r2.2.2)] trivial ?_
    refine A.AL.dn ?_
    obtain rfl := Option.some.inj hF
    refine A.nil 42 (Z.Ty.int .i64) 3 ?_
    exact A.AX.ret [(0, 42)] (.tuple #[.slice none 0 0, .int .i64 r2.2.2]) (fun a w hf hh => Z.resv2 rfl (Z.rv_t hf rfl) (Z.rv_t hf rfl)) (⟨none, 0, rfl, rfl, hr8⟩)
  · refine A.AX.skip ?_
    refine A.AE.c ?_
    refine A.AX.sr ?_
    refine A.AL.q [] [] [.n] [7] [] [(7, .slice none 0 0)] trivial ?_
    refine A.AL.dn ?_
    refine A.AX.seq ?_
    refine A.AX.sr ?_
    refine A.AL.q [] [] [.n] [8] [] [(8, .int .i64 0)] trivial ?_
    refine A.AL.dn ?_
    refine A.AX.block ?_
    refine A.nil 49 (Z.Ty.int .i64) 3 ?_
    refine A.AX.loop [1, 4] [0, 1, 2] [49, 0, 1, 2] (fun f nl nh => ∃ (xs11 : List Int), ∃ (y12 : Int), ∃ (A9 : Option Addr), ∃ (c10 : Nat), nl = [(7, .slice A9 ((xs11).length) c10), (8, .int .i64 y12)] ∧ nh = [(49, .own (Z.Ty.int .i64) 3 A9 c10 xs11)] ∧ IntKind.i64.has y12 ∧ F.R08_Order_l1 a0 r2 f xs11 y12 = some r) A.FU [(7, .slice none 0 0), (8, .int .i64 0)] [(49, .own (Z.Ty.int .i64) 3 none 0 [])] ⟨[], 0, none, 0, rfl, rfl, (A.hasl .i64 (0) rfl), hF⟩ ?_
    rintro f14 _ _ ⟨xs11, y12, A9, c10, rfl, rfl, hy13, hF⟩
    cases f14 with
    | zero => exact A.no0 hF
    | succ f14 =>
      rw [F.R08_Order_l1] at hF
      refine A.AX.seq ?_
      refine A.AX.sr ?_
      refine A.AL.q [] [] [.n, .n, .n, .n] [21] [] [(21, .bool (decide (y12 < ((r2.1).length : Int))))] trivial ?_
      refine A.AL.dn ?_
      refine A.AX.cnd rfl hF (fun hb hF => ?_) (fun hb hF => ?_)
      · refine A.AX.skip ?_
        refine A.AE.c ?_
        refine A.AX.seq ?_
        refine A.AX.block ?_
        refine A.AX.dr mixed 13 13 [false, false, false, false, false, false, false, false, false, false, false, false, false] ?_
        refine A.AH.q (A.pk_kont (Z.Pq.body _ _ _)) [] [0, 1, 2] [1] [] [true, true, true, true, true, false, false, false, false, false, false, false, false] 8 [(0, .n), (1, .n), (3, .n), (4, .n), (2, .b 0 0)] [24, 27, 28, 26] [] [(24, .slice A9 ((xs11).length) c10), (27, .slice A4 ((r2.1).length) c5), (28, .int .i64 y12), (26, .slice A0_ ((a0).length) c1_)] trivial ?_
        obtain ⟨x15, hv16, hF⟩ := A.bd_some hF
        refine A.AH.pko 2 58 hv16 fun ho17 => ?_
        intro g19 hA18
        refine A.AH.v (A.pk_kont (Z.Pq.body _ _ _)) [0, 1, 2] [0, 1, 2, 58] 5 [true, true, true, true, true, true, false, false, false, false, false, false, false] rfl (fun a w hf hh => A.r_ixo (t := (Z.Ty.int .i64)) hv16 hA18 hf) ?_
        refine A.AH.q (A.pk_kont (Z.Pq.body _ _ _)) [0, 1, 2, 58] [0, 1, 2, 58] [] [58] [true, true, true, true, true, true, true, false, false, false, false, false, false] 6 [(6, .e 0 0)] [30] [] [(30, .int .i64 x15)] trivial ?_
        obtain ⟨x20, hv21, hF⟩ := A.bd_some hF
        refine A.AH.pks 0 59 hv21 fun ho22 => ?_
        intro A24 c25 b26 o27 hA23
        refine A.AH.v (A.pk_kont (Z.Pq.body _ _ _)) [0, 1, 2, 58] [0, 1, 2, 58, 59, 60] 7 [true, true, true, true, true, true, true, true, false, false, false, false, false] rfl (fun a w hf hh => A.r_ixa (t := T39) hv21 hA23 hf) ?_
        refine A.AH.q (A.pk_kont (Z.Pq.body _ _ _)) [0, 1, 2, 58, 59, 60] [0, 1, 2, 58, 59, 60] [] [59] [true, true, true, true, true, true, true, true, true, true, false, false, false] 3 [(8, .n), (9, .e 0 0)] [33] [] [(33, .int .i64 x20.1)] trivial ?_
        refine A.AH.one 10 ?_
        refine A.AL.bsl 61 (ty := (Z.Ty.int .i64)) (cs := [.int .i64 x20.1]) [x20.1] ⟨⟨rfl, ho22.1⟩, rfl⟩ (fun g28 => ?_) Tryd.zeroValue3 Tryd.sizeOf3
        refine A.AH.nx [true, true, true, true, true, true, true, true, true, true, true, false, false] [0, 1, 2, 58, 59, 60] ?_
        refine A.AH.one 11 ?_
        obtain ⟨hl31, hF⟩ := A.gd_some hF
        refine A.AL.app (k := 49) [] (A.rowO (k := 61) rfl) inf3 hl31 fun A29 c30 => ?_
        refine A.AH.nx [true, true, true, true, true, true, true, true, true, true, true, true, false] [0, 1, 2, 58, 59, 60] ?_
        refine A.AH.q (A.pk_kont (Z.Pq.body _ _ _)) [0, 1, 2, 58, 59, 60] [0, 1, 2, 49, 58, 59, 60, 61] [] [] [true, true, true, true, true, true, true, true, true, true, true, true, true] 0 [(12, .n)] [7] [] [(7, .slice A29 ((xs11 ++ [x20.1]).length) c30)] trivial ?_
        refine A.AH.done ?_
        refine A.AE.b ?_
        refine A.AE.c ?_
        refine A.AX.reg ?_
        obtain ⟨hc32, hF⟩ := A.gd_some hF
        refine A.AL.q [] [] [.n, .n, .n] [8] [Z.R64 (y12 + 1)] [(8, .int .i64 (y12 + 1))] hc32 ?_
        refine A.AL.done ?_
        exact A.AE.j [49, 0, 1, 2] [(7, .slice A29 ((xs11 ++ [x20.1]).length) c30), (8, .int .i64 (y12 + 1))] [(49, .own (Z.Ty.int .i64) 3 A29 c30 (xs11 ++ [x20.1]))] ⟨_, Nat.lt_succ_self _, ⟨(xs11 ++ [x20.1]), (y12 + 1), A29, c30, rfl, rfl, (Z.i64_has hc32), hF⟩⟩
      · refine A.AX.exit rfl ?_
        refine A.AE.c ?_
        refine A.AX.sr ?_
        refine A.AL.q [] [] [.n, .n, .n] [2, 3] [] [(2, .slice A9 ((xs11).length) c10), (3, .int .i64 0)] trivial ?_
        refine A.AL.dn ?_
        obtain rfl := Option.some.inj hF
        exact A.AX.ret [(0, 49)] (.tuple #[.slice A9 ((xs11).length) c10, .int .i64 0]) (fun a w hf hh => Z.resv2 rfl (Z.rv_t hf rfl) (Z.rv_t hf rfl)) (⟨A9, c10, rfl, rfl, (A.hasl .i64 (0) rfl)⟩)

def F.R08_Check (a0 : D23) : Option Int := (F.R08_whole a0).bind fun r2 => (some r2.2.2)
theorem R08_Check_ok (a0 : D23) (A0_ : Option Addr) (c1_ : Nat) (r : Int) (hF : F.R08_Check a0 = some r) :
    A.Ct Tryd.prog 15 [.agg #[.slice A0_ ((a0).length) c1_]] [(0, .sh (.slice T39) [.slice A0_ (a0).length c1_] a0)] [] (fun v H' => v = .int .i64 r ∧ H' = [] ∧ IntKind.i64.has r) := by
  refine A.Ct.enter Tryd.func15 rfl Tryd.ntmps15 rfl fun w0 F0 => ?_
  rw [F.R08_Check] at hF
  refine A.AX.sr ?_
  refine A.AL.box 1 (cs := [.slice A0_ ((a0).length) c1_]) fun g1 => ?_
  refine A.AL.q [] [] [.n] [] [] [] trivial ?_
  refine A.AL.dn ?_
  refine A.AX.sr ?_
  refine A.AL.q [1] [] [.b 0 0] [7] [] [(7, .agg #[.slice A0_ ((a0).length) c1_])] trivial ?_
  obtain ⟨r2, hv3, hF⟩ := A.bd_some hF
  refine A.AL.call 2 [] (first := []) (cap := []) cf54 (R08_whole_ok a0 A0_ c1_ r2 hv3) (.s 0 .nil) ?_
  rintro _ _ ⟨A4, c5, A6, c7, rfl, rfl, hr8⟩
  refine ⟨by kernel_rfl, ?_⟩
  refine A.AL.q [] [] [.n, .n, .n, .n, .n, .n, .n] [5] [] [(5, .int .i64 r2.2.2)] trivial ?_
  refine A.AL.dn ?_
  refine A.AX.sr ?_
  refine A.AL.q [] [] [.n, .n] [2] [] [(2, .int .i64 r2.2.2)] trivial ?_
  refine A.AL.dn ?_
  obtain rfl := Option.some.inj hF
  exact A.AX.ret [] (.int .i64 r2.2.2) (fun a w hf hh => Z.resv1 rfl (Z.rv_t hf rfl)) (⟨rfl, rfl, hr8⟩)

def F.graph_Keyed (a0 : Int) : Option Bool := some (bif bif decide ((6 : Int) ≤ a0) then decide (a0 ≤ 11) else false then true else decide (a0 = 16))
theorem graph_Keyed_ok (a0 : Int) (h0_ : IntKind.i64.has a0) (r : Bool) (hF : F.graph_Keyed a0 = some r) :
    A.Ct Tryd.prog 19 [.int .i64 a0] [] [] (fun v H' => v = .bool r ∧ H' = []) := by
  refine A.Ct.enter Tryd.func19 rfl Tryd.ntmps19 rfl fun w0 F0 => ?_
  rw [F.graph_Keyed] at hF
  refine A.AX.sr ?_
  refine A.AL.q [] [] [.n] [] [] [] trivial ?_
  refine A.AL.dn ?_
  refine A.AX.sr ?_
  refine A.AL.q [] [] [.n, .n, .n, .sy .n, .sy .n, .pk, .n, .sy .n, .sy .n, .pk, .n] [2] [] [(2, .bool (bif bif decide ((6 : Int) ≤ a0) then decide (a0 ≤ 11) else false then true else decide (a0 = 16)))] trivial ?_
  refine A.AL.dn ?_
  obtain rfl := Option.some.inj hF
  exact A.AX.ret [] (.bool (bif bif decide ((6 : Int) ≤ a0) then decide (a0 ≤ 11) else false then true else decide (a0 = 16))) (fun a w hf hh => Z.resv1 rfl (Z.rv_t hf rfl)) (⟨rfl, rfl⟩)

def F.R08_Keyed (a0 : Int) : Option Bool := if a0 = 6 then (some true) else (some (bif bif decide ((7 : Int) ≤ a0) then decide (a0 ≤ 11) else false then true else decide (a0 = 16)))
theorem R08_Keyed_ok (a0 : Int) (h0_ : IntKind.i64.has a0) (r : Bool) (hF : F.R08_Keyed a0 = some r) :
    A.Ct Tryd.prog 20 [.int .i64 a0] [] [] (fun v H' => v = .bool r ∧ H' = []) := by
  refine A.Ct.enter Tryd.func20 rfl Tryd.ntmps20 rfl fun w0 F0 => ?_
  rw [F.R08_Keyed] at hF
  refine A.AX.sr ?_
  refine A.AL.q [] [] [.n] [] [] [] trivial ?_
  refine A.AL.dn ?_
  refine A.AX.sr ?_
  refine A.AL.q [] [] [.n, .n, .n] [5] [] [(5, .bool (decide (a0 = 6)))] trivial ?_
  refine A.AL.cnp (j := 5) rfl hF (fun hb hF => ?_) (fun hb hF => ?_)
  · refine A.AL.q [] [] [.off, .off, .off, .off, .off, .off, .n, .n, .off, .off, .n, .n] [2] [] [(2, .bool true)] trivial ?_
    refine A.AL.dn ?_
    obtain rfl := Option.some.inj hF
    exact A.AX.ret [] (.bool true) (fun a w hf hh => Z.resv1 rfl (Z.rv_t hf rfl)) (⟨rfl, rfl⟩)
  · refine A.AL.q [] [] [.on .n, .on .n, .on .n, .sy .n, .sy .n, .on .pk, .n, .n, .sy .n, .sy .n, .pk, .n] [2] [] [(2, .bool (bif bif decide ((7 : Int) ≤ a0) then decide (a0 ≤ 11) else false then true else decide (a0 = 16)))] trivial ?_
    refine A.AL.dn ?_
    obtain rfl := Option.some.inj hF
    exact A.AX.ret [] (.bool (bif bif decide ((7 : Int) ≤ a0) then decide (a0 ≤ 11) else false then true else decide (a0 = 16))) (fun a w hf hh => Z.resv1 rfl (Z.rv_t hf rfl)) (⟨rfl, rfl⟩)

def F.L08_GraphChecks_j1 (y15 : Bool) : Option Bool := some y15
def F.L08_GraphChecks_j2 (a0 : D23) (a1 : Int) (y2 : Bool) : Option Bool := if y2 = true then ((F.L08_begun).bind fun r3 => (some r3)) else ((F.graph_Order a0).bind fun r5 => ((F.R08_Order a0).bind fun r10 => ((F.graph_Check a0).bind fun r16 => ((F.R08_Check a0).bind fun r19 => (if r16 = r19 then ((F.slices_Equal_int_int r5.1 r10.1).bind fun r22 => (if (bif r22 then decide (r5.2 = r10.2) else false) = true then ((F.graph_Ins a1).bind fun r24 => ((F.R08_Ins a1).bind fun r27 => (if r24 = r27 then ((F.graph_Keyed a1).bind fun r30 => ((F.R08_Keyed a1).bind fun r32 => (F.L08_GraphChecks_j1 (r30 == r32)))) else (F.L08_GraphChecks_j1 false)))) else (F.L08_GraphChecks_j1 false))) else (F.L08_GraphChecks_j1 false))))))
def F.L08_GraphChecks (a0 : D23) (a1 : Int) : Option Bool := (F.L08_begun).bind fun r34 => (if (!r34) = true then (F.L08_GraphChecks_j2 a0 a1 true) else ((F.L08_few a0).bind fun r36 => (F.L08_GraphChecks_j2 a0 a1 (!r36))))
theorem L08_GraphChecks_ok (a0 : D23) (a1 : Int) (A0_ : Option Addr) (c1_ : Nat) (h2_ : IntKind.i64.has a1) (r : Bool) (hF : F.L08_GraphChecks a0 a1 = some r) :
    A.Ct Tryd.prog 3 [.agg #[.slice A0_ ((a0).length) c1_], .int .i64 a1] [(0, .sh (.slice T39) [.slice A0_ (a0).length c1_] a0), (1, .el none 0 0 A.tabF), (2, .el none 1 0 A.tabA)] [] (fun v H' => v = .bool r ∧ H' = []) := by
  refine A.Ct.enter Tryd.func3 rfl Tryd.ntmps3 rfl fun w0 F0 => ?_
  rw [F.L08_GraphChecks] at hF
  refine A.AX.sr ?_
  refine A.AL.box 3 (cs := [.slice A0_ ((a0).length) c1_]) fun g1 => ?_
  refine A.AL.q [] [] [.n] [] [] [] trivial ?_
  refine A.AL.dn ?_
  refine A.AX.seq ?_
  refine A.AX.join [1, 2] [0, 1, 2, 3] (fun nl nh => ∃ (y2 : Bool), nl = [(15, .bool y2)] ∧ nh = [] ∧ F.L08_GraphChecks_j2 a0 a1 y2 = some r) ?_ ?_
  · refine A.AX.reg ?_
    obtain ⟨r34, hv35, hF⟩ := A.bd_some hF
    refine A.AL.call 4 [] (first := []) (cap := []) cf10 (L08_begun_ok r34 hv35) (.s 1 (.s 2 .nil)) ?_
    rintro _ _ ⟨rfl, rfl⟩
    refine ⟨by kernel_rfl, ?_⟩
    refine A.AL.q [] [] [.n, .n] [11] [] [(11, .bool (!r34))] trivial ?_
    refine A.AL.cnd (j := 11) rfl hF (fun hF => ?_) (fun hF => ?_)
    · refine A.AL.q [] [] [.off, .off, .off, .n] [15] [] [(15, .bool true)] trivial ?_
      refine A.AL.done ?_
      exact A.AE.j [0, 1, 2, 3] [(15, .bool true)] [] ⟨true, rfl, rfl, hF⟩
    · refine A.AL.q [3] [] [.on (.b 0 0)] [12] [] [(12, .agg #[.slice A0_ ((a0).length) c1_])] trivial ?_
      refine A.AL.on (dj := 11) rfl rfl ?_
      obtain ⟨r36, hv37, hF⟩ := A.bd_some hF
      refine A.AL.call 44 [] (first := []) (cap := []) cf11 (L08_few_ok a0 A0_ c1_ r36 hv37) (.s 0 .nil) ?_
      rintro _ _ ⟨rfl, rfl⟩
      refine ⟨by kernel_rfl, ?_⟩
      refine A.AL.q [] [] [.on .n, .n] [15] [] [(15, .bool (!r36))] trivial ?_
      refine A.AL.done ?_
      exact A.AE.j [0, 1, 2, 3] [(15, .bool (!r36))] [] ⟨(!r36), rfl, rfl, hF⟩
  · rintro _ _ ⟨y2, rfl, rfl, hF⟩
    rw [F.L08_GraphChecks_j2] at hF
    refine A.AX.cnb rfl hF (fun hb hF => ?_) (fun hb hF => ?_)
    · refine A.AX.sr ?_
      obtain ⟨r3, hv4, hF⟩ := A.bd_some hF
      refine A.AL.call 84 [] (first := []) (cap := []) cf10 (L08_begun_ok r3 hv4) (.s 1 (.s 2 .nil)) ?_
      rintro _ _ ⟨rfl, rfl⟩
      refine ⟨by kernel_rfl, ?_⟩
      refine A.AL.q [] [] [.n] [4] [] [(4, .bool r3)] trivial ?_
      refine A.AL.dn ?_
      obtain rfl := Option.some.inj hF
      exact A.AX.ret [] (.bool r3) (fun a w hf hh => Z.resv1 rfl (Z.rv_t hf rfl)) (⟨rfl, rfl⟩)
    · refine A.AX.skip ?_
      refine A.AE.c ?_
      refine A.AX.sr ?_
      refine A.AL.q [3] [] [.b 0 0] [18] [] [(18, .agg #[.slice A0_ ((a0).length) c1_])] trivial ?_
      obtain ⟨r5, hv6, hF⟩ := A.bd_some hF
      refine A.AL.call 124 [] (first := []) (cap := []) cf12 (graph_Order_ok a0 A0_ c1_ r5 hv6) (.s 0 (.s 1 (.s 2 .nil))) ?_
      rintro _ _ ⟨A7, c8, rfl, rfl, hr9⟩
      refine ⟨by kernel_rfl, ?_⟩
      refine A.AL.q [] [] [.n, .n, .n, .n, .n] [5, 6] [] [(5, .slice A7 ((r5.1).length) c8), (6, .int .i64 r5.2)] trivial ?_
      refine A.AL.dn ?_
      refine A.AX.sr ?_
      refine A.AL.q [3] [] [.b 0 0] [23] [] [(23, .agg #[.slice A0_ ((a0).length) c1_])] trivial ?_
      obtain ⟨r10, hv11, hF⟩ := A.bd_some hF
      refine A.AL.call 164 [] (first := []) (cap := []) cf13 (R08_Order_ok a0 A0_ c1_ r10 hv11) (.s 0 .nil) ?_
      rintro _ _ ⟨A12, c13, rfl, rfl, hr14⟩
      refine ⟨by kernel_rfl, ?_⟩
      refine A.AL.q [] [] [.n, .n, .n, .n, .n] [7, 8] [] [(7, .slice A12 ((r10.1).length) c13), (8, .int .i64 r10.2)] trivial ?_
      refine A.AL.dn ?_
      refine A.AX.join [] [1, 2] (fun nl nh => ∃ (y15 : Bool), nl = [(4, .bool y15)] ∧ nh = [] ∧ F.L08_GraphChecks_j1 y15 = some r) ?_ ?_
      · refine A.AX.dr mixed 30 30 [false, false, false, false, false, false, false, false, false, false, false, false, false, false, false, false, false, false, false, false, false, false, false, false, false, false, false, false, false, false] ?_
        refine A.AH.q (A.pk_kont (Z.Pq.body _ _ _)) [] [0, 1, 2, 3, 124, 164] [3] [] [true, false, true, false, false, false, false, false, false, false, false, false, false, false, false, false, false, false, false, false, false, false, false, false, false, false, false, false, false, false] 28 [(0, .b 0 0), (2, .b 0 0)] [27, 29] [] [(27, .agg #[.slice A0_ ((a0).length) c1_]), (29, .agg #[.slice A0_ ((a0).length) c1_])] trivial ?_
        refine A.AH.one 1 ?_
        obtain ⟨r16, hv17, hF⟩ := A.bd_some hF
        refine A.AL.call 204 [] (first := []) (cap := []) cf14 (graph_Check_ok a0 A0_ c1_ r16 hv17) (.s 0 (.s 1 (.s 2 .nil))) ?_
        rintro _ _ ⟨rfl, rfl, hr18⟩
        refine ⟨by kernel_rfl, ?_⟩
        refine A.AH.nx [true, true, true, false, false, false, false, false, false, false, false, false, false, false, false, false, false, false, false, false, false, false, false, false, false, false, false, false, false, false] [0, 1, 2, 3, 124, 164] ?_
        refine A.AH.one 3 ?_
        obtain ⟨r19, hv20, hF⟩ := A.bd_some hF
        refine A.AL.call 244 [] (first := []) (cap := []) cf15 (R08_Check_ok a0 A0_ c1_ r19 hv20) (.s 0 .nil) ?_
        rintro _ _ ⟨rfl, rfl, hr21⟩
        refine ⟨by kernel_rfl, ?_⟩
        refine A.AH.nx [true, true, true, true, false, false, false, false, false, false, false, false, false, false, false, false, false, false, false, false, false, false, false, false, false, false, false, false, false, false] [0, 1, 2, 3, 124, 164] ?_
        refine A.AH.q (A.pk_kont (Z.Pq.body _ _ _)) [0, 1, 2, 3, 124, 164] [0, 1, 2, 3, 124, 164] [] [] [true, true, true, true, true, true, false, false, false, false, false, false, false, false, false, false, false, false, false, false, false, false, false, false, false, false, false, false, false, false] 24 [(4, .n), (5, .n)] [32] [] [(32, .bool (decide (r16 = r19)))] trivial ?_
        refine A.AH.cnp (j := 32) rfl hF (fun hb hF => ?_) (fun hb hF => ?_)
        · refine A.AH.q (A.pk_kont (Z.Pq.body _ _ _)) [0, 1, 2, 3, 124, 164] [0, 1, 2, 3, 124, 164] [] [] [true, true, true, true, true, true, true, true, false, false, false, false, false, false, false, false, false, false, false, false, false, false, false, false, false, false, false, false, false, false] 22 [(6, .on .n), (7, .on .n)] [33, 34] [] [(33, .slice A7 ((r5.1).length) c8), (34, .slice A12 ((r10.1).length) c13)] trivial ?_
          refine A.AH.one 8 ?_
          refine A.AL.on (dj := 32) rfl rfl ?_
          obtain ⟨r22, hv23, hF⟩ := A.bd_some hF
          refine A.AL.call 284 [] (first := []) (cap := []) cf16 (slices_Equal_int_int_ok r5.1 r10.1 A7 c8 A12 c13 r22 hv23) (.o 124 (.o 164 .nil)) ?_
          rintro _ _ ⟨rfl, rfl⟩
          refine ⟨by kernel_rfl, ?_⟩
          refine A.AH.nx [true, true, true, true, true, true, true, true, true, false, false, false, false, false, false, false, false, false, false, false, false, false, false, false, false, false, false, false, false, false] [0, 1, 2, 3, 124, 164] ?_
          refine A.AH.q (A.pk_kont (Z.Pq.body _ _ _)) [0, 1, 2, 3, 124, 164] [0, 1, 2, 3, 124, 164] [] [] [true, true, true, true, true, true, true, true, true, true, true, true, true, true, true, true, false, false, false, false, false, false, false, false, false, false, false, false, false, false] 14 [(9, .n), (10, .n), (11, .sy .n), (12, .sy .n), (13, .sy .n), (14, .pk), (15, .n)] [42] [] [(42, .bool (bif r22 then decide (r5.2 = r10.2) else false))] trivial ?_
          refine A.AH.cnd (j := 42) rfl hF (fun hF => ?_) (fun hF => ?_)
          · refine A.AH.q (A.pk_kont (Z.Pq.body _ _ _)) [0, 1, 2, 3, 124, 164] [0, 1, 2, 3, 124, 164] [] [] [true, true, true, true, true, true, true, true, true, true, true, true, true, true, true, true, true, false, true, false, false, false, false, false, false, false, false, false, false, false] 12 [(16, .on .n), (18, .on .n)] [43, 45] [] [(43, .int .i64 a1), (45, .int .i64 a1)] trivial ?_
            refine A.AH.one 17 ?_
            refine A.AL.on (dj := 42) rfl rfl ?_
            obtain ⟨r24, hv25, hF⟩ := A.bd_some hF
            refine A.AL.call 324 [] (first := []) (cap := []) cf17 (graph_Ins_ok a1 h2_ r24 hv25) .nil ?_
            rintro _ _ ⟨rfl, rfl, hr26⟩
            refine ⟨by kernel_rfl, ?_⟩
            refine A.AH.nx [true, true, true, true, true, true, true, true, true, true, true, true, true, true, true, true, true, true, true, false, false, false, false, false, false, false, false, false, false, false] [0, 1, 2, 3, 124, 164] ?_
            refine A.AH.one 19 ?_
            refine A.AL.on (dj := 42) rfl rfl ?_
            obtain ⟨r27, hv28, hF⟩ := A.bd_some hF
            refine A.AL.call 364 [] (first := []) (cap := []) cf18 (R08_Ins_ok a1 h2_ r27 hv28) .nil ?_
            rintro _ _ ⟨rfl, rfl, hr29⟩
            refine ⟨by kernel_rfl, ?_⟩
            refine A.AH.nx [true, true, true, true, true, true, true, true, true, true, true, true, true, true, true, true, true, true, true, true, false, false, false, false, false, false, false, false, false, false] [0, 1, 2, 3, 124, 164] ?_
            refine A.AH.q (A.pk_kont (Z.Pq.body _ _ _)) [0, 1, 2, 3, 124, 164] [0, 1, 2, 3, 124, 164] [] [] [true, true, true, true, true, true, true, true, true, true, true, true, true, true, true, true, true, true, true, true, true, true, true, false, false, false, false, false, false, false] 7 [(20, .on .n), (21, .n), (22, .n)] [49] [] [(49, .bool (decide (r24 = r27)))] trivial ?_
            refine A.AH.cnp (j := 49) rfl hF (fun hb hF => ?_) (fun hb hF => ?_)
            · refine A.AH.q (A.pk_kont (Z.Pq.body _ _ _)) [0, 1, 2, 3, 124, 164] [0, 1, 2, 3, 124, 164] [] [] [true, true, true, true, true, true, true, true, true, true, true, true, true, true, true, true, true, true, true, true, true, true, true, true, false, true, false, false, false, false] 5 [(23, .on .n), (25, .on .n)] [50, 52] [] [(50, .int .i64 a1), (52, .int .i64 a1)] trivial ?_
              refine A.AH.one 24 ?_
              refine A.AL.on (dj := 49) rfl rfl ?_
              obtain ⟨r30, hv31, hF⟩ := A.bd_some hF
              refine A.AL.call 404 [] (first := []) (cap := []) cf19 (graph_Keyed_ok a1 h2_ r30 hv31) .nil ?_
              rintro _ _ ⟨rfl, rfl⟩
              refine ⟨by kernel_rfl, ?_⟩
              refine A.AH.nx [true, true, true, true, true, true, true, true, true, true, true, true, true, true, true, true, true, true, true, true, true, true, true, true, true, true, false, false, false, false] [0, 1, 2, 3, 124, 164] ?_
              refine A.AH.one 26 ?_
              refine A.AL.on (dj := 49) rfl rfl ?_
              obtain ⟨r32, hv33, hF⟩ := A.bd_some hF
              refine A.AL.call 444 [] (first := []) (cap := []) cf20 (R08_Keyed_ok a1 h2_ r32 hv33) .nil ?_
              rintro _ _ ⟨rfl, rfl⟩
              refine ⟨by kernel_rfl, ?_⟩
              refine A.AH.nx [true, true, true, true, true, true, true, true, true, true, true, true, true, true, true, true, true, true, true, true, true, true, true, true, true, true, true, false, false, false] [0, 1, 2, 3, 124, 164] ?_
              refine A.AH.q (A.pk_kont (Z.Pq.body _ _ _)) [0, 1, 2, 3, 124, 164] [0, 1, 2, 3, 124, 164] [] [] [true, true, true, true, true, true, true, true, true, true, true, true, true, true, true, true, true, true, true, true, true, true, true, true, true, true, true, true, true, true] 0 [(27, .on .n), (28, .n), (29, .n)] [4] [] [(4, .bool (r30 == r32))] trivial ?_
              refine A.AH.done ?_
              exact A.AE.j [1, 2] [(4, .bool (r30 == r32))] [] ⟨(r30 == r32), rfl, rfl, hF⟩
            · refine A.AH.q (A.pk_kont (Z.Pq.body _ _ _)) [0, 1, 2, 3, 124, 164] [0, 1, 2, 3, 124, 164] [] [] [true, true, true, true, true, true, true, true, true, true, true, true, true, true, true, true, true, true, true, true, true, true, true, true, true, true, true, true, true, true] 0 [(23, .off), (25, .off), (24, .off), (26, .off), (27, .off), (28, .n), (29, .n)] [4] [] [(4, .bool false)] trivial ?_
              refine A.AH.done ?_
              exact A.AE.j [1, 2] [(4, .bool false)] [] ⟨false, rfl, rfl, hF⟩
          · refine A.AH.q (A.pk_kont (Z.Pq.body _ _ _)) [0, 1, 2, 3, 124, 164] [0, 1, 2, 3, 124, 164] [] [] [true, true, true, true, true, true, true, true, true, true, true, true, true, true, true, true, true, true, true, true, true, true, true, true, true, true, true, true, true, true] 0 [(16, .off), (18, .off), (17, .off), (19, .off), (20, .off), (21, .n), (22, .n), (23, .off), (25, .off), (24, .off), (26, .off), (27, .off), (28, .n), (29, .n)] [4] [] [(4, .bool false)] trivial ?_
            refine A.AH.done ?_
            exact A.AE.j [1, 2] [(4, .bool false)] [] ⟨false, rfl, rfl, hF⟩
        · refine A.AH.q (A.pk_kont (Z.Pq.body _ _ _)) [0, 1, 2, 3, 124, 164] [0, 1, 2, 3, 124, 164] [] [] [true, true, true, true, true, true, true, true, true, true, true, true, true, true, true, true, true, true, true, true, true, true, true, true, true, true, true, true, true, true] 0 [(6, .off), (7, .off), (8, .off), (9, .n), (10, .n), (11, .off), (12, .off), (13, .off), (14, .n), (15, .n), (16, .off), (18, .off), (17, .off), (19, .off), (20, .off), (21, .n), (22, .n), (23, .off), (25, .off), (24, .off), (26, .off), (27, .off), (28, .n), (29, .n)] [4] [] [(4, .bool false)] trivial ?_
          refine A.AH.done ?_
          exact A.AE.j [1, 2] [(4, .bool false)] [] ⟨false, rfl, rfl, hF⟩
      · rintro _ _ ⟨y15, rfl, rfl, hF⟩
        rw [F.L08_GraphChecks_j1] at hF
        obtain rfl := Option.some.inj hF
        exact A.AX.ret [] (.bool y15) (fun a w hf hh => Z.resv1 rfl (Z.rv_t hf rfl)) (⟨rfl, rfl⟩)
end Go.Proofs.YtleiipbkfaajfaaDoor
end

section
set_option linter.unusedVariables false
namespace Go.A
open Go.RowKit Go.Z Go.Shelf Go.Proofs Go.Lib
def Hall (W : World) : List (Nat × Res) → Prop
  | [] => True
  | p :: H => (p.2.bl = [] ∧ p.2.ref = none ∧ p.2.holds W (fun _ => True) (fun _ _ => False)) ∧ Hall W H
theorem Hall.at {W : World} : ∀ {H : List (Nat × Res)} {k : Nat} {r : Res}, Hall W H → hk H k = some r → r.bl = [] ∧ r.ref = none ∧ r.holds W (fun _ => True) (fun _ _ => False)
  | [], _, _, _, h => by cases h
  | (d, u) :: H, k, r, ha, h => by
    rw [hk_cons] at h
    split at h
    · injection h with h; subst h; exact ha.1
    · exact ha.2.at h
theorem Hp.start {W : World} {H : List (Nat × Res)} (h : Hall W H) : Hp ⟨0, [], W, [], fun _ => True⟩ H W := by
  have hb : ∀ k b, ¬ Bk H k b := fun k b ⟨r, h1, h2⟩ => by rw [(h.at h1).1] at h2; cases h2
  refine ⟨Ch.refl W, fun k r hk => ?_, fun k b hB => (hb k b hB).elim, fun k k' b hB => (hb k b hB).elim, fun k r j hk hr => ?_⟩
  · exact Res.to (S := []) (h.at hk).2.2 (Ch.refl W) (fun b _ _ => ⟨by simp, fun k => hb k b, .inl trivial⟩) (fun b _ _ => ⟨by simp, fun k => hb k b⟩) (fun i b _ hf => hf.elim) (by simp)
  · rw [(h.at hk).2.1] at hr; cases hr
theorem Hall.sh {W : World} {t : Ty} {cs : List Value} {x : t.den} {F : Nat → Prop} (h : t.rep W F cs x) : (Res.sh t cs x).bl = [] ∧ (Res.sh t cs x).ref = none ∧ (Res.sh t cs x).holds W (fun _ => True) (fun _ _ => False) :=
  ⟨rfl, rfl, rep_as h fun _ _ _ => trivial⟩
theorem Hall.ln {W : World} {t : Ty} {A : Option Addr} {c n : Nat} {xs : List t.den} {F : Nat → Prop} (h : (Ty.slice t).rep W F [.slice A xs.length c] xs) : (Res.ln t A c xs).bl = [] ∧ (Res.ln t A c xs).ref = none ∧ (Res.ln t A c xs).holds W (fun _ => True) (fun _ _ => False) :=
  ⟨rfl, rfl, Row.to (S := []) (Row.of h) (Ch.refl W) (fun _ _ _ => ⟨by simp, trivial⟩) (fun _ _ _ => ⟨by simp, fun _ h => h⟩)⟩
def putCells (cs : List Value) : Obj → Obj
  | .cells _ t frozen => .cells cs.toArray t frozen
  | o => o
theorem tab_cells {w : World} {g3 g4 : Nat} (h : Lib.Utf8Tabs g3 g4 w) : Cells w ⟨g3, 0, none⟩ tabF ∧ Cells w ⟨g4, 0, none⟩ tabA := by
  constructor
  · intro j u hu
    rw [Addr.add_lit, Nat.zero_add]
    have hj : j < 256 := by have := (List.getElem?_eq_some_iff.1 hu).1; simpa [tabF] using this
    have e : tabF[j]? = some (.int .u8 (firstT j)) := by simp [tabF, hj]
    rw [e] at hu; injection hu with hu; subst hu
    exact h.1 j hj
  · intro j u hu
    rw [Addr.add_lit, Nat.zero_add]
    have hj : j < 32 := by have := (List.getElem?_eq_some_iff.1 hu).1; simpa [tabA] using this
    have e : tabA[j]? = some (.int .u8 (if j % 2 = 0 then accLo (j / 2) else accHi (j / 2))) := by simp [tabA, hj]
    rw [e] at hu; injection hu with hu; subst hu
    have := h.2 (j / 2) (by omega)
    by_cases he : j % 2 = 0
    · rw [if_pos he]
      have hj2 : j = 2 * (j / 2) := by omega
      rw [hj2]; simpa using this.1
    · rw [if_neg he]
      have hj2 : j = 2 * (j / 2) + 1 := by omega
      have h3 : (2 * (j / 2) + 1) / 2 = j / 2 := by omega
      rw [hj2, h3]; exact this.2
theorem Hall.tabs {w : World} {g3 g4 i j : Nat} (h : Lib.Utf8Tabs g3 g4 w) : Hall w [(i, .el none g3 0 tabF), (j, .el none g4 0 tabA)] := by
  obtain ⟨h1, h2⟩ := tab_cells h
  exact ⟨⟨rfl, rfl, h1, World.block_lt_of_cell? w _ (h1 0 (.int .u8 (firstT 0)) (by simp [tabF])), fun _ h => h⟩, ⟨rfl, rfl, h2, World.block_lt_of_cell? w _ (h2 0 (.int .u8 (accLo 0)) (by simp [tabA])), fun _ h => h⟩, trivial⟩
end Go.A
end

section
namespace Go.Graph

abbrev Fun := Int × Int × ByteArray
abbrev Nd := Int × Int × List Int × Fun × ByteArray × Int × Int
abbrev Pl := Int × Int
abbrev Sp := Pl × Int
abbrev id (x : Nd) : Int := x.1
abbrev kind (x : Nd) : Int := x.2.1
abbrev fn (x : Nd) : Fun := x.2.2.2.1
abbrev name (x : Nd) : ByteArray := x.2.2.2.2.1
abbrev cap (x : Nd) : Int := x.2.2.2.2.2.1
abbrev dep (x : Nd) : Int := x.2.2.2.2.2.2

def Few (g : List Nd) : Prop := g.length ≤ 40 ∧ ∀ x, x ∈ g → x.2.2.1.length ≤ 5000 ∧ x.2.2.2.2.1.size ≤ 5000 ∧ x.2.2.2.1.2.2.size ≤ 5000
theorem Few.in {g : List Nd} {k : Nat} {x : Nd} (h : Few g) (hx : g[k]? = some x) : x.2.2.1.length ≤ 5000 := (h.2 x (List.mem_of_getElem? hx)).1
/-! ### kinds -/
def insK (k : Int) : Int := if k < 1 ∨ 16 < k then -1 else if k = 1 then 0 else if k = 5 ∨ k = 9 then 2 else 1
/-! ### names -/
def letter (c : UInt8) : Bool := decide ((97 : Int) ≤ (c.toNat : Int) ∧ (c.toNat : Int) ≤ 122 ∨ (65 : Int) ≤ (c.toNat : Int) ∧ (c.toNat : Int) ≤ 90)
def digit (c : UInt8) : Bool := decide ((48 : Int) ≤ (c.toNat : Int) ∧ (c.toNat : Int) ≤ 57)
def wordy (l : List UInt8) : Bool := l.all fun c => letter c || digit c
def named (s : ByteArray) : Bool := decide (s ≠ ByteArray.mk #[]) && decide ((s.size : Int) ≤ 16) && letter (Z.bat s 0) && wordy s.data.toList
theorem drop_bat {s : ByteArray} {i : Nat} (h : i < s.size) : s.data.toList.drop i = Z.bat s i :: s.data.toList.drop (i + 1) := by
  have h' : i < s.data.toList.length := by simpa using h
  rw [List.drop_eq_getElem_cons h']
  have h2 : i < s.data.size := h
  congr 1
  simp [Z.bat, Array.getElem?_eq_getElem h2]
theorem drop_end {s : ByteArray} {i : Nat} (h : ¬ i < s.size) : s.data.toList.drop i = [] :=
  List.drop_eq_nil_of_le (by have h1 : s.data.toList.length = s.size := rfl; omega)
theorem size_pos {s : ByteArray} (h : s ≠ ByteArray.mk #[]) : 0 < s.size := by
  rcases Nat.eq_zero_or_pos s.size with h0 | h0
  · exact absurd (by have h1 : s.data = #[] := Array.eq_empty_of_size_eq_zero h0
                     cases s; simp_all) h
  · exact h0
/-! ### the reference -/
def idxF (id : Int) : Nat → List Nd → Int
  | _, [] => -1
  | k, x :: r => if x.1 = id then (k : Int) else idxF id (k + 1) r
def idx (g : List Nd) (id : Int) : Int := idxF id 0 g
def namedF (kd : Int) (s : ByteArray) : List Nd → Int × Bool
  | [] => (0, false)
  | x :: r => if kind x = kd ∧ name x = s then (x.1, true) else namedF kd s r
def z0 : Nd := (0, 0, [], (0, 0, ByteArray.mk #[]), ByteArray.mk #[], 0, 0)
def at_ (g : List Nd) (i : Int) : Nd := (g[i.toNat]?).getD z0
def find (g : List Nd) (id : Int) : Nd × Bool := if idx g id < 0 then (z0, false) else (at_ g (idx g id), true)
theorem idxF_le (id : Int) : ∀ (k : Nat) (g : List Nd), -1 ≤ idxF id k g ∧ idxF id k g < k + g.length
  | k, [] => by simp [idxF]; omega
  | k, x :: r => by
    unfold idxF
    have := idxF_le id (k + 1) r
    by_cases h : x.1 = id
    · rw [if_pos h]; simp only [List.length_cons]; omega
    · rw [if_neg h]; simp only [List.length_cons]; omega
theorem idx_le (g : List Nd) (id : Int) : -1 ≤ idx g id ∧ idx g id < g.length := by
  have := idxF_le id 0 g
  unfold idx; omega
theorem at_some {g : List Nd} {i : Int} {x : Nd} {k : Nat} (hk : i = (k : Int)) (h : g[k]? = some x) : at_ g i = x := by
  subst hk; simp [at_, h]
def ownT (g : List Nd) (n : Nd) : Bool := if n.2.1 ≠ 1 ∧ n.2.1 ≠ 15 then decide (n.2.2.2.2.1 = ByteArray.mk #[]) else named n.2.2.2.2.1 && decide ((namedF n.2.1 n.2.2.2.2.1 g).1 = n.1)
def ownC (n : Nd) : Prop := n.2.1 = 14 ∧ (n.2.2.2.2.2.1 < 1 ∨ 8 < n.2.2.2.2.2.1 ∨ n.2.2.2.2.2.2 < 1 ∨ 4 < n.2.2.2.2.2.2) ∨ n.2.1 ≠ 14 ∧ (n.2.2.2.2.2.1 ≠ 0 ∨ n.2.2.2.2.2.2 ≠ 0)
instance (n : Nd) : Decidable (ownC n) := by unfold ownC; infer_instance
def own (g : List Nd) (i : Int) (n : Nd) : Bool :=
  if n.1 < 1 ∨ 255 < n.1 ∨ 0 < i ∧ n.1 ≤ (at_ g (i - 1)).1 ∨ insK n.2.1 < 0 ∨ (n.2.2.1.length : Int) ≠ insK n.2.1 then false else if ownC n then false else ownT g n
/-! ### the reference: order and depths -/
def bget (l : List Bool) (i : Int) : Bool := (l[i.toNat]?).getD false
def iget (l : List Int) (i : Int) : Int := (l[i.toNat]?).getD 0
def Fed (g : List Nd) : Prop := ∀ x, x ∈ g → ∀ k, k ∈ x.2.2.1 → 0 ≤ idx g k
def readyF (g : List Nd) (done : List Bool) (kd : Int) : List Int → Bool
  | [] => true
  | k :: r => if kd ≠ 14 ∧ bget done (idx g k) = false then false else readyF g done kd r
def ready (g : List Nd) (done : List Bool) (n : Nd) : Bool := readyF g done n.2.1 n.2.2.1
def firstF (g : List Nd) (done : List Bool) : Nat → List Nd → Int → Int
  | _, [], a => a
  | i, x :: r, a => firstF g done (i + 1) r (if (a < 0 ∧ bget done i = false) ∧ ready g done x = true then i else a)
def orderF (g : List Nd) : Nat → List Bool → List Int → Option (List Int)
  | 0, _, l => some l
  | f + 1, done, l => if firstF g done 0 g (-1) < 0 then none else orderF g f (done.set (firstF g done 0 g (-1)).toNat true) (l ++ [firstF g done 0 g (-1)])
def d0 : List Int → Int
  | [] => 0
  | a :: _ => a
def capd (d : Int) : Int := if 4 < d then -1 else d
def depthA (n : Nd) (l : List Int) : Int := if n.2.1 = 14 then n.2.2.2.2.2.2 else if n.2.1 = 12 then d0 l + 1 else if n.2.1 = 13 then d0 l - 1 else
  if n.2.1 = 5 ∨ n.2.1 = 9 then (if iget l 0 ≠ iget l 1 then -1 else d0 l) else if n.2.1 = 11 ∨ n.2.1 = 16 ∨ n.2.1 = 15 then (if d0 l ≠ 0 then -1 else d0 l) else d0 l
def depthOf (n : Nd) (l : List Int) : Int := capd (depthA n l)
theorem d0_iget {l : List Int} : iget l 0 = d0 l := by cases l <;> rfl
theorem d0_nil {l : List Int} (h : l.length = 0) : 0 = d0 l := by cases l with
  | nil => rfl
  | cons a r => simp at h
def depthsF (g : List Nd) : List Int → List Int → Option (List Int)
  | [], d => some d
  | p :: r, d => if depthOf (at_ g p) ((at_ g p).2.2.1.map fun k => iget d (idx g k)) < 0 then none else depthsF g r (d.set p.toNat (depthOf (at_ g p) ((at_ g p).2.2.1.map fun k => iget d (idx g k))))
def loopsF (g : List Nd) (d : List Int) : List Nd → Bool
  | [] => true
  | x :: r => if x.2.1 = 14 ∧ iget d (idx g (iget x.2.2.1 0)) ≠ x.2.2.2.2.2.2 then false else loopsF g d r
theorem firstF_le (g : List Nd) (done : List Bool) : ∀ (i : Nat) (l : List Nd) (a : Int), -1 ≤ a → a < i + l.length → -1 ≤ firstF g done i l a ∧ firstF g done i l a < i + l.length
  | i, [], a, h1, h2 => by simp [firstF] at *; omega
  | i, x :: r, a, h1, h2 => by
    unfold firstF
    simp only [List.length_cons] at h2 ⊢
    have := firstF_le g done (i + 1) r (if (a < 0 ∧ bget done i = false) ∧ ready g done x = true then i else a) (by split <;> omega) (by split <;> omega)
    omega
def depths (g : List Nd) (l : List Int) : List Int × Bool := match depthsF g l (List.replicate g.length 0) with
  | some d => if loopsF g d g then (d, true) else ([], false)
  | none => ([], false)
abbrev inD (g : List Nd) (d : List Int) (l : List Int) : List Int := l.map fun k => iget d (idx g k)
def InB (d : List Int) : Prop := ∀ i, 0 ≤ iget d i ∧ iget d i ≤ 4
theorem InB.rep (n : Nat) : InB (List.replicate n 0) := fun i => by
  unfold iget; rw [List.getElem?_replicate]; split <;> simp
theorem depthOf_le (n : Nd) (l : List Int) : depthOf n l ≤ 4 := by unfold depthOf capd; split <;> omega
theorem InB.set {d : List Int} (h : InB d) (p : Nat) {v : Int} (h0 : 0 ≤ v) (h1 : v ≤ 4) : InB (d.set p v) := fun i => by
  unfold iget; rw [List.getElem?_set]
  have := h i
  unfold iget at this
  split
  · split <;> simp <;> omega
  · exact this
theorem InB.d0 {d : List Int} (h : InB d) (g : List Nd) (l : List Int) : -1 ≤ Graph.d0 (inD g d l) ∧ Graph.d0 (inD g d l) ≤ 4 := by
  cases l with
  | nil => simp [Graph.d0]
  | cons k r => have := h (idx g k); simp only [inD, List.map_cons, Graph.d0]; omega
theorem inD_take {g : List Nd} {d l : List Int} {k : Nat} {x : Int} (h : l[k]? = some x) : inD g d (l.take k) ++ [iget d (idx g x)] = inD g d (l.take (k + 1)) := by
  have h1 := (List.getElem?_eq_some_iff.1 h)
  rw [List.take_add_one, h]; simp [inD]
/-! ### the reference: places -/
def insS (g : List Nd) (d : List Int) (id : Int) : Nat → List Int → List Sp
  | _, [] => []
  | k, x :: r => ((id, (k : Int)), iget d (idx g x)) :: insS g d id (k + 1) r
def outS (n : Nd) (v : Int) : List Sp := if n.2.1 ≠ 15 then [((n.1, 2), v)] else []
def spotsF (g : List Nd) (d : List Int) : Nat → List Nd → List Sp
  | _, [] => []
  | i, n :: r => insS g d n.1 0 n.2.2.1 ++ (outS n (iget d i) ++ spotsF g d (i + 1) r)
def spots (g : List Nd) (d : List Int) : List Sp := spotsF g d 0 g
/-! ### the reference: whether places are among some -/
def atS (p : Pl) : List Sp → Int
  | [] => -1
  | x :: r => if x.1 = p then x.2 else atS p r
/-! ### summaries -/
abbrev Sm := Int × Int × Int × Int × (Int × Int × Int × Int)
def z8 : Sm := (0, 0, 0, 0, (0, 0, 0, 0))
def stepP (d a b : Int) (s : Sm) : Sm × Int := if d < a ∨ b < d then (z8, 11) else ((d, s.2), 0)
def idP (d : Int) : Sm × Int := stepP d 0 4 (0, d, 0, 0, (0, 0, 0, 0))
def enterP (d : Int) : Sm × Int := stepP d 0 3 (0, d, 0, 1, (0, 0, 0, 0))
def leaveP (d : Int) : Sm × Int := stepP d 1 4 (0, d - 1, 0, 0, (0, 0, 0, 0))
def nextP (d : Int) : Sm × Int := stepP d 1 4 (0, d, 1, 0, (0, 0, 0, 0))
def withinP (n : Nd) (d : Int) : Sm := if n.2.1 = 12 then (enterP d).1 else if n.2.1 = 13 then (leaveP d).1 else if n.2.1 = 14 then (nextP d).1 else (idP d).1
/-! ### names, rune by rune -/
theorem width_pos (s : ByteArray) (pos : Nat) : 1 ≤ (Utf8.decode s pos).2 := by
  unfold Utf8.decode; simp only []; repeat' split
  all_goals first | exact Nat.le_refl 1 | (simp; done) | omega
/-! ### functions of nodes -/
def numberF (f : Fun) : Bool := if f.1 = 3 ∨ f.1 = 13 then decide (0 ≤ f.2.1 ∧ f.2.1 ≤ 64) else if f.1 = 6 ∨ f.1 = 11 then decide (1 ≤ f.2.1 ∧ f.2.1 ≤ 1048576) else decide (f.2.1 = 0)
def tail5 (c : UInt8) : Bool := decide (128 ≤ (c.toNat : Int) ∧ (c.toNat : Int) ≤ 191)
/-! ### runes, by the reference -/
end Go.Graph
end

section
set_option linter.unusedVariables false
set_option linter.unusedSimpArgs false
namespace Go.A
open Go.Z
theorem r64n {n : Nat} (h : n < 4611686018427387904) : R64 ((n : Int) + 1) := ⟨by omega, by omega⟩
theorem gd1 {α : Type} {p : Prop} [Decidable p] (h : p) (x : Option α) : gd p x = x := if_pos h
theorem ixn {α : Type} {xs : List α} {k : Nat} {x : α} (h : xs[k]? = some x) : ix xs (k : Int) = some x := by rw [ix_nat]; exact h
theorem ixg {α : Type} {xs : List α} {i : Int} {x : α} (h0 : 0 ≤ i) (h : xs[i.toNat]? = some x) : ix xs i = some x := by unfold ix; rw [if_neg (by omega)]; exact h
theorem dropx {α : Type} {xs : List α} {k : Nat} {x : α} (h : xs[k]? = some x) : xs.drop k = x :: xs.drop (k + 1) := by
  obtain ⟨h1, h2⟩ := List.getElem?_eq_some_iff.1 h
  rw [List.drop_eq_getElem_cons h1, h2]
theorem ba {p q : Prop} [Decidable p] [Decidable q] : (bif decide p then decide q else false) = decide (p ∧ q) := by by_cases h : p <;> simp [h]
theorem bo {p q : Prop} [Decidable p] [Decidable q] : (bif decide p then true else decide q) = decide (p ∨ q) := by by_cases h : p <;> simp [h]
theorem bn {p : Prop} [Decidable p] : (!decide p) = decide (¬ p) := by by_cases h : p <;> simp [h]
/-- rounds over a row -/
theorem lp {α σ ρ : Type} (xs : List α) (L : Nat → σ → Int → Option ρ) (G : Nat → List α → σ → Option ρ) (P : Nat → σ → Prop)
    (h0 : ∀ f s, P xs.length s → L (f + 1) s (xs.length : Int) = G xs.length [] s)
    (h1 : ∀ f s (k : Nat) x, xs[k]? = some x → k < xs.length → P k s → (∀ s', P (k + 1) s' → L f s' ((k : Int) + 1) = G (k + 1) (xs.drop (k + 1)) s') → L (f + 1) s k = G k (x :: xs.drop (k + 1)) s)
    (hl : xs.length < FU) (s : σ) (hs : P 0 s) : L FU s 0 = G 0 xs s := by
  have main : ∀ (n k f : Nat) (s : σ), k + n = xs.length → n < f → P k s → L f s (k : Int) = G k (xs.drop k) s := by
    intro n
    induction n with
    | zero =>
      intro k f s hk hf hp
      obtain ⟨f, rfl⟩ : ∃ f', f = f' + 1 := ⟨f - 1, by omega⟩
      obtain rfl : k = xs.length := by omega
      rw [List.drop_eq_nil_of_le (Nat.le_refl _)]; exact h0 f s hp
    | succ n ih =>
      intro k f s hk hf hp
      obtain ⟨f, rfl⟩ : ∃ f', f = f' + 1 := ⟨f - 1, by omega⟩
      have hx : xs[k]? = some xs[k] := List.getElem?_eq_getElem (by omega)
      rw [dropx hx]
      exact h1 f s k _ hx (by omega) hp fun s' hp' => ih (k + 1) f s' (by omega) (by omega) hp'
  have := main xs.length 0 FU s (by omega) hl hs
  simpa using this
/-- the same, with the index alone -/
theorem lp0 {α ρ : Type} (xs : List α) (L : Nat → Int → Option ρ) (G : Nat → List α → Option ρ)
    (h0 : ∀ f, L (f + 1) (xs.length : Int) = G xs.length [])
    (h1 : ∀ f (k : Nat) x, xs[k]? = some x → k < xs.length → L f ((k : Int) + 1) = G (k + 1) (xs.drop (k + 1)) → L (f + 1) k = G k (x :: xs.drop (k + 1)))
    (hl : xs.length < FU) : L FU 0 = G 0 xs :=
  lp xs (fun f (_ : Unit) y => L f y) (fun k l _ => G k l) (fun _ _ => True) (fun f s _ => h0 f) (fun f s k x hx hk _ ih => h1 f k x hx hk (ih () trivial)) hl () trivial
end Go.A
namespace Go.Proofs.YtleiipbkfaajfaaDoor
open Go.RowKit Go.Graph
theorem FU_big : (1000000000000 : Nat) < A.FU := by decide
theorem Ins_eq (k : Int) : F.graph_Ins k = F.R08_Ins k := rfl
theorem R08_Ins_eq (k : Int) : F.R08_Ins k = some (insK k) := by
  unfold F.R08_Ins insK
  simp only [Bool.cond_decide]
  by_cases h1 : k < 1 <;> by_cases h2 : 16 < k <;> simp [h1, h2]
  by_cases h3 : k = 1
  · simp [h3]
  · by_cases h4 : k = 5 <;> by_cases h5 : k = 9 <;> simp [h3, h4, h5]
theorem Keyed_eq (k : Int) : F.graph_Keyed k = F.R08_Keyed k := by
  unfold F.graph_Keyed F.R08_Keyed
  congr 1
  by_cases h1 : 6 ≤ k <;> by_cases h2 : k ≤ 11 <;> by_cases h3 : k = 16 <;> by_cases h4 : k = 6 <;> by_cases h5 : 7 ≤ k <;> simp [h1, h2, h3, h4, h5] <;> omega
/-! ### few -/
def fewF (s : Int) : List Nd → Int
  | [] => s
  | x :: r => fewF (min (s + min (x.2.2.1.length : Int) 1048576 + min (x.2.2.2.2.1.size : Int) 1048576 + min (x.2.2.2.1.2.2.size : Int) 1048576) 1048576) r
theorem fewF_mono : ∀ (l : List Nd) (s : Int), 0 ≤ s → s ≤ 1048576 → s ≤ fewF s l
  | [], s, _, _ => Int.le_refl s
  | x :: r, s, h, h2 => by
    unfold fewF
    have := fewF_mono r (min (s + min (x.2.2.1.length : Int) 1048576 + min (x.2.2.2.2.1.size : Int) 1048576 + min (x.2.2.2.1.2.2.size : Int) 1048576) 1048576) (by omega) (by omega)
    omega
theorem fewF_le : ∀ (l : List Nd) (s : Int), 0 ≤ s → s ≤ 1048576 → fewF s l ≤ 5000 → ∀ x ∈ l, x.2.2.1.length ≤ 5000 ∧ x.2.2.2.2.1.size ≤ 5000 ∧ x.2.2.2.1.2.2.size ≤ 5000
  | [], _, _, _, _, x, hx => by cases hx
  | y :: r, s, h, h2, h3, x, hx => by
    unfold fewF at h3
    have h4 := fewF_mono r (min (s + min (y.2.2.1.length : Int) 1048576 + min (y.2.2.2.2.1.size : Int) 1048576 + min (y.2.2.2.1.2.2.size : Int) 1048576) 1048576) (by omega) (by omega)
    rcases List.mem_cons.1 hx with rfl | hx
    · omega
    · exact fewF_le r _ (by omega) (by omega) h3 x hx
theorem few_eq (g : List Nd) : ∃ b, F.L08_few g = some b ∧ (b = true → Few g) := by
  unfold F.L08_few
  rw [A.gd1 (by omega)]
  have hlen : (List.take (min (g.length : Int) 99).toNat g).length ≤ 99 := by rw [List.length_take]; omega
  have := A.lp (List.take (min (g.length : Int) 99).toNat g) (fun f s y => F.L08_few_l1 g f s y) (fun _ l s => some (bif decide ((g.length : Int) ≤ 40) then decide (fewF s l ≤ 5000) else false)) (fun _ s => 0 ≤ s ∧ s ≤ 1048576)
    (fun f s _ => by rw [F.L08_few_l1, if_neg (by omega)]; rfl)
    (fun f s k x hx hk hp ih => by
      rw [F.L08_few_l1, if_pos (by omega), A.ixn hx, Option.bind_some, A.gd1 ⟨⟨by omega, by omega⟩, ⟨by omega, by omega⟩, ⟨by omega, by omega⟩⟩, A.gd1 (A.r64n (by omega)), ih _ (by omega)]
      rfl)
    (by have := FU_big; omega) 0 (by omega)
  rw [this]
  refine ⟨_, rfl, fun hb => ?_⟩
  by_cases h1 : (g.length : Int) ≤ 40
  · simp only [h1, decide_true, cond_true, decide_eq_true_eq] at hb
    have e : List.take (min (g.length : Int) 99).toNat g = g := List.take_of_length_le (by omega)
    rw [e] at hb
    exact ⟨by omega, fewF_le g 0 (by omega) (by omega) hb⟩
  · simp [h1] at hb
/-! ### names -/
theorem ixb {s : ByteArray} {k : Nat} (h : k < s.size) : A.ix s.data.toList (k : Int) = some (Z.bat s k) := by
  refine A.ixn ?_
  have := drop_bat h
  rw [← List.head?_drop, this]; rfl
theorem size_list (s : ByteArray) : s.data.toList.length = s.size := rfl
theorem letter_eq (c : UInt8) : F.R08_letter c = some (letter c) := by
  unfold F.R08_letter letter
  by_cases h1 : (97 : Int) ≤ (c.toNat : Int) <;> by_cases h2 : (c.toNat : Int) ≤ 122 <;> simp [h1, h2]
theorem digit_eq (c : UInt8) : F.R08_digit c = some (digit c) := by
  unfold F.R08_digit digit
  by_cases h1 : (48 : Int) ≤ (c.toNat : Int) <;> by_cases h2 : (c.toNat : Int) ≤ 57 <;> simp [h1, h2]
theorem name_eq (s : ByteArray) (hs : s.size ≤ 5000) : F.R08_name s = some (named s) := by
  have loop : F.R08_name_l2 s A.FU 0 = some (wordy s.data.toList) := A.lp0 s.data.toList (fun f y => F.R08_name_l2 s f y) (fun _ l => some (wordy l))
    (fun f => by rw [F.R08_name_l2, if_neg (by rw [size_list]; omega)]; rfl)
    (fun f k x hx hk ih => by
      have hk' : k < s.size := hk
      rw [F.R08_name_l2, if_pos (by omega), A.ixn hx, Option.bind_some, letter_eq, Option.bind_some]
      cases hl : letter x with
      | true =>
        simp only [Bool.not_true, Bool.false_eq_true, if_false, F.R08_name_j1]
        rw [A.gd1 (A.r64n (by omega)), ih]; simp [wordy, hl]
      | false =>
        simp only [Bool.not_false, if_true, A.ixn hx, Option.bind_some, digit_eq, F.R08_name_j1]
        cases hd : digit x with
        | true => simp only [Bool.not_true, Bool.false_eq_true, if_false]; rw [A.gd1 (A.r64n (by omega)), ih]; simp [wordy, hl, hd]
        | false => simp [wordy, hl, hd])
    (by rw [size_list]; have := FU_big; omega)
  unfold F.R08_name named
  by_cases h1 : s = ByteArray.mk #[]
  · simp [h1, F.R08_name_j3]
  · by_cases h2 : (16 : Int) < (s.size : Int)
    · have h2' : ¬ (s.size : Int) ≤ 16 := by omega
      simp [h1, h2, h2', F.R08_name_j3]
    · have h2' : (s.size : Int) ≤ 16 := by omega
      have h0 := size_pos h1
      have e0 : A.ix s.data.toList 0 = some (Z.bat s 0) := ixb h0
      simp only [h1, h2, h2', decide_false, cond_false, Bool.false_eq_true, if_false, e0, Option.bind_some, letter_eq, F.R08_name_j3, loop, decide_true, ne_eq, not_false_eq_true, Bool.and_true, Bool.true_and]
      cases letter (Z.bat s 0) <;> simp
end Go.Proofs.YtleiipbkfaajfaaDoor
end

section
set_option linter.unusedVariables false
set_option linter.unusedSimpArgs false
namespace Go.Proofs.YtleiipbkfaajfaaDoor
open Go.RowKit Go.Graph
theorem bat_get (s : ByteArray) (i : Nat) : (s.get! i) = Z.bat s i := by
  cases s; simp [ByteArray.get!, Z.bat, getElem!_def, Option.getD]
  rfl
theorem dec_at (s : ByteArray) (i : Nat) : Utf8.decode s i = Lib.decodeN (s.size - i) (Z.bat s i).toNat (Z.bat s (i + 1)).toNat (Z.bat s (i + 2)).toNat (Z.bat s (i + 3)).toNat := by
  rw [Lib.decode_at, bat_get, bat_get, bat_get, bat_get]
theorem dec_lt {s : ByteArray} {i : Nat} (h : (Z.bat s i).toNat < 128) : Utf8.decode s i = ((Z.bat s i).toNat, 1) := by
  rw [dec_at]; unfold Lib.decodeN; rw [if_pos h]
theorem dec_ge {s : ByteArray} {i : Nat} (h : 128 ≤ (Z.bat s i).toNat) : 128 ≤ (Utf8.decode s i).1 := by
  rw [dec_at]; unfold Lib.decodeN; rw [if_neg (by omega)]
  repeat' split
  all_goals first | (simp only []; omega) | decide
theorem named_eq (s : ByteArray) (hs : s.size ≤ 5000) : F.graph_named s = some (named s) := by
  have loop : ∀ (n p f : Nat), s.size - p ≤ n → n < f → F.graph_named_l1 s f p = some ((if p = 0 ∧ 0 < s.size then letter (Z.bat s 0) else true) && wordy (s.data.toList.drop p) && (decide (s ≠ ByteArray.mk #[]) && decide ((s.size : Int) ≤ 16))) := by
    intro n
    induction n with
    | zero =>
      intro p f hp hf
      obtain ⟨f, rfl⟩ : ∃ f', f = f' + 1 := ⟨f - 1, by omega⟩
      rw [F.graph_named_l1, if_neg (by omega), drop_end (by omega), if_neg (by omega)]
      by_cases h1 : s = ByteArray.mk #[] <;> simp [h1, wordy]
    | succ n ih =>
      intro p f hp hf
      obtain ⟨f, rfl⟩ : ∃ f', f = f' + 1 := ⟨f - 1, by omega⟩
      by_cases hp2 : p < s.size
      · rw [F.graph_named_l1, if_pos hp2, drop_bat hp2]
        rcases Nat.lt_or_ge (Z.bat s p).toNat 128 with hc | hc
        · rw [dec_lt hc]
          have ih1 := ih (p + 1) f (by omega) (by omega)
          rw [if_neg (fun h => by omega)] at ih1
          simp only [ih1]
          have e1 : (bif decide ((97 : Int) ≤ ((Z.bat s p).toNat : Int)) then decide (((Z.bat s p).toNat : Int) ≤ 122) else false) = decide ((97 : Int) ≤ ((Z.bat s p).toNat : Int) ∧ ((Z.bat s p).toNat : Int) ≤ 122) := by by_cases h : (97 : Int) ≤ ((Z.bat s p).toNat : Int) <;> simp [h]
          have e2 : (bif decide ((65 : Int) ≤ ((Z.bat s p).toNat : Int)) then decide (((Z.bat s p).toNat : Int) ≤ 90) else false) = decide ((65 : Int) ≤ ((Z.bat s p).toNat : Int) ∧ ((Z.bat s p).toNat : Int) ≤ 90) := by by_cases h : (65 : Int) ≤ ((Z.bat s p).toNat : Int) <;> simp [h]
          rw [e1, e2]
          by_cases hL : letter (Z.bat s p) = true
          · have hL' := hL
            simp only [letter, decide_eq_true_eq] at hL'
            have e3 : (if p = 0 ∧ 0 < s.size then letter (Z.bat s 0) else true) = true := by split; rename_i h; rw [← h.1]; exact hL; rfl
            rw [e3]
            simp only [wordy, List.all_cons, hL, Bool.true_or, Bool.true_and]
            by_cases h1 : (97 : Int) ≤ ((Z.bat s p).toNat : Int) ∧ ((Z.bat s p).toNat : Int) ≤ 122
            · simp [h1]
            · have h2 := hL'.resolve_left h1
              simp [h1, h2]
          · have hL' := hL
            simp only [letter, decide_eq_true_eq, not_or] at hL'
            rw [Bool.not_eq_true] at hL
            simp only [hL'.1, hL'.2, decide_false, Bool.false_eq_true, if_false, Bool.not_false, if_true]
            simp only [wordy, List.all_cons, hL, Bool.false_or]
            by_cases h0 : p = 0
            · subst h0; simp [hp2, hL]
            · have h0' : ¬ (p : Int) = 0 := by omega
              simp only [h0, h0', decide_false, cond_false, false_and, if_false, Bool.true_and]
              by_cases hd : digit (Z.bat s p) = true
              · have hd' := hd
                simp only [digit, decide_eq_true_eq] at hd'
                have a1 : ¬ ((Z.bat s p).toNat : Int) < 48 := by omega
                have a2 : ¬ (57 : Int) < ((Z.bat s p).toNat : Int) := by omega
                simp [a1, a2, hd]
              · have hd' := hd
                simp only [digit, decide_eq_true_eq] at hd'
                rw [Bool.not_eq_true] at hd
                by_cases a1 : ((Z.bat s p).toNat : Int) < 48
                · simp [a1, hd]
                · have a2 : (57 : Int) < ((Z.bat s p).toNat : Int) := by omega
                  simp [a1, a2, hd]
        · have hd := dec_ge hc
          have hL : letter (Z.bat s p) = false := by unfold letter; rw [decide_eq_false_iff_not]; omega
          have hD : digit (Z.bat s p) = false := by unfold digit; rw [decide_eq_false_iff_not]; omega
          have b1 : ¬ ((Utf8.decode s p).1 : Int) ≤ 122 := by omega
          have b2 : ¬ ((Utf8.decode s p).1 : Int) ≤ 90 := by omega
          have b3 : (57 : Int) < ((Utf8.decode s p).1 : Int) := by omega
          have b4 : ¬ ((Utf8.decode s p).1 : Int) < 48 := by omega
          simp [b1, b2, b3, b4, wordy, hL, hD]
      · rw [F.graph_named_l1, if_neg hp2, drop_end hp2, if_neg (by omega)]
        by_cases h1 : s = ByteArray.mk #[] <;> simp [h1, wordy]
  unfold F.graph_named
  rw [loop s.size 0 A.FU (by omega) (by have := FU_big; omega)]
  unfold named
  by_cases h1 : s = ByteArray.mk #[]
  · simp [h1]
  · have h0 := size_pos h1
    simp only [h0, and_self, if_true, List.drop_zero, ne_eq, h1, not_false_eq_true, decide_true, Bool.true_and]
    congr 1
    cases letter (Z.bat s 0) <;> cases wordy s.data.toList <;> simp
end Go.Proofs.YtleiipbkfaajfaaDoor
end

section
set_option linter.unusedVariables false
set_option linter.unusedSimpArgs false
namespace Go.Proofs.YtleiipbkfaajfaaDoor
open Go.RowKit Go.Graph
theorem tail_eq (c : UInt8) : F.R05_tail c = some (tail5 c) := by
  unfold F.R05_tail tail5
  by_cases h1 : (128 : Int) ≤ (c.toNat : Int) <;> by_cases h2 : (c.toNat : Int) ≤ 191 <;> simp [h1, h2]
theorem ixk (s : ByteArray) (p k : Nat) : A.ix s.data.toList ((p : Int) + (k : Int)) = if p + k < s.size then some (Z.bat s (p + k)) else none := by
  have e : (p : Int) + (k : Int) = ((p + k : Nat) : Int) := by omega
  rw [e]
  by_cases h : p + k < s.size
  · rw [if_pos h]; exact ixb h
  · rw [if_neg h, A.ix_nat]; exact List.getElem?_eq_none (by rw [size_list]; omega)
/-- the width of what begins at p; 0: nothing does -/
def wid (s : ByteArray) (p : Nat) : Nat := if Utf8.decode s p = (65533, 1) then 0 else (Utf8.decode s p).2
theorem wid_le {s : ByteArray} {p : Nat} (h : p < s.size) : p + wid s p ≤ s.size := by
  unfold wid
  split
  · omega
  · rw [dec_at]
    unfold Lib.decodeN
    repeat' split
    all_goals simp only []
    all_goals omega
/-- a width, by four bytes and by how many there are -/
def widN (n a b c d : Nat) : Nat :=
  if a < 128 then 1
  else if (194 ≤ a ∧ a ≤ 223) ∧ 2 ≤ n ∧ (128 ≤ b ∧ b ≤ 191) then 2
  else if (224 ≤ a ∧ a ≤ 239) ∧ 3 ≤ n ∧ (128 ≤ b ∧ b ≤ 191) ∧ (128 ≤ c ∧ c ≤ 191) ∧ ¬ (a = 224 ∧ b < 160) ∧ ¬ (a = 237 ∧ 159 < b) then 3
  else if (240 ≤ a ∧ a ≤ 244) ∧ 4 ≤ n ∧ (128 ≤ b ∧ b ≤ 191) ∧ (128 ≤ c ∧ c ≤ 191) ∧ (128 ≤ d ∧ d ≤ 191) ∧ ¬ (a = 240 ∧ b < 144) ∧ ¬ (a = 244 ∧ 143 < b) then 4
  else 0
theorem pq (c : Prop) [Decidable c] (x w : Nat) (hw : w ≠ 1) : (if (if c then (x, w) else (65533, 1)) = (65533, 1) then 0 else (if c then (x, w) else (65533, 1)).2) = if c then w else 0 := by
  by_cases h : c <;> simp [h, hw]
theorem widN_eq (n a b c d : Nat) (ha : a < 256) (hb : b < 256) (hc : c < 256) (hd : d < 256) : (if Lib.decodeN n a b c d = (65533, 1) then 0 else (Lib.decodeN n a b c d).2) = widN n a b c d := by
  unfold Lib.decodeN widN
  by_cases h0 : a < 128
  · simp only [h0, if_true, Prod.mk.injEq]; rw [if_neg (by omega)]
  · simp only [h0, if_false]
    by_cases h1 : a / 32 = 6 ∧ 1 < n ∧ b / 64 = 2
    · simp only [if_pos h1]
      rw [pq _ _ _ (by decide)]
      repeat' split
      all_goals omega
    · simp only [if_neg h1]
      by_cases h3 : a / 16 = 14 ∧ (1 < n ∧ b / 64 = 2) ∧ 2 < n ∧ c / 64 = 2
      · simp only [if_pos h3]
        rw [pq _ _ _ (by decide)]
        repeat' split
        all_goals omega
      · simp only [if_neg h3]
        by_cases h5 : a / 8 = 30 ∧ (1 < n ∧ b / 64 = 2) ∧ (2 < n ∧ c / 64 = 2) ∧ 3 < n ∧ d / 64 = 2
        · simp only [if_pos h5]
          rw [pq _ _ _ (by decide)]
          repeat' split
          all_goals omega
        · simp only [if_neg h5, if_true]
          repeat' split
          all_goals omega
theorem wid_N (s : ByteArray) (p : Nat) : wid s p = widN (s.size - p) (Z.bat s p).toNat (Z.bat s (p + 1)).toNat (Z.bat s (p + 2)).toNat (Z.bat s (p + 3)).toNat := by
  rw [← widN_eq _ _ _ _ _ (UInt8.toNat_lt _) (UInt8.toNat_lt _) (UInt8.toNat_lt _) (UInt8.toNat_lt _), ← dec_at]; rfl
theorem cnd {α : Type} {p : Prop} [Decidable p] (x y : α) : (bif decide p then x else y) = if p then x else y := by by_cases h : p <;> simp [h]
set_option maxHeartbeats 4000000 in
theorem width_eq (s : ByteArray) (p : Nat) (hp : p < s.size) (hs : s.size ≤ 5000) : F.R05_width s p = some (wid s p : Int) := by
  have i1 : A.ix s.data.toList ((p : Int) + 1) = if p + 1 < s.size then some (Z.bat s (p + 1)) else none := ixk s p 1
  have i2 : A.ix s.data.toList ((p : Int) + 2) = if p + 2 < s.size then some (Z.bat s (p + 2)) else none := ixk s p 2
  have i3 : A.ix s.data.toList ((p : Int) + 3) = if p + 3 < s.size then some (Z.bat s (p + 3)) else none := ixk s p 3
  have r1 : Z.R64 ((p : Int) + 1) := ⟨by omega, by omega⟩
  have r2 : Z.R64 ((p : Int) + 2) := ⟨by omega, by omega⟩
  have r3 : Z.R64 ((p : Int) + 3) := ⟨by omega, by omega⟩
  unfold F.R05_width
  rw [A.gd1 ⟨by omega, by omega⟩, ixb hp, Option.bind_some, A.gd1 r1, i1, wid_N]
  generalize Z.bat s p = c0 at *
  generalize Z.bat s (p + 1) = c1 at *
  generalize Z.bat s (p + 2) = c2 at *
  generalize Z.bat s (p + 3) = c3 at *
  have t (c : UInt8) : tail5 c = decide (128 ≤ c.toNat ∧ c.toNat ≤ 191) := by unfold tail5; congr 1; exact propext ⟨fun h => by omega, fun h => by omega⟩
  by_cases h1 : (1 : Int) < (s.size : Int) - (p : Int)
  · rw [if_pos h1, if_pos (by omega), Option.bind_some]
    simp only [F.R05_width_j4, F.R05_width_j3, F.R05_width_j2, F.R05_width_j1, tail_eq, Option.bind_some, t, A.gd1 r2, A.gd1 r3, i2, i3]
    unfold widN
    generalize hn : s.size - p = n
    have e2 : ((2 : Int) ≤ (s.size : Int) - (p : Int)) = (2 ≤ n) := propext ⟨fun h => by omega, fun h => by omega⟩
    have e3 : ((3 : Int) ≤ (s.size : Int) - (p : Int)) = (3 ≤ n) := propext ⟨fun h => by omega, fun h => by omega⟩
    have e4 : ((4 : Int) ≤ (s.size : Int) - (p : Int)) = (4 ≤ n) := propext ⟨fun h => by omega, fun h => by omega⟩
    have f2 : (p + 2 < s.size) = (3 ≤ n) := propext ⟨fun h => by omega, fun h => by omega⟩
    have f3 : (p + 3 < s.size) = (4 ≤ n) := propext ⟨fun h => by omega, fun h => by omega⟩
    have hn2 : 2 ≤ n := by omega
    simp only [e2, e3, e4, f2, f3, A.ba, decide_eq_true_eq, hn2, and_true, true_and]
    have q0 : ((c0.toNat : Int) < 128) = (c0.toNat < 128) := propext ⟨fun h => by omega, fun h => by omega⟩
    have q1 : ((194 : Int) ≤ (c0.toNat : Int) ∧ (c0.toNat : Int) ≤ 223) = (194 ≤ c0.toNat ∧ c0.toNat ≤ 223) := propext ⟨fun h => by omega, fun h => by omega⟩
    have q2 : ((224 : Int) ≤ (c0.toNat : Int) ∧ (c0.toNat : Int) ≤ 239) = (224 ≤ c0.toNat ∧ c0.toNat ≤ 239) := propext ⟨fun h => by omega, fun h => by omega⟩
    have q3 : ((240 : Int) ≤ (c0.toNat : Int) ∧ (c0.toNat : Int) ≤ 244) = (240 ≤ c0.toNat ∧ c0.toNat ≤ 244) := propext ⟨fun h => by omega, fun h => by omega⟩
    have q4 : ((c0.toNat : Int) = 224 ∧ (c1.toNat : Int) < 160) = (c0.toNat = 224 ∧ c1.toNat < 160) := propext ⟨fun h => by omega, fun h => by omega⟩
    have q5 : ((c0.toNat : Int) = 237 ∧ (159 : Int) < (c1.toNat : Int)) = (c0.toNat = 237 ∧ 159 < c1.toNat) := propext ⟨fun h => by omega, fun h => by omega⟩
    have q6 : ((c0.toNat : Int) = 240 ∧ (c1.toNat : Int) < 144) = (c0.toNat = 240 ∧ c1.toNat < 144) := propext ⟨fun h => by omega, fun h => by omega⟩
    have q7 : ((c0.toNat : Int) = 244 ∧ (143 : Int) < (c1.toNat : Int)) = (c0.toNat = 244 ∧ 143 < c1.toNat) := propext ⟨fun h => by omega, fun h => by omega⟩
    simp only [q0, q1, q2, q3, q4, q5, q6, q7]
    have x1 : 240 ≤ c0.toNat ∧ c0.toNat ≤ 244 → ¬ (224 ≤ c0.toNat ∧ c0.toNat ≤ 239) := fun h h2 => by omega
    have x2 : 240 ≤ c0.toNat ∧ c0.toNat ≤ 244 → ¬ (194 ≤ c0.toNat ∧ c0.toNat ≤ 223) := fun h h2 => by omega
    have x3 : 224 ≤ c0.toNat ∧ c0.toNat ≤ 239 → ¬ (194 ≤ c0.toNat ∧ c0.toNat ≤ 223) := fun h h2 => by omega
    by_cases K0 : c0.toNat < 128
    · simp [K0]
    by_cases m1 : 128 ≤ c1.toNat ∧ c1.toNat ≤ 191
    · by_cases K1 : 194 ≤ c0.toNat ∧ c0.toNat ≤ 223
      · simp only [if_neg K0, if_pos K1, if_pos m1, K1, m1, and_self, if_true]; rfl
      · by_cases K2 : 224 ≤ c0.toNat ∧ c0.toNat ≤ 239
        · have K3 : ¬ (240 ≤ c0.toNat ∧ c0.toNat ≤ 244) := fun h => x1 h K2
          by_cases k3 : 3 ≤ n
          · by_cases m2 : 128 ≤ c2.toNat ∧ c2.toNat ≤ 191
            · by_cases y1 : c0.toNat = 224 ∧ c1.toNat < 160
              · simp only [if_neg K0, if_neg K1, if_pos (And.intro K2 k3), if_pos m1, if_pos k3, Option.bind_some, if_pos m2, eq_true y1, if_true, false_and, K1, K3, eq_true y1, not_true_eq_false, and_false, if_false]; rfl
              · by_cases y2 : c0.toNat = 237 ∧ 159 < c1.toNat
                · simp only [if_neg K0, if_neg K1, if_pos (And.intro K2 k3), if_pos m1, if_pos k3, Option.bind_some, if_pos m2, if_neg y1, eq_true y2, if_true, false_and, K1, K3, eq_true y2, not_true_eq_false, and_false, if_false]; rfl
                · simp only [if_neg K0, if_neg K1, if_pos (And.intro K2 k3), if_pos m1, if_pos k3, Option.bind_some, if_pos m2, if_neg y1, if_neg y2, false_and, K1, K2, k3, m1, m2, y1, y2, not_false_eq_true, and_self, if_true, if_false]; rfl
            · simp only [if_neg K0, if_neg K1, if_pos (And.intro K2 k3), if_pos m1, if_pos k3, Option.bind_some, if_neg m2, if_neg K3, false_and, K1, K3, m2, and_false, if_false, Bool.false_eq_true]; rfl
          · simp only [if_neg K0, if_neg K1, k3, and_false, if_neg K3, false_and, K1, K3, if_false]; rfl
        · by_cases K3 : 240 ≤ c0.toNat ∧ c0.toNat ≤ 244
          · by_cases k4 : 4 ≤ n
            · have k3 : 3 ≤ n := by omega
              by_cases m2 : 128 ≤ c2.toNat ∧ c2.toNat ≤ 191
              · by_cases m3 : 128 ≤ c3.toNat ∧ c3.toNat ≤ 191
                · by_cases y1 : c0.toNat = 240 ∧ c1.toNat < 144
                  · simp only [if_neg K0, if_neg K1, if_neg K2, K2, false_and, if_pos (And.intro K3 k4), if_pos m1, if_pos k3, if_pos k4, Option.bind_some, if_pos m2, if_pos m3, eq_true y1, if_true, K1, eq_true y1, not_true_eq_false, and_false, if_false]; rfl
                  · by_cases y2 : c0.toNat = 244 ∧ 143 < c1.toNat
                    · simp only [if_neg K0, if_neg K1, if_neg K2, K2, false_and, if_pos (And.intro K3 k4), if_pos m1, if_pos k3, if_pos k4, Option.bind_some, if_pos m2, if_pos m3, if_neg y1, eq_true y2, if_true, K1, eq_true y2, not_true_eq_false, and_false, if_false]; rfl
                    · simp only [if_neg K0, if_neg K1, if_neg K2, K2, false_and, if_pos (And.intro K3 k4), if_pos m1, if_pos k3, if_pos k4, Option.bind_some, if_pos m2, if_pos m3, if_neg y1, if_neg y2, K1, K3, k4, m1, m2, m3, y1, y2, not_false_eq_true, and_self, if_true, if_false]; rfl
                · simp only [if_neg K0, if_neg K1, if_neg K2, K2, false_and, if_pos (And.intro K3 k4), if_pos m1, if_pos k3, if_pos k4, Option.bind_some, if_pos m2, if_neg m3, K1, m3, and_false, if_false, Bool.false_eq_true]; rfl
              · simp only [if_neg K0, if_neg K1, if_neg K2, K2, false_and, if_pos (And.intro K3 k4), if_pos m1, if_pos k3, Option.bind_some, if_neg m2, K1, m2, and_false, if_false, Bool.false_eq_true]; rfl
            · simp only [if_neg K0, if_neg K1, if_neg K2, K2, false_and, k4, and_false, K1, if_false]; rfl
          · simp only [if_neg K0, if_neg K1, if_neg K2, if_neg K3, K1, K2, K3, false_and, if_false]; rfl
    · simp [K0, m1]
  · rw [if_neg h1]
    simp only [F.R05_width_j4, F.R05_width_j3, F.R05_width_j2, F.R05_width_j1, A.ba, decide_eq_true_eq]
    unfold widN
    have w0 : (c0.toNat : Int) < 128 ↔ c0.toNat < 128 := ⟨fun h => by omega, fun h => by omega⟩
    by_cases h2 : c0.toNat < 128
    · rw [if_pos (w0.2 h2), if_pos h2]; rfl
    · have a1 : ¬ ((194 ≤ c0.toNat ∧ c0.toNat ≤ 223) ∧ 2 ≤ s.size - p ∧ 128 ≤ c1.toNat ∧ c1.toNat ≤ 191) := fun h => by omega
      have a2 : ¬ ((224 ≤ c0.toNat ∧ c0.toNat ≤ 239) ∧ 3 ≤ s.size - p ∧ (128 ≤ c1.toNat ∧ c1.toNat ≤ 191) ∧ (128 ≤ c2.toNat ∧ c2.toNat ≤ 191) ∧ ¬ (c0.toNat = 224 ∧ c1.toNat < 160) ∧ ¬ (c0.toNat = 237 ∧ 159 < c1.toNat)) := fun h => by omega
      have a3 : ¬ ((240 ≤ c0.toNat ∧ c0.toNat ≤ 244) ∧ 4 ≤ s.size - p ∧ (128 ≤ c1.toNat ∧ c1.toNat ≤ 191) ∧ (128 ≤ c2.toNat ∧ c2.toNat ≤ 191) ∧ (128 ≤ c3.toNat ∧ c3.toNat ≤ 191) ∧ ¬ (c0.toNat = 240 ∧ c1.toNat < 144) ∧ ¬ (c0.toNat = 244 ∧ 143 < c1.toNat)) := fun h => by omega
      rw [if_neg (fun h => h2 (w0.1 h)), if_neg h2, if_neg a1, if_neg a2, if_neg a3]
      simp only [Bool.false_eq_true, if_false]
      rw [if_neg (fun h => by omega), if_neg (fun h => by omega), if_neg (fun h => by omega)]; rfl
/-! ### whether bytes are runes, and how many -/
def vld (s : ByteArray) : Nat → Nat → Bool
  | 0, _ => true
  | n + 1, p => if p < s.size then (if wid s p = 0 then false else vld s n (p + wid s p)) else true
def cnt (s : ByteArray) : Nat → Nat → Nat
  | 0, _ => 0
  | n + 1, p => if p < s.size then 1 + cnt s n (p + (Utf8.decode s p).2) else 0
theorem wid_4 (s : ByteArray) (p : Nat) : wid s p ≤ 4 := by
  rw [wid_N]; unfold widN; repeat' split
  all_goals omega
theorem wid_dec {s : ByteArray} {p : Nat} (h : wid s p ≠ 0) : (Utf8.decode s p).2 = wid s p := by
  unfold wid at h ⊢; split at h
  · exact absurd rfl h
  · rename_i h2; rw [if_neg h2]
theorem Valid_eq (s : ByteArray) (hs : s.size ≤ 5000) : F.R05_Valid s = some (vld s s.size 0) := by
  have loop : ∀ (n p f : Nat), s.size - p ≤ n → n < f → p ≤ 5010 → F.R05_Valid_l1 s f (p : Int) = some (vld s n p) := by
    intro n
    induction n with
    | zero =>
      intro p f hp hf _
      obtain ⟨f, rfl⟩ : ∃ f', f = f' + 1 := ⟨f - 1, by omega⟩
      rw [F.R05_Valid_l1, if_neg (by omega)]; rfl
    | succ n ih =>
      intro p f hp hf hp5
      obtain ⟨f, rfl⟩ : ∃ f', f = f' + 1 := ⟨f - 1, by omega⟩
      rw [F.R05_Valid_l1, vld]
      by_cases h : p < s.size
      · rw [if_pos (by omega), if_pos h, width_eq s p h hs, Option.bind_some]
        have := wid_le h
        by_cases hw : wid s p = 0
        · rw [if_pos (by omega), if_pos hw]
        · rw [if_neg (by omega), if_neg hw, A.gd1 ⟨by omega, by omega⟩]
          have e : (p : Int) + (wid s p : Int) = ((p + wid s p : Nat) : Int) := by omega
          rw [e]; exact ih _ f (by omega) (by omega) (by omega)
      · rw [if_neg (by omega), if_neg h]
  exact loop s.size 0 A.FU (by omega) (by have := FU_big; omega) (by omega)
theorem validD_eq (s : ByteArray) : Lib.validD s.data.toList = vld s s.size 0 := by
  have loop : ∀ (n p : Nat), Lib.validGoD n (s.data.toList.drop p) = vld s n p := by
    intro n
    induction n with
    | zero => intro p; rfl
    | succ n ih =>
      intro p
      rw [Lib.validGoD, vld]
      by_cases h : p < s.size
      · have hne : s.data.toList.drop p ≠ [] := by rw [drop_bat h]; simp
        rw [if_neg hne, if_pos h, Lib.decodeL_drop, List.drop_drop]
        by_cases hw : Utf8.decode s p = (65533, 1)
        · rw [if_pos (by rw [hw]; exact ⟨rfl, rfl⟩), if_pos (by unfold wid; rw [if_pos hw])]
        · have e : wid s p = (Utf8.decode s p).2 := by unfold wid; rw [if_neg hw]
          rw [if_neg (fun h2 => hw (Prod.ext h2.1 h2.2)), if_neg (by rw [e]; have := width_pos s p; omega), ih, e]
      · rw [if_pos (drop_end h), if_neg h]
  have := loop s.size 0
  rw [List.drop_zero] at this
  exact this
theorem Runes_eq (s : ByteArray) (hs : s.size ≤ 5000) (hv : vld s s.size 0 = true) : ∃ l, F.R05_Runes s = some l ∧ l.length = cnt s s.size 0 := by
  have loop : ∀ (n p f : Nat) (xs : List D165), s.size - p ≤ n → n < f → xs.length ≤ p → p ≤ 5010 → vld s n p = true → ∃ l, F.R05_Runes_l2 s f xs (p : Int) = some l ∧ l.length = xs.length + cnt s n p := by
    intro n
    induction n with
    | zero =>
      intro p f xs hp hf _ _ _
      obtain ⟨f, rfl⟩ : ∃ f', f = f' + 1 := ⟨f - 1, by omega⟩
      rw [F.R05_Runes_l2, if_neg (by omega)]; exact ⟨_, rfl, rfl⟩
    | succ n ih =>
      intro p f xs hp hf hxs hp5 hv
      obtain ⟨f, rfl⟩ : ∃ f', f = f' + 1 := ⟨f - 1, by omega⟩
      rw [F.R05_Runes_l2]
      rw [vld] at hv
      rw [cnt]
      by_cases h : p < s.size
      · rw [if_pos h] at hv
        have hl := wid_le h
        have h4 := wid_4 s p
        by_cases hw : wid s p = 0
        · rw [if_pos hw] at hv; cases hv
        rw [if_neg hw] at hv
        have hj : ∀ (w c : Int), w = (wid s p : Int) → ∃ l, F.R05_Runes_j1 (F.R05_Runes_l2 s f) xs (p : Int) w c = some l ∧ l.length = xs.length + (1 + cnt s n (p + (Utf8.decode s p).2)) := fun w c hwc => by
          subst hwc
          rw [F.R05_Runes_j1, A.gd1 (by simp only [List.length_cons, List.length_nil]; omega), A.gd1 ⟨by omega, by omega⟩, wid_dec hw]
          have e : (p : Int) + (wid s p : Int) = ((p + wid s p : Nat) : Int) := by omega
          rw [e]
          obtain ⟨l, h1, h2⟩ := ih (p + wid s p) f (xs ++ [((p : Int), c)]) (by omega) (by omega) (by simp only [List.length_append, List.length_cons, List.length_nil]; omega) (by omega) hv
          exact ⟨l, h1, by rw [h2, List.length_append]; simp only [List.length_cons, List.length_nil]; omega⟩
        have i0 := ixb (s := s) h
        have i1 : A.ix s.data.toList ((p : Int) + 1) = if p + 1 < s.size then some (Z.bat s (p + 1)) else none := ixk s p 1
        have i2 : A.ix s.data.toList ((p : Int) + 2) = if p + 2 < s.size then some (Z.bat s (p + 2)) else none := ixk s p 2
        have i3 : A.ix s.data.toList ((p : Int) + 3) = if p + 3 < s.size then some (Z.bat s (p + 3)) else none := ixk s p 3
        have r1 : Z.R64 ((p : Int) + 1) := ⟨by omega, by omega⟩
        have r2 : Z.R64 ((p : Int) + 2) := ⟨by omega, by omega⟩
        have r3 : Z.R64 ((p : Int) + 3) := ⟨by omega, by omega⟩
        rw [if_pos (by omega), if_pos h, width_eq s p h hs, Option.bind_some]
        by_cases w1 : wid s p = 1
        · rw [if_pos (by omega), i0, Option.bind_some]; exact hj _ _ rfl
        rw [if_neg (by omega)]
        by_cases w2 : wid s p = 2
        · rw [if_pos (by omega), A.gd1 r1, i0, Option.bind_some, A.gd1 (by decide), i1, if_pos (by omega), Option.bind_some, A.gd1 (by decide)]; exact hj _ _ rfl
        rw [if_neg (by omega)]
        by_cases w3 : wid s p = 3
        · rw [if_pos (by omega), A.gd1 ⟨r1, r2⟩, i0, Option.bind_some, A.gd1 (by decide), i1, if_pos (by omega), Option.bind_some, A.gd1 (by decide), i2, if_pos (by omega), Option.bind_some, A.gd1 (by decide)]; exact hj _ _ rfl
        rw [if_neg (by omega), if_pos (by omega), A.gd1 ⟨r1, r2, r3⟩, i0, Option.bind_some, A.gd1 (by decide), i1, if_pos (by omega), Option.bind_some, A.gd1 (by decide), i2, if_pos (by omega), Option.bind_some, A.gd1 (by decide), i3, if_pos (by omega), Option.bind_some, A.gd1 (by decide)]; exact hj _ _ rfl
      · rw [if_neg (by omega), if_neg h]; exact ⟨_, rfl, rfl⟩
  obtain ⟨l, h1, h2⟩ := loop s.size 0 A.FU [] (by omega) (by have := FU_big; omega) (by simp) (by omega) hv
  exact ⟨l, h1, by simpa using h2⟩
theorem single_eq (s : ByteArray) (hs : s.size ≤ 5000) : F.fn_single s = some (if cnt s s.size 0 = 1 then vld s s.size 0 else false) := by
  have loop : ∀ (n p f : Nat) (y : Int), s.size - p ≤ n → n < f → 0 ≤ y → y + n ≤ 10000 → F.fn_single_l2 s f p y = some (if y + (cnt s n p : Int) = 1 then vld s s.size 0 else false) := by
    intro n
    induction n with
    | zero =>
      intro p f y hp hf _ _
      obtain ⟨f, rfl⟩ : ∃ f', f = f' + 1 := ⟨f - 1, by omega⟩
      rw [F.fn_single_l2, if_neg (by omega), F.utf8_ValidString, validD_eq, Option.bind_some]
      simp only [F.fn_single_j1]
      have e : y + (cnt s 0 p : Int) = y := by rw [cnt]; omega
      by_cases h : y = 1
      · rw [if_pos h, if_pos (by omega)]
      · rw [if_neg h, if_neg (by omega)]
    | succ n ih =>
      intro p f y hp hf h0 h2
      obtain ⟨f, rfl⟩ : ∃ f', f = f' + 1 := ⟨f - 1, by omega⟩
      rw [F.fn_single_l2, cnt]
      by_cases h : p < s.size
      · rw [if_pos h, if_pos h, A.gd1 ⟨by omega, by omega⟩]
        have hw := width_pos s p
        rw [ih _ f (y + 1) (by omega) (by omega) (by omega) (by omega)]
        congr 2
        exact propext ⟨fun h => by omega, fun h => by omega⟩
      · rw [if_neg h, if_neg h, F.utf8_ValidString, validD_eq, Option.bind_some]
        simp only [F.fn_single_j1]
        by_cases h : y = 1
        · rw [if_pos h, if_pos (by omega)]
        · rw [if_neg h, if_neg (by omega)]
  unfold F.fn_single
  rw [loop s.size 0 A.FU 0 (by omega) (by have := FU_big; omega) (by omega) (by omega)]
  congr 2
  exact propext ⟨fun h => by omega, fun h => by omega⟩
theorem one_small {s : ByteArray} (h1 : cnt s s.size 0 = 1) (h2 : vld s s.size 0 = true) : s.size ≤ 4 := by
  generalize hn : s.size = n at h1 h2
  cases n with
  | zero => omega
  | succ n =>
    rw [cnt, if_pos (by omega)] at h1
    rw [vld, if_pos (by omega)] at h2
    by_cases hw : wid s 0 = 0
    · rw [if_pos hw] at h2; cases h2
    rw [wid_dec hw] at h1
    have := wid_4 s 0
    cases n with
    | zero => omega
    | succ n =>
      rw [cnt] at h1
      by_cases h3 : 0 + wid s 0 < s.size
      · rw [if_pos h3] at h1; omega
      · omega
end Go.Proofs.YtleiipbkfaajfaaDoor
end

section
set_option linter.unusedVariables false
set_option linter.unusedSimpArgs false
namespace Go.Proofs.YtleiipbkfaajfaaDoor
open Go.RowKit Go.Graph
def textP (f : Fun) : Bool := if f.1 = 5 then decide (f.2.2 ≠ ByteArray.mk #[]) && decide ((f.2.2.size : Int) ≤ 16) && vld f.2.2 f.2.2.size 0 else if f.1 = 12 ∨ f.1 = 22 then decide (cnt f.2.2 f.2.2.size 0 = 1) && vld f.2.2 f.2.2.size 0 else decide (f.2.2 = ByteArray.mk #[])
theorem number_eq (f : Fun) : F.fn_number f = some (numberF f) := by
  unfold F.fn_number F.fn_number_j2 F.fn_number_j1 numberF
  simp only [A.ba, decide_eq_true_eq]
  by_cases h3 : f.1 = 3
  · simp [h3]
  · by_cases h13 : f.1 = 13
    · simp [h13]
    · by_cases h6 : f.1 = 6
      · simp [h6]
      · by_cases h11 : f.1 = 11 <;> simp [h3, h13, h6, h11]
theorem R06_number_eq (f : Fun) : F.R06_number f = some (numberF f) := number_eq f
theorem text_eq (f : Fun) (hs : f.2.2.size ≤ 5000) : F.fn_text f = some (textP f) := by
  unfold F.fn_text textP
  simp only [F.fn_text_j1, F.fn_text_j2, A.ba, single_eq _ hs, F.utf8_ValidString, validD_eq, Option.bind_some, decide_eq_true_eq]
  by_cases h5 : f.1 = 5
  · simp only [h5, if_true]
    by_cases h1 : f.2.2 = ByteArray.mk #[] <;> by_cases h2 : (f.2.2.size : Int) ≤ 16 <;> simp [h1, h2]
  · by_cases h12 : f.1 = 12
    · simp [h12]
    · by_cases h22 : f.1 = 22 <;> simp [h5, h12, h22]
theorem one_le {s : ByteArray} : (1 : Int) ≤ (s.size : Int) ↔ s ≠ ByteArray.mk #[] := by
  constructor
  · intro h e; subst e; exact absurd h (by decide)
  · intro h; have := size_pos h; omega
theorem R06_text_eq (f : Fun) (hs : f.2.2.size ≤ 5000) : F.R06_text f = some (textP f) := by
  have hj : ∀ y, F.R06_text_j3 f y = some (if y = true then decide (cnt f.2.2 f.2.2.size 0 = 1) && vld f.2.2 f.2.2.size 0 else decide (f.2.2 = ByteArray.mk #[])) := by
    intro y
    unfold F.R06_text_j3
    simp only [F.R06_text_j2, Valid_eq _ hs, Option.bind_some]
    cases y with
    | false => simp
    | true =>
      simp only [if_true]
      by_cases h4 : (f.2.2.size : Int) ≤ 4
      · rw [if_pos h4]
        cases hv : vld f.2.2 f.2.2.size 0 with
        | true =>
          obtain ⟨l, h1, h2⟩ := Runes_eq f.2.2 hs hv
          rw [if_pos rfl, h1, Option.bind_some, Bool.and_true]
          congr 2
          rw [h2]; exact propext ⟨fun h => by omega, fun h => by omega⟩
        | false => simp
      · rw [if_neg h4]
        congr 1
        cases hv : vld f.2.2 f.2.2.size 0 with
        | false => simp
        | true =>
          by_cases h1 : cnt f.2.2 f.2.2.size 0 = 1
          · have := one_small h1 hv; omega
          · simp [h1]
  unfold F.R06_text textP
  simp only [F.R06_text_j1, hj, A.ba, Valid_eq _ hs, Option.bind_some, decide_eq_true_eq, one_le]
  by_cases h5 : f.1 = 5
  · simp only [h5, if_true]
    by_cases h1 : f.2.2 = ByteArray.mk #[] <;> by_cases h2 : (f.2.2.size : Int) ≤ 16 <;> simp [h1, h2]
  · by_cases h12 : f.1 = 12
    · simp [h12]
    · by_cases h22 : f.1 = 22 <;> simp [h5, h12, h22]
/-- whether a function is one of some -/
def anyF (f : Fun) (l : List Int) : Int := if l.any (fun y => decide (y = f.1) && (numberF f && textP f)) = true then 0 else 60
def kinds (k : Int) : List Int := if k = 2 then [1, 2, 3, 4, 5, 6, 7, 8] else if k = 3 then [11, 12, 13] else if k = 4 then [21, 22] else if k = 8 then [31, 32, 33, 34] else if k = 11 then [41, 42] else []
def chk (k : Int) (f : Fun) : Int := if kinds k = [] then (if f = (0, 0, ByteArray.mk #[]) then 0 else 60) else anyF f (kinds k)
theorem chk_l (f : Fun) (hs : f.2.2.size ≤ 5000) : ∀ l, F.fn_Check_l2 f l = some (anyF f l)
  | [] => rfl
  | y :: l => by
    have ih := chk_l f hs l
    unfold F.fn_Check_l2
    simp only [F.fn_Check_j1, number_eq, text_eq _ hs, Option.bind_some, ih, anyF, List.any_cons]
    by_cases h : y = f.1
    · subst h
      cases hn : numberF f <;> cases ht : textP f <;> simp
    · simp [h]
theorem fn_Check_eq (k : Int) (f : Fun) (hs : f.2.2.size ≤ 5000) : F.fn_Check k f = some (chk k f) := by
  have u2 : F.fn_Uses_1_it 1 8 = some [1, 2, 3, 4, 5, 6, 7, 8] := by kernel_rfl
  have u3 : F.fn_Uses_1_it 11 13 = some [11, 12, 13] := by kernel_rfl
  have u4 : F.fn_Uses_1_it 21 22 = some [21, 22] := by kernel_rfl
  have u8 : F.fn_Uses_1_it 31 34 = some [31, 32, 33, 34] := by kernel_rfl
  have u11 : F.fn_Uses_1_it 41 42 = some [41, 42] := by kernel_rfl
  unfold F.fn_Check F.fn_Uses F.fn_uses chk kinds
  by_cases h2 : k = 2
  · simp [h2, u2, chk_l f hs]
  · by_cases h3 : k = 3
    · simp [h3, u3, chk_l f hs]
    · by_cases h4 : k = 4
      · simp [h4, u4, chk_l f hs]
      · by_cases h8 : k = 8
        · simp [h8, u8, chk_l f hs]
        · by_cases h11 : k = 11
          · simp [h11, u11, chk_l f hs]
          · simp only [h2, h3, h4, h8, h11, if_false, Option.bind_some]
            rw [if_pos (by decide), if_pos trivial]
            by_cases hz : f = (0, 0, ByteArray.mk #[])
            · rw [if_neg (fun h => h hz), if_pos hz]
            · rw [if_pos hz, if_neg hz]
theorem R06_l (f : Fun) (hs : f.2.2.size ≤ 5000) (l : List Int) (hl : l.length ≤ 100) : F.R06_Check_l2 f l A.FU 0 = some (anyF f l) :=
  A.lp0 l (fun n y => F.R06_Check_l2 f l n y) (fun _ t => some (anyF f t))
    (fun n => by rw [F.R06_Check_l2, if_neg (by omega)]; rfl)
    (fun n k x hx hk ih => by
      rw [F.R06_Check_l2, if_pos (by omega), A.ixn hx, Option.bind_some]
      simp only [F.R06_Check_j1, R06_number_eq, R06_text_eq _ hs, Option.bind_some, ih, A.gd1 (A.r64n (n := k) (by omega)), anyF, List.any_cons]
      by_cases h : x = f.1
      · subst h
        cases hn : numberF f <;> cases ht : textP f <;> simp
      · simp [h])
    (by have := FU_big; omega)
theorem R06_Check_eq (k : Int) (f : Fun) (hs : f.2.2.size ≤ 5000) : F.R06_Check k f = some (chk k f) := by
  have u2 : F.R06_Uses 2 = some [1, 2, 3, 4, 5, 6, 7, 8] := by kernel_rfl
  have u3 : F.R06_Uses 3 = some [11, 12, 13] := by kernel_rfl
  have u4 : F.R06_Uses 4 = some [21, 22] := by kernel_rfl
  have u8 : F.R06_Uses 8 = some [31, 32, 33, 34] := by kernel_rfl
  have u11 : F.R06_Uses 11 = some [41, 42] := by kernel_rfl
  have u0 : F.R06_Uses_j2 1 0 = some [] := by kernel_rfl
  unfold F.R06_Check chk kinds
  by_cases h2 : k = 2
  · subst h2; rw [u2, Option.bind_some, if_neg (by simp), F.R06_Check_j3, if_neg (by simp), R06_l f hs _ (by simp)]; simp
  · by_cases h3 : k = 3
    · subst h3; rw [u3, Option.bind_some, if_neg (by simp), F.R06_Check_j3, if_neg (by simp), R06_l f hs _ (by simp)]; simp
    · by_cases h4 : k = 4
      · subst h4; rw [u4, Option.bind_some, if_neg (by simp), F.R06_Check_j3, if_neg (by simp), R06_l f hs _ (by simp)]; simp
      · by_cases h8 : k = 8
        · subst h8; rw [u8, Option.bind_some, if_neg (by simp), F.R06_Check_j3, if_neg (by simp), R06_l f hs _ (by simp)]; simp
        · by_cases h11 : k = 11
          · subst h11; rw [u11, Option.bind_some, if_neg (by simp), F.R06_Check_j3, if_neg (by simp), R06_l f hs _ (by simp)]; simp
          · have u : F.R06_Uses k = some [] := by unfold F.R06_Uses; simp only [h2, h3, h4, h8, h11, if_false, u0]
            rw [u, Option.bind_some, if_pos (by simp), F.R06_Check_j3, R06_l f hs _ (by simp)]
            simp only [h2, h3, h4, h8, h11, if_false, if_true, decide_eq_true_eq, anyF, List.any_nil, Bool.false_eq_true]
            by_cases hz : f = (0, 0, ByteArray.mk #[])
            · rw [if_pos hz, if_pos hz]
            · rw [if_neg hz, if_neg hz]
end Go.Proofs.YtleiipbkfaajfaaDoor
end

section
set_option linter.unusedVariables false
set_option linter.unusedSimpArgs false
namespace Go.Proofs.YtleiipbkfaajfaaDoor
open Go.RowKit Go.Graph
def mapOf (g : List Nd) : List (Int × Nd) := g.map fun n => (n.1, n)
def Inc (g : List Nd) : Prop := g.Pairwise fun a b => a.1 < b.1
theorem idxF_cases (z : Nd) (id : Int) : ∀ (k : Nat) (l : List Nd), (idxF id k l = -1 ∧ (∀ n ∈ l, n.1 ≠ id) ∧ Z.mget z (mapOf l) id = z ∧ Z.mhas (mapOf l) id = false) ∨ (∃ j n, idxF id k l = ((k + j : Nat) : Int) ∧ l[j]? = some n ∧ n.1 = id ∧ Z.mget z (mapOf l) id = n ∧ Z.mhas (mapOf l) id = true)
  | k, [] => .inl ⟨rfl, by simp, rfl, rfl⟩
  | k, x :: r => by
    unfold idxF mapOf
    simp only [List.map_cons, Z.mget, Z.mhas]
    by_cases h : x.1 = id
    · rw [if_pos h, if_pos h.symm, if_pos h.symm]
      exact .inr ⟨0, x, rfl, rfl, h, rfl, rfl⟩
    · rw [if_neg h, if_neg (fun e => h e.symm), if_neg (fun e => h e.symm)]
      rcases idxF_cases z id (k + 1) r with ⟨h1, h2, h3, h4⟩ | ⟨j, n, h1, h2, h3, h4, h5⟩
      · refine .inl ⟨h1, fun n hn => ?_, h3, h4⟩
        rcases List.mem_cons.1 hn with rfl | hn
        · exact h
        · exact h2 n hn
      · exact .inr ⟨j + 1, n, by rw [h1]; congr 1; omega, h2, h3, h4, h5⟩
theorem idx_cases (z : Nd) (g : List Nd) (id : Int) : (idx g id = -1 ∧ (∀ n ∈ g, n.1 ≠ id) ∧ Z.mget z (mapOf g) id = z ∧ Z.mhas (mapOf g) id = false) ∨ (∃ (j : Nat) (n : Nd), idx g id = (j : Int) ∧ g[j]? = some n ∧ n.1 = id ∧ Z.mget z (mapOf g) id = n ∧ Z.mhas (mapOf g) id = true) := by
  have := idxF_cases z id 0 g
  simp only [Nat.zero_add] at this
  exact this
theorem Inc.lt {g : List Nd} (h : Inc g) {i j : Nat} {a b : Nd} (hi : g[i]? = some a) (hj : g[j]? = some b) (hij : i < j) : a.1 < b.1 := by
  obtain ⟨h1, rfl⟩ := List.getElem?_eq_some_iff.1 hi
  obtain ⟨h2, rfl⟩ := List.getElem?_eq_some_iff.1 hj
  exact List.pairwise_iff_getElem.1 h i j h1 h2 hij
theorem Inc.inj {g : List Nd} (h : Inc g) {i j : Nat} {a b : Nd} (hi : g[i]? = some a) (hj : g[j]? = some b) (e : a.1 = b.1) : i = j := by
  rcases Nat.lt_trichotomy i j with h1 | h1 | h1
  · have := h.lt hi hj h1; omega
  · exact h1
  · have := h.lt hj hi h1; omega
theorem Inc.idx {g : List Nd} (h : Inc g) {j : Nat} {n : Nd} (hj : g[j]? = some n) : Graph.idx g n.1 = (j : Int) := by
  rcases idx_cases z0 g n.1 with ⟨_, h2, _⟩ | ⟨i, m, h1, h2, h3, _⟩
  · exact absurd rfl (h2 n (List.mem_of_getElem? hj))
  · rw [h1, h.inj h2 hj h3]
theorem Inc.mget {g : List Nd} (h : Inc g) {j : Nat} {n z : Nd} (hj : g[j]? = some n) : Z.mget z (mapOf g) n.1 = n := by
  rcases idx_cases z g n.1 with ⟨_, h2, _⟩ | ⟨i, m, h1, h2, h3, h4, _⟩
  · exact absurd rfl (h2 n (List.mem_of_getElem? hj))
  · have := h.inj h2 hj h3
    subst this
    rw [h2] at hj; injection hj with hj; rw [h4, hj]
theorem index_eq (g : List Nd) (id : Int) (hg : g.length ≤ 100) : F.R08_index g id = some (idx g id) :=
  A.lp0 g (fun f y => F.R08_index_l1 g id f y) (fun k l => some (idxF id k l))
    (fun f => by rw [F.R08_index_l1, if_neg (by omega)]; rfl)
    (fun f k x hx hk ih => by
      rw [F.R08_index_l1, if_pos (by omega), A.ixn hx, Option.bind_some, idxF]
      by_cases h : x.1 = id
      · rw [if_pos h, if_pos h]
      · rw [if_neg h, if_neg h, A.gd1 (A.r64n (by omega)), ih])
    (by have := FU_big; omega)
/-! ### a node for itself -/
def ownQ (n : Nd) : Bool := if n.1 < 1 ∨ 255 < n.1 ∨ insK n.2.1 < 0 ∨ (n.2.2.1.length : Int) ≠ insK n.2.1 then false else if ownC n then false else if n.2.1 = 1 ∨ n.2.1 = 15 then named n.2.2.2.2.1 else decide (n.2.2.2.2.1 = ByteArray.mk #[])
theorem outside_eq (k : Int) : F.graph_outside k = some (decide (k = 1 ∨ k = 15)) := by
  unfold F.graph_outside; rw [A.bo]
theorem gIns_eq (k : Int) : F.graph_Ins k = some (insK k) := (Ins_eq k).trans (R08_Ins_eq k)
theorem own_eq (n : Nd) (hs : n.2.2.2.2.1.size ≤ 5000) : F.graph_own n = some (ownQ n) := by
  have hj : ∀ y, F.graph_own_j2 n y = some (if y = true then false else if ownC n then false else if n.2.1 = 1 ∨ n.2.1 = 15 then named n.2.2.2.2.1 else decide (n.2.2.2.2.1 = ByteArray.mk #[])) := by
    intro y
    unfold F.graph_own_j2 F.graph_own_j1 ownC
    cases y with
    | true => simp
    | false =>
      simp only [Bool.false_eq_true, if_false, A.bo, decide_eq_true_eq, outside_eq, Option.bind_some, named_eq _ hs, A.bn]
      by_cases h14 : n.2.1 = 14
      · simp only [h14, if_true, true_and, not_true_eq_false, ne_eq, false_and, or_false, if_false]
        by_cases hc : n.2.2.2.2.2.1 < 1 ∨ 8 < n.2.2.2.2.2.1 ∨ n.2.2.2.2.2.2 < 1 ∨ 4 < n.2.2.2.2.2.2
        · have hc' : ((n.2.2.2.2.2.1 < 1 ∨ 8 < n.2.2.2.2.2.1) ∨ n.2.2.2.2.2.2 < 1) ∨ 4 < n.2.2.2.2.2.2 := by omega
          rw [if_pos hc', if_pos hc]
        · have hc' : ¬ (((n.2.2.2.2.2.1 < 1 ∨ 8 < n.2.2.2.2.2.1) ∨ n.2.2.2.2.2.2 < 1) ∨ 4 < n.2.2.2.2.2.2) := by omega
          rw [if_neg hc', if_neg hc]
          simp
      · simp only [h14, if_false, false_and, not_false_eq_true, ne_eq, true_and, false_or, if_true]
        by_cases hc : ¬ n.2.2.2.2.2.1 = 0 ∨ ¬ n.2.2.2.2.2.2 = 0
        · rw [if_pos hc, if_pos hc]
        · rw [if_neg hc, if_neg hc]
          by_cases ho : n.2.1 = 1 ∨ n.2.1 = 15
          · rw [if_pos ho, if_pos ho]
          · rw [if_neg ho, if_neg ho]
  unfold F.graph_own ownQ
  simp only [gIns_eq, Option.bind_some, hj, A.bo, decide_eq_true_eq, F.graph_own_j1]
  by_cases h1 : n.1 < 1 ∨ 255 < n.1
  · rw [if_pos h1, if_pos (by omega)]
  · rw [if_neg h1]
    by_cases h2 : insK n.2.1 < 0
    · rw [if_pos h2, if_pos trivial, if_pos (by omega)]
    · rw [if_neg h2]
      by_cases h3 : (n.2.2.1.length : Int) ≠ insK n.2.1
      · rw [if_pos h3, if_pos (by omega)]
      · have hb : ¬ (n.1 < 1 ∨ 255 < n.1 ∨ insK n.2.1 < 0 ∨ (n.2.2.1.length : Int) ≠ insK n.2.1) := by omega
        rw [if_neg h3, if_neg hb]
def twiceF (l : List Nd) (n : Nd) : Bool := l.any fun x => decide (x.2.1 = n.2.1) && decide (x.2.2.2.2.1 = n.2.2.2.2.1)
theorem twice_eq (l : List Nd) (n : Nd) (hl : l.length ≤ 100) : F.slices_ContainsFunc_api_Node_api_Node_graph_whole_1 l n = some (twiceF l n) := by
  have loop : F.slices_IndexFunc_api_Node_api_Node_graph_whole_1_l1 l n A.FU 0 = some (if twiceF l n = true then (0 : Int) else -1) ∨ ∃ i : Nat, F.slices_IndexFunc_api_Node_api_Node_graph_whole_1_l1 l n A.FU 0 = some (i : Int) ∧ twiceF l n = true := by
    have key : ∀ (m k f : Nat), k + m = l.length → m < f → (twiceF (l.drop k) n = true ∧ ∃ i : Nat, F.slices_IndexFunc_api_Node_api_Node_graph_whole_1_l1 l n f (k : Int) = some (i : Int)) ∨ (twiceF (l.drop k) n = false ∧ F.slices_IndexFunc_api_Node_api_Node_graph_whole_1_l1 l n f (k : Int) = some (-1)) := by
      intro m
      induction m with
      | zero =>
        intro k f hk hf
        obtain ⟨f, rfl⟩ : ∃ f', f = f' + 1 := ⟨f - 1, by omega⟩
        rw [F.slices_IndexFunc_api_Node_api_Node_graph_whole_1_l1, if_neg (by omega), List.drop_eq_nil_of_le (by omega)]
        exact .inr ⟨rfl, rfl⟩
      | succ m ih =>
        intro k f hk hf
        obtain ⟨f, rfl⟩ : ∃ f', f = f' + 1 := ⟨f - 1, by omega⟩
        have hx : l[k]? = some l[k] := List.getElem?_eq_getElem (by omega)
        generalize l[k] = x at hx
        rw [F.slices_IndexFunc_api_Node_api_Node_graph_whole_1_l1, if_pos (by omega), A.ixn hx, Option.bind_some, F.graph_whole_1, Option.bind_some, A.ba, A.dropx hx]
        by_cases h : x.2.1 = n.2.1 ∧ x.2.2.2.2.1 = n.2.2.2.2.1
        · left
          exact ⟨by simp [twiceF, h.1, h.2], k, by rw [if_pos (by simpa using h)]⟩
        · rw [if_neg (by simpa using h), A.gd1 (A.r64n (by omega))]
          have e : twiceF (x :: l.drop (k + 1)) n = twiceF (l.drop (k + 1)) n := by
            simp only [twiceF, List.any_cons]
            rw [← Bool.decide_and, decide_eq_false h, Bool.false_or]
          rw [e]
          exact ih (k + 1) f (by omega) (by omega)
    rcases key l.length 0 A.FU (by omega) (by have := FU_big; omega) with ⟨h1, i, h2⟩ | ⟨h1, h2⟩
    · rw [List.drop_zero] at h1; exact .inr ⟨i, h2, h1⟩
    · rw [List.drop_zero] at h1; left; rw [h1]; exact h2
  unfold F.slices_ContainsFunc_api_Node_api_Node_graph_whole_1 F.slices_IndexFunc_api_Node_api_Node_graph_whole_1
  rcases loop with h | ⟨i, h, h2⟩
  · rw [show F.slices_IndexFunc_api_Node_api_Node_graph_whole_1_l1 l (n.1, n.2.1, n.2.2.1, (n.2.2.2.1.1, n.2.2.2.1.2.1, n.2.2.2.1.2.2), n.2.2.2.2.1, n.2.2.2.2.2.1, n.2.2.2.2.2.2) A.FU 0 = _ from h, Option.bind_some]
    cases twiceF l n <;> simp
  · rw [show F.slices_IndexFunc_api_Node_api_Node_graph_whole_1_l1 l (n.1, n.2.1, n.2.2.1, (n.2.2.2.1.1, n.2.2.2.1.2.1, n.2.2.2.1.2.2), n.2.2.2.2.1, n.2.2.2.2.2.1, n.2.2.2.2.2.2) A.FU 0 = _ from h, Option.bind_some, h2]
    simp
end Go.Proofs.YtleiipbkfaajfaaDoor
end

section
set_option linter.unusedVariables false
set_option linter.unusedSimpArgs false
namespace Go.Proofs.YtleiipbkfaajfaaDoor
open Go.RowKit Go.Graph
theorem mins_new {κ α : Type} [DecidableEq κ] : ∀ {m : List (κ × α)} {k : κ} {x : α}, Z.mhas m k = false → Z.mins m k x = m ++ [(k, x)]
  | [], _, _, _ => rfl
  | (a, y) :: r, k, x, h => by
    simp only [Z.mhas] at h
    by_cases hk : k = a
    · rw [if_pos hk] at h; cases h
    · rw [if_neg hk] at h
      unfold Z.mins
      rw [if_neg hk, mins_new h]; rfl
theorem mhas_mapOf {l : List Nd} {k : Int} (h : ∀ n ∈ l, n.1 ≠ k) : Z.mhas (mapOf l) k = false := by
  rcases idx_cases z0 l k with ⟨_, _, _, h2⟩ | ⟨j, n, _, h1, h2, _⟩
  · exact h2
  · exact absurd h2 (h n (List.mem_of_getElem? h1))
theorem take_s {α : Type} {l : List α} {k : Nat} {x : α} (h : l[k]? = some x) : l.take (k + 1) = l.take k ++ [x] := by rw [List.take_add_one, h]; rfl
/-! ### the program -/
def okL (g : List Nd) : Nat → Int → List Nd → Bool
  | _, _, [] => true
  | k, last, n :: r => if n.1 ≤ last ∨ ownQ n = false ∨ ((n.2.1 = 1 ∨ n.2.1 = 15) ∧ twiceF (g.take k) n = true) then false else okL g (k + 1) n.1 r
theorem whole_l6 (g : List Nd) (hg : g.length ≤ 100) (hf : ∀ x, x ∈ g → x.2.2.2.2.1.size ≤ 5000) : F.graph_whole_l6 g A.FU [] 0 0 = if okL g 0 0 g = true then F.graph_whole_l5 g (mapOf g) A.FU 0 else some (none, 80) :=
  A.lp g (fun f (s : List (Int × Nd) × Int) y => F.graph_whole_l6 g f s.1 s.2 y) (fun k l s => if okL g k s.2 l = true then F.graph_whole_l5 g (mapOf g) A.FU 0 else some (none, 80)) (fun k s => s.1 = mapOf (g.take k) ∧ ∀ n ∈ g.take k, n.1 ≤ s.2)
    (fun f s hp => by
      rw [F.graph_whole_l6, if_neg (by omega), okL, if_pos rfl, hp.1, List.take_of_length_le (Nat.le_refl _)])
    (fun f s k x hx hk hp ih => by
      obtain ⟨hm, hle⟩ := hp
      have hown := own_eq x (hf x (List.mem_of_getElem? hx))
      have hj : ∀ y, F.graph_whole_j2 (F.graph_whole_l6 g f) s.1 s.2 (k : Int) x y = if x.1 ≤ s.2 ∨ ownQ x = false ∨ y = true then some (none, 80) else F.graph_whole_l6 g f (Z.mins s.1 x.1 x) x.1 ((k : Int) + 1) := by
        intro y
        rw [F.graph_whole_j2]
        simp only [F.graph_whole_j1, if_true]
        by_cases h1 : x.1 ≤ s.2
        · rw [if_pos h1, if_pos (.inl h1)]
        · rw [if_neg h1, show F.graph_own (x.1, x.2.1, x.2.2.1, (x.2.2.2.1.1, x.2.2.2.1.2.1, x.2.2.2.1.2.2), x.2.2.2.2.1, x.2.2.2.2.2.1, x.2.2.2.2.2.2) = _ from hown, Option.bind_some, A.gd1 (A.r64n (by omega))]
          cases ownQ x <;> cases y <;> simp [h1]
      have hnew : ¬ x.1 ≤ s.2 → F.graph_whole_l6 g f (Z.mins s.1 x.1 x) x.1 ((k : Int) + 1) = if okL g (k + 1) x.1 (g.drop (k + 1)) = true then F.graph_whole_l5 g (mapOf g) A.FU 0 else some (none, 80) := fun h1 => by
        rw [hm, mins_new (mhas_mapOf fun n hn e => by have := hle n hn; omega)]
        refine ih (mapOf (g.take k) ++ [(x.1, x)], x.1) ⟨?_, fun n hn => ?_⟩
        · rw [take_s hx]; simp [mapOf]
        · rw [take_s hx] at hn
          rcases List.mem_append.1 hn with h2 | h2
          · have := hle n h2; simp only []; omega
          · rw [List.mem_singleton] at h2; subst h2; exact Int.le_refl _
      rw [F.graph_whole_l6, if_pos (by omega), A.ixn hx, Option.bind_some, outside_eq, Option.bind_some, okL]
      by_cases ho : x.2.1 = 1 ∨ x.2.1 = 15
      · rw [if_pos (by simpa using ho), A.gd1 ⟨by omega, by omega⟩, show ((k : Int)).toNat = k from Int.toNat_natCast k,
          show F.slices_ContainsFunc_api_Node_api_Node_graph_whole_1 (List.take k g) (x.1, x.2.1, x.2.2.1, (x.2.2.2.1.1, x.2.2.2.1.2.1, x.2.2.2.1.2.2), x.2.2.2.2.1, x.2.2.2.2.2.1, x.2.2.2.2.2.2) = _ from twice_eq (g.take k) x (by rw [List.length_take]; omega), Option.bind_some, hj]
        by_cases hb : x.1 ≤ s.2 ∨ ownQ x = false ∨ twiceF (g.take k) x = true
        · have hc : x.1 ≤ s.2 ∨ ownQ x = false ∨ ((x.2.1 = 1 ∨ x.2.1 = 15) ∧ twiceF (g.take k) x = true) := by rcases hb with h | h | h; exact .inl h; exact .inr (.inl h); exact .inr (.inr ⟨ho, h⟩)
          rw [if_pos hb, if_pos hc, if_neg Bool.false_ne_true]
        · have hc : ¬ (x.1 ≤ s.2 ∨ ownQ x = false ∨ ((x.2.1 = 1 ∨ x.2.1 = 15) ∧ twiceF (g.take k) x = true)) := fun h => hb (by rcases h with h | h | h; exact .inl h; exact .inr (.inl h); exact .inr (.inr h.2))
          rw [if_neg hb, if_neg hc]
          exact hnew fun h => hb (.inl h)
      · rw [if_neg (by simpa using ho), hj]
        by_cases hb : x.1 ≤ s.2 ∨ ownQ x = false
        · have hc : x.1 ≤ s.2 ∨ ownQ x = false ∨ ((x.2.1 = 1 ∨ x.2.1 = 15) ∧ twiceF (g.take k) x = true) := by rcases hb with h | h; exact .inl h; exact .inr (.inl h)
          rw [if_pos (by rcases hb with h | h; exact .inl h; exact .inr (.inl h)), if_pos hc, if_neg Bool.false_ne_true]
        · have hc : ¬ (x.1 ≤ s.2 ∨ ownQ x = false ∨ ((x.2.1 = 1 ∨ x.2.1 = 15) ∧ twiceF (g.take k) x = true)) := fun h => hb (by rcases h with h | h | h; exact .inl h; exact .inr h; exact absurd h.1 ho)
          rw [if_neg (fun h => hb (by rcases h with h | h | h; exact .inl h; exact .inr h; cases h)), if_neg hc]
          exact hnew fun h => hb (.inl h))
    (by have := FU_big; omega) ([], 0) ⟨rfl, by simp⟩
theorem whole_l5 (g : List Nd) (m : List (Int × Nd)) (hg : g.length ≤ 100) (hf : ∀ x, x ∈ g → x.2.2.2.1.2.2.size ≤ 5000) : F.graph_whole_l5 g m A.FU 0 = if g.all (fun n => decide (chk n.2.1 n.2.2.2.1 = 0)) = true then F.graph_whole_l4 g m A.FU 0 else some (none, 60) :=
  A.lp0 g (fun f y => F.graph_whole_l5 g m f y) (fun _ l => if l.all (fun n => decide (chk n.2.1 n.2.2.2.1 = 0)) = true then F.graph_whole_l4 g m A.FU 0 else some (none, 60))
    (fun f => by rw [F.graph_whole_l5, if_neg (by omega)]; rfl)
    (fun f k x hx hk ih => by
      have h6 : chk x.2.1 x.2.2.2.1 ≠ 0 → chk x.2.1 x.2.2.2.1 = 60 := by
        intro h; unfold chk anyF at h ⊢; repeat' split
        all_goals first | rfl | (exfalso; simp_all; done)
      rw [F.graph_whole_l5, if_pos (by omega), A.ixn hx, Option.bind_some, show F.fn_Check x.2.1 (x.2.2.2.1.1, x.2.2.2.1.2.1, x.2.2.2.1.2.2) = _ from fn_Check_eq x.2.1 x.2.2.2.1 (hf x (List.mem_of_getElem? hx)), Option.bind_some, List.all_cons]
      by_cases h : chk x.2.1 x.2.2.2.1 = 0
      · rw [if_neg (fun h2 => h2 h), A.gd1 (A.r64n (by omega)), ih, decide_eq_true h, Bool.true_and]
      · rw [if_pos h, decide_eq_false h, Bool.false_and, if_neg (by simp), h6 h])
    (by have := FU_big; omega)
def inOk (g : List Nd) (k : Int) : Bool := if idx g k < 0 then false else decide ((at_ g (idx g k)).2.1 ≠ 15)
def sortP (g : List Nd) (m : List (Int × Nd)) : Option ((Option ((List (Int × Nd)) × (List Int) × (List (Int × Int)))) × Int) :=
  (F.graph_plan_sort (m, [], []) g).bind fun r73 => (if (!r73.1) = true then (some (none, 81)) else ((F.graph_plan_depths (r73.2.1, r73.2.2.1, r73.2.2.2)).bind fun r79 => (if (!r79.1) = true then (some (none, 80)) else ((F.graph_plan_turns (r79.2.1, r79.2.2.1, r79.2.2.2) g).bind fun r85 => (if r85 = true then (some (none, 81)) else (some (some (r79.2.1, r79.2.2.1, r79.2.2.2), 0)))))))
theorem whole_l4 (g : List Nd) (hg : g.length ≤ 100) (hf : ∀ x, x ∈ g → x.2.2.1.length ≤ 5000) : F.graph_whole_l4 g (mapOf g) A.FU 0 = if g.all (fun n => n.2.2.1.all (inOk g)) = true then sortP g (mapOf g) else some (none, 80) :=
  A.lp0 g (fun f y => F.graph_whole_l4 g (mapOf g) f y) (fun _ l => if l.all (fun n => n.2.2.1.all (inOk g)) = true then sortP g (mapOf g) else some (none, 80))
    (fun f => by rw [F.graph_whole_l4, if_neg (by omega)]; rfl)
    (fun f k x hx hk ih => by
      rw [F.graph_whole_l4, if_pos (by omega), A.ixn hx, Option.bind_some]
      have hlen := hf x (List.mem_of_getElem? hx)
      have loop := A.lp0 x.2.2.1 (fun f2 y => F.graph_whole_l3 (F.graph_whole_l4 g (mapOf g) f) (mapOf g) (k : Int) x f2 y) (fun _ l => if l.all (inOk g) = true then F.graph_whole_l4 g (mapOf g) f ((k : Int) + 1) else some (none, 80))
        (fun f2 => by rw [F.graph_whole_l3, if_neg (by omega), A.gd1 (A.r64n (by omega))]; rfl)
        (fun f2 j y hy hj2 ih2 => by
          rw [F.graph_whole_l3, if_pos (by omega), A.ixn hy, Option.bind_some, A.lt, List.all_cons]
          rcases idx_cases ((0, 0, [], (0, 0, (ByteArray.mk #[])), (ByteArray.mk #[]), 0, 0) : Nd) g y with ⟨h1, _, h3, h4⟩ | ⟨i, n, h1, h2, h3, h4, h5⟩
          · rw [h3, h4]
            have : inOk g y = false := by unfold inOk; rw [if_pos (by omega)]
            rw [this]; simp
          · rw [h4, h5]
            have e : inOk g y = decide (n.2.1 ≠ 15) := by unfold inOk; rw [if_neg (by omega), at_some h1 h2]
            rw [e, A.gd1 (A.r64n (by omega)), ih2]
            by_cases h15 : n.2.1 = 15 <;> simp [h15])
        (by have := FU_big; omega)
      rw [loop, ih, List.all_cons]
      cases x.2.2.1.all (inOk g) with
      | true => rw [if_pos rfl, Bool.true_and]
      | false => rw [if_neg Bool.false_ne_true, Bool.false_and, if_neg Bool.false_ne_true])
    (by have := FU_big; omega)
theorem whole_P (g : List Nd) (hb : Few g) : F.graph_whole g = if (32 : Int) < (g.length : Int) then some (none, 80) else if okL g 0 0 g = true then (if g.all (fun n => decide (chk n.2.1 n.2.2.2.1 = 0)) = true then (if g.all (fun n => n.2.2.1.all (inOk g)) = true then sortP g (mapOf g) else some (none, 80)) else some (none, 60)) else some (none, 80) := by
  have hl := hb.1
  unfold F.graph_whole
  rw [whole_l6 g (by omega) (fun x hx => (hb.2 x hx).2.1), whole_l5 g _ (by omega) (fun x hx => (hb.2 x hx).2.2), whole_l4 g (by omega) (fun x hx => (hb.2 x hx).1)]
end Go.Proofs.YtleiipbkfaajfaaDoor
end

section
set_option linter.unusedVariables false
set_option linter.unusedSimpArgs false
namespace Go.Proofs.YtleiipbkfaajfaaDoor
open Go.RowKit Go.Graph
theorem Named_eq (g : List Nd) (kd : Int) (s : ByteArray) (hg : g.length ≤ 100) : F.R08_Named g kd s = some (namedF kd s g) :=
  A.lp0 g (fun f y => F.R08_Named_l2 g kd s f y) (fun _ l => some (namedF kd s l))
    (fun f => by rw [F.R08_Named_l2, if_neg (by omega)]; rfl)
    (fun f k x hx hk ih => by
      rw [F.R08_Named_l2, if_pos (by omega), A.ixn hx, Option.bind_some, namedF]
      simp only [F.R08_Named_j1, A.ixn hx, Option.bind_some, A.gd1 (A.r64n (n := k) (by omega)), ih, decide_eq_true_eq, kind, name]
      by_cases h1 : x.2.1 = kd
      · by_cases h2 : x.2.2.2.2.1 = s <;> simp [h1, h2]
      · simp [h1])
    (by have := FU_big; omega)
theorem R_own_eq (g : List Nd) (i : Nat) (n : Nd) (hn : g[i]? = some n) (hg : g.length ≤ 100) (hs : n.2.2.2.2.1.size ≤ 5000) : F.R08_own g (i : Int) = some (own g (i : Int) n) := by
  have hi := (List.getElem?_eq_some_iff.1 hn).1
  have hj1 : F.R08_own_j1 g n = some (ownT g n) := by
    unfold F.R08_own_j1 ownT
    simp only [A.ba, decide_eq_true_eq, Named_eq g _ _ hg, name_eq _ hs, Option.bind_some]
    by_cases h : n.2.1 ≠ 1 ∧ n.2.1 ≠ 15
    · rw [if_pos h, if_pos h]
    · rw [if_neg h, if_neg h]; cases named n.2.2.2.2.1 <;> rfl
  have hj : ∀ y, F.R08_own_j2 g n y = some (if y = true then false else if ownC n then false else ownT g n) := by
    intro y
    unfold F.R08_own_j2 ownC
    cases y with
    | true => simp
    | false =>
      simp only [Bool.false_eq_true, if_false, A.bo, decide_eq_true_eq, hj1]
      by_cases h14 : n.2.1 = 14
      · simp only [h14, if_true, true_and, not_true_eq_false, ne_eq, false_and, or_false]
        by_cases hc : n.2.2.2.2.2.1 < 1 ∨ 8 < n.2.2.2.2.2.1 ∨ n.2.2.2.2.2.2 < 1 ∨ 4 < n.2.2.2.2.2.2
        · rw [if_pos (by omega), if_pos hc]
        · rw [if_neg (by omega), if_neg hc]
      · simp only [h14, if_false, false_and, not_false_eq_true, ne_eq, true_and, false_or]
        by_cases hc : ¬ n.2.2.2.2.2.1 = 0 ∨ ¬ n.2.2.2.2.2.2 = 0
        · rw [if_pos hc, if_pos hc]
        · rw [if_neg hc, if_neg hc]
  have tail : (if insK n.2.1 < 0 then F.R08_own_j2 g n true else F.R08_own_j2 g n (decide ((n.2.2.1.length : Int) ≠ insK n.2.1))) = some (if insK n.2.1 < 0 ∨ (n.2.2.1.length : Int) ≠ insK n.2.1 then false else if ownC n then false else ownT g n) := by
    simp only [hj, decide_eq_true_eq]
    by_cases h1 : insK n.2.1 < 0
    · rw [if_pos h1, if_pos trivial, if_pos (.inl h1)]
    · by_cases h2 : (n.2.2.1.length : Int) ≠ insK n.2.1
      · rw [if_neg h1, if_pos h2, if_pos (.inr h2)]
      · have hb : ¬ (insK n.2.1 < 0 ∨ (n.2.2.1.length : Int) ≠ insK n.2.1) := fun h => h.elim h1 h2
        rw [if_neg h1, if_neg h2, if_neg hb]
  unfold F.R08_own own
  rw [A.ixn hn, Option.bind_some]
  simp only [R08_Ins_eq, Option.bind_some, A.bo, decide_eq_true_eq]
  by_cases h1 : n.1 < 1 ∨ 255 < n.1
  · rw [if_pos h1, hj, if_pos rfl, if_pos (by omega)]
  · rw [if_neg h1]
    by_cases h0 : (0 : Int) < (i : Int)
    · rw [if_pos h0, A.gd1 ⟨by omega, by omega⟩]
      have hp : g[i - 1]? = some g[i - 1] := List.getElem?_eq_getElem (by omega)
      generalize g[i - 1] = q at hp
      have e : (i : Int) - 1 = ((i - 1 : Nat) : Int) := by omega
      rw [e, A.ixn hp, Option.bind_some, at_some rfl hp]
      by_cases h2 : n.1 ≤ q.1
      · rw [if_pos h2, hj, if_pos rfl, if_pos (by omega)]
      · rw [if_neg h2, tail]
        by_cases hb : insK n.2.1 < 0 ∨ (n.2.2.1.length : Int) ≠ insK n.2.1
        · rw [if_pos hb, if_pos (by omega)]
        · have hc : ¬ (n.1 < 1 ∨ 255 < n.1 ∨ (0 : Int) < (i : Int) ∧ n.1 ≤ q.1 ∨ insK n.2.1 < 0 ∨ (n.2.2.1.length : Int) ≠ insK n.2.1) := by omega
          rw [if_neg hb, if_neg hc]
    · rw [if_neg h0, tail]
      by_cases hb : insK n.2.1 < 0 ∨ (n.2.2.1.length : Int) ≠ insK n.2.1
      · rw [if_pos hb, if_pos (by omega)]
      · have hc : ¬ (n.1 < 1 ∨ 255 < n.1 ∨ (0 : Int) < (i : Int) ∧ n.1 ≤ (at_ g ((i : Int) - 1)).1 ∨ insK n.2.1 < 0 ∨ (n.2.2.1.length : Int) ≠ insK n.2.1) := by omega
        rw [if_neg hb, if_neg hc]
def okR (g : List Nd) : Nat → List Nd → Bool
  | _, [] => true
  | k, n :: r => own g (k : Int) n && okR g (k + 1) r
theorem parts_l5 (g : List Nd) (hg : g.length ≤ 100) (hf : ∀ x, x ∈ g → x.2.2.2.2.1.size ≤ 5000) : F.R08_parts_l5 g A.FU 0 = if okR g 0 g = true then F.R08_parts_l4 g A.FU 0 else some 80 :=
  A.lp0 g (fun f y => F.R08_parts_l5 g f y) (fun k l => if okR g k l = true then F.R08_parts_l4 g A.FU 0 else some 80)
    (fun f => by rw [F.R08_parts_l5, if_neg (by omega)]; rfl)
    (fun f k x hx hk ih => by
      rw [F.R08_parts_l5, if_pos (by omega), R_own_eq g k x hx hg (hf x (List.mem_of_getElem? hx)), Option.bind_some, A.gd1 (A.r64n (by omega)), ih, okR]
      cases own g (k : Int) x <;> simp)
    (by have := FU_big; omega)
theorem parts_l4 (g : List Nd) (hg : g.length ≤ 100) (hf : ∀ x, x ∈ g → x.2.2.2.1.2.2.size ≤ 5000) : F.R08_parts_l4 g A.FU 0 = if g.all (fun n => decide (chk n.2.1 n.2.2.2.1 = 0)) = true then F.R08_parts_l3 g A.FU 0 else some 60 :=
  A.lp0 g (fun f y => F.R08_parts_l4 g f y) (fun _ l => if l.all (fun n => decide (chk n.2.1 n.2.2.2.1 = 0)) = true then F.R08_parts_l3 g A.FU 0 else some 60)
    (fun f => by rw [F.R08_parts_l4, if_neg (by omega)]; rfl)
    (fun f k x hx hk ih => by
      rw [F.R08_parts_l4, if_pos (by omega), A.ixn hx, Option.bind_some, Option.bind_some, show F.R06_Check x.2.1 (x.2.2.2.1.1, x.2.2.2.1.2.1, x.2.2.2.1.2.2) = _ from R06_Check_eq x.2.1 x.2.2.2.1 (hf x (List.mem_of_getElem? hx)), Option.bind_some, List.all_cons]
      by_cases h : chk x.2.1 x.2.2.2.1 = 0
      · rw [if_neg (fun h2 => h2 h), A.gd1 (A.r64n (by omega)), ih, decide_eq_true h, Bool.true_and]
      · rw [if_pos h, decide_eq_false h, Bool.false_and, if_neg (by simp)])
    (by have := FU_big; omega)
theorem idx_get {g : List Nd} {id : Int} (h : 0 ≤ idx g id) : ∃ n, g[(idx g id).toNat]? = some n ∧ at_ g (idx g id) = n ∧ n.1 = id := by
  rcases idx_cases z0 g id with ⟨h1, _⟩ | ⟨i, n, h1, h2, h3, _⟩
  · omega
  · exact ⟨n, by rw [h1]; exact h2, at_some h1 h2, h3⟩
theorem parts_l3 (g : List Nd) (hg : g.length ≤ 100) (hf : ∀ x, x ∈ g → x.2.2.1.length ≤ 5000) : F.R08_parts_l3 g A.FU 0 = if g.all (fun n => n.2.2.1.all (inOk g)) = true then some 0 else some 80 :=
  A.lp0 g (fun f y => F.R08_parts_l3 g f y) (fun _ l => if l.all (fun n => n.2.2.1.all (inOk g)) = true then some 0 else some 80)
    (fun f => by rw [F.R08_parts_l3, if_neg (by omega)]; rfl)
    (fun f k x hx hk ih => by
      rw [F.R08_parts_l3, if_pos (by omega)]
      have hlen := hf x (List.mem_of_getElem? hx)
      have loop := A.lp0 x.2.2.1 (fun f2 y => F.R08_parts_l2 (F.R08_parts_l3 g f) g (k : Int) f2 y) (fun _ l => if l.all (inOk g) = true then F.R08_parts_l3 g f ((k : Int) + 1) else some 80)
        (fun f2 => by rw [F.R08_parts_l2, A.ixn hx, Option.bind_some, if_neg (by omega), A.gd1 (A.r64n (by omega))]; rfl)
        (fun f2 j y hy hj2 ih2 => by
          rw [F.R08_parts_l2, A.ixn hx, Option.bind_some, if_pos (by omega), Option.bind_some, A.ixn hy, Option.bind_some, index_eq g y hg, Option.bind_some, List.all_cons]
          simp only [F.R08_parts_j1, if_true, decide_eq_true_eq, A.gd1 (A.r64n (n := j) (by omega)), ih2]
          by_cases h0 : idx g y < 0
          · have : inOk g y = false := by unfold inOk; rw [if_pos h0]
            rw [if_pos h0, this]; simp
          · obtain ⟨n, h1, h2, _⟩ := idx_get (g := g) (id := y) (by omega)
            have e : inOk g y = decide (n.2.1 ≠ 15) := by unfold inOk; rw [if_neg h0, h2]
            rw [if_neg h0, A.ixg (by omega) h1, Option.bind_some, e]
            by_cases h15 : n.2.1 = 15 <;> simp [h15])
        (by have := FU_big; omega)
      rw [loop, ih, List.all_cons]
      cases x.2.2.1.all (inOk g) with
      | true => rw [if_pos rfl, Bool.true_and]
      | false => rw [if_neg Bool.false_ne_true, Bool.false_and, if_neg Bool.false_ne_true])
    (by have := FU_big; omega)
/-! ### both are the same -/
def lastOf (g : List Nd) (k : Nat) : Int := if k = 0 then 0 else (at_ g ((k : Int) - 1)).1
def BadP (g : List Nd) (k : Nat) (n : Nd) : Prop := n.1 ≤ lastOf g k ∨ ownQ n = false ∨ ((n.2.1 = 1 ∨ n.2.1 = 15) ∧ twiceF (g.take k) n = true)
theorem lastOf_s {g : List Nd} {k : Nat} {n : Nd} (h : g[k]? = some n) : lastOf g (k + 1) = n.1 := by
  unfold lastOf; rw [if_neg (by omega), at_some (k := k) (by omega) h]
theorem okL_iff (g : List Nd) : ∀ (m k : Nat), k + m = g.length → (okL g k (lastOf g k) (g.drop k) = true ↔ ∀ i n, k ≤ i → g[i]? = some n → ¬ BadP g i n)
  | 0, k, h => by
    rw [List.drop_eq_nil_of_le (by omega), okL]
    exact ⟨fun _ i n hi hn => by have := (List.getElem?_eq_some_iff.1 hn).1; omega, fun _ => rfl⟩
  | m + 1, k, h => by
    have hx : g[k]? = some g[k] := List.getElem?_eq_getElem (by omega)
    generalize g[k] = x at hx
    have ih := okL_iff g m (k + 1) (by omega)
    rw [lastOf_s hx] at ih
    rw [A.dropx hx, okL]
    by_cases hb : BadP g k x
    · have hb' : x.1 ≤ lastOf g k ∨ ownQ x = false ∨ ((x.2.1 = 1 ∨ x.2.1 = 15) ∧ twiceF (g.take k) x = true) := hb
      rw [if_pos hb']
      exact ⟨fun h => (by cases h), fun h => absurd hb (h k x (Nat.le_refl _) hx)⟩
    · have hb' : ¬ (x.1 ≤ lastOf g k ∨ ownQ x = false ∨ ((x.2.1 = 1 ∨ x.2.1 = 15) ∧ twiceF (g.take k) x = true)) := hb
      rw [if_neg hb', ih]
      refine ⟨fun h i n hi hn => ?_, fun h i n hi hn => h i n (by omega) hn⟩
      rcases Nat.eq_or_lt_of_le hi with rfl | h2
      · rw [hx] at hn; injection hn with hn; subst hn; exact hb
      · exact h i n h2 hn
theorem okR_iff (g : List Nd) : ∀ (m k : Nat), k + m = g.length → (okR g k (g.drop k) = true ↔ ∀ i n, k ≤ i → g[i]? = some n → own g (i : Int) n = true)
  | 0, k, h => by
    rw [List.drop_eq_nil_of_le (by omega), okR]
    exact ⟨fun _ i n hi hn => by have := (List.getElem?_eq_some_iff.1 hn).1; omega, fun _ => rfl⟩
  | m + 1, k, h => by
    have hx : g[k]? = some g[k] := List.getElem?_eq_getElem (by omega)
    generalize g[k] = x at hx
    have ih := okR_iff g m (k + 1) (by omega)
    rw [A.dropx hx, okR, Bool.and_eq_true, ih]
    refine ⟨fun h i n hi hn => ?_, fun h => ⟨h k x (Nat.le_refl _) hx, fun i n hi hn => h i n (by omega) hn⟩⟩
    rcases Nat.eq_or_lt_of_le hi with rfl | h2
    · rw [hx] at hn; injection hn with hn; subst hn; exact h.1
    · exact h.2 i n h2 hn
theorem inc_of {g : List Nd} (h : ∀ i n, g[i]? = some n → lastOf g i < n.1) : Inc g := by
  unfold Inc
  have key : ∀ (d i : Nat) (a b : Nd), g[i]? = some a → g[i + d + 1]? = some b → a.1 < b.1 := by
    intro d
    induction d with
    | zero => intro i a b ha hb; have := h _ b hb; rw [lastOf_s ha] at this; exact this
    | succ d ih =>
      intro i a b ha hb
      have hl := (List.getElem?_eq_some_iff.1 hb).1
      have hc : g[i + d + 1]? = some g[i + d + 1] := List.getElem?_eq_getElem (by omega)
      have h1 := ih i a _ ha hc
      have h2 := h _ b hb
      rw [show i + (d + 1) + 1 = (i + d + 1) + 1 by omega, lastOf_s hc] at h2
      omega
  refine List.pairwise_iff_getElem.2 fun i j hi hj hij => ?_
  refine key (j - i - 1) i _ _ (List.getElem?_eq_getElem hi) ?_
  rw [show i + (j - i - 1) + 1 = j by omega]
  exact List.getElem?_eq_getElem hj
theorem namedF_first (kd : Int) (s : ByteArray) : ∀ (l : List Nd), (∃ (j : Nat) (n : Nd), l[j]? = some n ∧ n.2.1 = kd ∧ n.2.2.2.2.1 = s ∧ (namedF kd s l) = (n.1, true) ∧ ∀ (i : Nat) (m : Nd), i < j → l[i]? = some m → ¬ (m.2.1 = kd ∧ m.2.2.2.2.1 = s)) ∨ (namedF kd s l = (0, false) ∧ ∀ m ∈ l, ¬ (m.2.1 = kd ∧ m.2.2.2.2.1 = s))
  | [] => .inr ⟨rfl, by simp⟩
  | x :: r => by
    unfold namedF
    by_cases h : x.2.1 = kd ∧ x.2.2.2.2.1 = s
    · rw [if_pos h]
      exact .inl ⟨0, x, rfl, h.1, h.2, rfl, fun i m hi => by omega⟩
    · have h' : ¬ (kind x = kd ∧ name x = s) := h
      rw [if_neg h']
      rcases namedF_first kd s r with ⟨j, n, h1, h2, h3, h4, h5⟩ | ⟨h1, h2⟩
      · refine .inl ⟨j + 1, n, h1, h2, h3, h4, fun i m hi hm => ?_⟩
        cases i with
        | zero => injection hm with hm; subst hm; exact h
        | succ i => exact h5 i m (by omega) hm
      · refine .inr ⟨h1, fun m hm => ?_⟩
        rcases List.mem_cons.1 hm with rfl | hm
        · exact h
        · exact h2 m hm
theorem twice_iff {l : List Nd} {n : Nd} : twiceF l n = true ↔ ∃ m ∈ l, m.2.1 = n.2.1 ∧ m.2.2.2.2.1 = n.2.2.2.2.1 := by
  simp only [twiceF, List.any_eq_true, Bool.and_eq_true, decide_eq_true_eq]
/-- what each asks of one node, where numbers rise -/
theorem own_iff {g : List Nd} (hi : Inc g) {k : Nat} {n : Nd} (hn : g[k]? = some n) (hl : lastOf g k < n.1) : own g (k : Int) n = true ↔ ¬ BadP g k n := by
  have hname : (n.2.1 = 1 ∨ n.2.1 = 15) → ((namedF n.2.1 n.2.2.2.2.1 g).1 = n.1 ↔ ¬ twiceF (g.take k) n = true) := fun _ => by
    rcases namedF_first n.2.1 n.2.2.2.2.1 g with ⟨j, m, h1, h2, h3, h4, h5⟩ | ⟨_, h2⟩
    · rw [h4]
      have hjk : j ≤ k := by
        rcases Nat.lt_or_ge k j with h | h
        · exact absurd ⟨rfl, rfl⟩ (h5 k n h hn)
        · exact h
      constructor
      · intro he ht
        have : j = k := hi.inj h1 hn he
        subst this
        obtain ⟨q, hq, h6⟩ := twice_iff.1 ht
        obtain ⟨i, hiq⟩ := List.mem_iff_getElem?.1 hq
        rw [List.getElem?_take] at hiq
        split at hiq
        · rename_i hij; exact h5 i q hij hiq h6
        · cases hiq
      · intro ht
        rcases Nat.lt_or_ge j k with h | h
        · exact absurd (twice_iff.2 ⟨m, List.mem_iff_getElem?.2 ⟨j, by rw [List.getElem?_take, if_pos h]; exact h1⟩, h2, h3⟩) ht
        · obtain rfl : j = k := by omega
          rw [hn] at h1; injection h1 with h1; rw [h1]
    · exact absurd ⟨rfl, rfl⟩ (h2 n (List.mem_of_getElem? hn))
  have hprev : ¬ ((0 : Int) < (k : Int) ∧ n.1 ≤ (at_ g ((k : Int) - 1)).1) := fun h => by
    unfold lastOf at hl; rw [if_neg (by omega)] at hl; omega
  unfold own BadP ownQ
  by_cases h1 : n.1 < 1 ∨ 255 < n.1 ∨ insK n.2.1 < 0 ∨ (n.2.2.1.length : Int) ≠ insK n.2.1
  · rw [if_pos (by omega), if_pos h1]
    exact ⟨fun h => (by cases h), fun h => absurd (.inr (.inl rfl)) h⟩
  · have hc : ¬ (n.1 < 1 ∨ 255 < n.1 ∨ (0 : Int) < (k : Int) ∧ n.1 ≤ (at_ g ((k : Int) - 1)).1 ∨ insK n.2.1 < 0 ∨ (n.2.2.1.length : Int) ≠ insK n.2.1) := by omega
    rw [if_neg hc, if_neg h1]
    by_cases h2 : ownC n
    · rw [if_pos h2, if_pos h2]
      exact ⟨fun h => (by cases h), fun h => absurd (.inr (.inl rfl)) h⟩
    · rw [if_neg h2, if_neg h2]
      unfold ownT
      by_cases h3 : n.2.1 = 1 ∨ n.2.1 = 15
      · rw [if_neg (by omega), if_pos h3, Bool.and_eq_true, decide_eq_true_eq, hname h3]
        constructor
        · rintro ⟨a, b⟩ (h | h | h)
          · omega
          · rw [a] at h; cases h
          · exact b h.2
        · intro h
          refine ⟨?_, fun ht => h (.inr (.inr ⟨h3, ht⟩))⟩
          cases hq : named n.2.2.2.2.1 with
          | true => rfl
          | false => exact absurd (.inr (.inl hq)) h
      · rw [if_pos (by omega), if_neg h3]
        constructor
        · rintro a (h | h | h)
          · omega
          · rw [a] at h; cases h
          · exact h3 h.1
        · intro h
          cases hq : decide (n.2.2.2.2.1 = ByteArray.mk #[]) with
          | true => rfl
          | false => exact absurd (.inr (.inl hq)) h
theorem own_last {g : List Nd} {k : Nat} {n : Nd} (h : own g (k : Int) n = true) : lastOf g k < n.1 := by
  unfold own at h
  by_cases hc : n.1 < 1 ∨ 255 < n.1 ∨ (0 : Int) < (k : Int) ∧ n.1 ≤ (at_ g ((k : Int) - 1)).1 ∨ insK n.2.1 < 0 ∨ (n.2.2.1.length : Int) ≠ insK n.2.1
  · rw [if_pos hc] at h; cases h
  · unfold lastOf; split <;> omega
theorem ok_eq (g : List Nd) : okL g 0 0 g = okR g 0 g := by
  have hL := okL_iff g g.length 0 (by omega)
  have hR := okR_iff g g.length 0 (by omega)
  rw [List.drop_zero] at hL hR
  rw [show lastOf g 0 = 0 from rfl] at hL
  rw [Bool.eq_iff_iff, hL, hR]
  constructor
  · intro h i n _ hn
    have hl : ∀ i n, g[i]? = some n → lastOf g i < n.1 := fun i n hn => by
      have := h i n (by omega) hn
      exact Int.lt_of_not_ge fun h2 => this (.inl h2)
    exact (own_iff (inc_of hl) hn (hl i n hn)).2 (h i n (by omega) hn)
  · intro h i n _ hn
    have hl : ∀ i n, g[i]? = some n → lastOf g i < n.1 := fun i n hn => own_last (h i n (by omega) hn)
    exact (own_iff (inc_of hl) hn (hl i n hn)).1 (h i n (by omega) hn)
theorem ok_inc {g : List Nd} (h : okR g 0 g = true) : Inc g := by
  have hR := okR_iff g g.length 0 (by omega)
  rw [List.drop_zero] at hR
  exact inc_of fun i n hn => own_last (hR.1 h i n (by omega) hn)
theorem parts_eq (g : List Nd) (hb : Few g) : F.R08_parts g = if (32 : Int) < (g.length : Int) then some 80 else if okR g 0 g = true then (if g.all (fun n => decide (chk n.2.1 n.2.2.2.1 = 0)) = true then (if g.all (fun n => n.2.2.1.all (inOk g)) = true then some 0 else some 80) else some 60) else some 80 := by
  have hl := hb.1
  unfold F.R08_parts
  rw [parts_l5 g (by omega) (fun x hx => (hb.2 x hx).2.1), parts_l4 g (by omega) (fun x hx => (hb.2 x hx).2.2), parts_l3 g (by omega) (fun x hx => (hb.2 x hx).1)]
end Go.Proofs.YtleiipbkfaajfaaDoor
end

section
set_option linter.unusedVariables false
set_option linter.unusedSimpArgs false
namespace Go.Proofs.YtleiipbkfaajfaaDoor
open Go.RowKit Go.Graph
theorem fed_of {g : List Nd} (h : g.all (fun n => n.2.2.1.all (inOk g)) = true) : Fed g := fun x hx k hk => by
  have h1 := List.all_eq_true.1 (List.all_eq_true.1 h x hx) k hk
  unfold inOk at h1
  by_cases h0 : idx g k < 0
  · rw [if_pos h0] at h1; cases h1
  · omega
theorem bset_len {l : List Bool} {i : Nat} : (l.set i true).length = l.length := List.length_set
theorem bget_get {l : List Bool} {i : Nat} (h : i < l.length) : l[i]? = some (bget l (i : Int)) := by
  unfold bget; rw [Int.toNat_natCast, List.getElem?_eq_getElem h]; rfl
theorem bix {l : List Bool} {i : Int} (h0 : 0 ≤ i) (h : i < l.length) : A.ix l i = some (bget l i) := by
  have e : i = ((i.toNat : Nat) : Int) := by omega
  rw [e]; exact A.ixn (bget_get (by omega))
theorem iix {l : List Int} {i : Int} (h0 : 0 ≤ i) (h : i < l.length) : A.ix l i = some (iget l i) := by
  refine A.ixg h0 ?_
  unfold iget; rw [List.getElem?_eq_getElem (by omega)]; rfl
/-! ### the reference -/
theorem ready_eq (g : List Nd) (n : Nd) (done : List Bool) (hg : g.length ≤ 100) (hd : done.length = g.length) (hl : n.2.2.1.length ≤ 5000) (hf : ∀ k ∈ n.2.2.1, 0 ≤ idx g k) : F.R08_ready g n done = some (ready g done n) :=
  A.lp0 n.2.2.1 (fun f y => F.R08_ready_l2 g n done f y) (fun k l => some (readyF g done n.2.1 l))
    (fun f => by rw [F.R08_ready_l2, if_neg (by omega)]; rfl)
    (fun f k x hx hk ih => by
      have h1 := hf x (List.mem_of_getElem? hx)
      have h2 := (idx_le g x).2
      rw [F.R08_ready_l2, if_pos (by omega), readyF]
      simp only [F.R08_ready_j1, A.gd1 (A.r64n (n := k) (by omega)), ih]
      by_cases h14 : n.2.1 = 14
      · simp [h14]
      · rw [if_pos h14, A.ixn hx, Option.bind_some, index_eq g x hg, Option.bind_some, bix h1 (by omega), Option.bind_some]
        cases bget done (idx g x) <;> simp [h14])
    (by have := FU_big; omega)
theorem order_l3 (g : List Nd) (hb : Few g) (hfed : Fed g) (k4 : List Bool → List Int → Option (List Int × Bool)) (done : List Bool) (l : List Int) (hd : done.length = g.length) (hl : l.length ≤ 100) :
    F.R08_order_l3 k4 g done l A.FU (-1) 0 = if firstF g done 0 g (-1) < 0 then some ([], false) else k4 (done.set (firstF g done 0 g (-1)).toNat true) (l ++ [firstF g done 0 g (-1)]) :=
  A.lp g (fun f (a : Int) y => F.R08_order_l3 k4 g done l f a y) (fun k t a => if firstF g done k t a < 0 then some ([], false) else k4 (done.set (firstF g done k t a).toNat true) (l ++ [firstF g done k t a])) (fun k a => -1 ≤ a ∧ a < g.length)
    (fun f a hp => by
      rw [F.R08_order_l3, A.ba, if_neg (by simp), firstF]
      by_cases h : a < 0
      · rw [if_pos h, if_pos h]
      · rw [if_neg h, if_neg h, bix (by omega) (by omega), Option.bind_some, A.gd1 (by simp only [List.length_cons, List.length_nil]; omega)])
    (fun f a k x hx hk hp ih => by
      have hlen := hb.1
      rw [F.R08_order_l3, A.ba, if_pos (by simp; omega), firstF]
      simp only [F.R08_order_j2, F.R08_order_j1, A.gd1 (A.r64n (n := k) (by omega)), Bool.false_eq_true, if_false]
      by_cases h : a < 0
      · by_cases hbd : bget done (k : Int) = true
        · have e : (if (a < 0 ∧ bget done (k : Int) = false) ∧ ready g done x = true then (k : Int) else a) = a := if_neg (by rw [hbd]; simp)
          rw [e, if_pos h, bix (by omega) (by omega), Option.bind_some, hbd]
          simp only [Bool.not_true, Bool.false_eq_true, if_false]
          exact ih a hp
        · rw [Bool.not_eq_true] at hbd
          have hrd : F.R08_ready g (x.1, x.2.1, x.2.2.1, (x.2.2.2.1.1, x.2.2.2.1.2.1, x.2.2.2.1.2.2), x.2.2.2.2.1, x.2.2.2.2.2.1, x.2.2.2.2.2.2) done = some (ready g done x) := ready_eq g x done (by omega) hd (hb.in hx) (hfed x (List.mem_of_getElem? hx))
          by_cases hr : ready g done x = true
          · have e : (if (a < 0 ∧ bget done (k : Int) = false) ∧ ready g done x = true then (k : Int) else a) = k := if_pos ⟨⟨h, hbd⟩, hr⟩
            rw [e, if_pos h, bix (by omega) (by omega), Option.bind_some, hbd]
            simp only [Bool.not_false, if_true, A.ixn hx, Option.bind_some]
            rw [hrd, Option.bind_some, if_pos hr]; exact ih k (by omega)
          · have e : (if (a < 0 ∧ bget done (k : Int) = false) ∧ ready g done x = true then (k : Int) else a) = a := if_neg (fun h2 => hr h2.2)
            rw [e, if_pos h, bix (by omega) (by omega), Option.bind_some, hbd]
            simp only [Bool.not_false, if_true, A.ixn hx, Option.bind_some]
            rw [hrd, Option.bind_some, if_neg hr]; exact ih a hp
      · have e : (if (a < 0 ∧ bget done (k : Int) = false) ∧ ready g done x = true then (k : Int) else a) = a := if_neg (fun h2 => h h2.1.1)
        rw [e, if_neg h]; exact ih a hp)
    (by have := FU_big; have := hb.1; omega) (-1) (by omega)
def ordR (g : List Nd) (r : Nat) (done : List Bool) (l : List Int) : List Int × Bool := match orderF g r done l with
  | some l' => (l', true)
  | none => ([], false)
theorem order_l4 (g : List Nd) (hb : Few g) (hfed : Fed g) : ∀ (r f : Nat) (done : List Bool) (l : List Int), r < f → l.length + r = g.length → done.length = g.length → F.R08_order_l4 g f done l = some (ordR g r done l)
  | 0, f, done, l, hf, hl, hd => by
    obtain ⟨f, rfl⟩ : ∃ f', f = f' + 1 := ⟨f - 1, by omega⟩
    rw [F.R08_order_l4, if_neg (by omega)]; rfl
  | r + 1, f, done, l, hf, hl, hd => by
    obtain ⟨f, rfl⟩ : ∃ f', f = f' + 1 := ⟨f - 1, by omega⟩
    have := hb.1
    rw [F.R08_order_l4, if_pos (by omega), order_l3 g hb hfed _ done l hd (by omega), ordR, orderF]
    by_cases h : firstF g done 0 g (-1) < 0
    · rw [if_pos h, if_pos h]
    · rw [if_neg h, if_neg h, order_l4 g hb hfed r f _ _ (by omega) (by simp only [List.length_append, List.length_cons, List.length_nil]; omega) (by rw [bset_len]; exact hd)]
      rfl
theorem R_order_eq (g : List Nd) (hb : Few g) (hfed : Fed g) : F.R08_order g = some (ordR g g.length (List.replicate g.length false) []) := by
  have := hb.1
  unfold F.R08_order
  rw [A.gd1 (by omega), order_l4 g hb hfed g.length A.FU _ [] (by have := FU_big; omega) (by simp) (by simp)]
/-! ### the program -/
def readyP (m : List (Int × Bool)) (n : Nd) : Bool := n.2.2.1.all fun k => Z.mget false m k || decide (n.2.1 = 14)
def findP (m : List (Int × Bool)) : List Nd → Option Nd
  | [] => none
  | n :: r => if Z.mget false m n.1 = false ∧ readyP m n = true then some n else findP m r
def sortS (g : List Nd) : Nat → List (Int × Bool) → List Int → List Int
  | 0, _, xs => xs
  | r + 1, m, xs => match findP m g with
    | some n => sortS g r (Z.mins m n.1 true) (xs ++ [n.1])
    | none => sortS g r m xs
abbrev PlR := Option (Bool × ((List (Int × Nd)) × (List Int) × (List (Int × Int))))
theorem sort_l4 (g : List Nd) (hb : Few g) (k29 : List Int → List (Int × Bool) → Int → PlR) (xs : List Int) (m : List (Int × Bool)) (y : Int) (hxs : xs.length ≤ 100) (hy : 0 ≤ y ∧ y ≤ 100) :
    F.graph_plan_sort_l4 k29 g xs m y A.FU 0 = match findP m g with
      | some n => k29 (xs ++ [n.1]) (Z.mins m n.1 true) (y + 1)
      | none => k29 xs m (y + 1) :=
  A.lp0 g (fun f i => F.graph_plan_sort_l4 k29 g xs m y f i) (fun _ l => match findP m l with
      | some n => k29 (xs ++ [n.1]) (Z.mins m n.1 true) (y + 1)
      | none => k29 xs m (y + 1))
    (fun f => by rw [F.graph_plan_sort_l4, if_neg (by omega), F.graph_plan_sort_j1, A.gd1 ⟨by omega, by omega⟩]; rfl)
    (fun f k x hx hk ih => by
      have hlen := hb.1
      have hin := hb.in hx
      rw [F.graph_plan_sort_l4, if_pos (by omega), A.ixn hx, Option.bind_some, A.lt, findP]
      have loop := A.lp0 x.2.2.1 (fun f2 j => F.graph_plan_sort_l3 k29 (F.graph_plan_sort_l4 k29 g xs m y f) xs m y (k : Int) x f2 j) (fun _ l => if l.all (fun k => Z.mget false m k || decide (x.2.1 = 14)) = true then k29 (xs ++ [x.1]) (Z.mins m x.1 true) (y + 1) else F.graph_plan_sort_l4 k29 g xs m y f ((k : Int) + 1))
        (fun f2 => by rw [F.graph_plan_sort_l3, if_neg (by omega), A.gd1 (by simp only [List.length_cons, List.length_nil]; omega), F.graph_plan_sort_j1, A.gd1 ⟨by omega, by omega⟩]; rfl)
        (fun f2 j z hz hj ih2 => by
          rw [F.graph_plan_sort_l3, if_pos (by omega), A.ixn hz, Option.bind_some, A.lt, A.gd1 (A.r64n (by omega)), ih2, F.graph_plan_sort_j2, A.gd1 (A.r64n (by omega)), List.all_cons]
          cases hm : Z.mget false m z <;> by_cases h14 : x.2.1 = 14 <;> simp [h14])
        (by have := FU_big; omega)
      rw [loop, F.graph_plan_sort_j2, A.gd1 (A.r64n (by omega)), ih]
      cases hm : Z.mget false m x.1 with
      | true =>
        have e : ¬ ((true : Bool) = false ∧ readyP m x = true) := fun h => by cases h.1
        rw [if_pos rfl, if_neg e]
      | false =>
        rw [if_neg Bool.false_ne_true]
        by_cases hr : readyP m x = true
        · have e : (false : Bool) = false ∧ readyP m x = true := ⟨rfl, hr⟩
          rw [if_pos (show (x.2.2.1.all fun k => Z.mget false m k || decide (x.2.1 = 14)) = true from hr), if_pos e]
        · have e : ¬ ((false : Bool) = false ∧ readyP m x = true) := fun h => hr h.2
          rw [if_neg (show ¬ (x.2.2.1.all fun k => Z.mget false m k || decide (x.2.1 = 14)) = true from hr), if_neg e])
    (by have := FU_big; have := hb.1; omega)
theorem sort_l5 (g : List Nd) (hb : Few g) (a0 : (List (Int × Nd)) × (List Int) × (List (Int × Int))) : ∀ (r f : Nat) (m : List (Int × Bool)) (xs : List Int) (y : Nat), r < f → y + r = g.length → xs.length ≤ y → F.graph_plan_sort_l5 a0 g f xs m (y : Int) = some (decide (((sortS g r m xs).length : Int) = (g.length : Int)), (a0.1, sortS g r m xs, a0.2.2))
  | 0, f, m, xs, y, hf, hy, hx => by
    obtain ⟨f, rfl⟩ : ∃ f', f = f' + 1 := ⟨f - 1, by omega⟩
    rw [F.graph_plan_sort_l5, if_neg (by omega)]; rfl
  | r + 1, f, m, xs, y, hf, hy, hx => by
    obtain ⟨f, rfl⟩ : ∃ f', f = f' + 1 := ⟨f - 1, by omega⟩
    have := hb.1
    rw [F.graph_plan_sort_l5, if_pos (by omega), sort_l4 g hb _ xs m y (by omega) (by omega), sortS]
    have e : (y : Int) + 1 = ((y + 1 : Nat) : Int) := by omega
    cases findP m g with
    | none => simp only []; rw [e, sort_l5 g hb a0 r f m xs (y + 1) (by omega) (by omega) (by omega)]
    | some n => simp only []; rw [e, sort_l5 g hb a0 r f _ _ (y + 1) (by omega) (by omega) (by simp only [List.length_append, List.length_cons, List.length_nil]; omega)]
theorem sort_eq (g : List Nd) (hb : Few g) (m : List (Int × Nd)) : F.graph_plan_sort (m, [], []) g = some (decide (((sortS g g.length [] []).length : Int) = (g.length : Int)), (m, sortS g g.length [] [], [])) := by
  unfold F.graph_plan_sort
  exact sort_l5 g hb (m, [], []) g.length A.FU [] [] 0 (by have := FU_big; have := hb.1; omega) (by omega) (by simp)
/-! ### both are the same -/
def Rel (g : List Nd) (done : List Bool) (m : List (Int × Bool)) : Prop := ∀ (i : Nat) (n : Nd), g[i]? = some n → Z.mget false m n.1 = bget done (i : Int)
theorem ready_rel {g : List Nd} {done : List Bool} {m : List (Int × Bool)} (h : Rel g done m) {n : Nd} (hf : ∀ k ∈ n.2.2.1, 0 ≤ idx g k) : readyP m n = ready g done n := by
  unfold readyP ready
  generalize n.2.2.1 = l at hf
  induction l with
  | nil => rfl
  | cons k r ih =>
    rw [List.all_cons, ih fun x hx => hf x (List.mem_cons_of_mem _ hx), readyF]
    have h0 := hf k (List.mem_cons_self ..)
    obtain ⟨q, h1, h2, h3⟩ := idx_get h0
    have h4 := h _ q h1
    rw [h3, Int.toNat_of_nonneg h0] at h4
    rw [h4]
    cases bget done (idx g k) <;> by_cases h14 : n.2.1 = 14 <;> simp [h14]
theorem firstF_keep (g : List Nd) (done : List Bool) : ∀ (k : Nat) (l : List Nd) (a : Int), 0 ≤ a → firstF g done k l a = a
  | _, [], _, _ => rfl
  | k, x :: r, a, h => by
    unfold firstF
    rw [if_neg (fun h2 => by omega)]
    exact firstF_keep g done (k + 1) r a h
theorem first_find {g : List Nd} {done : List Bool} {m : List (Int × Bool)} (h : Rel g done m) (hf : Fed g) : ∀ (r k : Nat), k + r = g.length → (firstF g done k (g.drop k) (-1) = -1 ∧ findP m (g.drop k) = none) ∨ (∃ (i : Nat) (n : Nd), firstF g done k (g.drop k) (-1) = (i : Int) ∧ g[i]? = some n ∧ findP m (g.drop k) = some n ∧ bget done (i : Int) = false)
  | 0, k, hk => by
    rw [List.drop_eq_nil_of_le (by omega)]; exact .inl ⟨rfl, rfl⟩
  | r + 1, k, hk => by
    have hx : g[k]? = some g[k] := List.getElem?_eq_getElem (by omega)
    generalize g[k] = x at hx
    rw [A.dropx hx, firstF, findP, h k x hx, ready_rel h (hf x (List.mem_of_getElem? hx))]
    by_cases hc : bget done (k : Int) = false ∧ ready g done x = true
    · rw [if_pos hc, if_pos ⟨⟨by omega, hc.1⟩, hc.2⟩, firstF_keep _ _ _ _ _ (by omega)]
      exact .inr ⟨k, x, rfl, hx, rfl, hc.1⟩
    · rw [if_neg hc, if_neg (fun h2 => hc ⟨h2.1.2, h2.2⟩)]
      exact first_find h hf r (k + 1) (by omega)
def idAt (g : List Nd) (i : Int) : Int := (at_ g i).1
theorem rel_set {g : List Nd} (hi : Inc g) {done : List Bool} {m : List (Int × Bool)} (h : Rel g done m) (hd : done.length = g.length) {i : Nat} {n : Nd} (hn : g[i]? = some n) : Rel g (done.set i true) (Z.mins m n.1 true) := fun j q hq => by
  rw [Z.mget_ins]
  have hl := (List.getElem?_eq_some_iff.1 hn).1
  by_cases e : q.1 = n.1
  · have := hi.inj hq hn e
    subst this
    rw [if_pos e]
    unfold bget
    rw [Int.toNat_natCast, List.getElem?_set_self (by omega)]; rfl
  · rw [if_neg e, h j q hq]
    have hne : i ≠ j := fun h2 => e (by subst h2; rw [hn] at hq; injection hq with hq; rw [hq])
    unfold bget
    rw [Int.toNat_natCast, List.getElem?_set_ne hne]
theorem sort_order {g : List Nd} (hi : Inc g) (hf : Fed g) : ∀ (r : Nat) (done : List Bool) (m : List (Int × Bool)) (l : List Int), Rel g done m → done.length = g.length → (∃ l', orderF g r done l = some l' ∧ sortS g r m (l.map (idAt g)) = l'.map (idAt g) ∧ l'.length = l.length + r) ∨ (orderF g r done l = none ∧ (sortS g r m (l.map (idAt g))).length < l.length + r)
  | 0, done, m, l, _, _ => .inl ⟨l, rfl, rfl, rfl⟩
  | r + 1, done, m, l, h, hd => by
    rw [orderF, sortS]
    rcases first_find h hf g.length 0 (by omega) with ⟨h1, h2⟩ | ⟨i, n, h1, h2, h3, h4⟩
    · rw [List.drop_zero] at h1 h2
      rw [h1, if_pos (by omega), h2]
      refine .inr ⟨rfl, ?_⟩
      simp only []
      have stay : ∀ (r : Nat) (xs : List Int), sortS g r m xs = xs := by
        intro r
        induction r with
        | zero => intro xs; rfl
        | succ r ih => intro xs; rw [sortS, h2]; exact ih xs
      rw [stay, List.length_map]; omega
    · rw [List.drop_zero] at h1 h3
      rw [h1, if_neg (by omega), h3, Int.toNat_natCast]
      simp only []
      have e : l.map (idAt g) ++ [n.1] = (l ++ [(i : Int)]).map (idAt g) := by
        rw [List.map_append]; simp only [List.map_cons, List.map_nil, idAt, at_some rfl h2]
      rw [e]
      rcases sort_order hi hf r (done.set i true) (Z.mins m n.1 true) (l ++ [(i : Int)]) (rel_set hi h hd h2) (by rw [bset_len]; exact hd) with ⟨l', h5, h6, h7⟩ | ⟨h5, h6⟩
      · exact .inl ⟨l', h5, h6, by rw [h7]; simp only [List.length_append, List.length_cons, List.length_nil]; omega⟩
      · exact .inr ⟨h5, by simp only [List.length_append, List.length_cons, List.length_nil] at h6; omega⟩
theorem rel_0 (g : List Nd) : Rel g (List.replicate g.length false) [] := fun i n hn => by
  unfold bget
  rw [Int.toNat_natCast, List.getElem?_replicate]
  split <;> rfl
/-- order and sort: they end alike -/
theorem order_sort {g : List Nd} (hb : Few g) (hi : Inc g) (hf : Fed g) (m : List (Int × Nd)) : (∃ l, F.R08_order g = some (l, true) ∧ F.graph_plan_sort (m, [], []) g = some (true, (m, l.map (idAt g), [])) ∧ l.length = g.length ∧ orderF g g.length (List.replicate g.length false) [] = some l) ∨ (F.R08_order g = some ([], false) ∧ ∃ p, F.graph_plan_sort (m, [], []) g = some (false, p)) := by
  rw [R_order_eq g hb hf, sort_eq g hb m, ordR]
  rcases sort_order hi hf g.length (List.replicate g.length false) [] [] (rel_0 g) (by simp) with ⟨l, h1, h2, h3⟩ | ⟨h1, h2⟩
  · rw [List.map_nil] at h2
    rw [h1, h2]
    left
    refine ⟨l, rfl, ?_, by simpa using h3, rfl⟩
    rw [List.length_map, decide_eq_true (by simp at h3; omega)]
  · rw [List.map_nil] at h2
    rw [h1]
    right
    refine ⟨rfl, (m, sortS g g.length [] [], []), ?_⟩
    rw [decide_eq_false (by simp at h2; omega)]
end Go.Proofs.YtleiipbkfaajfaaDoor
end
