/-
  NARROWER THAN 'FOR EVERY INPUT', by the rows' own cells (each row's printed sentence says how): PathsTables: laid · PathsWays: laid · PathsSteps: laid · PathsOn: laid · PathsAsks: laid.
  DERIVED. THE GIVEN ROWS OF THIS SEAT. 5 by the template 'for every input the law returns true; each argument reads behind the call as it read before'; 0 by the template 'total and deterministic' (their statements: YtlbnpmfggfbdoaaGreatDoorTotals.lean).
  GIVEN WITH THE SEED: the statements are not yours to turn. If you find one false, say at which input.
  Laid BY PROGRAM, IN A SANDBOX (cutbox-rows.mjs): the forced cells as the released guide's own fill.sh prints them over the translation 9abc43715c3e7a88… (all of the seat's roots in one cut). By AI agents, Wed Nov 11 2026. No macro, syntax, notation, axiom, sorry.
-/
import Derived.Test.YtlbnpmfggfbdoaaGreatDoorChecked
import GoSem.PinnedTables
import GoSem.Claim
import GoSem.ClaimJoined
import GoSem.ClaimMapViews
import Derived.JoinedTies
import Derived.KernelRfl
namespace Go.Proofs.YtlbnpmfggfbdoaaGreatDoor
/- THE CELL 'sum', in the pinned program and in every row, IS THE sha256 OF THE DUMP (.gsa) THAT YtlbnpmfggfbdoaaGreatDoorProg.lean LOADS. Nothing in Lean hashes anything: it is a label: what it is worth is what the hold of that sum in a sandbox is worth. -/
noncomputable def Tryz.pinned : Pinned := { name := "ytlbnpmfggfbdoaagreatdoor", sum := "9abc43715c3e7a88f3dfdaf8a36d8be267b9d2896201a547232eba540c2313cc", checked := Tryz.checked }
namespace Rows
def none {H : Type} : Left H := { results := [], args := [] }

/- WHAT THE LISTED PACKAGE-LEVEL VARIABLES READ AS WHEN THE CALL BEGINS. Each datum BY PROGRAM (the guide's laid-datum.mjs) off the statement by which the dump's own 'gosem.cut.vars' lays the variable. In a bare row this is a premise. The card (YtlbnpmfggfbdoaaGreatDoorCards.lean) ties it to the program's text. -/
def laid_unicode_utf8_acceptRanges {H : Type} : DataW H := .agg [.agg [.lit (.int .u8 128), .lit (.int .u8 191)], .agg [.lit (.int .u8 160), .lit (.int .u8 191)], .agg [.lit (.int .u8 128), .lit (.int .u8 159)], .agg [.lit (.int .u8 144), .lit (.int .u8 191)], .agg [.lit (.int .u8 128), .lit (.int .u8 143)], .agg [.lit (.int .u8 0), .lit (.int .u8 0)], .agg [.lit (.int .u8 0), .lit (.int .u8 0)], .agg [.lit (.int .u8 0), .lit (.int .u8 0)], .agg [.lit (.int .u8 0), .lit (.int .u8 0)], .agg [.lit (.int .u8 0), .lit (.int .u8 0)], .agg [.lit (.int .u8 0), .lit (.int .u8 0)], .agg [.lit (.int .u8 0), .lit (.int .u8 0)], .agg [.lit (.int .u8 0), .lit (.int .u8 0)], .agg [.lit (.int .u8 0), .lit (.int .u8 0)], .agg [.lit (.int .u8 0), .lit (.int .u8 0)], .agg [.lit (.int .u8 0), .lit (.int .u8 0)]]
/-- One of Go's own tables, pinned by name: the form's constant. -/
def laid_unicode_utf8_first : DataW Unit := Go.Pinned.utf8First

/-- 'rivuletlaw10.PathsTables': WHATEVER THE INPUT: true; the input reads as it did. -/
def pathsTablesSpec : ChangeSpec := { name := "pathsTables", fn := fun _ => fun
  | [d] => { results := [.lit (.bool true)], args := [d] }
  | _ => none }
def pathsTablesRow : OpenClaim := { program := "ytlbnpmfggfbdoaagreatdoor", sum := "9abc43715c3e7a88f3dfdaf8a36d8be267b9d2896201a547232eba540c2313cc", func := "rivulet/rivuletlaw10.PathsTables", spec := "pathsTables", unfollowed := true, recurses := true, named := ["unicode/utf8.first", "unicode/utf8.acceptRanges"], plainKeys := false, apart := false, laid := [("unicode/utf8.acceptRanges", laid_unicode_utf8_acceptRanges), ("unicode/utf8.first", laid_unicode_utf8_first)] }
def PathsTablesSaid : Prop := pathsTablesRow.holds Tryz.pinned (OpenSpec.ofChange pathsTablesSpec)

/-- ITS FALSE NEIGHBOUR: 'it returns false'. Refute it at one input. -/
def pathsTablesWrong : ChangeSpec := { name := "pathsTables", fn := fun _ => fun
  | [d] => { results := [.lit (.bool false)], args := [d] }
  | _ => none }
def PathsTablesWrongFalsely : Prop := pathsTablesRow.holds Tryz.pinned (OpenSpec.ofChange pathsTablesWrong)

/-- 'rivuletlaw10.PathsWays': WHATEVER THE INPUT: true; the input reads as it did. -/
def pathsWaysSpec : ChangeSpec := { name := "pathsWays", fn := fun _ => fun
  | [d1, d2] => { results := [.lit (.bool true)], args := [d1, d2] }
  | _ => none }
def pathsWaysRow : OpenClaim := { program := "ytlbnpmfggfbdoaagreatdoor", sum := "9abc43715c3e7a88f3dfdaf8a36d8be267b9d2896201a547232eba540c2313cc", func := "rivulet/rivuletlaw10.PathsWays", spec := "pathsWays", unfollowed := true, recurses := true, named := ["unicode/utf8.first", "unicode/utf8.acceptRanges"], plainKeys := false, apart := false, laid := [("unicode/utf8.acceptRanges", laid_unicode_utf8_acceptRanges), ("unicode/utf8.first", laid_unicode_utf8_first)] }
def PathsWaysSaid : Prop := pathsWaysRow.holds Tryz.pinned (OpenSpec.ofChange pathsWaysSpec)

/-- ITS FALSE NEIGHBOUR: 'it returns false'. Refute it at one input. -/
def pathsWaysWrong : ChangeSpec := { name := "pathsWays", fn := fun _ => fun
  | [d1, d2] => { results := [.lit (.bool false)], args := [d1, d2] }
  | _ => none }
def PathsWaysWrongFalsely : Prop := pathsWaysRow.holds Tryz.pinned (OpenSpec.ofChange pathsWaysWrong)

/-- 'rivuletlaw10.PathsSteps': WHATEVER THE INPUT: true; the input reads as it did. -/
def pathsStepsSpec : ChangeSpec := { name := "pathsSteps", fn := fun _ => fun
  | [d] => { results := [.lit (.bool true)], args := [d] }
  | _ => none }
def pathsStepsRow : OpenClaim := { program := "ytlbnpmfggfbdoaagreatdoor", sum := "9abc43715c3e7a88f3dfdaf8a36d8be267b9d2896201a547232eba540c2313cc", func := "rivulet/rivuletlaw10.PathsSteps", spec := "pathsSteps", unfollowed := true, recurses := true, named := ["unicode/utf8.first", "unicode/utf8.acceptRanges"], plainKeys := false, apart := false, laid := [("unicode/utf8.acceptRanges", laid_unicode_utf8_acceptRanges), ("unicode/utf8.first", laid_unicode_utf8_first)] }
def PathsStepsSaid : Prop := pathsStepsRow.holds Tryz.pinned (OpenSpec.ofChange pathsStepsSpec)

/-- ITS FALSE NEIGHBOUR: 'it returns false'. Refute it at one input. -/
def pathsStepsWrong : ChangeSpec := { name := "pathsSteps", fn := fun _ => fun
  | [d] => { results := [.lit (.bool false)], args := [d] }
  | _ => none }
def PathsStepsWrongFalsely : Prop := pathsStepsRow.holds Tryz.pinned (OpenSpec.ofChange pathsStepsWrong)

/-- 'rivuletlaw10.PathsOn': WHATEVER THE INPUT: true; the input reads as it did. -/
def pathsOnSpec : ChangeSpec := { name := "pathsOn", fn := fun _ => fun
  | [d1, d2, d3, d4, d5, d6, d7] => { results := [.lit (.bool true)], args := [d1, d2, d3, d4, d5, d6, d7] }
  | _ => none }
def pathsOnRow : OpenClaim := { program := "ytlbnpmfggfbdoaagreatdoor", sum := "9abc43715c3e7a88f3dfdaf8a36d8be267b9d2896201a547232eba540c2313cc", func := "rivulet/rivuletlaw10.PathsOn", spec := "pathsOn", unfollowed := true, recurses := true, named := ["unicode/utf8.first", "unicode/utf8.acceptRanges"], plainKeys := false, apart := false, laid := [("unicode/utf8.acceptRanges", laid_unicode_utf8_acceptRanges), ("unicode/utf8.first", laid_unicode_utf8_first)] }
def PathsOnSaid : Prop := pathsOnRow.holds Tryz.pinned (OpenSpec.ofChange pathsOnSpec)

/-- ITS FALSE NEIGHBOUR: 'it returns false'. Refute it at one input. -/
def pathsOnWrong : ChangeSpec := { name := "pathsOn", fn := fun _ => fun
  | [d1, d2, d3, d4, d5, d6, d7] => { results := [.lit (.bool false)], args := [d1, d2, d3, d4, d5, d6, d7] }
  | _ => none }
def PathsOnWrongFalsely : Prop := pathsOnRow.holds Tryz.pinned (OpenSpec.ofChange pathsOnWrong)

/-- 'rivuletlaw10.PathsAsks': WHATEVER THE INPUT: true; the input reads as it did. -/
def pathsAsksSpec : ChangeSpec := { name := "pathsAsks", fn := fun _ => fun
  | [d1, d2, d3, d4, d5, d6, d7] => { results := [.lit (.bool true)], args := [d1, d2, d3, d4, d5, d6, d7] }
  | _ => none }
def pathsAsksRow : OpenClaim := { program := "ytlbnpmfggfbdoaagreatdoor", sum := "9abc43715c3e7a88f3dfdaf8a36d8be267b9d2896201a547232eba540c2313cc", func := "rivulet/rivuletlaw10.PathsAsks", spec := "pathsAsks", unfollowed := true, recurses := true, named := ["unicode/utf8.first", "unicode/utf8.acceptRanges"], plainKeys := false, apart := false, laid := [("unicode/utf8.acceptRanges", laid_unicode_utf8_acceptRanges), ("unicode/utf8.first", laid_unicode_utf8_first)] }
def PathsAsksSaid : Prop := pathsAsksRow.holds Tryz.pinned (OpenSpec.ofChange pathsAsksSpec)

/-- ITS FALSE NEIGHBOUR: 'it returns false'. Refute it at one input. -/
def pathsAsksWrong : ChangeSpec := { name := "pathsAsks", fn := fun _ => fun
  | [d1, d2, d3, d4, d5, d6, d7] => { results := [.lit (.bool false)], args := [d1, d2, d3, d4, d5, d6, d7] }
  | _ => none }
def PathsAsksWrongFalsely : Prop := pathsAsksRow.holds Tryz.pinned (OpenSpec.ofChange pathsAsksWrong)

/- THE SECOND FORM. 'bulk': how many values and letters a reading holds, each counted each time it is reached (what is shared counts as often as it is met; a slice's spare places count too). A statement '..UptoSaid' is the law's where the arguments, and the package variables that the reading takes, are together of bulk at most 1048576: NARROWER than '..Said'. Prove '..Said' where nothing that the law and all that it calls make is longer than what came in: it says more and counts as full. Else prove '..UptoSaid'. A law counts once. -/
mutual
def uptoBulk {H : Type} : DataW H → Nat
  | .lit (.string bytes) => bytes.length + 1
  | .lit _ => 1
  | .nil => 1
  | .ptr d => uptoBulk d + 1
  | .slice elems spare => uptoBulkAll elems + uptoBulkAll spare + 1
  | .agg parts => uptoBulkAll parts + 1
  | .iface _ d => uptoBulk d + 1
  | .map entries => uptoBulkEntries entries + 1
  | .held _ => 1
def uptoBulkAll {H : Type} : List (DataW H) → Nat
  | [] => 0
  | d :: r => uptoBulk d + uptoBulkAll r
def uptoBulkEntries {H : Type} : List (Lit × DataW H) → Nat
  | [] => 0
  | x :: r => uptoBulkEntry x + uptoBulkEntries r
def uptoBulkEntry {H : Type} : Lit × DataW H → Nat
  | (.string bytes, d) => bytes.length + uptoBulk d + 1
  | (_, d) => uptoBulk d + 1
 end
def uptoSmall : (H : Type) → List (DataW H) → Bool := fun _ ds => decide (uptoBulkAll ds ≤ 1048576)
def OpenSpec.upto (s : _root_.Go.ChangeSpec) : _root_.Go.OpenSpec := { _root_.Go.OpenSpec.ofChange s with cond := some uptoSmall }

/-- 'rivuletlaw10.PathsTables', WHERE WHAT IT READS IS OF BULK AT MOST 1048576: true; the input reads as it did. -/
def pathsTablesUptoRow : OpenClaim := { program := "ytlbnpmfggfbdoaagreatdoor", sum := "9abc43715c3e7a88f3dfdaf8a36d8be267b9d2896201a547232eba540c2313cc", func := "rivulet/rivuletlaw10.PathsTables", spec := "pathsTables", unfollowed := true, recurses := true, named := ["unicode/utf8.first", "unicode/utf8.acceptRanges"], plainKeys := false, apart := false, laid := [("unicode/utf8.acceptRanges", laid_unicode_utf8_acceptRanges), ("unicode/utf8.first", laid_unicode_utf8_first)], narrowed := true }
def PathsTablesUptoSaid : Prop := pathsTablesUptoRow.holds Tryz.pinned (OpenSpec.upto pathsTablesSpec)

/-- 'rivuletlaw10.PathsWays', WHERE WHAT IT READS IS OF BULK AT MOST 1048576: true; the input reads as it did. -/
def pathsWaysUptoRow : OpenClaim := { program := "ytlbnpmfggfbdoaagreatdoor", sum := "9abc43715c3e7a88f3dfdaf8a36d8be267b9d2896201a547232eba540c2313cc", func := "rivulet/rivuletlaw10.PathsWays", spec := "pathsWays", unfollowed := true, recurses := true, named := ["unicode/utf8.first", "unicode/utf8.acceptRanges"], plainKeys := false, apart := false, laid := [("unicode/utf8.acceptRanges", laid_unicode_utf8_acceptRanges), ("unicode/utf8.first", laid_unicode_utf8_first)], narrowed := true }
def PathsWaysUptoSaid : Prop := pathsWaysUptoRow.holds Tryz.pinned (OpenSpec.upto pathsWaysSpec)

/-- 'rivuletlaw10.PathsSteps', WHERE WHAT IT READS IS OF BULK AT MOST 1048576: true; the input reads as it did. -/
def pathsStepsUptoRow : OpenClaim := { program := "ytlbnpmfggfbdoaagreatdoor", sum := "9abc43715c3e7a88f3dfdaf8a36d8be267b9d2896201a547232eba540c2313cc", func := "rivulet/rivuletlaw10.PathsSteps", spec := "pathsSteps", unfollowed := true, recurses := true, named := ["unicode/utf8.first", "unicode/utf8.acceptRanges"], plainKeys := false, apart := false, laid := [("unicode/utf8.acceptRanges", laid_unicode_utf8_acceptRanges), ("unicode/utf8.first", laid_unicode_utf8_first)], narrowed := true }
def PathsStepsUptoSaid : Prop := pathsStepsUptoRow.holds Tryz.pinned (OpenSpec.upto pathsStepsSpec)

/-- 'rivuletlaw10.PathsOn', WHERE WHAT IT READS IS OF BULK AT MOST 1048576: true; the input reads as it did. -/
def pathsOnUptoRow : OpenClaim := { program := "ytlbnpmfggfbdoaagreatdoor", sum := "9abc43715c3e7a88f3dfdaf8a36d8be267b9d2896201a547232eba540c2313cc", func := "rivulet/rivuletlaw10.PathsOn", spec := "pathsOn", unfollowed := true, recurses := true, named := ["unicode/utf8.first", "unicode/utf8.acceptRanges"], plainKeys := false, apart := false, laid := [("unicode/utf8.acceptRanges", laid_unicode_utf8_acceptRanges), ("unicode/utf8.first", laid_unicode_utf8_first)], narrowed := true }
def PathsOnUptoSaid : Prop := pathsOnUptoRow.holds Tryz.pinned (OpenSpec.upto pathsOnSpec)

/-- 'rivuletlaw10.PathsAsks', WHERE WHAT IT READS IS OF BULK AT MOST 1048576: true; the input reads as it did. -/
def pathsAsksUptoRow : OpenClaim := { program := "ytlbnpmfggfbdoaagreatdoor", sum := "9abc43715c3e7a88f3dfdaf8a36d8be267b9d2896201a547232eba540c2313cc", func := "rivulet/rivuletlaw10.PathsAsks", spec := "pathsAsks", unfollowed := true, recurses := true, named := ["unicode/utf8.first", "unicode/utf8.acceptRanges"], plainKeys := false, apart := false, laid := [("unicode/utf8.acceptRanges", laid_unicode_utf8_acceptRanges), ("unicode/utf8.first", laid_unicode_utf8_first)], narrowed := true }
def PathsAsksUptoSaid : Prop := pathsAsksUptoRow.holds Tryz.pinned (OpenSpec.upto pathsAsksSpec)

end Rows
end Go.Proofs.YtlbnpmfggfbdoaaGreatDoor
