/-
  NARROWER THAN 'FOR EVERY INPUT', by the rows' own cells (each row's printed sentence says how): SchemaState: laid · SchemaParts: laid · SchemaMoves: laid · SchemaAsWas: laid.
  DERIVED. THE GIVEN ROWS OF THIS SEAT. 4 by the template 'for every input the law returns true; each argument reads behind the call as it read before'; 0 by the template 'total and deterministic' (their statements: YtfpemeeadiigcaaDoorTotals.lean).
  GIVEN WITH THE SEED: the statements are not yours to turn. If you find one false, say at which input.
  Laid BY PROGRAM, IN A SANDBOX (cutbox-rows.mjs): the forced cells as the released guide's own fill.sh prints them over the translation 67fe19ce3e214ac9… (all of the seat's roots in one cut). By AI agents, Wed Nov 11 2026. No macro, syntax, notation, axiom, sorry.
-/
import Derived.Test.YtfpemeeadiigcaaDoorChecked
import GoSem.PinnedTables
import GoSem.Claim
import GoSem.ClaimJoined
import GoSem.ClaimMapViews
import Derived.JoinedTies
import Derived.KernelRfl
namespace Go.Proofs.YtfpemeeadiigcaaDoor
/- THE CELL 'sum', in the pinned program and in every row, IS THE sha256 OF THE DUMP (.gsa) THAT YtfpemeeadiigcaaDoorProg.lean LOADS. Nothing in Lean hashes anything: it is a label: what it is worth is what the hold of that sum in a sandbox is worth. -/
noncomputable def Tryd.pinned : Pinned := { name := "ytfpemeeadiigcaadoor", sum := "67fe19ce3e214ac90c5b2122afa0094a2dc53fbcc29e73dea87d30666b6308ce", checked := Tryd.checked }
namespace Rows
def none {H : Type} : Left H := { results := [], args := [] }

/- WHAT THE LISTED PACKAGE-LEVEL VARIABLES READ AS WHEN THE CALL BEGINS. Each datum BY PROGRAM (the guide's laid-datum.mjs) off the statement by which the dump's own 'gosem.cut.vars' lays the variable. In a bare row this is a premise. The card (YtfpemeeadiigcaaDoorCards.lean) ties it to the program's text. -/
def laid_unicode_utf8_acceptRanges {H : Type} : DataW H := .agg [.agg [.lit (.int .u8 128), .lit (.int .u8 191)], .agg [.lit (.int .u8 160), .lit (.int .u8 191)], .agg [.lit (.int .u8 128), .lit (.int .u8 159)], .agg [.lit (.int .u8 144), .lit (.int .u8 191)], .agg [.lit (.int .u8 128), .lit (.int .u8 143)], .agg [.lit (.int .u8 0), .lit (.int .u8 0)], .agg [.lit (.int .u8 0), .lit (.int .u8 0)], .agg [.lit (.int .u8 0), .lit (.int .u8 0)], .agg [.lit (.int .u8 0), .lit (.int .u8 0)], .agg [.lit (.int .u8 0), .lit (.int .u8 0)], .agg [.lit (.int .u8 0), .lit (.int .u8 0)], .agg [.lit (.int .u8 0), .lit (.int .u8 0)], .agg [.lit (.int .u8 0), .lit (.int .u8 0)], .agg [.lit (.int .u8 0), .lit (.int .u8 0)], .agg [.lit (.int .u8 0), .lit (.int .u8 0)], .agg [.lit (.int .u8 0), .lit (.int .u8 0)]]
/-- One of Go's own tables, pinned by name: the form's constant. -/
def laid_unicode_utf8_first : DataW Unit := Go.Pinned.utf8First

/-- 'rivuletlaw18.SchemaState': WHATEVER THE INPUT: true; the input reads as it did. -/
def schemaStateSpec : ChangeSpec := { name := "schemaState", fn := fun _ => fun
  | [d1, d2, d3] => { results := [.lit (.bool true)], args := [d1, d2, d3] }
  | _ => none }
def schemaStateRow : OpenClaim := { program := "ytfpemeeadiigcaadoor", sum := "67fe19ce3e214ac90c5b2122afa0094a2dc53fbcc29e73dea87d30666b6308ce", func := "rivulet/rivuletlaw18.SchemaState", spec := "schemaState", inPlace := ["internal/bytealg.abigen_runtime_cmpstring"], unfollowed := true, recurses := true, named := ["unicode/utf8.first", "unicode/utf8.acceptRanges"], plainKeys := false, apart := false, laid := [("unicode/utf8.acceptRanges", laid_unicode_utf8_acceptRanges), ("unicode/utf8.first", laid_unicode_utf8_first)] }
def SchemaStateSaid : Prop := schemaStateRow.holds Tryd.pinned (OpenSpec.ofChange schemaStateSpec)

/-- ITS FALSE NEIGHBOUR: 'it returns false'. Refute it at one input. -/
def schemaStateWrong : ChangeSpec := { name := "schemaState", fn := fun _ => fun
  | [d1, d2, d3] => { results := [.lit (.bool false)], args := [d1, d2, d3] }
  | _ => none }
def SchemaStateWrongFalsely : Prop := schemaStateRow.holds Tryd.pinned (OpenSpec.ofChange schemaStateWrong)

/-- 'rivuletlaw18.SchemaParts': WHATEVER THE INPUT: true; the input reads as it did. -/
def schemaPartsSpec : ChangeSpec := { name := "schemaParts", fn := fun _ => fun
  | [d1, d2, d3, d4] => { results := [.lit (.bool true)], args := [d1, d2, d3, d4] }
  | _ => none }
def schemaPartsRow : OpenClaim := { program := "ytfpemeeadiigcaadoor", sum := "67fe19ce3e214ac90c5b2122afa0094a2dc53fbcc29e73dea87d30666b6308ce", func := "rivulet/rivuletlaw18.SchemaParts", spec := "schemaParts", inPlace := ["internal/bytealg.abigen_runtime_cmpstring"], unfollowed := true, recurses := true, named := ["unicode/utf8.first", "unicode/utf8.acceptRanges"], plainKeys := false, apart := false, laid := [("unicode/utf8.acceptRanges", laid_unicode_utf8_acceptRanges), ("unicode/utf8.first", laid_unicode_utf8_first)] }
def SchemaPartsSaid : Prop := schemaPartsRow.holds Tryd.pinned (OpenSpec.ofChange schemaPartsSpec)

/-- ITS FALSE NEIGHBOUR: 'it returns false'. Refute it at one input. -/
def schemaPartsWrong : ChangeSpec := { name := "schemaParts", fn := fun _ => fun
  | [d1, d2, d3, d4] => { results := [.lit (.bool false)], args := [d1, d2, d3, d4] }
  | _ => none }
def SchemaPartsWrongFalsely : Prop := schemaPartsRow.holds Tryd.pinned (OpenSpec.ofChange schemaPartsWrong)

/-- 'rivuletlaw18.SchemaMoves': WHATEVER THE INPUT: true; the input reads as it did. -/
def schemaMovesSpec : ChangeSpec := { name := "schemaMoves", fn := fun _ => fun
  | [d1, d2, d3] => { results := [.lit (.bool true)], args := [d1, d2, d3] }
  | _ => none }
def schemaMovesRow : OpenClaim := { program := "ytfpemeeadiigcaadoor", sum := "67fe19ce3e214ac90c5b2122afa0094a2dc53fbcc29e73dea87d30666b6308ce", func := "rivulet/rivuletlaw18.SchemaMoves", spec := "schemaMoves", inPlace := ["internal/bytealg.abigen_runtime_cmpstring"], unfollowed := true, recurses := true, named := ["unicode/utf8.first", "unicode/utf8.acceptRanges"], plainKeys := false, apart := false, laid := [("unicode/utf8.acceptRanges", laid_unicode_utf8_acceptRanges), ("unicode/utf8.first", laid_unicode_utf8_first)] }
def SchemaMovesSaid : Prop := schemaMovesRow.holds Tryd.pinned (OpenSpec.ofChange schemaMovesSpec)

/-- ITS FALSE NEIGHBOUR: 'it returns false'. Refute it at one input. -/
def schemaMovesWrong : ChangeSpec := { name := "schemaMoves", fn := fun _ => fun
  | [d1, d2, d3] => { results := [.lit (.bool false)], args := [d1, d2, d3] }
  | _ => none }
def SchemaMovesWrongFalsely : Prop := schemaMovesRow.holds Tryd.pinned (OpenSpec.ofChange schemaMovesWrong)

/-- 'rivuletlaw18.SchemaAsWas': WHATEVER THE INPUT: true; the input reads as it did. -/
def schemaAsWasSpec : ChangeSpec := { name := "schemaAsWas", fn := fun _ => fun
  | [d1, d2, d3, d4] => { results := [.lit (.bool true)], args := [d1, d2, d3, d4] }
  | _ => none }
def schemaAsWasRow : OpenClaim := { program := "ytfpemeeadiigcaadoor", sum := "67fe19ce3e214ac90c5b2122afa0094a2dc53fbcc29e73dea87d30666b6308ce", func := "rivulet/rivuletlaw18.SchemaAsWas", spec := "schemaAsWas", inPlace := ["internal/bytealg.abigen_runtime_cmpstring"], unfollowed := true, recurses := true, named := ["unicode/utf8.first", "unicode/utf8.acceptRanges"], plainKeys := false, apart := false, laid := [("unicode/utf8.acceptRanges", laid_unicode_utf8_acceptRanges), ("unicode/utf8.first", laid_unicode_utf8_first)] }
def SchemaAsWasSaid : Prop := schemaAsWasRow.holds Tryd.pinned (OpenSpec.ofChange schemaAsWasSpec)

/-- ITS FALSE NEIGHBOUR: 'it returns false'. Refute it at one input. -/
def schemaAsWasWrong : ChangeSpec := { name := "schemaAsWas", fn := fun _ => fun
  | [d1, d2, d3, d4] => { results := [.lit (.bool false)], args := [d1, d2, d3, d4] }
  | _ => none }
def SchemaAsWasWrongFalsely : Prop := schemaAsWasRow.holds Tryd.pinned (OpenSpec.ofChange schemaAsWasWrong)

/- THE SECOND FORM. 'bulk': how many values and letters a reading holds, each counted each time it is reached (what is shared counts as often as it is met; a slice's spare places count too). A statement '..UptoSaid' is the law's where the arguments, and the package variables that the reading takes, are together of bulk at most 1048576: NARROWER than '..Said'. Prove '..Said' where nothing that the law and all that it calls make is longer than what came in: it says more and counts as full. Else prove '..UptoSaid'. A law counts once. -/
mutual
def uptoBulk {H : Type} : DataW H → Nat
  | .lit (.string bytes) => bytes.length + 1
  | .lit _ => 1
  | .nil => 1
  | .ptr d => uptoBulk d + 1
  | .slice elems spare => uptoBulkAll elems + uptoBulkAll spare + 1
  | .agg parts => uptoBulkAll parts + 1
  | .iface _ d => uptoBulk d + 1
  | .map entries => uptoBulkEntries entries + 1
  | .held _ => 1
def uptoBulkAll {H : Type} : List (DataW H) → Nat
  | [] => 0
  | d :: r => uptoBulk d + uptoBulkAll r
def uptoBulkEntries {H : Type} : List (Lit × DataW H) → Nat
  | [] => 0
  | x :: r => uptoBulkEntry x + uptoBulkEntries r
def uptoBulkEntry {H : Type} : Lit × DataW H → Nat
  | (.string bytes, d) => bytes.length + uptoBulk d + 1
  | (_, d) => uptoBulk d + 1
 end
def uptoSmall : (H : Type) → List (DataW H) → Bool := fun _ ds => decide (uptoBulkAll ds ≤ 1048576)
def OpenSpec.upto (s : _root_.Go.ChangeSpec) : _root_.Go.OpenSpec := { _root_.Go.OpenSpec.ofChange s with cond := some uptoSmall }

/-- 'rivuletlaw18.SchemaState', WHERE WHAT IT READS IS OF BULK AT MOST 1048576: true; the input reads as it did. -/
def schemaStateUptoRow : OpenClaim := { program := "ytfpemeeadiigcaadoor", sum := "67fe19ce3e214ac90c5b2122afa0094a2dc53fbcc29e73dea87d30666b6308ce", func := "rivulet/rivuletlaw18.SchemaState", spec := "schemaState", inPlace := ["internal/bytealg.abigen_runtime_cmpstring"], unfollowed := true, recurses := true, named := ["unicode/utf8.first", "unicode/utf8.acceptRanges"], plainKeys := false, apart := false, laid := [("unicode/utf8.acceptRanges", laid_unicode_utf8_acceptRanges), ("unicode/utf8.first", laid_unicode_utf8_first)], narrowed := true }
def SchemaStateUptoSaid : Prop := schemaStateUptoRow.holds Tryd.pinned (OpenSpec.upto schemaStateSpec)

/-- 'rivuletlaw18.SchemaParts', WHERE WHAT IT READS IS OF BULK AT MOST 1048576: true; the input reads as it did. -/
def schemaPartsUptoRow : OpenClaim := { program := "ytfpemeeadiigcaadoor", sum := "67fe19ce3e214ac90c5b2122afa0094a2dc53fbcc29e73dea87d30666b6308ce", func := "rivulet/rivuletlaw18.SchemaParts", spec := "schemaParts", inPlace := ["internal/bytealg.abigen_runtime_cmpstring"], unfollowed := true, recurses := true, named := ["unicode/utf8.first", "unicode/utf8.acceptRanges"], plainKeys := false, apart := false, laid := [("unicode/utf8.acceptRanges", laid_unicode_utf8_acceptRanges), ("unicode/utf8.first", laid_unicode_utf8_first)], narrowed := true }
def SchemaPartsUptoSaid : Prop := schemaPartsUptoRow.holds Tryd.pinned (OpenSpec.upto schemaPartsSpec)

/-- 'rivuletlaw18.SchemaMoves', WHERE WHAT IT READS IS OF BULK AT MOST 1048576: true; the input reads as it did. -/
def schemaMovesUptoRow : OpenClaim := { program := "ytfpemeeadiigcaadoor", sum := "67fe19ce3e214ac90c5b2122afa0094a2dc53fbcc29e73dea87d30666b6308ce", func := "rivulet/rivuletlaw18.SchemaMoves", spec := "schemaMoves", inPlace := ["internal/bytealg.abigen_runtime_cmpstring"], unfollowed := true, recurses := true, named := ["unicode/utf8.first", "unicode/utf8.acceptRanges"], plainKeys := false, apart := false, laid := [("unicode/utf8.acceptRanges", laid_unicode_utf8_acceptRanges), ("unicode/utf8.first", laid_unicode_utf8_first)], narrowed := true }
def SchemaMovesUptoSaid : Prop := schemaMovesUptoRow.holds Tryd.pinned (OpenSpec.upto schemaMovesSpec)

/-- 'rivuletlaw18.SchemaAsWas', WHERE WHAT IT READS IS OF BULK AT MOST 1048576: true; the input reads as it did. -/
def schemaAsWasUptoRow : OpenClaim := { program := "ytfpemeeadiigcaadoor", sum := "67fe19ce3e214ac90c5b2122afa0094a2dc53fbcc29e73dea87d30666b6308ce", func := "rivulet/rivuletlaw18.SchemaAsWas", spec := "schemaAsWas", inPlace := ["internal/bytealg.abigen_runtime_cmpstring"], unfollowed := true, recurses := true, named := ["unicode/utf8.first", "unicode/utf8.acceptRanges"], plainKeys := false, apart := false, laid := [("unicode/utf8.acceptRanges", laid_unicode_utf8_acceptRanges), ("unicode/utf8.first", laid_unicode_utf8_first)], narrowed := true }
def SchemaAsWasUptoSaid : Prop := schemaAsWasUptoRow.holds Tryd.pinned (OpenSpec.upto schemaAsWasSpec)

end Rows
end Go.Proofs.YtfpemeeadiigcaaDoor
