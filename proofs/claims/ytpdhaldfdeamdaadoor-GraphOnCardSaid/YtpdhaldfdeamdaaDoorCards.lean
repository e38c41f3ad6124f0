/-
  DERIVED. GIVEN WITH THE SEED: THE CARDS: each row of YtpdhaldfdeamdaaDoorRows.lean that lists a variable, with what it lists TIED to the program's text (the seventh form; the later family's looks); each row that meets fmt, with fmt's text TOLD by the authors' own Lean function (tested against real Go, not proved from fmt's source: count such statements apart). THE CARD IS WHAT COUNTS. Prove the row's statement (the work); the ties are given (YtpdhaldfdeamdaaDoorTie.lean); close each card by the builder's one call (the guide's Derived/Test/ToyasCard.lean, 'card_holds'). Laid BY PROGRAM, IN A SANDBOX (cutbox-door.mjs). By AI agents, Wed Nov 11 2026. No macro, syntax, notation, axiom, sorry.
-/
import Derived.Test.YtpdhaldfdeamdaaDoorRows
import GoSem.ClaimSeven
namespace Go.Proofs.YtpdhaldfdeamdaaDoor
namespace Rows

/-- THE TIED CARD OF 'rivuletlaw08.GraphSame'. -/
def graphSameCard : Claim7 := { stood := { row := graphSameRow, standIns := [], harness := (true, "db8a74ffce48f34201fd6f4548a35a6b14d07ad1e760183990a86c244aefa0a8"), looks := false }, kinds := [], alts := [], laidByText := true, laidKinds := [.data, .pinned], laidTests := true, laidLooks := .later }
def GraphSameCardSaid : Prop := Claim7.holds Tryd.pinned (.plain (OpenSpec.ofChange graphSameSpec)) graphSameCard

/-- THE TIED CARD OF 'rivuletlaw08.GraphOn'. -/
def graphOnCard : Claim7 := { stood := { row := graphOnRow, standIns := [], harness := (true, "db8a74ffce48f34201fd6f4548a35a6b14d07ad1e760183990a86c244aefa0a8"), looks := false }, kinds := [], alts := [], laidByText := true, laidKinds := [.data, .pinned], laidTests := true, laidLooks := .later }
def GraphOnCardSaid : Prop := Claim7.holds Tryd.pinned (.plain (OpenSpec.ofChange graphOnSpec)) graphOnCard

/-- THE TIED CARD OF 'rivuletlaw08.GraphSteps'. -/
def graphStepsCard : Claim7 := { stood := { row := graphStepsRow, standIns := [], harness := (true, "db8a74ffce48f34201fd6f4548a35a6b14d07ad1e760183990a86c244aefa0a8"), looks := false }, kinds := [], alts := [], laidByText := true, laidKinds := [.data, .pinned], laidTests := true, laidLooks := .later }
def GraphStepsCardSaid : Prop := Claim7.holds Tryd.pinned (.plain (OpenSpec.ofChange graphStepsSpec)) graphStepsCard

/-- THE SECOND FORM's CARD OF 'rivuletlaw08.GraphSame'. -/
def graphSameUptoCard : Claim7 := { stood := { row := graphSameUptoRow, standIns := [], harness := (true, "db8a74ffce48f34201fd6f4548a35a6b14d07ad1e760183990a86c244aefa0a8"), looks := false }, kinds := [], alts := [], laidByText := true, laidKinds := [.data, .pinned], laidTests := true, laidLooks := .later }
def GraphSameUptoCardSaid : Prop := Claim7.holds Tryd.pinned (.plain (OpenSpec.upto graphSameSpec)) graphSameUptoCard

/-- THE SECOND FORM's CARD OF 'rivuletlaw08.GraphOn'. -/
def graphOnUptoCard : Claim7 := { stood := { row := graphOnUptoRow, standIns := [], harness := (true, "db8a74ffce48f34201fd6f4548a35a6b14d07ad1e760183990a86c244aefa0a8"), looks := false }, kinds := [], alts := [], laidByText := true, laidKinds := [.data, .pinned], laidTests := true, laidLooks := .later }
def GraphOnUptoCardSaid : Prop := Claim7.holds Tryd.pinned (.plain (OpenSpec.upto graphOnSpec)) graphOnUptoCard

/-- THE SECOND FORM's CARD OF 'rivuletlaw08.GraphSteps'. -/
def graphStepsUptoCard : Claim7 := { stood := { row := graphStepsUptoRow, standIns := [], harness := (true, "db8a74ffce48f34201fd6f4548a35a6b14d07ad1e760183990a86c244aefa0a8"), looks := false }, kinds := [], alts := [], laidByText := true, laidKinds := [.data, .pinned], laidTests := true, laidLooks := .later }
def GraphStepsUptoCardSaid : Prop := Claim7.holds Tryd.pinned (.plain (OpenSpec.upto graphStepsSpec)) graphStepsUptoCard
end Rows
end Go.Proofs.YtpdhaldfdeamdaaDoor
