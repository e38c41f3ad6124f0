/-
  DERIVED. GIVEN WITH THE SEED: THE CARDS: each row of YtdimhhfngpppoaaDoorRows.lean that lists a variable, with what it lists TIED to the program's text (the seventh form; the later family's looks); each row that meets fmt, with fmt's text TOLD by the authors' own Lean function (tested against real Go, not proved from fmt's source: count such statements apart). THE CARD IS WHAT COUNTS. Prove the row's statement (the work); the ties are given (YtdimhhfngpppoaaDoorTie.lean); close each card by the builder's one call (the guide's Derived/Test/ToyasCard.lean, 'card_holds'). Laid BY PROGRAM, IN A SANDBOX (cutbox-door.mjs). By AI agents, Wed Nov 11 2026. No macro, syntax, notation, axiom, sorry.
-/
import Derived.Test.YtdimhhfngpppoaaDoorRows
import GoSem.ClaimSeven
namespace Go.Proofs.YtdimhhfngpppoaaDoor
namespace Rows

/-- THE TIED CARD OF 'rivuletlaw08.GraphSame'. -/
def graphSameCard : Claim7 := { stood := { row := graphSameRow, standIns := [], harness := (true, "262405857351b803ef358a1ba2e3f92f479827980d44dda598b36170c58fe9ce"), looks := false }, kinds := [], alts := [], laidByText := true, laidKinds := [.data, .pinned], laidTests := true, laidLooks := .later }
def GraphSameCardSaid : Prop := Claim7.holds Tryd.pinned (.plain (OpenSpec.ofChange graphSameSpec)) graphSameCard

/-- THE SECOND FORM's CARD OF 'rivuletlaw08.GraphSame'. -/
def graphSameUptoCard : Claim7 := { stood := { row := graphSameUptoRow, standIns := [], harness := (true, "262405857351b803ef358a1ba2e3f92f479827980d44dda598b36170c58fe9ce"), looks := false }, kinds := [], alts := [], laidByText := true, laidKinds := [.data, .pinned], laidTests := true, laidLooks := .later }
def GraphSameUptoCardSaid : Prop := Claim7.holds Tryd.pinned (.plain (OpenSpec.upto graphSameSpec)) graphSameUptoCard
end Rows
end Go.Proofs.YtdimhhfngpppoaaDoor
