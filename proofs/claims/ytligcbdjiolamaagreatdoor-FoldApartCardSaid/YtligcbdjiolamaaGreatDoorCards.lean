/-
  DERIVED. GIVEN WITH THE SEED: THE CARDS: each row of YtligcbdjiolamaaGreatDoorRows.lean that lists a variable, with what it lists TIED to the program's text (the seventh form; the later family's looks); each row that meets fmt, with fmt's text TOLD by the authors' own Lean function (tested against real Go, not proved from fmt's source: count such statements apart). THE CARD IS WHAT COUNTS. Prove the row's statement (the work); the ties are given (YtligcbdjiolamaaGreatDoorTie.lean); close each card by the builder's one call (the guide's Derived/Test/ToyasCard.lean, 'card_holds'). Laid BY PROGRAM, IN A SANDBOX (cutbox-door.mjs). By AI agents, Wed Nov 11 2026. No macro, syntax, notation, axiom, sorry.
-/
import Derived.Test.YtligcbdjiolamaaGreatDoorRows
import GoSem.ClaimSeven
namespace Go.Proofs.YtligcbdjiolamaaGreatDoor
namespace Rows

/-- THE TIED CARD OF 'rivuletlaw25.FoldParts'. -/
def foldPartsCard : Claim7 := { stood := { row := foldPartsRow, standIns := [], harness := (true, "cb5ed361193c288ed44bf3cdca77378c696ff3895992b008aebb085afb4dbe0f"), looks := true }, kinds := [], alts := [], laidByText := true, laidKinds := [.data, .pinned], laidTests := true, laidLooks := .later }
def FoldPartsCardSaid : Prop := Claim7.holds Tryz.pinned (.plain (OpenSpec.ofChange foldPartsSpec)) foldPartsCard

/-- THE TIED CARD OF 'rivuletlaw25.FoldWhole'. -/
def foldWholeCard : Claim7 := { stood := { row := foldWholeRow, standIns := [], harness := (true, "cb5ed361193c288ed44bf3cdca77378c696ff3895992b008aebb085afb4dbe0f"), looks := true }, kinds := [], alts := [], laidByText := true, laidKinds := [.data, .pinned], laidTests := true, laidLooks := .later }
def FoldWholeCardSaid : Prop := Claim7.holds Tryz.pinned (.plain (OpenSpec.ofChange foldWholeSpec)) foldWholeCard

/-- THE TIED CARD OF 'rivuletlaw25.FoldApart'. -/
def foldApartCard : Claim7 := { stood := { row := foldApartRow, standIns := [], harness := (true, "cb5ed361193c288ed44bf3cdca77378c696ff3895992b008aebb085afb4dbe0f"), looks := true }, kinds := [], alts := [], laidByText := true, laidKinds := [.data, .pinned], laidTests := true, laidLooks := .later }
def FoldApartCardSaid : Prop := Claim7.holds Tryz.pinned (.plain (OpenSpec.ofChange foldApartSpec)) foldApartCard

/-- THE SECOND FORM's CARD OF 'rivuletlaw25.FoldParts'. -/
def foldPartsUptoCard : Claim7 := { stood := { row := foldPartsUptoRow, standIns := [], harness := (true, "cb5ed361193c288ed44bf3cdca77378c696ff3895992b008aebb085afb4dbe0f"), looks := true }, kinds := [], alts := [], laidByText := true, laidKinds := [.data, .pinned], laidTests := true, laidLooks := .later }
def FoldPartsUptoCardSaid : Prop := Claim7.holds Tryz.pinned (.plain (OpenSpec.upto foldPartsSpec)) foldPartsUptoCard

/-- THE SECOND FORM's CARD OF 'rivuletlaw25.FoldWhole'. -/
def foldWholeUptoCard : Claim7 := { stood := { row := foldWholeUptoRow, standIns := [], harness := (true, "cb5ed361193c288ed44bf3cdca77378c696ff3895992b008aebb085afb4dbe0f"), looks := true }, kinds := [], alts := [], laidByText := true, laidKinds := [.data, .pinned], laidTests := true, laidLooks := .later }
def FoldWholeUptoCardSaid : Prop := Claim7.holds Tryz.pinned (.plain (OpenSpec.upto foldWholeSpec)) foldWholeUptoCard

/-- THE SECOND FORM's CARD OF 'rivuletlaw25.FoldApart'. -/
def foldApartUptoCard : Claim7 := { stood := { row := foldApartUptoRow, standIns := [], harness := (true, "cb5ed361193c288ed44bf3cdca77378c696ff3895992b008aebb085afb4dbe0f"), looks := true }, kinds := [], alts := [], laidByText := true, laidKinds := [.data, .pinned], laidTests := true, laidLooks := .later }
def FoldApartUptoCardSaid : Prop := Claim7.holds Tryz.pinned (.plain (OpenSpec.upto foldApartSpec)) foldApartUptoCard
end Rows
end Go.Proofs.YtligcbdjiolamaaGreatDoor
