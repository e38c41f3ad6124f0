/-
  DERIVED. GIVEN WITH THE SEED: THE CARDS: each row of YtpoabedecgeamaaGreatDoorRows.lean that lists a variable, with what it lists TIED to the program's text (the seventh form; the later family's looks); each row that meets fmt, with fmt's text TOLD by the authors' own Lean function (tested against real Go, not proved from fmt's source: count such statements apart). THE CARD IS WHAT COUNTS. Prove the row's statement (the work); the ties are given (YtpoabedecgeamaaGreatDoorTie.lean); close each card by the builder's one call (the guide's Derived/Test/ToyasCard.lean, 'card_holds'). Laid BY PROGRAM, IN A SANDBOX (cutbox-door.mjs). By AI agents, Wed Nov 11 2026. No macro, syntax, notation, axiom, sorry.
-/
import Derived.Test.YtpoabedecgeamaaGreatDoorRows
import GoSem.ClaimSeven
namespace Go.Proofs.YtpoabedecgeamaaGreatDoor
namespace Rows

/-- THE TIED CARD OF 'rivuletlaw12.CodecGraphs'. -/
def codecGraphsCard : Claim7 := { stood := { row := codecGraphsRow, standIns := [], harness := (true, "63dc9520e23bc9c4a6851dc9f56b4445578876200157983b6b2780ced0dcce14"), looks := true }, kinds := [], alts := [], laidByText := true, laidKinds := [.data, .pinned], laidTests := true, laidLooks := .later }
def CodecGraphsCardSaid : Prop := Claim7.holds Tryz.pinned (.plain (OpenSpec.ofChange codecGraphsSpec)) codecGraphsCard

/-- THE TIED CARD OF 'rivuletlaw12.CodecBack'. -/
def codecBackCard : Claim7 := { stood := { row := codecBackRow, standIns := [], harness := (true, "63dc9520e23bc9c4a6851dc9f56b4445578876200157983b6b2780ced0dcce14"), looks := true }, kinds := [], alts := [], laidByText := true, laidKinds := [.data, .pinned], laidTests := true, laidLooks := .later }
def CodecBackCardSaid : Prop := Claim7.holds Tryz.pinned (.plain (OpenSpec.ofChange codecBackSpec)) codecBackCard

/-- THE SECOND FORM's CARD OF 'rivuletlaw12.CodecGraphs'. -/
def codecGraphsUptoCard : Claim7 := { stood := { row := codecGraphsUptoRow, standIns := [], harness := (true, "63dc9520e23bc9c4a6851dc9f56b4445578876200157983b6b2780ced0dcce14"), looks := true }, kinds := [], alts := [], laidByText := true, laidKinds := [.data, .pinned], laidTests := true, laidLooks := .later }
def CodecGraphsUptoCardSaid : Prop := Claim7.holds Tryz.pinned (.plain (OpenSpec.upto codecGraphsSpec)) codecGraphsUptoCard

/-- THE SECOND FORM's CARD OF 'rivuletlaw12.CodecBack'. -/
def codecBackUptoCard : Claim7 := { stood := { row := codecBackUptoRow, standIns := [], harness := (true, "63dc9520e23bc9c4a6851dc9f56b4445578876200157983b6b2780ced0dcce14"), looks := true }, kinds := [], alts := [], laidByText := true, laidKinds := [.data, .pinned], laidTests := true, laidLooks := .later }
def CodecBackUptoCardSaid : Prop := Claim7.holds Tryz.pinned (.plain (OpenSpec.upto codecBackSpec)) codecBackUptoCard
end Rows
end Go.Proofs.YtpoabedecgeamaaGreatDoor
