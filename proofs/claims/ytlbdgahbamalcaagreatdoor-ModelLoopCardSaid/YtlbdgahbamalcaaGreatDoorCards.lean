/-
  DERIVED. GIVEN WITH THE SEED: THE CARDS: each row of YtlbdgahbamalcaaGreatDoorRows.lean that lists a variable, with what it lists TIED to the program's text (the seventh form; the later family's looks); each row that meets fmt, with fmt's text TOLD by the authors' own Lean function (tested against real Go, not proved from fmt's source: count such statements apart). THE CARD IS WHAT COUNTS. Prove the row's statement (the work); the ties are given (YtlbdgahbamalcaaGreatDoorTie.lean); close each card by the builder's one call (the guide's Derived/Test/ToyasCard.lean, 'card_holds'). Laid BY PROGRAM, IN A SANDBOX (cutbox-door.mjs). By AI agents, Wed Nov 11 2026. No macro, syntax, notation, axiom, sorry.
-/
import Derived.Test.YtlbdgahbamalcaaGreatDoorRows
import GoSem.ClaimSeven
namespace Go.Proofs.YtlbdgahbamalcaaGreatDoor
namespace Rows

/-- THE TIED CARD OF 'rivuletlaw20.ModelLoop'. -/
def modelLoopCard : Claim7 := { stood := { row := modelLoopRow, standIns := [], harness := (true, "e68e5aa3dd94ebe97bd187235bbec7ad43c4c1dd95d4011420fb773a5659b156"), looks := true }, kinds := [], alts := [], laidByText := true, laidKinds := [.data, .pinned], laidTests := true, laidLooks := .later }
def ModelLoopCardSaid : Prop := Claim7.holds Tryz.pinned (.plain (OpenSpec.ofChange modelLoopSpec)) modelLoopCard

/-- THE TIED CARD OF 'rivuletlaw20.ModelAsks'. -/
def modelAsksCard : Claim7 := { stood := { row := modelAsksRow, standIns := [], harness := (true, "e68e5aa3dd94ebe97bd187235bbec7ad43c4c1dd95d4011420fb773a5659b156"), looks := true }, kinds := [], alts := [], laidByText := true, laidKinds := [.data, .pinned], laidTests := true, laidLooks := .later }
def ModelAsksCardSaid : Prop := Claim7.holds Tryz.pinned (.plain (OpenSpec.ofChange modelAsksSpec)) modelAsksCard

/-- THE SECOND FORM's CARD OF 'rivuletlaw20.ModelLoop'. -/
def modelLoopUptoCard : Claim7 := { stood := { row := modelLoopUptoRow, standIns := [], harness := (true, "e68e5aa3dd94ebe97bd187235bbec7ad43c4c1dd95d4011420fb773a5659b156"), looks := true }, kinds := [], alts := [], laidByText := true, laidKinds := [.data, .pinned], laidTests := true, laidLooks := .later }
def ModelLoopUptoCardSaid : Prop := Claim7.holds Tryz.pinned (.plain (OpenSpec.upto modelLoopSpec)) modelLoopUptoCard

/-- THE SECOND FORM's CARD OF 'rivuletlaw20.ModelAsks'. -/
def modelAsksUptoCard : Claim7 := { stood := { row := modelAsksUptoRow, standIns := [], harness := (true, "e68e5aa3dd94ebe97bd187235bbec7ad43c4c1dd95d4011420fb773a5659b156"), looks := true }, kinds := [], alts := [], laidByText := true, laidKinds := [.data, .pinned], laidTests := true, laidLooks := .later }
def ModelAsksUptoCardSaid : Prop := Claim7.holds Tryz.pinned (.plain (OpenSpec.upto modelAsksSpec)) modelAsksUptoCard
end Rows
end Go.Proofs.YtlbdgahbamalcaaGreatDoor
