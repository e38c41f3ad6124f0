/-
  DERIVED. GIVEN WITH THE SEED: THE CARDS: each row of YtocfaokgoflmhaaGreatDoorRows.lean that lists a variable, with what it lists TIED to the program's text (the seventh form; the later family's looks); each row that meets fmt, with fmt's text TOLD by the authors' own Lean function (tested against real Go, not proved from fmt's source: count such statements apart). THE CARD IS WHAT COUNTS. Prove the row's statement (the work); the ties are given (YtocfaokgoflmhaaGreatDoorTie.lean); close each card by the builder's one call (the guide's Derived/Test/ToyasCard.lean, 'card_holds'). Laid BY PROGRAM, IN A SANDBOX (cutbox-door.mjs). By AI agents, Wed Nov 11 2026. No macro, syntax, notation, axiom, sorry.
-/
import Derived.Test.YtocfaokgoflmhaaGreatDoorRows
import GoSem.ClaimSeven
namespace Go.Proofs.YtocfaokgoflmhaaGreatDoor
namespace Rows

/-- THE TIED CARD OF 'rivuletlaw09.DeltaApplies'. -/
def deltaAppliesCard : Claim7 := { stood := { row := deltaAppliesRow, standIns := [], harness := (true, "3283e29bffe472c440059c67076ca5d73c2362e7d742c527b7531d87cc96f2ab"), looks := false }, kinds := [], alts := [], laidByText := true, laidKinds := [.data, .pinned], laidTests := true, laidLooks := .later }
def DeltaAppliesCardSaid : Prop := Claim7.holds Tryz.pinned (.plain (OpenSpec.ofChange deltaAppliesSpec)) deltaAppliesCard

/-- THE TIED CARD OF 'rivuletlaw09.DeltaDiffs'. -/
def deltaDiffsCard : Claim7 := { stood := { row := deltaDiffsRow, standIns := [], harness := (true, "3283e29bffe472c440059c67076ca5d73c2362e7d742c527b7531d87cc96f2ab"), looks := false }, kinds := [], alts := [], laidByText := true, laidKinds := [.data, .pinned], laidTests := true, laidLooks := .later }
def DeltaDiffsCardSaid : Prop := Claim7.holds Tryz.pinned (.plain (OpenSpec.ofChange deltaDiffsSpec)) deltaDiffsCard

/-- THE TIED CARD OF 'rivuletlaw09.DeltaNothing'. -/
def deltaNothingCard : Claim7 := { stood := { row := deltaNothingRow, standIns := [], harness := (true, "3283e29bffe472c440059c67076ca5d73c2362e7d742c527b7531d87cc96f2ab"), looks := false }, kinds := [], alts := [], laidByText := true, laidKinds := [.data, .pinned], laidTests := true, laidLooks := .later }
def DeltaNothingCardSaid : Prop := Claim7.holds Tryz.pinned (.plain (OpenSpec.ofChange deltaNothingSpec)) deltaNothingCard

/-- THE TIED CARD OF 'rivuletlaw09.DeltaTells'. -/
def deltaTellsCard : Claim7 := { stood := { row := deltaTellsRow, standIns := [], harness := (true, "3283e29bffe472c440059c67076ca5d73c2362e7d742c527b7531d87cc96f2ab"), looks := false }, kinds := [], alts := [], laidByText := true, laidKinds := [.data, .pinned], laidTests := true, laidLooks := .later }
def DeltaTellsCardSaid : Prop := Claim7.holds Tryz.pinned (.plain (OpenSpec.ofChange deltaTellsSpec)) deltaTellsCard

/-- THE TIED CARD OF 'rivuletlaw22.JournalCut'. -/
def journalCutCard : Claim7 := { stood := { row := journalCutRow, standIns := [], harness := (true, "3283e29bffe472c440059c67076ca5d73c2362e7d742c527b7531d87cc96f2ab"), looks := false }, kinds := [], alts := [], laidByText := true, laidKinds := [.data, .pinned], laidTests := true, laidLooks := .later }
def JournalCutCardSaid : Prop := Claim7.holds Tryz.pinned (.plain (OpenSpec.ofChange journalCutSpec)) journalCutCard

/-- THE SECOND FORM's CARD OF 'rivuletlaw09.DeltaApplies'. -/
def deltaAppliesUptoCard : Claim7 := { stood := { row := deltaAppliesUptoRow, standIns := [], harness := (true, "3283e29bffe472c440059c67076ca5d73c2362e7d742c527b7531d87cc96f2ab"), looks := false }, kinds := [], alts := [], laidByText := true, laidKinds := [.data, .pinned], laidTests := true, laidLooks := .later }
def DeltaAppliesUptoCardSaid : Prop := Claim7.holds Tryz.pinned (.plain (OpenSpec.upto deltaAppliesSpec)) deltaAppliesUptoCard

/-- THE SECOND FORM's CARD OF 'rivuletlaw09.DeltaDiffs'. -/
def deltaDiffsUptoCard : Claim7 := { stood := { row := deltaDiffsUptoRow, standIns := [], harness := (true, "3283e29bffe472c440059c67076ca5d73c2362e7d742c527b7531d87cc96f2ab"), looks := false }, kinds := [], alts := [], laidByText := true, laidKinds := [.data, .pinned], laidTests := true, laidLooks := .later }
def DeltaDiffsUptoCardSaid : Prop := Claim7.holds Tryz.pinned (.plain (OpenSpec.upto deltaDiffsSpec)) deltaDiffsUptoCard

/-- THE SECOND FORM's CARD OF 'rivuletlaw09.DeltaNothing'. -/
def deltaNothingUptoCard : Claim7 := { stood := { row := deltaNothingUptoRow, standIns := [], harness := (true, "3283e29bffe472c440059c67076ca5d73c2362e7d742c527b7531d87cc96f2ab"), looks := false }, kinds := [], alts := [], laidByText := true, laidKinds := [.data, .pinned], laidTests := true, laidLooks := .later }
def DeltaNothingUptoCardSaid : Prop := Claim7.holds Tryz.pinned (.plain (OpenSpec.upto deltaNothingSpec)) deltaNothingUptoCard

/-- THE SECOND FORM's CARD OF 'rivuletlaw09.DeltaTells'. -/
def deltaTellsUptoCard : Claim7 := { stood := { row := deltaTellsUptoRow, standIns := [], harness := (true, "3283e29bffe472c440059c67076ca5d73c2362e7d742c527b7531d87cc96f2ab"), looks := false }, kinds := [], alts := [], laidByText := true, laidKinds := [.data, .pinned], laidTests := true, laidLooks := .later }
def DeltaTellsUptoCardSaid : Prop := Claim7.holds Tryz.pinned (.plain (OpenSpec.upto deltaTellsSpec)) deltaTellsUptoCard

/-- THE SECOND FORM's CARD OF 'rivuletlaw22.JournalCut'. -/
def journalCutUptoCard : Claim7 := { stood := { row := journalCutUptoRow, standIns := [], harness := (true, "3283e29bffe472c440059c67076ca5d73c2362e7d742c527b7531d87cc96f2ab"), looks := false }, kinds := [], alts := [], laidByText := true, laidKinds := [.data, .pinned], laidTests := true, laidLooks := .later }
def JournalCutUptoCardSaid : Prop := Claim7.holds Tryz.pinned (.plain (OpenSpec.upto journalCutSpec)) journalCutUptoCard
end Rows
end Go.Proofs.YtocfaokgoflmhaaGreatDoor
