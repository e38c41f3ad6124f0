/-
  DERIVED. GIVEN WITH THE SEED: THE CARDS: each row of YtbljnlkhebiniaaGreatDoorRows.lean that lists a variable, with what it lists TIED to the program's text (the seventh form; the later family's looks); each row that meets fmt, with fmt's text TOLD by the authors' own Lean function (tested against real Go, not proved from fmt's source: count such statements apart). THE CARD IS WHAT COUNTS. Prove the row's statement (the work); the ties are given (YtbljnlkhebiniaaGreatDoorTie.lean); close each card by the builder's one call (the guide's Derived/Test/ToyasCard.lean, 'card_holds'). Laid BY PROGRAM, IN A SANDBOX (cutbox-door.mjs). By AI agents, Wed Nov 11 2026. No macro, syntax, notation, axiom, sorry.
-/
import Derived.Test.YtbljnlkhebiniaaGreatDoorRows
import GoSem.ClaimSeven
namespace Go.Proofs.YtbljnlkhebiniaaGreatDoor
namespace Rows

/-- THE TIED CARD OF 'rivuletlaw17.OperTells'. -/
def operTellsCard : Claim7 := { stood := { row := operTellsRow, standIns := [], harness := (true, "3625bcd9b745fe139b92f791089984ce2930baf8856179a1ac346a61d49a712d"), looks := false }, kinds := [], alts := [], laidByText := true, laidKinds := [.data, .pinned], laidTests := true, laidLooks := .later }
def OperTellsCardSaid : Prop := Claim7.holds Tryz.pinned (.plain (OpenSpec.ofChange operTellsSpec)) operTellsCard

/-- THE TIED CARD OF 'rivuletlaw17.OperBatches'. -/
def operBatchesCard : Claim7 := { stood := { row := operBatchesRow, standIns := [], harness := (true, "3625bcd9b745fe139b92f791089984ce2930baf8856179a1ac346a61d49a712d"), looks := false }, kinds := [], alts := [], laidByText := true, laidKinds := [.data, .pinned], laidTests := true, laidLooks := .later }
def OperBatchesCardSaid : Prop := Claim7.holds Tryz.pinned (.plain (OpenSpec.ofChange operBatchesSpec)) operBatchesCard

/-- THE TIED CARD OF 'rivuletlaw17.OperEach'. -/
def operEachCard : Claim7 := { stood := { row := operEachRow, standIns := [], harness := (true, "3625bcd9b745fe139b92f791089984ce2930baf8856179a1ac346a61d49a712d"), looks := false }, kinds := [], alts := [], laidByText := true, laidKinds := [.data, .pinned], laidTests := true, laidLooks := .later }
def OperEachCardSaid : Prop := Claim7.holds Tryz.pinned (.plain (OpenSpec.ofChange operEachSpec)) operEachCard

/-- THE TIED CARD OF 'rivuletlaw17.OperStays'. -/
def operStaysCard : Claim7 := { stood := { row := operStaysRow, standIns := [], harness := (true, "3625bcd9b745fe139b92f791089984ce2930baf8856179a1ac346a61d49a712d"), looks := false }, kinds := [], alts := [], laidByText := true, laidKinds := [.data, .pinned], laidTests := true, laidLooks := .later }
def OperStaysCardSaid : Prop := Claim7.holds Tryz.pinned (.plain (OpenSpec.ofChange operStaysSpec)) operStaysCard

/-- THE SECOND FORM's CARD OF 'rivuletlaw17.OperTells'. -/
def operTellsUptoCard : Claim7 := { stood := { row := operTellsUptoRow, standIns := [], harness := (true, "3625bcd9b745fe139b92f791089984ce2930baf8856179a1ac346a61d49a712d"), looks := false }, kinds := [], alts := [], laidByText := true, laidKinds := [.data, .pinned], laidTests := true, laidLooks := .later }
def OperTellsUptoCardSaid : Prop := Claim7.holds Tryz.pinned (.plain (OpenSpec.upto operTellsSpec)) operTellsUptoCard

/-- THE SECOND FORM's CARD OF 'rivuletlaw17.OperBatches'. -/
def operBatchesUptoCard : Claim7 := { stood := { row := operBatchesUptoRow, standIns := [], harness := (true, "3625bcd9b745fe139b92f791089984ce2930baf8856179a1ac346a61d49a712d"), looks := false }, kinds := [], alts := [], laidByText := true, laidKinds := [.data, .pinned], laidTests := true, laidLooks := .later }
def OperBatchesUptoCardSaid : Prop := Claim7.holds Tryz.pinned (.plain (OpenSpec.upto operBatchesSpec)) operBatchesUptoCard

/-- THE SECOND FORM's CARD OF 'rivuletlaw17.OperEach'. -/
def operEachUptoCard : Claim7 := { stood := { row := operEachUptoRow, standIns := [], harness := (true, "3625bcd9b745fe139b92f791089984ce2930baf8856179a1ac346a61d49a712d"), looks := false }, kinds := [], alts := [], laidByText := true, laidKinds := [.data, .pinned], laidTests := true, laidLooks := .later }
def OperEachUptoCardSaid : Prop := Claim7.holds Tryz.pinned (.plain (OpenSpec.upto operEachSpec)) operEachUptoCard

/-- THE SECOND FORM's CARD OF 'rivuletlaw17.OperStays'. -/
def operStaysUptoCard : Claim7 := { stood := { row := operStaysUptoRow, standIns := [], harness := (true, "3625bcd9b745fe139b92f791089984ce2930baf8856179a1ac346a61d49a712d"), looks := false }, kinds := [], alts := [], laidByText := true, laidKinds := [.data, .pinned], laidTests := true, laidLooks := .later }
def OperStaysUptoCardSaid : Prop := Claim7.holds Tryz.pinned (.plain (OpenSpec.upto operStaysSpec)) operStaysUptoCard
end Rows
end Go.Proofs.YtbljnlkhebiniaaGreatDoor
