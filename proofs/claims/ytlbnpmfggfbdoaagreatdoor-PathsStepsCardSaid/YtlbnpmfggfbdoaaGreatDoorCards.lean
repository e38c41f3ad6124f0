/-
  DERIVED. GIVEN WITH THE SEED: THE CARDS: each row of YtlbnpmfggfbdoaaGreatDoorRows.lean that lists a variable, with what it lists TIED to the program's text (the seventh form; the later family's looks); each row that meets fmt, with fmt's text TOLD by the authors' own Lean function (tested against real Go, not proved from fmt's source: count such statements apart). THE CARD IS WHAT COUNTS. Prove the row's statement (the work); the ties are given (YtlbnpmfggfbdoaaGreatDoorTie.lean); close each card by the builder's one call (the guide's Derived/Test/ToyasCard.lean, 'card_holds'). Laid BY PROGRAM, IN A SANDBOX (cutbox-door.mjs). By AI agents, Wed Nov 11 2026. No macro, syntax, notation, axiom, sorry.
-/
import Derived.Test.YtlbnpmfggfbdoaaGreatDoorRows
import GoSem.ClaimSeven
namespace Go.Proofs.YtlbnpmfggfbdoaaGreatDoor
namespace Rows

/-- THE TIED CARD OF 'rivuletlaw10.PathsTables'. -/
def pathsTablesCard : Claim7 := { stood := { row := pathsTablesRow, standIns := [], harness := (true, "0af9d568bb84d7a8a7896f1e0d35c96323cc734ed9264ae90a39a3d574a26123"), looks := false }, kinds := [], alts := [], laidByText := true, laidKinds := [.data, .pinned], laidTests := true, laidLooks := .later }
def PathsTablesCardSaid : Prop := Claim7.holds Tryz.pinned (.plain (OpenSpec.ofChange pathsTablesSpec)) pathsTablesCard

/-- THE TIED CARD OF 'rivuletlaw10.PathsWays'. -/
def pathsWaysCard : Claim7 := { stood := { row := pathsWaysRow, standIns := [], harness := (true, "0af9d568bb84d7a8a7896f1e0d35c96323cc734ed9264ae90a39a3d574a26123"), looks := false }, kinds := [], alts := [], laidByText := true, laidKinds := [.data, .pinned], laidTests := true, laidLooks := .later }
def PathsWaysCardSaid : Prop := Claim7.holds Tryz.pinned (.plain (OpenSpec.ofChange pathsWaysSpec)) pathsWaysCard

/-- THE TIED CARD OF 'rivuletlaw10.PathsSteps'. -/
def pathsStepsCard : Claim7 := { stood := { row := pathsStepsRow, standIns := [], harness := (true, "0af9d568bb84d7a8a7896f1e0d35c96323cc734ed9264ae90a39a3d574a26123"), looks := false }, kinds := [], alts := [], laidByText := true, laidKinds := [.data, .pinned], laidTests := true, laidLooks := .later }
def PathsStepsCardSaid : Prop := Claim7.holds Tryz.pinned (.plain (OpenSpec.ofChange pathsStepsSpec)) pathsStepsCard

/-- THE TIED CARD OF 'rivuletlaw10.PathsOn'. -/
def pathsOnCard : Claim7 := { stood := { row := pathsOnRow, standIns := [], harness := (true, "0af9d568bb84d7a8a7896f1e0d35c96323cc734ed9264ae90a39a3d574a26123"), looks := false }, kinds := [], alts := [], laidByText := true, laidKinds := [.data, .pinned], laidTests := true, laidLooks := .later }
def PathsOnCardSaid : Prop := Claim7.holds Tryz.pinned (.plain (OpenSpec.ofChange pathsOnSpec)) pathsOnCard

/-- THE TIED CARD OF 'rivuletlaw10.PathsAsks'. -/
def pathsAsksCard : Claim7 := { stood := { row := pathsAsksRow, standIns := [], harness := (true, "0af9d568bb84d7a8a7896f1e0d35c96323cc734ed9264ae90a39a3d574a26123"), looks := false }, kinds := [], alts := [], laidByText := true, laidKinds := [.data, .pinned], laidTests := true, laidLooks := .later }
def PathsAsksCardSaid : Prop := Claim7.holds Tryz.pinned (.plain (OpenSpec.ofChange pathsAsksSpec)) pathsAsksCard

/-- THE SECOND FORM's CARD OF 'rivuletlaw10.PathsTables'. -/
def pathsTablesUptoCard : Claim7 := { stood := { row := pathsTablesUptoRow, standIns := [], harness := (true, "0af9d568bb84d7a8a7896f1e0d35c96323cc734ed9264ae90a39a3d574a26123"), looks := false }, kinds := [], alts := [], laidByText := true, laidKinds := [.data, .pinned], laidTests := true, laidLooks := .later }
def PathsTablesUptoCardSaid : Prop := Claim7.holds Tryz.pinned (.plain (OpenSpec.upto pathsTablesSpec)) pathsTablesUptoCard

/-- THE SECOND FORM's CARD OF 'rivuletlaw10.PathsWays'. -/
def pathsWaysUptoCard : Claim7 := { stood := { row := pathsWaysUptoRow, standIns := [], harness := (true, "0af9d568bb84d7a8a7896f1e0d35c96323cc734ed9264ae90a39a3d574a26123"), looks := false }, kinds := [], alts := [], laidByText := true, laidKinds := [.data, .pinned], laidTests := true, laidLooks := .later }
def PathsWaysUptoCardSaid : Prop := Claim7.holds Tryz.pinned (.plain (OpenSpec.upto pathsWaysSpec)) pathsWaysUptoCard

/-- THE SECOND FORM's CARD OF 'rivuletlaw10.PathsSteps'. -/
def pathsStepsUptoCard : Claim7 := { stood := { row := pathsStepsUptoRow, standIns := [], harness := (true, "0af9d568bb84d7a8a7896f1e0d35c96323cc734ed9264ae90a39a3d574a26123"), looks := false }, kinds := [], alts := [], laidByText := true, laidKinds := [.data, .pinned], laidTests := true, laidLooks := .later }
def PathsStepsUptoCardSaid : Prop := Claim7.holds Tryz.pinned (.plain (OpenSpec.upto pathsStepsSpec)) pathsStepsUptoCard

/-- THE SECOND FORM's CARD OF 'rivuletlaw10.PathsOn'. -/
def pathsOnUptoCard : Claim7 := { stood := { row := pathsOnUptoRow, standIns := [], harness := (true, "0af9d568bb84d7a8a7896f1e0d35c96323cc734ed9264ae90a39a3d574a26123"), looks := false }, kinds := [], alts := [], laidByText := true, laidKinds := [.data, .pinned], laidTests := true, laidLooks := .later }
def PathsOnUptoCardSaid : Prop := Claim7.holds Tryz.pinned (.plain (OpenSpec.upto pathsOnSpec)) pathsOnUptoCard

/-- THE SECOND FORM's CARD OF 'rivuletlaw10.PathsAsks'. -/
def pathsAsksUptoCard : Claim7 := { stood := { row := pathsAsksUptoRow, standIns := [], harness := (true, "0af9d568bb84d7a8a7896f1e0d35c96323cc734ed9264ae90a39a3d574a26123"), looks := false }, kinds := [], alts := [], laidByText := true, laidKinds := [.data, .pinned], laidTests := true, laidLooks := .later }
def PathsAsksUptoCardSaid : Prop := Claim7.holds Tryz.pinned (.plain (OpenSpec.upto pathsAsksSpec)) pathsAsksUptoCard
end Rows
end Go.Proofs.YtlbnpmfggfbdoaaGreatDoor
