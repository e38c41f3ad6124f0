/-
  DERIVED. GIVEN WITH THE SEED: THE CARDS: each row of YtlhiofnikdppeaaGreatDoorRows.lean that lists a variable, with what it lists TIED to the program's text (the seventh form; the later family's looks); each row that meets fmt, with fmt's text TOLD by the authors' own Lean function (tested against real Go, not proved from fmt's source: count such statements apart). THE CARD IS WHAT COUNTS. Prove the row's statement (the work); the ties are given (YtlhiofnikdppeaaGreatDoorTie.lean); close each card by the builder's one call (the guide's Derived/Test/ToyasCard.lean, 'card_holds'). Laid BY PROGRAM, IN A SANDBOX (cutbox-door.mjs). By AI agents, Wed Nov 11 2026. No macro, syntax, notation, axiom, sorry.
-/
import Derived.Test.YtlhiofnikdppeaaGreatDoorRows
import GoSem.ClaimSeven
namespace Go.Proofs.YtlhiofnikdppeaaGreatDoor
namespace Rows

/-- THE TIED CARD OF 'rivuletlaw18.SchemaAll'. -/
def schemaAllCard : Claim7 := { stood := { row := schemaAllRow, standIns := [], harness := (true, "fcdfc0be3b1b062be7e3b37f3f2dff33e71c31ba5793463b53efd4aa70df77db"), looks := false }, kinds := [], alts := [], laidByText := true, laidKinds := [.data, .pinned], laidTests := true, laidLooks := .later }
def SchemaAllCardSaid : Prop := Claim7.holds Tryz.pinned (.plain (OpenSpec.ofChange schemaAllSpec)) schemaAllCard

/-- THE TIED CARD OF 'rivuletlaw18.SchemaNothing'. -/
def schemaNothingCard : Claim7 := { stood := { row := schemaNothingRow, standIns := [], harness := (true, "fcdfc0be3b1b062be7e3b37f3f2dff33e71c31ba5793463b53efd4aa70df77db"), looks := false }, kinds := [], alts := [], laidByText := true, laidKinds := [.data, .pinned], laidTests := true, laidLooks := .later }
def SchemaNothingCardSaid : Prop := Claim7.holds Tryz.pinned (.plain (OpenSpec.ofChange schemaNothingSpec)) schemaNothingCard

/-- THE SECOND FORM's CARD OF 'rivuletlaw18.SchemaAll'. -/
def schemaAllUptoCard : Claim7 := { stood := { row := schemaAllUptoRow, standIns := [], harness := (true, "fcdfc0be3b1b062be7e3b37f3f2dff33e71c31ba5793463b53efd4aa70df77db"), looks := false }, kinds := [], alts := [], laidByText := true, laidKinds := [.data, .pinned], laidTests := true, laidLooks := .later }
def SchemaAllUptoCardSaid : Prop := Claim7.holds Tryz.pinned (.plain (OpenSpec.upto schemaAllSpec)) schemaAllUptoCard

/-- THE SECOND FORM's CARD OF 'rivuletlaw18.SchemaNothing'. -/
def schemaNothingUptoCard : Claim7 := { stood := { row := schemaNothingUptoRow, standIns := [], harness := (true, "fcdfc0be3b1b062be7e3b37f3f2dff33e71c31ba5793463b53efd4aa70df77db"), looks := false }, kinds := [], alts := [], laidByText := true, laidKinds := [.data, .pinned], laidTests := true, laidLooks := .later }
def SchemaNothingUptoCardSaid : Prop := Claim7.holds Tryz.pinned (.plain (OpenSpec.upto schemaNothingSpec)) schemaNothingUptoCard
end Rows
end Go.Proofs.YtlhiofnikdppeaaGreatDoor
