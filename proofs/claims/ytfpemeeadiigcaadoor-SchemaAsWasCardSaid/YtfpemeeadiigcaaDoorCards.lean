/-
  DERIVED. GIVEN WITH THE SEED: THE CARDS: each row of YtfpemeeadiigcaaDoorRows.lean that lists a variable, with what it lists TIED to the program's text (the seventh form; the later family's looks); each row that meets fmt, with fmt's text TOLD by the authors' own Lean function (tested against real Go, not proved from fmt's source: count such statements apart). THE CARD IS WHAT COUNTS. Prove the row's statement (the work); the ties are given (YtfpemeeadiigcaaDoorTie.lean); close each card by the builder's one call (the guide's Derived/Test/ToyasCard.lean, 'card_holds'). Laid BY PROGRAM, IN A SANDBOX (cutbox-door.mjs). By AI agents, Wed Nov 11 2026. No macro, syntax, notation, axiom, sorry.
-/
import Derived.Test.YtfpemeeadiigcaaDoorRows
import GoSem.ClaimSeven
namespace Go.Proofs.YtfpemeeadiigcaaDoor
namespace Rows

/-- THE TIED CARD OF 'rivuletlaw18.SchemaState'. -/
def schemaStateCard : Claim7 := { stood := { row := schemaStateRow, standIns := [], harness := (true, "fa8acff36a242ea293fc14af267c9e684e8a4838917daf524b7bf8516b765854"), looks := false }, kinds := [], alts := [], laidByText := true, laidKinds := [.data, .pinned], laidTests := true, laidLooks := .later }
def SchemaStateCardSaid : Prop := Claim7.holds Tryd.pinned (.plain (OpenSpec.ofChange schemaStateSpec)) schemaStateCard

/-- THE TIED CARD OF 'rivuletlaw18.SchemaParts'. -/
def schemaPartsCard : Claim7 := { stood := { row := schemaPartsRow, standIns := [], harness := (true, "fa8acff36a242ea293fc14af267c9e684e8a4838917daf524b7bf8516b765854"), looks := false }, kinds := [], alts := [], laidByText := true, laidKinds := [.data, .pinned], laidTests := true, laidLooks := .later }
def SchemaPartsCardSaid : Prop := Claim7.holds Tryd.pinned (.plain (OpenSpec.ofChange schemaPartsSpec)) schemaPartsCard

/-- THE TIED CARD OF 'rivuletlaw18.SchemaMoves'. -/
def schemaMovesCard : Claim7 := { stood := { row := schemaMovesRow, standIns := [], harness := (true, "fa8acff36a242ea293fc14af267c9e684e8a4838917daf524b7bf8516b765854"), looks := false }, kinds := [], alts := [], laidByText := true, laidKinds := [.data, .pinned], laidTests := true, laidLooks := .later }
def SchemaMovesCardSaid : Prop := Claim7.holds Tryd.pinned (.plain (OpenSpec.ofChange schemaMovesSpec)) schemaMovesCard

/-- THE TIED CARD OF 'rivuletlaw18.SchemaAsWas'. -/
def schemaAsWasCard : Claim7 := { stood := { row := schemaAsWasRow, standIns := [], harness := (true, "fa8acff36a242ea293fc14af267c9e684e8a4838917daf524b7bf8516b765854"), looks := false }, kinds := [], alts := [], laidByText := true, laidKinds := [.data, .pinned], laidTests := true, laidLooks := .later }
def SchemaAsWasCardSaid : Prop := Claim7.holds Tryd.pinned (.plain (OpenSpec.ofChange schemaAsWasSpec)) schemaAsWasCard

/-- THE SECOND FORM's CARD OF 'rivuletlaw18.SchemaState'. -/
def schemaStateUptoCard : Claim7 := { stood := { row := schemaStateUptoRow, standIns := [], harness := (true, "fa8acff36a242ea293fc14af267c9e684e8a4838917daf524b7bf8516b765854"), looks := false }, kinds := [], alts := [], laidByText := true, laidKinds := [.data, .pinned], laidTests := true, laidLooks := .later }
def SchemaStateUptoCardSaid : Prop := Claim7.holds Tryd.pinned (.plain (OpenSpec.upto schemaStateSpec)) schemaStateUptoCard

/-- THE SECOND FORM's CARD OF 'rivuletlaw18.SchemaParts'. -/
def schemaPartsUptoCard : Claim7 := { stood := { row := schemaPartsUptoRow, standIns := [], harness := (true, "fa8acff36a242ea293fc14af267c9e684e8a4838917daf524b7bf8516b765854"), looks := false }, kinds := [], alts := [], laidByText := true, laidKinds := [.data, .pinned], laidTests := true, laidLooks := .later }
def SchemaPartsUptoCardSaid : Prop := Claim7.holds Tryd.pinned (.plain (OpenSpec.upto schemaPartsSpec)) schemaPartsUptoCard

/-- THE SECOND FORM's CARD OF 'rivuletlaw18.SchemaMoves'. -/
def schemaMovesUptoCard : Claim7 := { stood := { row := schemaMovesUptoRow, standIns := [], harness := (true, "fa8acff36a242ea293fc14af267c9e684e8a4838917daf524b7bf8516b765854"), looks := false }, kinds := [], alts := [], laidByText := true, laidKinds := [.data, .pinned], laidTests := true, laidLooks := .later }
def SchemaMovesUptoCardSaid : Prop := Claim7.holds Tryd.pinned (.plain (OpenSpec.upto schemaMovesSpec)) schemaMovesUptoCard

/-- THE SECOND FORM's CARD OF 'rivuletlaw18.SchemaAsWas'. -/
def schemaAsWasUptoCard : Claim7 := { stood := { row := schemaAsWasUptoRow, standIns := [], harness := (true, "fa8acff36a242ea293fc14af267c9e684e8a4838917daf524b7bf8516b765854"), looks := false }, kinds := [], alts := [], laidByText := true, laidKinds := [.data, .pinned], laidTests := true, laidLooks := .later }
def SchemaAsWasUptoCardSaid : Prop := Claim7.holds Tryd.pinned (.plain (OpenSpec.upto schemaAsWasSpec)) schemaAsWasUptoCard
end Rows
end Go.Proofs.YtfpemeeadiigcaaDoor
