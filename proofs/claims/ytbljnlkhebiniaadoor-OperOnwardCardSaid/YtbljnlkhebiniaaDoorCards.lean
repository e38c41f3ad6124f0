/-
  DERIVED. GIVEN WITH THE SEED: THE CARDS: each row of YtbljnlkhebiniaaDoorRows.lean that lists a variable, with what it lists TIED to the program's text (the seventh form; the later family's looks); each row that meets fmt, with fmt's text TOLD by the authors' own Lean function (tested against real Go, not proved from fmt's source: count such statements apart). THE CARD IS WHAT COUNTS. Prove the row's statement (the work); the ties are given (YtbljnlkhebiniaaDoorTie.lean); close each card by the builder's one call (the guide's Derived/Test/ToyasCard.lean, 'card_holds'). Laid BY PROGRAM, IN A SANDBOX (cutbox-door.mjs). By AI agents, Wed Nov 11 2026. No macro, syntax, notation, axiom, sorry.
-/
import Derived.Test.YtbljnlkhebiniaaDoorRows
import GoSem.ClaimSeven
namespace Go.Proofs.YtbljnlkhebiniaaDoor
namespace Rows

/-- THE TIED CARD OF 'rivuletlaw17.OperKeys'. -/
def operKeysCard : Claim7 := { stood := { row := operKeysRow, standIns := [], harness := (true, "7516dc6c279ef79bd371f3fb3eefc7974f32ddd6591ecf333ccdf543b96478c9"), looks := false }, kinds := [], alts := [], laidByText := true, laidKinds := [.data, .pinned], laidTests := true, laidLooks := .later }
def OperKeysCardSaid : Prop := Claim7.holds Tryd.pinned (.plain (OpenSpec.ofChange operKeysSpec)) operKeysCard

/-- THE TIED CARD OF 'rivuletlaw17.OperOnward'. -/
def operOnwardCard : Claim7 := { stood := { row := operOnwardRow, standIns := [], harness := (true, "7516dc6c279ef79bd371f3fb3eefc7974f32ddd6591ecf333ccdf543b96478c9"), looks := false }, kinds := [], alts := [], laidByText := true, laidKinds := [.data, .pinned], laidTests := true, laidLooks := .later }
def OperOnwardCardSaid : Prop := Claim7.holds Tryd.pinned (.plain (OpenSpec.ofChange operOnwardSpec)) operOnwardCard

/-- THE SECOND FORM's CARD OF 'rivuletlaw17.OperKeys'. -/
def operKeysUptoCard : Claim7 := { stood := { row := operKeysUptoRow, standIns := [], harness := (true, "7516dc6c279ef79bd371f3fb3eefc7974f32ddd6591ecf333ccdf543b96478c9"), looks := false }, kinds := [], alts := [], laidByText := true, laidKinds := [.data, .pinned], laidTests := true, laidLooks := .later }
def OperKeysUptoCardSaid : Prop := Claim7.holds Tryd.pinned (.plain (OpenSpec.upto operKeysSpec)) operKeysUptoCard

/-- THE SECOND FORM's CARD OF 'rivuletlaw17.OperOnward'. -/
def operOnwardUptoCard : Claim7 := { stood := { row := operOnwardUptoRow, standIns := [], harness := (true, "7516dc6c279ef79bd371f3fb3eefc7974f32ddd6591ecf333ccdf543b96478c9"), looks := false }, kinds := [], alts := [], laidByText := true, laidKinds := [.data, .pinned], laidTests := true, laidLooks := .later }
def OperOnwardUptoCardSaid : Prop := Claim7.holds Tryd.pinned (.plain (OpenSpec.upto operOnwardSpec)) operOnwardUptoCard
end Rows
end Go.Proofs.YtbljnlkhebiniaaDoor
