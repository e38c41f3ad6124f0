/-
  DERIVED. GIVEN WITH THE SEED: THE CARDS: each row of YtfdfcaiiengdfaaGreatDoorRows.lean that lists a variable, with what it lists TIED to the program's text (the seventh form; the later family's looks); each row that meets fmt, with fmt's text TOLD by the authors' own Lean function (tested against real Go, not proved from fmt's source: count such statements apart). THE CARD IS WHAT COUNTS. Prove the row's statement (the work); the ties are given (YtfdfcaiiengdfaaGreatDoorTie.lean); close each card by the builder's one call (the guide's Derived/Test/ToyasCard.lean, 'card_holds'). Laid BY PROGRAM, IN A SANDBOX (cutbox-door.mjs). By AI agents, Wed Nov 11 2026. No macro, syntax, notation, axiom, sorry.
-/
import Derived.Test.YtfdfcaiiengdfaaGreatDoorRows
import GoSem.ClaimSeven
namespace Go.Proofs.YtfdfcaiiengdfaaGreatDoor
namespace Rows

/-- THE TIED CARD OF 'rivuletlaw22.JournalCut'. -/
def journalCutCard : Claim7 := { stood := { row := journalCutRow, standIns := [], harness := (true, "dcf9895dc01dd190c890d480028fc795193f40708716d6b48c7f1189faf6d443"), looks := false }, kinds := [], alts := [], laidByText := true, laidKinds := [.data, .pinned], laidTests := true, laidLooks := .later }
def JournalCutCardSaid : Prop := Claim7.holds Tryz.pinned (.plain (OpenSpec.ofChange journalCutSpec)) journalCutCard

/-- THE TIED CARD OF 'rivuletlaw22.JournalRises'. -/
def journalRisesCard : Claim7 := { stood := { row := journalRisesRow, standIns := [], harness := (true, "dcf9895dc01dd190c890d480028fc795193f40708716d6b48c7f1189faf6d443"), looks := false }, kinds := [], alts := [], laidByText := true, laidKinds := [.data, .pinned], laidTests := true, laidLooks := .later }
def JournalRisesCardSaid : Prop := Claim7.holds Tryz.pinned (.plain (OpenSpec.ofChange journalRisesSpec)) journalRisesCard

/-- THE TIED CARD OF 'rivuletlaw22.JournalTells'. -/
def journalTellsCard : Claim7 := { stood := { row := journalTellsRow, standIns := [], harness := (true, "dcf9895dc01dd190c890d480028fc795193f40708716d6b48c7f1189faf6d443"), looks := false }, kinds := [], alts := [], laidByText := true, laidKinds := [.data, .pinned], laidTests := true, laidLooks := .later }
def JournalTellsCardSaid : Prop := Claim7.holds Tryz.pinned (.plain (OpenSpec.ofChange journalTellsSpec)) journalTellsCard

/-- THE TIED CARD OF 'rivuletlaw22.JournalNotes'. -/
def journalNotesCard : Claim7 := { stood := { row := journalNotesRow, standIns := [], harness := (true, "dcf9895dc01dd190c890d480028fc795193f40708716d6b48c7f1189faf6d443"), looks := false }, kinds := [], alts := [], laidByText := true, laidKinds := [.data, .pinned], laidTests := true, laidLooks := .later }
def JournalNotesCardSaid : Prop := Claim7.holds Tryz.pinned (.plain (OpenSpec.ofChange journalNotesSpec)) journalNotesCard

/-- THE SECOND FORM's CARD OF 'rivuletlaw22.JournalCut'. -/
def journalCutUptoCard : Claim7 := { stood := { row := journalCutUptoRow, standIns := [], harness := (true, "dcf9895dc01dd190c890d480028fc795193f40708716d6b48c7f1189faf6d443"), looks := false }, kinds := [], alts := [], laidByText := true, laidKinds := [.data, .pinned], laidTests := true, laidLooks := .later }
def JournalCutUptoCardSaid : Prop := Claim7.holds Tryz.pinned (.plain (OpenSpec.upto journalCutSpec)) journalCutUptoCard

/-- THE SECOND FORM's CARD OF 'rivuletlaw22.JournalRises'. -/
def journalRisesUptoCard : Claim7 := { stood := { row := journalRisesUptoRow, standIns := [], harness := (true, "dcf9895dc01dd190c890d480028fc795193f40708716d6b48c7f1189faf6d443"), looks := false }, kinds := [], alts := [], laidByText := true, laidKinds := [.data, .pinned], laidTests := true, laidLooks := .later }
def JournalRisesUptoCardSaid : Prop := Claim7.holds Tryz.pinned (.plain (OpenSpec.upto journalRisesSpec)) journalRisesUptoCard

/-- THE SECOND FORM's CARD OF 'rivuletlaw22.JournalTells'. -/
def journalTellsUptoCard : Claim7 := { stood := { row := journalTellsUptoRow, standIns := [], harness := (true, "dcf9895dc01dd190c890d480028fc795193f40708716d6b48c7f1189faf6d443"), looks := false }, kinds := [], alts := [], laidByText := true, laidKinds := [.data, .pinned], laidTests := true, laidLooks := .later }
def JournalTellsUptoCardSaid : Prop := Claim7.holds Tryz.pinned (.plain (OpenSpec.upto journalTellsSpec)) journalTellsUptoCard

/-- THE SECOND FORM's CARD OF 'rivuletlaw22.JournalNotes'. -/
def journalNotesUptoCard : Claim7 := { stood := { row := journalNotesUptoRow, standIns := [], harness := (true, "dcf9895dc01dd190c890d480028fc795193f40708716d6b48c7f1189faf6d443"), looks := false }, kinds := [], alts := [], laidByText := true, laidKinds := [.data, .pinned], laidTests := true, laidLooks := .later }
def JournalNotesUptoCardSaid : Prop := Claim7.holds Tryz.pinned (.plain (OpenSpec.upto journalNotesSpec)) journalNotesUptoCard
end Rows
end Go.Proofs.YtfdfcaiiengdfaaGreatDoor
