/-
  DERIVED. GIVEN WITH THE SEED: THE CARDS: each row of YtbdlcighhphaoaaDoorRows.lean that lists a variable, with what it lists TIED to the program's text (the seventh form; the later family's looks); each row that meets fmt, with fmt's text TOLD by the authors' own Lean function (tested against real Go, not proved from fmt's source: count such statements apart). THE CARD IS WHAT COUNTS. Prove the row's statement (the work); the ties are given (YtbdlcighhphaoaaDoorTie.lean); close each card by the builder's one call (the guide's Derived/Test/ToyasCard.lean, 'card_holds'). Laid BY PROGRAM, IN A SANDBOX (cutbox-door.mjs). By AI agents, Wed Nov 11 2026. No macro, syntax, notation, axiom, sorry.
-/
import Derived.Test.YtbdlcighhphaoaaDoorRows
import GoSem.ClaimSeven
namespace Go.Proofs.YtbdlcighhphaoaaDoor
namespace Rows

/-- THE TIED CARD OF 'rivuletlaw08.GraphPart'. -/
def graphPartCard : Claim7 := { stood := { row := graphPartRow, standIns := [], harness := (true, "457d12e9bc61cdb79bba3c0ce5e87f8b62100122b89a9273838a7a650f225db8"), looks := false }, kinds := [], alts := [], laidByText := true, laidKinds := [.data, .pinned], laidTests := true, laidLooks := .later }
def GraphPartCardSaid : Prop := Claim7.holds Tryd.pinned (.plain (OpenSpec.ofChange graphPartSpec)) graphPartCard

/-- THE TIED CARD OF 'rivuletlaw08.GraphSame'. -/
def graphSameCard : Claim7 := { stood := { row := graphSameRow, standIns := [], harness := (true, "457d12e9bc61cdb79bba3c0ce5e87f8b62100122b89a9273838a7a650f225db8"), looks := false }, kinds := [], alts := [], laidByText := true, laidKinds := [.data, .pinned], laidTests := true, laidLooks := .later }
def GraphSameCardSaid : Prop := Claim7.holds Tryd.pinned (.plain (OpenSpec.ofChange graphSameSpec)) graphSameCard

/-- THE TIED CARD OF 'rivuletlaw08.GraphOn'. -/
def graphOnCard : Claim7 := { stood := { row := graphOnRow, standIns := [], harness := (true, "457d12e9bc61cdb79bba3c0ce5e87f8b62100122b89a9273838a7a650f225db8"), looks := false }, kinds := [], alts := [], laidByText := true, laidKinds := [.data, .pinned], laidTests := true, laidLooks := .later }
def GraphOnCardSaid : Prop := Claim7.holds Tryd.pinned (.plain (OpenSpec.ofChange graphOnSpec)) graphOnCard

/-- THE TIED CARD OF 'rivuletlaw08.GraphSteps'. -/
def graphStepsCard : Claim7 := { stood := { row := graphStepsRow, standIns := [], harness := (true, "457d12e9bc61cdb79bba3c0ce5e87f8b62100122b89a9273838a7a650f225db8"), looks := false }, kinds := [], alts := [], laidByText := true, laidKinds := [.data, .pinned], laidTests := true, laidLooks := .later }
def GraphStepsCardSaid : Prop := Claim7.holds Tryd.pinned (.plain (OpenSpec.ofChange graphStepsSpec)) graphStepsCard

/-- THE TIED CARD OF 'rivuletlaw08.GraphOrder'. -/
def graphOrderCard : Claim7 := { stood := { row := graphOrderRow, standIns := [], harness := (true, "457d12e9bc61cdb79bba3c0ce5e87f8b62100122b89a9273838a7a650f225db8"), looks := false }, kinds := [], alts := [], laidByText := true, laidKinds := [.data, .pinned], laidTests := true, laidLooks := .later }
def GraphOrderCardSaid : Prop := Claim7.holds Tryd.pinned (.plain (OpenSpec.ofChange graphOrderSpec)) graphOrderCard

/-- THE SECOND FORM's CARD OF 'rivuletlaw08.GraphPart'. -/
def graphPartUptoCard : Claim7 := { stood := { row := graphPartUptoRow, standIns := [], harness := (true, "457d12e9bc61cdb79bba3c0ce5e87f8b62100122b89a9273838a7a650f225db8"), looks := false }, kinds := [], alts := [], laidByText := true, laidKinds := [.data, .pinned], laidTests := true, laidLooks := .later }
def GraphPartUptoCardSaid : Prop := Claim7.holds Tryd.pinned (.plain (OpenSpec.upto graphPartSpec)) graphPartUptoCard

/-- THE SECOND FORM's CARD OF 'rivuletlaw08.GraphSame'. -/
def graphSameUptoCard : Claim7 := { stood := { row := graphSameUptoRow, standIns := [], harness := (true, "457d12e9bc61cdb79bba3c0ce5e87f8b62100122b89a9273838a7a650f225db8"), looks := false }, kinds := [], alts := [], laidByText := true, laidKinds := [.data, .pinned], laidTests := true, laidLooks := .later }
def GraphSameUptoCardSaid : Prop := Claim7.holds Tryd.pinned (.plain (OpenSpec.upto graphSameSpec)) graphSameUptoCard

/-- THE SECOND FORM's CARD OF 'rivuletlaw08.GraphOn'. -/
def graphOnUptoCard : Claim7 := { stood := { row := graphOnUptoRow, standIns := [], harness := (true, "457d12e9bc61cdb79bba3c0ce5e87f8b62100122b89a9273838a7a650f225db8"), looks := false }, kinds := [], alts := [], laidByText := true, laidKinds := [.data, .pinned], laidTests := true, laidLooks := .later }
def GraphOnUptoCardSaid : Prop := Claim7.holds Tryd.pinned (.plain (OpenSpec.upto graphOnSpec)) graphOnUptoCard

/-- THE SECOND FORM's CARD OF 'rivuletlaw08.GraphSteps'. -/
def graphStepsUptoCard : Claim7 := { stood := { row := graphStepsUptoRow, standIns := [], harness := (true, "457d12e9bc61cdb79bba3c0ce5e87f8b62100122b89a9273838a7a650f225db8"), looks := false }, kinds := [], alts := [], laidByText := true, laidKinds := [.data, .pinned], laidTests := true, laidLooks := .later }
def GraphStepsUptoCardSaid : Prop := Claim7.holds Tryd.pinned (.plain (OpenSpec.upto graphStepsSpec)) graphStepsUptoCard

/-- THE SECOND FORM's CARD OF 'rivuletlaw08.GraphOrder'. -/
def graphOrderUptoCard : Claim7 := { stood := { row := graphOrderUptoRow, standIns := [], harness := (true, "457d12e9bc61cdb79bba3c0ce5e87f8b62100122b89a9273838a7a650f225db8"), looks := false }, kinds := [], alts := [], laidByText := true, laidKinds := [.data, .pinned], laidTests := true, laidLooks := .later }
def GraphOrderUptoCardSaid : Prop := Claim7.holds Tryd.pinned (.plain (OpenSpec.upto graphOrderSpec)) graphOrderUptoCard
end Rows
end Go.Proofs.YtbdlcighhphaoaaDoor
