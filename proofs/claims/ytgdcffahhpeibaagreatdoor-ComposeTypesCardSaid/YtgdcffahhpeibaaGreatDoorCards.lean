/-
  DERIVED. GIVEN WITH THE SEED: THE CARDS: each row of YtgdcffahhpeibaaGreatDoorRows.lean that lists a variable, with what it lists TIED to the program's text (the seventh form; the later family's looks); each row that meets fmt, with fmt's text TOLD by the authors' own Lean function (tested against real Go, not proved from fmt's source: count such statements apart). THE CARD IS WHAT COUNTS. Prove the row's statement (the work); the ties are given (YtgdcffahhpeibaaGreatDoorTie.lean); close each card by the builder's one call (the guide's Derived/Test/ToyasCard.lean, 'card_holds'). Laid BY PROGRAM, IN A SANDBOX (cutbox-door.mjs). By AI agents, Wed Nov 11 2026. No macro, syntax, notation, axiom, sorry.
-/
import Derived.Test.YtgdcffahhpeibaaGreatDoorRows
import GoSem.ClaimSeven
namespace Go.Proofs.YtgdcffahhpeibaaGreatDoor
namespace Rows

/-- THE TIED CARD OF 'henkantop.TopTypes'. -/
def topTypesCard : Claim7 := { stood := { row := topTypesRow, standIns := [], harness := (true, "af14ec4de127b9a638d4aee02666e6fcbfbd9458861d8291f3dab46d09330b9b"), looks := false }, kinds := [], alts := [], laidByText := true, laidKinds := [.data, .pinned], laidTests := true, laidLooks := .later }
def TopTypesCardSaid : Prop := Claim7.holds Tryz.pinned (.plain (OpenSpec.ofChange topTypesSpec)) topTypesCard

/-- THE TIED CARD OF 'henkanlaw08.ComposeChecks'. -/
def composeChecksCard : Claim7 := { stood := { row := composeChecksRow, standIns := [], harness := (true, "af14ec4de127b9a638d4aee02666e6fcbfbd9458861d8291f3dab46d09330b9b"), looks := false }, kinds := [], alts := [], laidByText := true, laidKinds := [.data, .pinned], laidTests := true, laidLooks := .later }
def ComposeChecksCardSaid : Prop := Claim7.holds Tryz.pinned (.plain (OpenSpec.ofChange composeChecksSpec)) composeChecksCard

/-- THE TIED CARD OF 'henkanlaw08.ComposeInserts'. -/
def composeInsertsCard : Claim7 := { stood := { row := composeInsertsRow, standIns := [], harness := (true, "af14ec4de127b9a638d4aee02666e6fcbfbd9458861d8291f3dab46d09330b9b"), looks := false }, kinds := [], alts := [], laidByText := true, laidKinds := [.data, .pinned], laidTests := true, laidLooks := .later }
def ComposeInsertsCardSaid : Prop := Claim7.holds Tryz.pinned (.plain (OpenSpec.ofChange composeInsertsSpec)) composeInsertsCard

/-- THE TIED CARD OF 'henkanlaw08.ComposeKeeps'. -/
def composeKeepsCard : Claim7 := { stood := { row := composeKeepsRow, standIns := [], harness := (true, "af14ec4de127b9a638d4aee02666e6fcbfbd9458861d8291f3dab46d09330b9b"), looks := false }, kinds := [], alts := [], laidByText := true, laidKinds := [.data, .pinned], laidTests := true, laidLooks := .later }
def ComposeKeepsCardSaid : Prop := Claim7.holds Tryz.pinned (.plain (OpenSpec.ofChange composeKeepsSpec)) composeKeepsCard

/-- THE TIED CARD OF 'henkanlaw08.ComposeTypes'. -/
def composeTypesCard : Claim7 := { stood := { row := composeTypesRow, standIns := [], harness := (true, "af14ec4de127b9a638d4aee02666e6fcbfbd9458861d8291f3dab46d09330b9b"), looks := false }, kinds := [], alts := [], laidByText := true, laidKinds := [.data, .pinned], laidTests := true, laidLooks := .later }
def ComposeTypesCardSaid : Prop := Claim7.holds Tryz.pinned (.plain (OpenSpec.ofChange composeTypesSpec)) composeTypesCard

/-- THE TIED CARD OF 'henkanlaw08.ComposeKnown'. -/
def composeKnownCard : Claim7 := { stood := { row := composeKnownRow, standIns := [], harness := (true, "af14ec4de127b9a638d4aee02666e6fcbfbd9458861d8291f3dab46d09330b9b"), looks := false }, kinds := [], alts := [], laidByText := true, laidKinds := [.data, .pinned], laidTests := true, laidLooks := .later }
def ComposeKnownCardSaid : Prop := Claim7.holds Tryz.pinned (.plain (OpenSpec.ofChange composeKnownSpec)) composeKnownCard

/-- THE TIED CARD OF 'henkanlaw08.ComposeEdits'. -/
def composeEditsCard : Claim7 := { stood := { row := composeEditsRow, standIns := [], harness := (true, "af14ec4de127b9a638d4aee02666e6fcbfbd9458861d8291f3dab46d09330b9b"), looks := false }, kinds := [], alts := [], laidByText := true, laidKinds := [.data, .pinned], laidTests := true, laidLooks := .later }
def ComposeEditsCardSaid : Prop := Claim7.holds Tryz.pinned (.plain (OpenSpec.ofChange composeEditsSpec)) composeEditsCard

/-- THE TIED CARD OF 'henkanlaw08.ComposePlays'. -/
def composePlaysCard : Claim7 := { stood := { row := composePlaysRow, standIns := [], harness := (true, "af14ec4de127b9a638d4aee02666e6fcbfbd9458861d8291f3dab46d09330b9b"), looks := false }, kinds := [], alts := [], laidByText := true, laidKinds := [.data, .pinned], laidTests := true, laidLooks := .later }
def ComposePlaysCardSaid : Prop := Claim7.holds Tryz.pinned (.plain (OpenSpec.ofChange composePlaysSpec)) composePlaysCard

/-- THE TIED CARD OF 'henkanlaw08.ComposeUndoes'. -/
def composeUndoesCard : Claim7 := { stood := { row := composeUndoesRow, standIns := [], harness := (true, "af14ec4de127b9a638d4aee02666e6fcbfbd9458861d8291f3dab46d09330b9b"), looks := false }, kinds := [], alts := [], laidByText := true, laidKinds := [.data, .pinned], laidTests := true, laidLooks := .later }
def ComposeUndoesCardSaid : Prop := Claim7.holds Tryz.pinned (.plain (OpenSpec.ofChange composeUndoesSpec)) composeUndoesCard

/-- THE SECOND FORM's CARD OF 'henkantop.TopTypes'. -/
def topTypesUptoCard : Claim7 := { stood := { row := topTypesUptoRow, standIns := [], harness := (true, "af14ec4de127b9a638d4aee02666e6fcbfbd9458861d8291f3dab46d09330b9b"), looks := false }, kinds := [], alts := [], laidByText := true, laidKinds := [.data, .pinned], laidTests := true, laidLooks := .later }
def TopTypesUptoCardSaid : Prop := Claim7.holds Tryz.pinned (.plain (OpenSpec.upto topTypesSpec)) topTypesUptoCard

/-- THE SECOND FORM's CARD OF 'henkanlaw08.ComposeChecks'. -/
def composeChecksUptoCard : Claim7 := { stood := { row := composeChecksUptoRow, standIns := [], harness := (true, "af14ec4de127b9a638d4aee02666e6fcbfbd9458861d8291f3dab46d09330b9b"), looks := false }, kinds := [], alts := [], laidByText := true, laidKinds := [.data, .pinned], laidTests := true, laidLooks := .later }
def ComposeChecksUptoCardSaid : Prop := Claim7.holds Tryz.pinned (.plain (OpenSpec.upto composeChecksSpec)) composeChecksUptoCard

/-- THE SECOND FORM's CARD OF 'henkanlaw08.ComposeInserts'. -/
def composeInsertsUptoCard : Claim7 := { stood := { row := composeInsertsUptoRow, standIns := [], harness := (true, "af14ec4de127b9a638d4aee02666e6fcbfbd9458861d8291f3dab46d09330b9b"), looks := false }, kinds := [], alts := [], laidByText := true, laidKinds := [.data, .pinned], laidTests := true, laidLooks := .later }
def ComposeInsertsUptoCardSaid : Prop := Claim7.holds Tryz.pinned (.plain (OpenSpec.upto composeInsertsSpec)) composeInsertsUptoCard

/-- THE SECOND FORM's CARD OF 'henkanlaw08.ComposeKeeps'. -/
def composeKeepsUptoCard : Claim7 := { stood := { row := composeKeepsUptoRow, standIns := [], harness := (true, "af14ec4de127b9a638d4aee02666e6fcbfbd9458861d8291f3dab46d09330b9b"), looks := false }, kinds := [], alts := [], laidByText := true, laidKinds := [.data, .pinned], laidTests := true, laidLooks := .later }
def ComposeKeepsUptoCardSaid : Prop := Claim7.holds Tryz.pinned (.plain (OpenSpec.upto composeKeepsSpec)) composeKeepsUptoCard

/-- THE SECOND FORM's CARD OF 'henkanlaw08.ComposeTypes'. -/
def composeTypesUptoCard : Claim7 := { stood := { row := composeTypesUptoRow, standIns := [], harness := (true, "af14ec4de127b9a638d4aee02666e6fcbfbd9458861d8291f3dab46d09330b9b"), looks := false }, kinds := [], alts := [], laidByText := true, laidKinds := [.data, .pinned], laidTests := true, laidLooks := .later }
def ComposeTypesUptoCardSaid : Prop := Claim7.holds Tryz.pinned (.plain (OpenSpec.upto composeTypesSpec)) composeTypesUptoCard

/-- THE SECOND FORM's CARD OF 'henkanlaw08.ComposeKnown'. -/
def composeKnownUptoCard : Claim7 := { stood := { row := composeKnownUptoRow, standIns := [], harness := (true, "af14ec4de127b9a638d4aee02666e6fcbfbd9458861d8291f3dab46d09330b9b"), looks := false }, kinds := [], alts := [], laidByText := true, laidKinds := [.data, .pinned], laidTests := true, laidLooks := .later }
def ComposeKnownUptoCardSaid : Prop := Claim7.holds Tryz.pinned (.plain (OpenSpec.upto composeKnownSpec)) composeKnownUptoCard

/-- THE SECOND FORM's CARD OF 'henkanlaw08.ComposeEdits'. -/
def composeEditsUptoCard : Claim7 := { stood := { row := composeEditsUptoRow, standIns := [], harness := (true, "af14ec4de127b9a638d4aee02666e6fcbfbd9458861d8291f3dab46d09330b9b"), looks := false }, kinds := [], alts := [], laidByText := true, laidKinds := [.data, .pinned], laidTests := true, laidLooks := .later }
def ComposeEditsUptoCardSaid : Prop := Claim7.holds Tryz.pinned (.plain (OpenSpec.upto composeEditsSpec)) composeEditsUptoCard

/-- THE SECOND FORM's CARD OF 'henkanlaw08.ComposePlays'. -/
def composePlaysUptoCard : Claim7 := { stood := { row := composePlaysUptoRow, standIns := [], harness := (true, "af14ec4de127b9a638d4aee02666e6fcbfbd9458861d8291f3dab46d09330b9b"), looks := false }, kinds := [], alts := [], laidByText := true, laidKinds := [.data, .pinned], laidTests := true, laidLooks := .later }
def ComposePlaysUptoCardSaid : Prop := Claim7.holds Tryz.pinned (.plain (OpenSpec.upto composePlaysSpec)) composePlaysUptoCard

/-- THE SECOND FORM's CARD OF 'henkanlaw08.ComposeUndoes'. -/
def composeUndoesUptoCard : Claim7 := { stood := { row := composeUndoesUptoRow, standIns := [], harness := (true, "af14ec4de127b9a638d4aee02666e6fcbfbd9458861d8291f3dab46d09330b9b"), looks := false }, kinds := [], alts := [], laidByText := true, laidKinds := [.data, .pinned], laidTests := true, laidLooks := .later }
def ComposeUndoesUptoCardSaid : Prop := Claim7.holds Tryz.pinned (.plain (OpenSpec.upto composeUndoesSpec)) composeUndoesUptoCard
end Rows
end Go.Proofs.YtgdcffahhpeibaaGreatDoor
