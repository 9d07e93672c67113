/-
  DERIVED. GIVEN WITH THE SEED: THE CARDS: each row of YtdcpiabmgjajlaaDoorRows.lean that lists a variable, with what it lists TIED to the program's text (the seventh form; the later family's looks); each row that meets fmt, with fmt's text TOLD by the authors' own Lean function (tested against real Go, not proved from fmt's source: count such statements apart). THE CARD IS WHAT COUNTS. Prove the row's statement (the work); the ties are given (YtdcpiabmgjajlaaDoorTie.lean); close each card by the builder's one call (the guide's Derived/Test/ToyasCard.lean, 'card_holds'). Laid BY PROGRAM, IN A SANDBOX (cutbox-door.mjs). By AI agents, Wed Nov 11 2026. No macro, syntax, notation, axiom, sorry.
-/
import Derived.Test.YtdcpiabmgjajlaaDoorRows
import GoSem.ClaimSeven
namespace Go.Proofs.YtdcpiabmgjajlaaDoor
namespace Rows

/-- THE TIED CARD OF 'henkanlaw06.AutoNews'. -/
def autoNewsCard : Claim7 := { stood := { row := autoNewsRow, standIns := [], harness := (true, "8fda0a95632ef21dd07d8f643c21eca7720f0bdb74d2f605813e5d7357f5f67a"), looks := false }, kinds := [], alts := [], laidByText := true, laidKinds := [.data, .pinned], laidTests := true, laidLooks := .later }
def AutoNewsCardSaid : Prop := Claim7.holds Tryd.pinned (.plain (OpenSpec.ofChange autoNewsSpec)) autoNewsCard

/-- THE TIED CARD OF 'henkanlaw06.AutoSteps'. -/
def autoStepsCard : Claim7 := { stood := { row := autoStepsRow, standIns := [], harness := (true, "8fda0a95632ef21dd07d8f643c21eca7720f0bdb74d2f605813e5d7357f5f67a"), looks := false }, kinds := [], alts := [], laidByText := true, laidKinds := [.data, .pinned], laidTests := true, laidLooks := .later }
def AutoStepsCardSaid : Prop := Claim7.holds Tryd.pinned (.plain (OpenSpec.ofChange autoStepsSpec)) autoStepsCard

/-- THE TIED CARD OF 'henkanlaw06.AutoTypes'. -/
def autoTypesCard : Claim7 := { stood := { row := autoTypesRow, standIns := [], harness := (true, "8fda0a95632ef21dd07d8f643c21eca7720f0bdb74d2f605813e5d7357f5f67a"), looks := false }, kinds := [], alts := [], laidByText := true, laidKinds := [.data, .pinned], laidTests := true, laidLooks := .later }
def AutoTypesCardSaid : Prop := Claim7.holds Tryd.pinned (.plain (OpenSpec.ofChange autoTypesSpec)) autoTypesCard

/-- THE TIED CARD OF 'henkanlaw06.AutoNone'. -/
def autoNoneCard : Claim7 := { stood := { row := autoNoneRow, standIns := [], harness := (true, "8fda0a95632ef21dd07d8f643c21eca7720f0bdb74d2f605813e5d7357f5f67a"), looks := false }, kinds := [], alts := [], laidByText := true, laidKinds := [.data, .pinned], laidTests := true, laidLooks := .later }
def AutoNoneCardSaid : Prop := Claim7.holds Tryd.pinned (.plain (OpenSpec.ofChange autoNoneSpec)) autoNoneCard

/-- THE TIED CARD OF 'henkanlaw06.AutoOne'. -/
def autoOneCard : Claim7 := { stood := { row := autoOneRow, standIns := [], harness := (true, "8fda0a95632ef21dd07d8f643c21eca7720f0bdb74d2f605813e5d7357f5f67a"), looks := false }, kinds := [], alts := [], laidByText := true, laidKinds := [.data, .pinned], laidTests := true, laidLooks := .later }
def AutoOneCardSaid : Prop := Claim7.holds Tryd.pinned (.plain (OpenSpec.ofChange autoOneSpec)) autoOneCard

/-- THE TIED CARD OF 'henkanlaw06.AutoPends'. -/
def autoPendsCard : Claim7 := { stood := { row := autoPendsRow, standIns := [], harness := (true, "8fda0a95632ef21dd07d8f643c21eca7720f0bdb74d2f605813e5d7357f5f67a"), looks := false }, kinds := [], alts := [], laidByText := true, laidKinds := [.data, .pinned], laidTests := true, laidLooks := .later }
def AutoPendsCardSaid : Prop := Claim7.holds Tryd.pinned (.plain (OpenSpec.ofChange autoPendsSpec)) autoPendsCard

/-- THE TIED CARD OF 'henkanlaw06.AutoOthers'. -/
def autoOthersCard : Claim7 := { stood := { row := autoOthersRow, standIns := [], harness := (true, "8fda0a95632ef21dd07d8f643c21eca7720f0bdb74d2f605813e5d7357f5f67a"), looks := false }, kinds := [], alts := [], laidByText := true, laidKinds := [.data, .pinned], laidTests := true, laidLooks := .later }
def AutoOthersCardSaid : Prop := Claim7.holds Tryd.pinned (.plain (OpenSpec.ofChange autoOthersSpec)) autoOthersCard

/-- THE TIED CARD OF 'henkanlaw06.AutoBare'. -/
def autoBareCard : Claim7 := { stood := { row := autoBareRow, standIns := [], harness := (true, "8fda0a95632ef21dd07d8f643c21eca7720f0bdb74d2f605813e5d7357f5f67a"), looks := false }, kinds := [], alts := [], laidByText := true, laidKinds := [.data, .pinned], laidTests := true, laidLooks := .later }
def AutoBareCardSaid : Prop := Claim7.holds Tryd.pinned (.plain (OpenSpec.ofChange autoBareSpec)) autoBareCard

/-- THE TIED CARD OF 'henkanlaw06.AutoTyped'. -/
def autoTypedCard : Claim7 := { stood := { row := autoTypedRow, standIns := [], harness := (true, "8fda0a95632ef21dd07d8f643c21eca7720f0bdb74d2f605813e5d7357f5f67a"), looks := false }, kinds := [], alts := [], laidByText := true, laidKinds := [.data, .pinned], laidTests := true, laidLooks := .later }
def AutoTypedCardSaid : Prop := Claim7.holds Tryd.pinned (.plain (OpenSpec.ofChange autoTypedSpec)) autoTypedCard

/-- THE TIED CARD OF 'henkanlaw06.AutoLeast'. -/
def autoLeastCard : Claim7 := { stood := { row := autoLeastRow, standIns := [], harness := (true, "8fda0a95632ef21dd07d8f643c21eca7720f0bdb74d2f605813e5d7357f5f67a"), looks := false }, kinds := [], alts := [], laidByText := true, laidKinds := [.data, .pinned], laidTests := true, laidLooks := .later }
def AutoLeastCardSaid : Prop := Claim7.holds Tryd.pinned (.plain (OpenSpec.ofChange autoLeastSpec)) autoLeastCard

/-- THE TIED CARD OF 'henkanlaw06.AutoKnown'. -/
def autoKnownCard : Claim7 := { stood := { row := autoKnownRow, standIns := [], harness := (true, "8fda0a95632ef21dd07d8f643c21eca7720f0bdb74d2f605813e5d7357f5f67a"), looks := false }, kinds := [], alts := [], laidByText := true, laidKinds := [.data, .pinned], laidTests := true, laidLooks := .later }
def AutoKnownCardSaid : Prop := Claim7.holds Tryd.pinned (.plain (OpenSpec.ofChange autoKnownSpec)) autoKnownCard

/-- THE SECOND FORM's CARD OF 'henkanlaw06.AutoNews'. -/
def autoNewsUptoCard : Claim7 := { stood := { row := autoNewsUptoRow, standIns := [], harness := (true, "8fda0a95632ef21dd07d8f643c21eca7720f0bdb74d2f605813e5d7357f5f67a"), looks := false }, kinds := [], alts := [], laidByText := true, laidKinds := [.data, .pinned], laidTests := true, laidLooks := .later }
def AutoNewsUptoCardSaid : Prop := Claim7.holds Tryd.pinned (.plain (OpenSpec.upto autoNewsSpec)) autoNewsUptoCard

/-- THE SECOND FORM's CARD OF 'henkanlaw06.AutoSteps'. -/
def autoStepsUptoCard : Claim7 := { stood := { row := autoStepsUptoRow, standIns := [], harness := (true, "8fda0a95632ef21dd07d8f643c21eca7720f0bdb74d2f605813e5d7357f5f67a"), looks := false }, kinds := [], alts := [], laidByText := true, laidKinds := [.data, .pinned], laidTests := true, laidLooks := .later }
def AutoStepsUptoCardSaid : Prop := Claim7.holds Tryd.pinned (.plain (OpenSpec.upto autoStepsSpec)) autoStepsUptoCard

/-- THE SECOND FORM's CARD OF 'henkanlaw06.AutoTypes'. -/
def autoTypesUptoCard : Claim7 := { stood := { row := autoTypesUptoRow, standIns := [], harness := (true, "8fda0a95632ef21dd07d8f643c21eca7720f0bdb74d2f605813e5d7357f5f67a"), looks := false }, kinds := [], alts := [], laidByText := true, laidKinds := [.data, .pinned], laidTests := true, laidLooks := .later }
def AutoTypesUptoCardSaid : Prop := Claim7.holds Tryd.pinned (.plain (OpenSpec.upto autoTypesSpec)) autoTypesUptoCard

/-- THE SECOND FORM's CARD OF 'henkanlaw06.AutoNone'. -/
def autoNoneUptoCard : Claim7 := { stood := { row := autoNoneUptoRow, standIns := [], harness := (true, "8fda0a95632ef21dd07d8f643c21eca7720f0bdb74d2f605813e5d7357f5f67a"), looks := false }, kinds := [], alts := [], laidByText := true, laidKinds := [.data, .pinned], laidTests := true, laidLooks := .later }
def AutoNoneUptoCardSaid : Prop := Claim7.holds Tryd.pinned (.plain (OpenSpec.upto autoNoneSpec)) autoNoneUptoCard

/-- THE SECOND FORM's CARD OF 'henkanlaw06.AutoOne'. -/
def autoOneUptoCard : Claim7 := { stood := { row := autoOneUptoRow, standIns := [], harness := (true, "8fda0a95632ef21dd07d8f643c21eca7720f0bdb74d2f605813e5d7357f5f67a"), looks := false }, kinds := [], alts := [], laidByText := true, laidKinds := [.data, .pinned], laidTests := true, laidLooks := .later }
def AutoOneUptoCardSaid : Prop := Claim7.holds Tryd.pinned (.plain (OpenSpec.upto autoOneSpec)) autoOneUptoCard

/-- THE SECOND FORM's CARD OF 'henkanlaw06.AutoPends'. -/
def autoPendsUptoCard : Claim7 := { stood := { row := autoPendsUptoRow, standIns := [], harness := (true, "8fda0a95632ef21dd07d8f643c21eca7720f0bdb74d2f605813e5d7357f5f67a"), looks := false }, kinds := [], alts := [], laidByText := true, laidKinds := [.data, .pinned], laidTests := true, laidLooks := .later }
def AutoPendsUptoCardSaid : Prop := Claim7.holds Tryd.pinned (.plain (OpenSpec.upto autoPendsSpec)) autoPendsUptoCard

/-- THE SECOND FORM's CARD OF 'henkanlaw06.AutoOthers'. -/
def autoOthersUptoCard : Claim7 := { stood := { row := autoOthersUptoRow, standIns := [], harness := (true, "8fda0a95632ef21dd07d8f643c21eca7720f0bdb74d2f605813e5d7357f5f67a"), looks := false }, kinds := [], alts := [], laidByText := true, laidKinds := [.data, .pinned], laidTests := true, laidLooks := .later }
def AutoOthersUptoCardSaid : Prop := Claim7.holds Tryd.pinned (.plain (OpenSpec.upto autoOthersSpec)) autoOthersUptoCard

/-- THE SECOND FORM's CARD OF 'henkanlaw06.AutoBare'. -/
def autoBareUptoCard : Claim7 := { stood := { row := autoBareUptoRow, standIns := [], harness := (true, "8fda0a95632ef21dd07d8f643c21eca7720f0bdb74d2f605813e5d7357f5f67a"), looks := false }, kinds := [], alts := [], laidByText := true, laidKinds := [.data, .pinned], laidTests := true, laidLooks := .later }
def AutoBareUptoCardSaid : Prop := Claim7.holds Tryd.pinned (.plain (OpenSpec.upto autoBareSpec)) autoBareUptoCard

/-- THE SECOND FORM's CARD OF 'henkanlaw06.AutoTyped'. -/
def autoTypedUptoCard : Claim7 := { stood := { row := autoTypedUptoRow, standIns := [], harness := (true, "8fda0a95632ef21dd07d8f643c21eca7720f0bdb74d2f605813e5d7357f5f67a"), looks := false }, kinds := [], alts := [], laidByText := true, laidKinds := [.data, .pinned], laidTests := true, laidLooks := .later }
def AutoTypedUptoCardSaid : Prop := Claim7.holds Tryd.pinned (.plain (OpenSpec.upto autoTypedSpec)) autoTypedUptoCard

/-- THE SECOND FORM's CARD OF 'henkanlaw06.AutoLeast'. -/
def autoLeastUptoCard : Claim7 := { stood := { row := autoLeastUptoRow, standIns := [], harness := (true, "8fda0a95632ef21dd07d8f643c21eca7720f0bdb74d2f605813e5d7357f5f67a"), looks := false }, kinds := [], alts := [], laidByText := true, laidKinds := [.data, .pinned], laidTests := true, laidLooks := .later }
def AutoLeastUptoCardSaid : Prop := Claim7.holds Tryd.pinned (.plain (OpenSpec.upto autoLeastSpec)) autoLeastUptoCard

/-- THE SECOND FORM's CARD OF 'henkanlaw06.AutoKnown'. -/
def autoKnownUptoCard : Claim7 := { stood := { row := autoKnownUptoRow, standIns := [], harness := (true, "8fda0a95632ef21dd07d8f643c21eca7720f0bdb74d2f605813e5d7357f5f67a"), looks := false }, kinds := [], alts := [], laidByText := true, laidKinds := [.data, .pinned], laidTests := true, laidLooks := .later }
def AutoKnownUptoCardSaid : Prop := Claim7.holds Tryd.pinned (.plain (OpenSpec.upto autoKnownSpec)) autoKnownUptoCard
end Rows
end Go.Proofs.YtdcpiabmgjajlaaDoor
