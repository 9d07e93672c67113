/-
  DERIVED. GIVEN WITH THE SEED: THE CARDS: each row of YtgdcffahhpeibaaDoorRows.lean that lists a variable, with what it lists TIED to the program's text (the seventh form; the later family's looks); each row that meets fmt, with fmt's text TOLD by the authors' own Lean function (tested against real Go, not proved from fmt's source: count such statements apart). THE CARD IS WHAT COUNTS. Prove the row's statement (the work); the ties are given (YtgdcffahhpeibaaDoorTie.lean); close each card by the builder's one call (the guide's Derived/Test/ToyasCard.lean, 'card_holds'). Laid BY PROGRAM, IN A SANDBOX (cutbox-door.mjs). By AI agents, Wed Nov 11 2026. No macro, syntax, notation, axiom, sorry.
-/
import Derived.Test.YtgdcffahhpeibaaDoorRows
import GoSem.ClaimSeven
namespace Go.Proofs.YtgdcffahhpeibaaDoor
namespace Rows

/-- THE TIED CARD OF 'henkanlaw05.RomanLines'. -/
def romanLinesCard : Claim7 := { stood := { row := romanLinesRow, standIns := [], harness := (true, "fa1bb0080e642525e84c451aff83e1e39ece5bcbc48a5b8e788cc84864cc5258"), looks := false }, kinds := [], alts := [], laidByText := true, laidKinds := [.data, .pinned], laidTests := true, laidLooks := .later }
def RomanLinesCardSaid : Prop := Claim7.holds Tryd.pinned (.plain (OpenSpec.ofChange romanLinesSpec)) romanLinesCard

/-- THE TIED CARD OF 'henkanlaw05.RomanDefault'. -/
def romanDefaultCard : Claim7 := { stood := { row := romanDefaultRow, standIns := [], harness := (true, "fa1bb0080e642525e84c451aff83e1e39ece5bcbc48a5b8e788cc84864cc5258"), looks := false }, kinds := [], alts := [], laidByText := true, laidKinds := [.data, .pinned], laidTests := true, laidLooks := .later }
def RomanDefaultCardSaid : Prop := Claim7.holds Tryd.pinned (.plain (OpenSpec.ofChange romanDefaultSpec)) romanDefaultCard

/-- THE TIED CARD OF 'henkanlaw05.RomanKnown'. -/
def romanKnownCard : Claim7 := { stood := { row := romanKnownRow, standIns := [], harness := (true, "fa1bb0080e642525e84c451aff83e1e39ece5bcbc48a5b8e788cc84864cc5258"), looks := false }, kinds := [], alts := [], laidByText := true, laidKinds := [.data, .pinned], laidTests := true, laidLooks := .later }
def RomanKnownCardSaid : Prop := Claim7.holds Tryd.pinned (.plain (OpenSpec.ofChange romanKnownSpec)) romanKnownCard

/-- THE SECOND FORM's CARD OF 'henkanlaw05.RomanLines'. -/
def romanLinesUptoCard : Claim7 := { stood := { row := romanLinesUptoRow, standIns := [], harness := (true, "fa1bb0080e642525e84c451aff83e1e39ece5bcbc48a5b8e788cc84864cc5258"), looks := false }, kinds := [], alts := [], laidByText := true, laidKinds := [.data, .pinned], laidTests := true, laidLooks := .later }
def RomanLinesUptoCardSaid : Prop := Claim7.holds Tryd.pinned (.plain (OpenSpec.upto romanLinesSpec)) romanLinesUptoCard

/-- THE SECOND FORM's CARD OF 'henkanlaw05.RomanDefault'. -/
def romanDefaultUptoCard : Claim7 := { stood := { row := romanDefaultUptoRow, standIns := [], harness := (true, "fa1bb0080e642525e84c451aff83e1e39ece5bcbc48a5b8e788cc84864cc5258"), looks := false }, kinds := [], alts := [], laidByText := true, laidKinds := [.data, .pinned], laidTests := true, laidLooks := .later }
def RomanDefaultUptoCardSaid : Prop := Claim7.holds Tryd.pinned (.plain (OpenSpec.upto romanDefaultSpec)) romanDefaultUptoCard

/-- THE SECOND FORM's CARD OF 'henkanlaw05.RomanKnown'. -/
def romanKnownUptoCard : Claim7 := { stood := { row := romanKnownUptoRow, standIns := [], harness := (true, "fa1bb0080e642525e84c451aff83e1e39ece5bcbc48a5b8e788cc84864cc5258"), looks := false }, kinds := [], alts := [], laidByText := true, laidKinds := [.data, .pinned], laidTests := true, laidLooks := .later }
def RomanKnownUptoCardSaid : Prop := Claim7.holds Tryd.pinned (.plain (OpenSpec.upto romanKnownSpec)) romanKnownUptoCard
end Rows
end Go.Proofs.YtgdcffahhpeibaaDoor
