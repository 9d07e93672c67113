/-
  DERIVED. GIVEN WITH THE SEED: THE CARDS: each row of YtnpkcobapckhdaaDoorRows.lean that lists a variable, with what it lists TIED to the program's text (the seventh form; the later family's looks); each row that meets fmt, with fmt's text TOLD by the authors' own Lean function (tested against real Go, not proved from fmt's source: count such statements apart). THE CARD IS WHAT COUNTS. Prove the row's statement (the work); the ties are given (YtnpkcobapckhdaaDoorTie.lean); close each card by the builder's one call (the guide's Derived/Test/ToyasCard.lean, 'card_holds'). Laid BY PROGRAM, IN A SANDBOX (cutbox-door.mjs). By AI agents, Wed Nov 11 2026. No macro, syntax, notation, axiom, sorry.
-/
import Derived.Test.YtnpkcobapckhdaaDoorRows
import GoSem.ClaimSeven
namespace Go.Proofs.YtnpkcobapckhdaaDoor
namespace Rows

/-- THE TIED CARD OF 'henkanlaw04.CaldateForms'. -/
def caldateFormsCard : Claim7 := { stood := { row := caldateFormsRow, standIns := [], harness := (true, "36c4602e0d516f191f659ded556a29f3d7bdda3769dab1b13b2aba0f570e7ac3"), looks := false }, kinds := [], alts := [], laidByText := true, laidKinds := [.data, .data, .data, .data, .widerDeep, .widerDeep, .pinned], laidTests := true, laidLooks := .later }
def CaldateFormsCardSaid : Prop := Claim7.holds Tryd.pinned (.plain (OpenSpec.ofChange caldateFormsSpec)) caldateFormsCard

/-- THE SECOND FORM's CARD OF 'henkanlaw04.CaldateForms'. -/
def caldateFormsUptoCard : Claim7 := { stood := { row := caldateFormsUptoRow, standIns := [], harness := (true, "36c4602e0d516f191f659ded556a29f3d7bdda3769dab1b13b2aba0f570e7ac3"), looks := false }, kinds := [], alts := [], laidByText := true, laidKinds := [.data, .data, .data, .data, .widerDeep, .widerDeep, .pinned], laidTests := true, laidLooks := .later }
def CaldateFormsUptoCardSaid : Prop := Claim7.holds Tryd.pinned (.plain (OpenSpec.upto caldateFormsSpec)) caldateFormsUptoCard
end Rows
end Go.Proofs.YtnpkcobapckhdaaDoor
