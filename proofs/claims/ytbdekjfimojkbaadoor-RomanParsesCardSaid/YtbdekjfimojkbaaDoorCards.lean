/-
  DERIVED. GIVEN WITH THE SEED: THE CARDS: each row of YtbdekjfimojkbaaDoorRows.lean that lists a variable, with what it lists TIED to the program's text (the seventh form; the later family's looks); each row that meets fmt, with fmt's text TOLD by the authors' own Lean function (tested against real Go, not proved from fmt's source: count such statements apart). THE CARD IS WHAT COUNTS. Prove the row's statement (the work); the ties are given (YtbdekjfimojkbaaDoorTie.lean); close each card by the builder's one call (the guide's Derived/Test/ToyasCard.lean, 'card_holds'). Laid BY PROGRAM, IN A SANDBOX (cutbox-door.mjs). By AI agents, Wed Nov 11 2026. No macro, syntax, notation, axiom, sorry.
-/
import Derived.Test.YtbdekjfimojkbaaDoorRows
import GoSem.ClaimSeven
namespace Go.Proofs.YtbdekjfimojkbaaDoor
namespace Rows

/-- THE TIED CARD OF 'henkanlaw05.RomanParses'. -/
def romanParsesCard : Claim7 := { stood := { row := romanParsesRow, standIns := [], harness := (true, "f3cfd69bc7ec042df4c5f45fa130d6fa140ad63877d119ce93986a34712e8189"), looks := false }, kinds := [], alts := [], laidByText := true, laidKinds := [.data, .pinned], laidTests := true, laidLooks := .later }
def RomanParsesCardSaid : Prop := Claim7.holds Tryd.pinned (.plain (OpenSpec.ofChange romanParsesSpec)) romanParsesCard

/-- THE TIED CARD OF 'henkanlaw05.RomanPrints'. -/
def romanPrintsCard : Claim7 := { stood := { row := romanPrintsRow, standIns := [], harness := (true, "f3cfd69bc7ec042df4c5f45fa130d6fa140ad63877d119ce93986a34712e8189"), looks := false }, kinds := [], alts := [], laidByText := true, laidKinds := [.data, .pinned], laidTests := true, laidLooks := .later }
def RomanPrintsCardSaid : Prop := Claim7.holds Tryd.pinned (.plain (OpenSpec.ofChange romanPrintsSpec)) romanPrintsCard

/-- THE TIED CARD OF 'henkanlaw05.RomanReturns'. -/
def romanReturnsCard : Claim7 := { stood := { row := romanReturnsRow, standIns := [], harness := (true, "f3cfd69bc7ec042df4c5f45fa130d6fa140ad63877d119ce93986a34712e8189"), looks := false }, kinds := [], alts := [], laidByText := true, laidKinds := [.data, .pinned], laidTests := true, laidLooks := .later }
def RomanReturnsCardSaid : Prop := Claim7.holds Tryd.pinned (.plain (OpenSpec.ofChange romanReturnsSpec)) romanReturnsCard

/-- THE TIED CARD OF 'henkanlaw05.RomanLines'. -/
def romanLinesCard : Claim7 := { stood := { row := romanLinesRow, standIns := [], harness := (true, "f3cfd69bc7ec042df4c5f45fa130d6fa140ad63877d119ce93986a34712e8189"), looks := false }, kinds := [], alts := [], laidByText := true, laidKinds := [.data, .pinned], laidTests := true, laidLooks := .later }
def RomanLinesCardSaid : Prop := Claim7.holds Tryd.pinned (.plain (OpenSpec.ofChange romanLinesSpec)) romanLinesCard

/-- THE TIED CARD OF 'henkanlaw05.RomanOrders'. -/
def romanOrdersCard : Claim7 := { stood := { row := romanOrdersRow, standIns := [], harness := (true, "f3cfd69bc7ec042df4c5f45fa130d6fa140ad63877d119ce93986a34712e8189"), looks := false }, kinds := [], alts := [], laidByText := true, laidKinds := [.data, .pinned], laidTests := true, laidLooks := .later }
def RomanOrdersCardSaid : Prop := Claim7.holds Tryd.pinned (.plain (OpenSpec.ofChange romanOrdersSpec)) romanOrdersCard

/-- THE TIED CARD OF 'henkanlaw05.RomanFinds'. -/
def romanFindsCard : Claim7 := { stood := { row := romanFindsRow, standIns := [], harness := (true, "f3cfd69bc7ec042df4c5f45fa130d6fa140ad63877d119ce93986a34712e8189"), looks := false }, kinds := [], alts := [], laidByText := true, laidKinds := [.data, .pinned], laidTests := true, laidLooks := .later }
def RomanFindsCardSaid : Prop := Claim7.holds Tryd.pinned (.plain (OpenSpec.ofChange romanFindsSpec)) romanFindsCard

/-- THE TIED CARD OF 'henkanlaw05.RomanDefault'. -/
def romanDefaultCard : Claim7 := { stood := { row := romanDefaultRow, standIns := [], harness := (true, "f3cfd69bc7ec042df4c5f45fa130d6fa140ad63877d119ce93986a34712e8189"), looks := false }, kinds := [], alts := [], laidByText := true, laidKinds := [.data, .pinned], laidTests := true, laidLooks := .later }
def RomanDefaultCardSaid : Prop := Claim7.holds Tryd.pinned (.plain (OpenSpec.ofChange romanDefaultSpec)) romanDefaultCard

/-- THE TIED CARD OF 'henkanlaw05.RomanKnown'. -/
def romanKnownCard : Claim7 := { stood := { row := romanKnownRow, standIns := [], harness := (true, "f3cfd69bc7ec042df4c5f45fa130d6fa140ad63877d119ce93986a34712e8189"), looks := false }, kinds := [], alts := [], laidByText := true, laidKinds := [.data, .pinned], laidTests := true, laidLooks := .later }
def RomanKnownCardSaid : Prop := Claim7.holds Tryd.pinned (.plain (OpenSpec.ofChange romanKnownSpec)) romanKnownCard

/-- THE SECOND FORM's CARD OF 'henkanlaw05.RomanParses'. -/
def romanParsesUptoCard : Claim7 := { stood := { row := romanParsesUptoRow, standIns := [], harness := (true, "f3cfd69bc7ec042df4c5f45fa130d6fa140ad63877d119ce93986a34712e8189"), looks := false }, kinds := [], alts := [], laidByText := true, laidKinds := [.data, .pinned], laidTests := true, laidLooks := .later }
def RomanParsesUptoCardSaid : Prop := Claim7.holds Tryd.pinned (.plain (OpenSpec.upto romanParsesSpec)) romanParsesUptoCard

/-- THE SECOND FORM's CARD OF 'henkanlaw05.RomanPrints'. -/
def romanPrintsUptoCard : Claim7 := { stood := { row := romanPrintsUptoRow, standIns := [], harness := (true, "f3cfd69bc7ec042df4c5f45fa130d6fa140ad63877d119ce93986a34712e8189"), looks := false }, kinds := [], alts := [], laidByText := true, laidKinds := [.data, .pinned], laidTests := true, laidLooks := .later }
def RomanPrintsUptoCardSaid : Prop := Claim7.holds Tryd.pinned (.plain (OpenSpec.upto romanPrintsSpec)) romanPrintsUptoCard

/-- THE SECOND FORM's CARD OF 'henkanlaw05.RomanReturns'. -/
def romanReturnsUptoCard : Claim7 := { stood := { row := romanReturnsUptoRow, standIns := [], harness := (true, "f3cfd69bc7ec042df4c5f45fa130d6fa140ad63877d119ce93986a34712e8189"), looks := false }, kinds := [], alts := [], laidByText := true, laidKinds := [.data, .pinned], laidTests := true, laidLooks := .later }
def RomanReturnsUptoCardSaid : Prop := Claim7.holds Tryd.pinned (.plain (OpenSpec.upto romanReturnsSpec)) romanReturnsUptoCard

/-- THE SECOND FORM's CARD OF 'henkanlaw05.RomanLines'. -/
def romanLinesUptoCard : Claim7 := { stood := { row := romanLinesUptoRow, standIns := [], harness := (true, "f3cfd69bc7ec042df4c5f45fa130d6fa140ad63877d119ce93986a34712e8189"), looks := false }, kinds := [], alts := [], laidByText := true, laidKinds := [.data, .pinned], laidTests := true, laidLooks := .later }
def RomanLinesUptoCardSaid : Prop := Claim7.holds Tryd.pinned (.plain (OpenSpec.upto romanLinesSpec)) romanLinesUptoCard

/-- THE SECOND FORM's CARD OF 'henkanlaw05.RomanOrders'. -/
def romanOrdersUptoCard : Claim7 := { stood := { row := romanOrdersUptoRow, standIns := [], harness := (true, "f3cfd69bc7ec042df4c5f45fa130d6fa140ad63877d119ce93986a34712e8189"), looks := false }, kinds := [], alts := [], laidByText := true, laidKinds := [.data, .pinned], laidTests := true, laidLooks := .later }
def RomanOrdersUptoCardSaid : Prop := Claim7.holds Tryd.pinned (.plain (OpenSpec.upto romanOrdersSpec)) romanOrdersUptoCard

/-- THE SECOND FORM's CARD OF 'henkanlaw05.RomanFinds'. -/
def romanFindsUptoCard : Claim7 := { stood := { row := romanFindsUptoRow, standIns := [], harness := (true, "f3cfd69bc7ec042df4c5f45fa130d6fa140ad63877d119ce93986a34712e8189"), looks := false }, kinds := [], alts := [], laidByText := true, laidKinds := [.data, .pinned], laidTests := true, laidLooks := .later }
def RomanFindsUptoCardSaid : Prop := Claim7.holds Tryd.pinned (.plain (OpenSpec.upto romanFindsSpec)) romanFindsUptoCard

/-- THE SECOND FORM's CARD OF 'henkanlaw05.RomanDefault'. -/
def romanDefaultUptoCard : Claim7 := { stood := { row := romanDefaultUptoRow, standIns := [], harness := (true, "f3cfd69bc7ec042df4c5f45fa130d6fa140ad63877d119ce93986a34712e8189"), looks := false }, kinds := [], alts := [], laidByText := true, laidKinds := [.data, .pinned], laidTests := true, laidLooks := .later }
def RomanDefaultUptoCardSaid : Prop := Claim7.holds Tryd.pinned (.plain (OpenSpec.upto romanDefaultSpec)) romanDefaultUptoCard

/-- THE SECOND FORM's CARD OF 'henkanlaw05.RomanKnown'. -/
def romanKnownUptoCard : Claim7 := { stood := { row := romanKnownUptoRow, standIns := [], harness := (true, "f3cfd69bc7ec042df4c5f45fa130d6fa140ad63877d119ce93986a34712e8189"), looks := false }, kinds := [], alts := [], laidByText := true, laidKinds := [.data, .pinned], laidTests := true, laidLooks := .later }
def RomanKnownUptoCardSaid : Prop := Claim7.holds Tryd.pinned (.plain (OpenSpec.upto romanKnownSpec)) romanKnownUptoCard
end Rows
end Go.Proofs.YtbdekjfimojkbaaDoor
