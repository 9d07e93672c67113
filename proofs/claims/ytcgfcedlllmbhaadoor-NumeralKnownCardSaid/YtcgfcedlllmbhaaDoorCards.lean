/-
  DERIVED. GIVEN WITH THE SEED: THE CARDS: each row of YtcgfcedlllmbhaaDoorRows.lean that lists a variable, with what it lists TIED to the program's text (the seventh form; the later family's looks); each row that meets fmt, with fmt's text TOLD by the authors' own Lean function (tested against real Go, not proved from fmt's source: count such statements apart). THE CARD IS WHAT COUNTS. Prove the row's statement (the work); the ties are given (YtcgfcedlllmbhaaDoorTie.lean); close each card by the builder's one call (the guide's Derived/Test/ToyasCard.lean, 'card_holds'). Laid BY PROGRAM, IN A SANDBOX (cutbox-door.mjs). By AI agents, Wed Nov 11 2026. No macro, syntax, notation, axiom, sorry.
-/
import Derived.Test.YtcgfcedlllmbhaaDoorRows
import GoSem.ClaimSeven
namespace Go.Proofs.YtcgfcedlllmbhaaDoor
namespace Rows

/-- THE TIED CARD OF 'henkanlaw03.NumeralWrites'. -/
def numeralWritesCard : Claim7 := { stood := { row := numeralWritesRow, standIns := [], harness := (true, "eb202b1ad603686240a8b7d2fcedfff926811433628357cc809115c08768fd05"), looks := false }, kinds := [], alts := [], laidByText := true, laidKinds := [.data, .widerDeep, .wider, .widerDeep, .pinned], laidTests := true, laidLooks := .later }
def NumeralWritesCardSaid : Prop := Claim7.holds Tryd.pinned (.plain (OpenSpec.ofChange numeralWritesSpec)) numeralWritesCard

/-- THE TIED CARD OF 'henkanlaw03.NumeralParses'. -/
def numeralParsesCard : Claim7 := { stood := { row := numeralParsesRow, standIns := [], harness := (true, "eb202b1ad603686240a8b7d2fcedfff926811433628357cc809115c08768fd05"), looks := false }, kinds := [], alts := [], laidByText := true, laidKinds := [.data, .widerDeep, .wider, .widerDeep, .pinned], laidTests := true, laidLooks := .later }
def NumeralParsesCardSaid : Prop := Claim7.holds Tryd.pinned (.plain (OpenSpec.ofChange numeralParsesSpec)) numeralParsesCard

/-- THE TIED CARD OF 'henkanlaw03.NumeralBack'. -/
def numeralBackCard : Claim7 := { stood := { row := numeralBackRow, standIns := [], harness := (true, "eb202b1ad603686240a8b7d2fcedfff926811433628357cc809115c08768fd05"), looks := false }, kinds := [], alts := [], laidByText := true, laidKinds := [.data, .widerDeep, .wider, .widerDeep, .pinned], laidTests := true, laidLooks := .later }
def NumeralBackCardSaid : Prop := Claim7.holds Tryd.pinned (.plain (OpenSpec.ofChange numeralBackSpec)) numeralBackCard

/-- THE TIED CARD OF 'henkanlaw03.NumeralApart'. -/
def numeralApartCard : Claim7 := { stood := { row := numeralApartRow, standIns := [], harness := (true, "eb202b1ad603686240a8b7d2fcedfff926811433628357cc809115c08768fd05"), looks := false }, kinds := [], alts := [], laidByText := true, laidKinds := [.data, .widerDeep, .wider, .widerDeep, .pinned], laidTests := true, laidLooks := .later }
def NumeralApartCardSaid : Prop := Claim7.holds Tryd.pinned (.plain (OpenSpec.ofChange numeralApartSpec)) numeralApartCard

/-- THE TIED CARD OF 'henkanlaw03.NumeralGroups'. -/
def numeralGroupsCard : Claim7 := { stood := { row := numeralGroupsRow, standIns := [], harness := (true, "eb202b1ad603686240a8b7d2fcedfff926811433628357cc809115c08768fd05"), looks := false }, kinds := [], alts := [], laidByText := true, laidKinds := [.data, .widerDeep, .wider, .widerDeep, .pinned], laidTests := true, laidLooks := .later }
def NumeralGroupsCardSaid : Prop := Claim7.holds Tryd.pinned (.plain (OpenSpec.ofChange numeralGroupsSpec)) numeralGroupsCard

/-- THE TIED CARD OF 'henkanlaw03.NumeralCommas'. -/
def numeralCommasCard : Claim7 := { stood := { row := numeralCommasRow, standIns := [], harness := (true, "eb202b1ad603686240a8b7d2fcedfff926811433628357cc809115c08768fd05"), looks := false }, kinds := [], alts := [], laidByText := true, laidKinds := [.data, .widerDeep, .wider, .widerDeep, .pinned], laidTests := true, laidLooks := .later }
def NumeralCommasCardSaid : Prop := Claim7.holds Tryd.pinned (.plain (OpenSpec.ofChange numeralCommasSpec)) numeralCommasCard

/-- THE TIED CARD OF 'henkanlaw03.NumeralForms'. -/
def numeralFormsCard : Claim7 := { stood := { row := numeralFormsRow, standIns := [], harness := (true, "eb202b1ad603686240a8b7d2fcedfff926811433628357cc809115c08768fd05"), looks := false }, kinds := [], alts := [], laidByText := true, laidKinds := [.data, .widerDeep, .wider, .widerDeep, .pinned], laidTests := true, laidLooks := .later }
def NumeralFormsCardSaid : Prop := Claim7.holds Tryd.pinned (.plain (OpenSpec.ofChange numeralFormsSpec)) numeralFormsCard

/-- THE TIED CARD OF 'henkanlaw03.NumeralOwn'. -/
def numeralOwnCard : Claim7 := { stood := { row := numeralOwnRow, standIns := [], harness := (true, "eb202b1ad603686240a8b7d2fcedfff926811433628357cc809115c08768fd05"), looks := false }, kinds := [], alts := [], laidByText := true, laidKinds := [.data, .widerDeep, .wider, .widerDeep, .pinned], laidTests := true, laidLooks := .later }
def NumeralOwnCardSaid : Prop := Claim7.holds Tryd.pinned (.plain (OpenSpec.ofChange numeralOwnSpec)) numeralOwnCard

/-- THE TIED CARD OF 'henkanlaw03.NumeralKnown'. -/
def numeralKnownCard : Claim7 := { stood := { row := numeralKnownRow, standIns := [], harness := (true, "eb202b1ad603686240a8b7d2fcedfff926811433628357cc809115c08768fd05"), looks := false }, kinds := [], alts := [], laidByText := true, laidKinds := [.data, .widerDeep, .wider, .widerDeep, .pinned], laidTests := true, laidLooks := .later }
def NumeralKnownCardSaid : Prop := Claim7.holds Tryd.pinned (.plain (OpenSpec.ofChange numeralKnownSpec)) numeralKnownCard

/-- THE SECOND FORM's CARD OF 'henkanlaw03.NumeralWrites'. -/
def numeralWritesUptoCard : Claim7 := { stood := { row := numeralWritesUptoRow, standIns := [], harness := (true, "eb202b1ad603686240a8b7d2fcedfff926811433628357cc809115c08768fd05"), looks := false }, kinds := [], alts := [], laidByText := true, laidKinds := [.data, .widerDeep, .wider, .widerDeep, .pinned], laidTests := true, laidLooks := .later }
def NumeralWritesUptoCardSaid : Prop := Claim7.holds Tryd.pinned (.plain (OpenSpec.upto numeralWritesSpec)) numeralWritesUptoCard

/-- THE SECOND FORM's CARD OF 'henkanlaw03.NumeralParses'. -/
def numeralParsesUptoCard : Claim7 := { stood := { row := numeralParsesUptoRow, standIns := [], harness := (true, "eb202b1ad603686240a8b7d2fcedfff926811433628357cc809115c08768fd05"), looks := false }, kinds := [], alts := [], laidByText := true, laidKinds := [.data, .widerDeep, .wider, .widerDeep, .pinned], laidTests := true, laidLooks := .later }
def NumeralParsesUptoCardSaid : Prop := Claim7.holds Tryd.pinned (.plain (OpenSpec.upto numeralParsesSpec)) numeralParsesUptoCard

/-- THE SECOND FORM's CARD OF 'henkanlaw03.NumeralBack'. -/
def numeralBackUptoCard : Claim7 := { stood := { row := numeralBackUptoRow, standIns := [], harness := (true, "eb202b1ad603686240a8b7d2fcedfff926811433628357cc809115c08768fd05"), looks := false }, kinds := [], alts := [], laidByText := true, laidKinds := [.data, .widerDeep, .wider, .widerDeep, .pinned], laidTests := true, laidLooks := .later }
def NumeralBackUptoCardSaid : Prop := Claim7.holds Tryd.pinned (.plain (OpenSpec.upto numeralBackSpec)) numeralBackUptoCard

/-- THE SECOND FORM's CARD OF 'henkanlaw03.NumeralApart'. -/
def numeralApartUptoCard : Claim7 := { stood := { row := numeralApartUptoRow, standIns := [], harness := (true, "eb202b1ad603686240a8b7d2fcedfff926811433628357cc809115c08768fd05"), looks := false }, kinds := [], alts := [], laidByText := true, laidKinds := [.data, .widerDeep, .wider, .widerDeep, .pinned], laidTests := true, laidLooks := .later }
def NumeralApartUptoCardSaid : Prop := Claim7.holds Tryd.pinned (.plain (OpenSpec.upto numeralApartSpec)) numeralApartUptoCard

/-- THE SECOND FORM's CARD OF 'henkanlaw03.NumeralGroups'. -/
def numeralGroupsUptoCard : Claim7 := { stood := { row := numeralGroupsUptoRow, standIns := [], harness := (true, "eb202b1ad603686240a8b7d2fcedfff926811433628357cc809115c08768fd05"), looks := false }, kinds := [], alts := [], laidByText := true, laidKinds := [.data, .widerDeep, .wider, .widerDeep, .pinned], laidTests := true, laidLooks := .later }
def NumeralGroupsUptoCardSaid : Prop := Claim7.holds Tryd.pinned (.plain (OpenSpec.upto numeralGroupsSpec)) numeralGroupsUptoCard

/-- THE SECOND FORM's CARD OF 'henkanlaw03.NumeralCommas'. -/
def numeralCommasUptoCard : Claim7 := { stood := { row := numeralCommasUptoRow, standIns := [], harness := (true, "eb202b1ad603686240a8b7d2fcedfff926811433628357cc809115c08768fd05"), looks := false }, kinds := [], alts := [], laidByText := true, laidKinds := [.data, .widerDeep, .wider, .widerDeep, .pinned], laidTests := true, laidLooks := .later }
def NumeralCommasUptoCardSaid : Prop := Claim7.holds Tryd.pinned (.plain (OpenSpec.upto numeralCommasSpec)) numeralCommasUptoCard

/-- THE SECOND FORM's CARD OF 'henkanlaw03.NumeralForms'. -/
def numeralFormsUptoCard : Claim7 := { stood := { row := numeralFormsUptoRow, standIns := [], harness := (true, "eb202b1ad603686240a8b7d2fcedfff926811433628357cc809115c08768fd05"), looks := false }, kinds := [], alts := [], laidByText := true, laidKinds := [.data, .widerDeep, .wider, .widerDeep, .pinned], laidTests := true, laidLooks := .later }
def NumeralFormsUptoCardSaid : Prop := Claim7.holds Tryd.pinned (.plain (OpenSpec.upto numeralFormsSpec)) numeralFormsUptoCard

/-- THE SECOND FORM's CARD OF 'henkanlaw03.NumeralOwn'. -/
def numeralOwnUptoCard : Claim7 := { stood := { row := numeralOwnUptoRow, standIns := [], harness := (true, "eb202b1ad603686240a8b7d2fcedfff926811433628357cc809115c08768fd05"), looks := false }, kinds := [], alts := [], laidByText := true, laidKinds := [.data, .widerDeep, .wider, .widerDeep, .pinned], laidTests := true, laidLooks := .later }
def NumeralOwnUptoCardSaid : Prop := Claim7.holds Tryd.pinned (.plain (OpenSpec.upto numeralOwnSpec)) numeralOwnUptoCard

/-- THE SECOND FORM's CARD OF 'henkanlaw03.NumeralKnown'. -/
def numeralKnownUptoCard : Claim7 := { stood := { row := numeralKnownUptoRow, standIns := [], harness := (true, "eb202b1ad603686240a8b7d2fcedfff926811433628357cc809115c08768fd05"), looks := false }, kinds := [], alts := [], laidByText := true, laidKinds := [.data, .widerDeep, .wider, .widerDeep, .pinned], laidTests := true, laidLooks := .later }
def NumeralKnownUptoCardSaid : Prop := Claim7.holds Tryd.pinned (.plain (OpenSpec.upto numeralKnownSpec)) numeralKnownUptoCard
end Rows
end Go.Proofs.YtcgfcedlllmbhaaDoor
