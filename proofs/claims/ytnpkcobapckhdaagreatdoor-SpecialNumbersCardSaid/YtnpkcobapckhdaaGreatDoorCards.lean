/-
  DERIVED. GIVEN WITH THE SEED: THE CARDS: each row of YtnpkcobapckhdaaGreatDoorRows.lean that lists a variable, with what it lists TIED to the program's text (the seventh form; the later family's looks); each row that meets fmt, with fmt's text TOLD by the authors' own Lean function (tested against real Go, not proved from fmt's source: count such statements apart). THE CARD IS WHAT COUNTS. Prove the row's statement (the work); the ties are given (YtnpkcobapckhdaaGreatDoorTie.lean); close each card by the builder's one call (the guide's Derived/Test/ToyasCard.lean, 'card_holds'). Laid BY PROGRAM, IN A SANDBOX (cutbox-door.mjs). By AI agents, Wed Nov 11 2026. No macro, syntax, notation, axiom, sorry.
-/
import Derived.Test.YtnpkcobapckhdaaGreatDoorRows
import GoSem.ClaimSeven
namespace Go.Proofs.YtnpkcobapckhdaaGreatDoor
namespace Rows

/-- THE TIED CARD OF 'henkanlaw20.SpecialLists'. -/
def specialListsCard : Claim7 := { stood := { row := specialListsRow, standIns := [], harness := (true, "967b8892dcb193c37afbc5b64f9b90466b76e9a629754fe0f48c7c3809943e0a"), looks := true }, kinds := [], alts := [], laidByText := true, laidKinds := [.data, .data, .data, .data, .widerDeep, .wider, .widerDeep, .pinned], laidTests := true, laidLooks := .later }
def SpecialListsCardSaid : Prop := Claim7.holds Tryz.pinned (.plain (OpenSpec.ofChange specialListsSpec)) specialListsCard

/-- THE TIED CARD OF 'henkanlaw20.SpecialTable'. -/
def specialTableCard : Claim7 := { stood := { row := specialTableRow, standIns := [], harness := (true, "967b8892dcb193c37afbc5b64f9b90466b76e9a629754fe0f48c7c3809943e0a"), looks := true }, kinds := [], alts := [], laidByText := true, laidKinds := [.data, .data, .data, .data, .widerDeep, .wider, .widerDeep, .pinned], laidTests := true, laidLooks := .later }
def SpecialTableCardSaid : Prop := Claim7.holds Tryz.pinned (.plain (OpenSpec.ofChange specialTableSpec)) specialTableCard

/-- THE TIED CARD OF 'henkanlaw20.SpecialOnce'. -/
def specialOnceCard : Claim7 := { stood := { row := specialOnceRow, standIns := [], harness := (true, "967b8892dcb193c37afbc5b64f9b90466b76e9a629754fe0f48c7c3809943e0a"), looks := true }, kinds := [], alts := [], laidByText := true, laidKinds := [.data, .data, .data, .data, .widerDeep, .wider, .widerDeep, .pinned], laidTests := true, laidLooks := .later }
def SpecialOnceCardSaid : Prop := Claim7.holds Tryz.pinned (.plain (OpenSpec.ofChange specialOnceSpec)) specialOnceCard

/-- THE TIED CARD OF 'henkanlaw20.SpecialNumbers'. -/
def specialNumbersCard : Claim7 := { stood := { row := specialNumbersRow, standIns := [], harness := (true, "967b8892dcb193c37afbc5b64f9b90466b76e9a629754fe0f48c7c3809943e0a"), looks := true }, kinds := [], alts := [], laidByText := true, laidKinds := [.data, .data, .data, .data, .widerDeep, .wider, .widerDeep, .pinned], laidTests := true, laidLooks := .later }
def SpecialNumbersCardSaid : Prop := Claim7.holds Tryz.pinned (.plain (OpenSpec.ofChange specialNumbersSpec)) specialNumbersCard

/-- THE TIED CARD OF 'henkanlaw20.SpecialDays'. -/
def specialDaysCard : Claim7 := { stood := { row := specialDaysRow, standIns := [], harness := (true, "967b8892dcb193c37afbc5b64f9b90466b76e9a629754fe0f48c7c3809943e0a"), looks := true }, kinds := [], alts := [], laidByText := true, laidKinds := [.data, .data, .data, .data, .widerDeep, .wider, .widerDeep, .pinned], laidTests := true, laidLooks := .later }
def SpecialDaysCardSaid : Prop := Claim7.holds Tryz.pinned (.plain (OpenSpec.ofChange specialDaysSpec)) specialDaysCard

/-- THE TIED CARD OF 'henkanlaw20.SpecialKana'. -/
def specialKanaCard : Claim7 := { stood := { row := specialKanaRow, standIns := [], harness := (true, "967b8892dcb193c37afbc5b64f9b90466b76e9a629754fe0f48c7c3809943e0a"), looks := true }, kinds := [], alts := [], laidByText := true, laidKinds := [.data, .data, .data, .data, .widerDeep, .wider, .widerDeep, .pinned], laidTests := true, laidLooks := .later }
def SpecialKanaCardSaid : Prop := Claim7.holds Tryz.pinned (.plain (OpenSpec.ofChange specialKanaSpec)) specialKanaCard

/-- THE TIED CARD OF 'henkanlaw20.SpecialKnown'. -/
def specialKnownCard : Claim7 := { stood := { row := specialKnownRow, standIns := [], harness := (true, "967b8892dcb193c37afbc5b64f9b90466b76e9a629754fe0f48c7c3809943e0a"), looks := true }, kinds := [], alts := [], laidByText := true, laidKinds := [.data, .data, .data, .data, .widerDeep, .wider, .widerDeep, .pinned], laidTests := true, laidLooks := .later }
def SpecialKnownCardSaid : Prop := Claim7.holds Tryz.pinned (.plain (OpenSpec.ofChange specialKnownSpec)) specialKnownCard

/-- THE TIED CARD OF 'henkanlaw04.CaldateParses'. -/
def caldateParsesCard : Claim7 := { stood := { row := caldateParsesRow, standIns := [], harness := (true, "967b8892dcb193c37afbc5b64f9b90466b76e9a629754fe0f48c7c3809943e0a"), looks := true }, kinds := [], alts := [], laidByText := true, laidKinds := [.data, .data, .data, .data, .sentinel, .sentinel, .widerDeep, .wider, .widerDeep, .pinned], laidTests := true, laidLooks := .later }
def CaldateParsesCardSaid : Prop := Claim7.holds Tryz.pinned (.plain (OpenSpec.ofChange caldateParsesSpec)) caldateParsesCard

/-- THE TIED CARD OF 'henkanlaw04.CaldateUnique'. -/
def caldateUniqueCard : Claim7 := { stood := { row := caldateUniqueRow, standIns := [], harness := (true, "967b8892dcb193c37afbc5b64f9b90466b76e9a629754fe0f48c7c3809943e0a"), looks := true }, kinds := [], alts := [], laidByText := true, laidKinds := [.data, .data, .data, .data, .sentinel, .sentinel, .widerDeep, .wider, .widerDeep, .pinned], laidTests := true, laidLooks := .later }
def CaldateUniqueCardSaid : Prop := Claim7.holds Tryz.pinned (.plain (OpenSpec.ofChange caldateUniqueSpec)) caldateUniqueCard

/-- THE TIED CARD OF 'henkanlaw04.CaldateKnown'. -/
def caldateKnownCard : Claim7 := { stood := { row := caldateKnownRow, standIns := [], harness := (true, "967b8892dcb193c37afbc5b64f9b90466b76e9a629754fe0f48c7c3809943e0a"), looks := true }, kinds := [], alts := [], laidByText := true, laidKinds := [.data, .data, .data, .data, .sentinel, .sentinel, .widerDeep, .wider, .widerDeep, .pinned], laidTests := true, laidLooks := .later }
def CaldateKnownCardSaid : Prop := Claim7.holds Tryz.pinned (.plain (OpenSpec.ofChange caldateKnownSpec)) caldateKnownCard

/-- THE SECOND FORM's CARD OF 'henkanlaw20.SpecialLists'. -/
def specialListsUptoCard : Claim7 := { stood := { row := specialListsUptoRow, standIns := [], harness := (true, "967b8892dcb193c37afbc5b64f9b90466b76e9a629754fe0f48c7c3809943e0a"), looks := true }, kinds := [], alts := [], laidByText := true, laidKinds := [.data, .data, .data, .data, .widerDeep, .wider, .widerDeep, .pinned], laidTests := true, laidLooks := .later }
def SpecialListsUptoCardSaid : Prop := Claim7.holds Tryz.pinned (.plain (OpenSpec.upto specialListsSpec)) specialListsUptoCard

/-- THE SECOND FORM's CARD OF 'henkanlaw20.SpecialTable'. -/
def specialTableUptoCard : Claim7 := { stood := { row := specialTableUptoRow, standIns := [], harness := (true, "967b8892dcb193c37afbc5b64f9b90466b76e9a629754fe0f48c7c3809943e0a"), looks := true }, kinds := [], alts := [], laidByText := true, laidKinds := [.data, .data, .data, .data, .widerDeep, .wider, .widerDeep, .pinned], laidTests := true, laidLooks := .later }
def SpecialTableUptoCardSaid : Prop := Claim7.holds Tryz.pinned (.plain (OpenSpec.upto specialTableSpec)) specialTableUptoCard

/-- THE SECOND FORM's CARD OF 'henkanlaw20.SpecialOnce'. -/
def specialOnceUptoCard : Claim7 := { stood := { row := specialOnceUptoRow, standIns := [], harness := (true, "967b8892dcb193c37afbc5b64f9b90466b76e9a629754fe0f48c7c3809943e0a"), looks := true }, kinds := [], alts := [], laidByText := true, laidKinds := [.data, .data, .data, .data, .widerDeep, .wider, .widerDeep, .pinned], laidTests := true, laidLooks := .later }
def SpecialOnceUptoCardSaid : Prop := Claim7.holds Tryz.pinned (.plain (OpenSpec.upto specialOnceSpec)) specialOnceUptoCard

/-- THE SECOND FORM's CARD OF 'henkanlaw20.SpecialNumbers'. -/
def specialNumbersUptoCard : Claim7 := { stood := { row := specialNumbersUptoRow, standIns := [], harness := (true, "967b8892dcb193c37afbc5b64f9b90466b76e9a629754fe0f48c7c3809943e0a"), looks := true }, kinds := [], alts := [], laidByText := true, laidKinds := [.data, .data, .data, .data, .widerDeep, .wider, .widerDeep, .pinned], laidTests := true, laidLooks := .later }
def SpecialNumbersUptoCardSaid : Prop := Claim7.holds Tryz.pinned (.plain (OpenSpec.upto specialNumbersSpec)) specialNumbersUptoCard

/-- THE SECOND FORM's CARD OF 'henkanlaw20.SpecialDays'. -/
def specialDaysUptoCard : Claim7 := { stood := { row := specialDaysUptoRow, standIns := [], harness := (true, "967b8892dcb193c37afbc5b64f9b90466b76e9a629754fe0f48c7c3809943e0a"), looks := true }, kinds := [], alts := [], laidByText := true, laidKinds := [.data, .data, .data, .data, .widerDeep, .wider, .widerDeep, .pinned], laidTests := true, laidLooks := .later }
def SpecialDaysUptoCardSaid : Prop := Claim7.holds Tryz.pinned (.plain (OpenSpec.upto specialDaysSpec)) specialDaysUptoCard

/-- THE SECOND FORM's CARD OF 'henkanlaw20.SpecialKana'. -/
def specialKanaUptoCard : Claim7 := { stood := { row := specialKanaUptoRow, standIns := [], harness := (true, "967b8892dcb193c37afbc5b64f9b90466b76e9a629754fe0f48c7c3809943e0a"), looks := true }, kinds := [], alts := [], laidByText := true, laidKinds := [.data, .data, .data, .data, .widerDeep, .wider, .widerDeep, .pinned], laidTests := true, laidLooks := .later }
def SpecialKanaUptoCardSaid : Prop := Claim7.holds Tryz.pinned (.plain (OpenSpec.upto specialKanaSpec)) specialKanaUptoCard

/-- THE SECOND FORM's CARD OF 'henkanlaw20.SpecialKnown'. -/
def specialKnownUptoCard : Claim7 := { stood := { row := specialKnownUptoRow, standIns := [], harness := (true, "967b8892dcb193c37afbc5b64f9b90466b76e9a629754fe0f48c7c3809943e0a"), looks := true }, kinds := [], alts := [], laidByText := true, laidKinds := [.data, .data, .data, .data, .widerDeep, .wider, .widerDeep, .pinned], laidTests := true, laidLooks := .later }
def SpecialKnownUptoCardSaid : Prop := Claim7.holds Tryz.pinned (.plain (OpenSpec.upto specialKnownSpec)) specialKnownUptoCard

/-- THE SECOND FORM's CARD OF 'henkanlaw04.CaldateParses'. -/
def caldateParsesUptoCard : Claim7 := { stood := { row := caldateParsesUptoRow, standIns := [], harness := (true, "967b8892dcb193c37afbc5b64f9b90466b76e9a629754fe0f48c7c3809943e0a"), looks := true }, kinds := [], alts := [], laidByText := true, laidKinds := [.data, .data, .data, .data, .sentinel, .sentinel, .widerDeep, .wider, .widerDeep, .pinned], laidTests := true, laidLooks := .later }
def CaldateParsesUptoCardSaid : Prop := Claim7.holds Tryz.pinned (.plain (OpenSpec.upto caldateParsesSpec)) caldateParsesUptoCard

/-- THE SECOND FORM's CARD OF 'henkanlaw04.CaldateUnique'. -/
def caldateUniqueUptoCard : Claim7 := { stood := { row := caldateUniqueUptoRow, standIns := [], harness := (true, "967b8892dcb193c37afbc5b64f9b90466b76e9a629754fe0f48c7c3809943e0a"), looks := true }, kinds := [], alts := [], laidByText := true, laidKinds := [.data, .data, .data, .data, .sentinel, .sentinel, .widerDeep, .wider, .widerDeep, .pinned], laidTests := true, laidLooks := .later }
def CaldateUniqueUptoCardSaid : Prop := Claim7.holds Tryz.pinned (.plain (OpenSpec.upto caldateUniqueSpec)) caldateUniqueUptoCard

/-- THE SECOND FORM's CARD OF 'henkanlaw04.CaldateKnown'. -/
def caldateKnownUptoCard : Claim7 := { stood := { row := caldateKnownUptoRow, standIns := [], harness := (true, "967b8892dcb193c37afbc5b64f9b90466b76e9a629754fe0f48c7c3809943e0a"), looks := true }, kinds := [], alts := [], laidByText := true, laidKinds := [.data, .data, .data, .data, .sentinel, .sentinel, .widerDeep, .wider, .widerDeep, .pinned], laidTests := true, laidLooks := .later }
def CaldateKnownUptoCardSaid : Prop := Claim7.holds Tryz.pinned (.plain (OpenSpec.upto caldateKnownSpec)) caldateKnownUptoCard
end Rows
end Go.Proofs.YtnpkcobapckhdaaGreatDoor
