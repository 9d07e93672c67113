/-
  NARROWER THAN 'FOR EVERY INPUT', by the rows' own cells (each row's printed sentence says how): TopTypes: laid · ComposeChecks: laid · ComposeInserts: laid · ComposeKeeps: laid · ComposeTypes: laid · ComposeKnown: laid · ComposeEdits: laid · ComposePlays: laid · ComposeUndoes: laid.
  DERIVED. THE GIVEN ROWS OF THIS SEAT. 9 by the template 'for every input the law returns true; each argument reads behind the call as it read before'; 0 by the template 'total and deterministic' (their statements: YtgdcffahhpeibaaGreatDoorTotals.lean).
  GIVEN WITH THE SEED: the statements are not yours to turn. If you find one false, say at which input.
  Laid BY PROGRAM, IN A SANDBOX (cutbox-rows.mjs): the forced cells as the released guide's own fill.sh prints them over the translation 801bb00723304116… (all of the seat's roots in one cut). By AI agents, Wed Nov 11 2026. No macro, syntax, notation, axiom, sorry.
-/
import Derived.Test.YtgdcffahhpeibaaGreatDoorChecked
import GoSem.PinnedTables
import GoSem.Claim
import GoSem.ClaimJoined
import GoSem.ClaimMapViews
import Derived.JoinedTies
import Derived.KernelRfl
namespace Go.Proofs.YtgdcffahhpeibaaGreatDoor
/- THE CELL 'sum', in the pinned program and in every row, IS THE sha256 OF THE DUMP (.gsa) THAT YtgdcffahhpeibaaGreatDoorProg.lean LOADS. Nothing in Lean hashes anything: it is a label: what it is worth is what the hold of that sum in a sandbox is worth. -/
noncomputable def Tryz.pinned : Pinned := { name := "ytgdcffahhpeibaagreatdoor", sum := "801bb007233041168b89891fcd6248bdb28e5aac81a1ac0d3a09e3e3983f667d", checked := Tryz.checked }
namespace Rows
def none {H : Type} : Left H := { results := [], args := [] }

/- WHAT THE LISTED PACKAGE-LEVEL VARIABLES READ AS WHEN THE CALL BEGINS. Each datum BY PROGRAM (the guide's laid-datum.mjs) off the statement by which the dump's own 'gosem.cut.vars' lays the variable. In a bare row this is a premise. The card (YtgdcffahhpeibaaGreatDoorCards.lean) ties it to the program's text. -/
def laid_unicode_utf8_acceptRanges {H : Type} : DataW H := .agg [.agg [.lit (.int .u8 128), .lit (.int .u8 191)], .agg [.lit (.int .u8 160), .lit (.int .u8 191)], .agg [.lit (.int .u8 128), .lit (.int .u8 159)], .agg [.lit (.int .u8 144), .lit (.int .u8 191)], .agg [.lit (.int .u8 128), .lit (.int .u8 143)], .agg [.lit (.int .u8 0), .lit (.int .u8 0)], .agg [.lit (.int .u8 0), .lit (.int .u8 0)], .agg [.lit (.int .u8 0), .lit (.int .u8 0)], .agg [.lit (.int .u8 0), .lit (.int .u8 0)], .agg [.lit (.int .u8 0), .lit (.int .u8 0)], .agg [.lit (.int .u8 0), .lit (.int .u8 0)], .agg [.lit (.int .u8 0), .lit (.int .u8 0)], .agg [.lit (.int .u8 0), .lit (.int .u8 0)], .agg [.lit (.int .u8 0), .lit (.int .u8 0)], .agg [.lit (.int .u8 0), .lit (.int .u8 0)], .agg [.lit (.int .u8 0), .lit (.int .u8 0)]]
/-- One of Go's own tables, pinned by name: the form's constant. -/
def laid_unicode_utf8_first : DataW Unit := Go.Pinned.utf8First

/-- 'henkantop.TopTypes': WHATEVER THE INPUT: true; the input reads as it did. -/
def topTypesSpec : ChangeSpec := { name := "topTypes", fn := fun _ => fun
  | [d] => { results := [.lit (.bool true)], args := [d] }
  | _ => none }
def topTypesRow : OpenClaim := { program := "ytgdcffahhpeibaagreatdoor", sum := "801bb007233041168b89891fcd6248bdb28e5aac81a1ac0d3a09e3e3983f667d", func := "henkan/henkantop.TopTypes", spec := "topTypes", inPlace := ["internal/bytealg.CountString", "internal/bytealg.IndexByteString", "internal/bytealg.IndexString", "internal/abi.NoEscape"], unfollowed := true, recurses := true, named := ["unicode/utf8.first", "unicode/utf8.acceptRanges", "internal/bytealg.MaxLen"], plainKeys := false, apart := false, laid := [("unicode/utf8.acceptRanges", laid_unicode_utf8_acceptRanges), ("unicode/utf8.first", laid_unicode_utf8_first)] }
def TopTypesSaid : Prop := topTypesRow.holds Tryz.pinned (OpenSpec.ofChange topTypesSpec)

/-- ITS FALSE NEIGHBOUR: 'it returns false'. Refute it at one input. -/
def topTypesWrong : ChangeSpec := { name := "topTypes", fn := fun _ => fun
  | [d] => { results := [.lit (.bool false)], args := [d] }
  | _ => none }
def TopTypesWrongFalsely : Prop := topTypesRow.holds Tryz.pinned (OpenSpec.ofChange topTypesWrong)

/-- 'henkanlaw08.ComposeChecks': WHATEVER THE INPUT: true; the input reads as it did. -/
def composeChecksSpec : ChangeSpec := { name := "composeChecks", fn := fun _ => fun
  | [d] => { results := [.lit (.bool true)], args := [d] }
  | _ => none }
def composeChecksRow : OpenClaim := { program := "ytgdcffahhpeibaagreatdoor", sum := "801bb007233041168b89891fcd6248bdb28e5aac81a1ac0d3a09e3e3983f667d", func := "henkan/henkanlaw08.ComposeChecks", spec := "composeChecks", inPlace := ["internal/abi.NoEscape", "internal/bytealg.CountString", "internal/bytealg.IndexByteString", "internal/bytealg.IndexString"], unfollowed := true, recurses := true, named := ["unicode/utf8.first", "unicode/utf8.acceptRanges", "internal/bytealg.MaxLen"], plainKeys := false, apart := false, laid := [("unicode/utf8.acceptRanges", laid_unicode_utf8_acceptRanges), ("unicode/utf8.first", laid_unicode_utf8_first)] }
def ComposeChecksSaid : Prop := composeChecksRow.holds Tryz.pinned (OpenSpec.ofChange composeChecksSpec)

/-- ITS FALSE NEIGHBOUR: 'it returns false'. Refute it at one input. -/
def composeChecksWrong : ChangeSpec := { name := "composeChecks", fn := fun _ => fun
  | [d] => { results := [.lit (.bool false)], args := [d] }
  | _ => none }
def ComposeChecksWrongFalsely : Prop := composeChecksRow.holds Tryz.pinned (OpenSpec.ofChange composeChecksWrong)

/-- 'henkanlaw08.ComposeInserts': WHATEVER THE INPUT: true; the input reads as it did. -/
def composeInsertsSpec : ChangeSpec := { name := "composeInserts", fn := fun _ => fun
  | [d1, d2, d3] => { results := [.lit (.bool true)], args := [d1, d2, d3] }
  | _ => none }
def composeInsertsRow : OpenClaim := { program := "ytgdcffahhpeibaagreatdoor", sum := "801bb007233041168b89891fcd6248bdb28e5aac81a1ac0d3a09e3e3983f667d", func := "henkan/henkanlaw08.ComposeInserts", spec := "composeInserts", inPlace := ["internal/bytealg.IndexByteString", "internal/bytealg.IndexString", "internal/bytealg.CountString", "internal/abi.NoEscape"], unfollowed := true, recurses := true, named := ["unicode/utf8.first", "unicode/utf8.acceptRanges", "internal/bytealg.MaxLen"], plainKeys := false, apart := false, laid := [("unicode/utf8.acceptRanges", laid_unicode_utf8_acceptRanges), ("unicode/utf8.first", laid_unicode_utf8_first)] }
def ComposeInsertsSaid : Prop := composeInsertsRow.holds Tryz.pinned (OpenSpec.ofChange composeInsertsSpec)

/-- ITS FALSE NEIGHBOUR: 'it returns false'. Refute it at one input. -/
def composeInsertsWrong : ChangeSpec := { name := "composeInserts", fn := fun _ => fun
  | [d1, d2, d3] => { results := [.lit (.bool false)], args := [d1, d2, d3] }
  | _ => none }
def ComposeInsertsWrongFalsely : Prop := composeInsertsRow.holds Tryz.pinned (OpenSpec.ofChange composeInsertsWrong)

/-- 'henkanlaw08.ComposeKeeps': WHATEVER THE INPUT: true; the input reads as it did. -/
def composeKeepsSpec : ChangeSpec := { name := "composeKeeps", fn := fun _ => fun
  | [d1, d2, d3] => { results := [.lit (.bool true)], args := [d1, d2, d3] }
  | _ => none }
def composeKeepsRow : OpenClaim := { program := "ytgdcffahhpeibaagreatdoor", sum := "801bb007233041168b89891fcd6248bdb28e5aac81a1ac0d3a09e3e3983f667d", func := "henkan/henkanlaw08.ComposeKeeps", spec := "composeKeeps", inPlace := ["internal/bytealg.IndexByteString", "internal/bytealg.IndexString", "internal/bytealg.CountString", "internal/abi.NoEscape"], unfollowed := true, recurses := true, named := ["unicode/utf8.first", "unicode/utf8.acceptRanges", "internal/bytealg.MaxLen"], plainKeys := false, apart := false, laid := [("unicode/utf8.acceptRanges", laid_unicode_utf8_acceptRanges), ("unicode/utf8.first", laid_unicode_utf8_first)] }
def ComposeKeepsSaid : Prop := composeKeepsRow.holds Tryz.pinned (OpenSpec.ofChange composeKeepsSpec)

/-- ITS FALSE NEIGHBOUR: 'it returns false'. Refute it at one input. -/
def composeKeepsWrong : ChangeSpec := { name := "composeKeeps", fn := fun _ => fun
  | [d1, d2, d3] => { results := [.lit (.bool false)], args := [d1, d2, d3] }
  | _ => none }
def ComposeKeepsWrongFalsely : Prop := composeKeepsRow.holds Tryz.pinned (OpenSpec.ofChange composeKeepsWrong)

/-- 'henkanlaw08.ComposeTypes': WHATEVER THE INPUT: true; the input reads as it did. -/
def composeTypesSpec : ChangeSpec := { name := "composeTypes", fn := fun _ => fun
  | [d1, d2] => { results := [.lit (.bool true)], args := [d1, d2] }
  | _ => none }
def composeTypesRow : OpenClaim := { program := "ytgdcffahhpeibaagreatdoor", sum := "801bb007233041168b89891fcd6248bdb28e5aac81a1ac0d3a09e3e3983f667d", func := "henkan/henkanlaw08.ComposeTypes", spec := "composeTypes", inPlace := ["internal/bytealg.IndexByteString", "internal/bytealg.IndexString", "internal/bytealg.CountString", "internal/abi.NoEscape"], unfollowed := true, recurses := true, named := ["unicode/utf8.first", "unicode/utf8.acceptRanges", "internal/bytealg.MaxLen"], plainKeys := false, apart := false, laid := [("unicode/utf8.acceptRanges", laid_unicode_utf8_acceptRanges), ("unicode/utf8.first", laid_unicode_utf8_first)] }
def ComposeTypesSaid : Prop := composeTypesRow.holds Tryz.pinned (OpenSpec.ofChange composeTypesSpec)

/-- ITS FALSE NEIGHBOUR: 'it returns false'. Refute it at one input. -/
def composeTypesWrong : ChangeSpec := { name := "composeTypes", fn := fun _ => fun
  | [d1, d2] => { results := [.lit (.bool false)], args := [d1, d2] }
  | _ => none }
def ComposeTypesWrongFalsely : Prop := composeTypesRow.holds Tryz.pinned (OpenSpec.ofChange composeTypesWrong)

/-- 'henkanlaw08.ComposeKnown': WHATEVER THE INPUT: true; the input reads as it did. -/
def composeKnownSpec : ChangeSpec := { name := "composeKnown", fn := fun _ => fun
  | [] => { results := [.lit (.bool true)], args := [] }
  | _ => none }
def composeKnownRow : OpenClaim := { program := "ytgdcffahhpeibaagreatdoor", sum := "801bb007233041168b89891fcd6248bdb28e5aac81a1ac0d3a09e3e3983f667d", func := "henkan/henkanlaw08.ComposeKnown", spec := "composeKnown", inPlace := ["internal/bytealg.CountString", "internal/bytealg.IndexByteString", "internal/bytealg.IndexString", "internal/abi.NoEscape"], unfollowed := true, recurses := true, named := ["unicode/utf8.first", "unicode/utf8.acceptRanges", "internal/bytealg.MaxLen"], plainKeys := false, apart := false, laid := [("unicode/utf8.acceptRanges", laid_unicode_utf8_acceptRanges), ("unicode/utf8.first", laid_unicode_utf8_first)] }
def ComposeKnownSaid : Prop := composeKnownRow.holds Tryz.pinned (OpenSpec.ofChange composeKnownSpec)

/-- ITS FALSE NEIGHBOUR: 'it returns false'. Refute it at one input. -/
def composeKnownWrong : ChangeSpec := { name := "composeKnown", fn := fun _ => fun
  | [] => { results := [.lit (.bool false)], args := [] }
  | _ => none }
def ComposeKnownWrongFalsely : Prop := composeKnownRow.holds Tryz.pinned (OpenSpec.ofChange composeKnownWrong)

/-- 'henkanlaw08.ComposeEdits': WHATEVER THE INPUT: true; the input reads as it did. -/
def composeEditsSpec : ChangeSpec := { name := "composeEdits", fn := fun _ => fun
  | [d1, d2, d3, d4, d5] => { results := [.lit (.bool true)], args := [d1, d2, d3, d4, d5] }
  | _ => none }
def composeEditsRow : OpenClaim := { program := "ytgdcffahhpeibaagreatdoor", sum := "801bb007233041168b89891fcd6248bdb28e5aac81a1ac0d3a09e3e3983f667d", func := "henkan/henkanlaw08.ComposeEdits", spec := "composeEdits", inPlace := ["internal/bytealg.IndexByteString", "internal/bytealg.IndexString", "internal/bytealg.CountString", "internal/abi.NoEscape"], unfollowed := true, recurses := true, named := ["unicode/utf8.first", "unicode/utf8.acceptRanges", "internal/bytealg.MaxLen"], plainKeys := false, apart := false, laid := [("unicode/utf8.acceptRanges", laid_unicode_utf8_acceptRanges), ("unicode/utf8.first", laid_unicode_utf8_first)] }
def ComposeEditsSaid : Prop := composeEditsRow.holds Tryz.pinned (OpenSpec.ofChange composeEditsSpec)

/-- ITS FALSE NEIGHBOUR: 'it returns false'. Refute it at one input. -/
def composeEditsWrong : ChangeSpec := { name := "composeEdits", fn := fun _ => fun
  | [d1, d2, d3, d4, d5] => { results := [.lit (.bool false)], args := [d1, d2, d3, d4, d5] }
  | _ => none }
def ComposeEditsWrongFalsely : Prop := composeEditsRow.holds Tryz.pinned (OpenSpec.ofChange composeEditsWrong)

/-- 'henkanlaw08.ComposePlays': WHATEVER THE INPUT: true; the input reads as it did. -/
def composePlaysSpec : ChangeSpec := { name := "composePlays", fn := fun _ => fun
  | [d] => { results := [.lit (.bool true)], args := [d] }
  | _ => none }
def composePlaysRow : OpenClaim := { program := "ytgdcffahhpeibaagreatdoor", sum := "801bb007233041168b89891fcd6248bdb28e5aac81a1ac0d3a09e3e3983f667d", func := "henkan/henkanlaw08.ComposePlays", spec := "composePlays", inPlace := ["internal/bytealg.CountString", "internal/bytealg.IndexByteString", "internal/bytealg.IndexString", "internal/abi.NoEscape"], unfollowed := true, recurses := true, named := ["unicode/utf8.first", "unicode/utf8.acceptRanges", "internal/bytealg.MaxLen"], plainKeys := false, apart := false, laid := [("unicode/utf8.acceptRanges", laid_unicode_utf8_acceptRanges), ("unicode/utf8.first", laid_unicode_utf8_first)] }
def ComposePlaysSaid : Prop := composePlaysRow.holds Tryz.pinned (OpenSpec.ofChange composePlaysSpec)

/-- ITS FALSE NEIGHBOUR: 'it returns false'. Refute it at one input. -/
def composePlaysWrong : ChangeSpec := { name := "composePlays", fn := fun _ => fun
  | [d] => { results := [.lit (.bool false)], args := [d] }
  | _ => none }
def ComposePlaysWrongFalsely : Prop := composePlaysRow.holds Tryz.pinned (OpenSpec.ofChange composePlaysWrong)

/-- 'henkanlaw08.ComposeUndoes': WHATEVER THE INPUT: true; the input reads as it did. -/
def composeUndoesSpec : ChangeSpec := { name := "composeUndoes", fn := fun _ => fun
  | [d1, d2] => { results := [.lit (.bool true)], args := [d1, d2] }
  | _ => none }
def composeUndoesRow : OpenClaim := { program := "ytgdcffahhpeibaagreatdoor", sum := "801bb007233041168b89891fcd6248bdb28e5aac81a1ac0d3a09e3e3983f667d", func := "henkan/henkanlaw08.ComposeUndoes", spec := "composeUndoes", inPlace := ["internal/abi.NoEscape", "internal/bytealg.CountString", "internal/bytealg.IndexByteString", "internal/bytealg.IndexString"], unfollowed := true, recurses := true, named := ["unicode/utf8.first", "unicode/utf8.acceptRanges", "internal/bytealg.MaxLen"], plainKeys := false, apart := false, laid := [("unicode/utf8.acceptRanges", laid_unicode_utf8_acceptRanges), ("unicode/utf8.first", laid_unicode_utf8_first)] }
def ComposeUndoesSaid : Prop := composeUndoesRow.holds Tryz.pinned (OpenSpec.ofChange composeUndoesSpec)

/-- ITS FALSE NEIGHBOUR: 'it returns false'. Refute it at one input. -/
def composeUndoesWrong : ChangeSpec := { name := "composeUndoes", fn := fun _ => fun
  | [d1, d2] => { results := [.lit (.bool false)], args := [d1, d2] }
  | _ => none }
def ComposeUndoesWrongFalsely : Prop := composeUndoesRow.holds Tryz.pinned (OpenSpec.ofChange composeUndoesWrong)

/- THE SECOND FORM. 'bulk': how many values and letters a reading holds, each counted each time it is reached (what is shared counts as often as it is met; a slice's spare places count too). A statement '..UptoSaid' is the law's where the arguments, and the package variables that the reading takes, are together of bulk at most 1048576: NARROWER than '..Said'. Prove '..Said' where nothing that the law and all that it calls make is longer than what came in: it says more and counts as full. Else prove '..UptoSaid'. A law counts once. -/
mutual
def uptoBulk {H : Type} : DataW H → Nat
  | .lit (.string bytes) => bytes.length + 1
  | .lit _ => 1
  | .nil => 1
  | .ptr d => uptoBulk d + 1
  | .slice elems spare => uptoBulkAll elems + uptoBulkAll spare + 1
  | .agg parts => uptoBulkAll parts + 1
  | .iface _ d => uptoBulk d + 1
  | .map entries => uptoBulkEntries entries + 1
  | .held _ => 1
def uptoBulkAll {H : Type} : List (DataW H) → Nat
  | [] => 0
  | d :: r => uptoBulk d + uptoBulkAll r
def uptoBulkEntries {H : Type} : List (Lit × DataW H) → Nat
  | [] => 0
  | x :: r => uptoBulkEntry x + uptoBulkEntries r
def uptoBulkEntry {H : Type} : Lit × DataW H → Nat
  | (.string bytes, d) => bytes.length + uptoBulk d + 1
  | (_, d) => uptoBulk d + 1
 end
def uptoSmall : (H : Type) → List (DataW H) → Bool := fun _ ds => decide (uptoBulkAll ds ≤ 1048576)
def OpenSpec.upto (s : _root_.Go.ChangeSpec) : _root_.Go.OpenSpec := { _root_.Go.OpenSpec.ofChange s with cond := some uptoSmall }

/-- 'henkantop.TopTypes', WHERE WHAT IT READS IS OF BULK AT MOST 1048576: true; the input reads as it did. -/
def topTypesUptoRow : OpenClaim := { program := "ytgdcffahhpeibaagreatdoor", sum := "801bb007233041168b89891fcd6248bdb28e5aac81a1ac0d3a09e3e3983f667d", func := "henkan/henkantop.TopTypes", spec := "topTypes", inPlace := ["internal/bytealg.CountString", "internal/bytealg.IndexByteString", "internal/bytealg.IndexString", "internal/abi.NoEscape"], unfollowed := true, recurses := true, named := ["unicode/utf8.first", "unicode/utf8.acceptRanges", "internal/bytealg.MaxLen"], plainKeys := false, apart := false, laid := [("unicode/utf8.acceptRanges", laid_unicode_utf8_acceptRanges), ("unicode/utf8.first", laid_unicode_utf8_first)], narrowed := true }
def TopTypesUptoSaid : Prop := topTypesUptoRow.holds Tryz.pinned (OpenSpec.upto topTypesSpec)

/-- 'henkanlaw08.ComposeChecks', WHERE WHAT IT READS IS OF BULK AT MOST 1048576: true; the input reads as it did. -/
def composeChecksUptoRow : OpenClaim := { program := "ytgdcffahhpeibaagreatdoor", sum := "801bb007233041168b89891fcd6248bdb28e5aac81a1ac0d3a09e3e3983f667d", func := "henkan/henkanlaw08.ComposeChecks", spec := "composeChecks", inPlace := ["internal/abi.NoEscape", "internal/bytealg.CountString", "internal/bytealg.IndexByteString", "internal/bytealg.IndexString"], unfollowed := true, recurses := true, named := ["unicode/utf8.first", "unicode/utf8.acceptRanges", "internal/bytealg.MaxLen"], plainKeys := false, apart := false, laid := [("unicode/utf8.acceptRanges", laid_unicode_utf8_acceptRanges), ("unicode/utf8.first", laid_unicode_utf8_first)], narrowed := true }
def ComposeChecksUptoSaid : Prop := composeChecksUptoRow.holds Tryz.pinned (OpenSpec.upto composeChecksSpec)

/-- 'henkanlaw08.ComposeInserts', WHERE WHAT IT READS IS OF BULK AT MOST 1048576: true; the input reads as it did. -/
def composeInsertsUptoRow : OpenClaim := { program := "ytgdcffahhpeibaagreatdoor", sum := "801bb007233041168b89891fcd6248bdb28e5aac81a1ac0d3a09e3e3983f667d", func := "henkan/henkanlaw08.ComposeInserts", spec := "composeInserts", inPlace := ["internal/bytealg.IndexByteString", "internal/bytealg.IndexString", "internal/bytealg.CountString", "internal/abi.NoEscape"], unfollowed := true, recurses := true, named := ["unicode/utf8.first", "unicode/utf8.acceptRanges", "internal/bytealg.MaxLen"], plainKeys := false, apart := false, laid := [("unicode/utf8.acceptRanges", laid_unicode_utf8_acceptRanges), ("unicode/utf8.first", laid_unicode_utf8_first)], narrowed := true }
def ComposeInsertsUptoSaid : Prop := composeInsertsUptoRow.holds Tryz.pinned (OpenSpec.upto composeInsertsSpec)

/-- 'henkanlaw08.ComposeKeeps', WHERE WHAT IT READS IS OF BULK AT MOST 1048576: true; the input reads as it did. -/
def composeKeepsUptoRow : OpenClaim := { program := "ytgdcffahhpeibaagreatdoor", sum := "801bb007233041168b89891fcd6248bdb28e5aac81a1ac0d3a09e3e3983f667d", func := "henkan/henkanlaw08.ComposeKeeps", spec := "composeKeeps", inPlace := ["internal/bytealg.IndexByteString", "internal/bytealg.IndexString", "internal/bytealg.CountString", "internal/abi.NoEscape"], unfollowed := true, recurses := true, named := ["unicode/utf8.first", "unicode/utf8.acceptRanges", "internal/bytealg.MaxLen"], plainKeys := false, apart := false, laid := [("unicode/utf8.acceptRanges", laid_unicode_utf8_acceptRanges), ("unicode/utf8.first", laid_unicode_utf8_first)], narrowed := true }
def ComposeKeepsUptoSaid : Prop := composeKeepsUptoRow.holds Tryz.pinned (OpenSpec.upto composeKeepsSpec)

/-- 'henkanlaw08.ComposeTypes', WHERE WHAT IT READS IS OF BULK AT MOST 1048576: true; the input reads as it did. -/
def composeTypesUptoRow : OpenClaim := { program := "ytgdcffahhpeibaagreatdoor", sum := "801bb007233041168b89891fcd6248bdb28e5aac81a1ac0d3a09e3e3983f667d", func := "henkan/henkanlaw08.ComposeTypes", spec := "composeTypes", inPlace := ["internal/bytealg.IndexByteString", "internal/bytealg.IndexString", "internal/bytealg.CountString", "internal/abi.NoEscape"], unfollowed := true, recurses := true, named := ["unicode/utf8.first", "unicode/utf8.acceptRanges", "internal/bytealg.MaxLen"], plainKeys := false, apart := false, laid := [("unicode/utf8.acceptRanges", laid_unicode_utf8_acceptRanges), ("unicode/utf8.first", laid_unicode_utf8_first)], narrowed := true }
def ComposeTypesUptoSaid : Prop := composeTypesUptoRow.holds Tryz.pinned (OpenSpec.upto composeTypesSpec)

/-- 'henkanlaw08.ComposeKnown', WHERE WHAT IT READS IS OF BULK AT MOST 1048576: true; the input reads as it did. -/
def composeKnownUptoRow : OpenClaim := { program := "ytgdcffahhpeibaagreatdoor", sum := "801bb007233041168b89891fcd6248bdb28e5aac81a1ac0d3a09e3e3983f667d", func := "henkan/henkanlaw08.ComposeKnown", spec := "composeKnown", inPlace := ["internal/bytealg.CountString", "internal/bytealg.IndexByteString", "internal/bytealg.IndexString", "internal/abi.NoEscape"], unfollowed := true, recurses := true, named := ["unicode/utf8.first", "unicode/utf8.acceptRanges", "internal/bytealg.MaxLen"], plainKeys := false, apart := false, laid := [("unicode/utf8.acceptRanges", laid_unicode_utf8_acceptRanges), ("unicode/utf8.first", laid_unicode_utf8_first)], narrowed := true }
def ComposeKnownUptoSaid : Prop := composeKnownUptoRow.holds Tryz.pinned (OpenSpec.upto composeKnownSpec)

/-- 'henkanlaw08.ComposeEdits', WHERE WHAT IT READS IS OF BULK AT MOST 1048576: true; the input reads as it did. -/
def composeEditsUptoRow : OpenClaim := { program := "ytgdcffahhpeibaagreatdoor", sum := "801bb007233041168b89891fcd6248bdb28e5aac81a1ac0d3a09e3e3983f667d", func := "henkan/henkanlaw08.ComposeEdits", spec := "composeEdits", inPlace := ["internal/bytealg.IndexByteString", "internal/bytealg.IndexString", "internal/bytealg.CountString", "internal/abi.NoEscape"], unfollowed := true, recurses := true, named := ["unicode/utf8.first", "unicode/utf8.acceptRanges", "internal/bytealg.MaxLen"], plainKeys := false, apart := false, laid := [("unicode/utf8.acceptRanges", laid_unicode_utf8_acceptRanges), ("unicode/utf8.first", laid_unicode_utf8_first)], narrowed := true }
def ComposeEditsUptoSaid : Prop := composeEditsUptoRow.holds Tryz.pinned (OpenSpec.upto composeEditsSpec)

/-- 'henkanlaw08.ComposePlays', WHERE WHAT IT READS IS OF BULK AT MOST 1048576: true; the input reads as it did. -/
def composePlaysUptoRow : OpenClaim := { program := "ytgdcffahhpeibaagreatdoor", sum := "801bb007233041168b89891fcd6248bdb28e5aac81a1ac0d3a09e3e3983f667d", func := "henkan/henkanlaw08.ComposePlays", spec := "composePlays", inPlace := ["internal/bytealg.CountString", "internal/bytealg.IndexByteString", "internal/bytealg.IndexString", "internal/abi.NoEscape"], unfollowed := true, recurses := true, named := ["unicode/utf8.first", "unicode/utf8.acceptRanges", "internal/bytealg.MaxLen"], plainKeys := false, apart := false, laid := [("unicode/utf8.acceptRanges", laid_unicode_utf8_acceptRanges), ("unicode/utf8.first", laid_unicode_utf8_first)], narrowed := true }
def ComposePlaysUptoSaid : Prop := composePlaysUptoRow.holds Tryz.pinned (OpenSpec.upto composePlaysSpec)

/-- 'henkanlaw08.ComposeUndoes', WHERE WHAT IT READS IS OF BULK AT MOST 1048576: true; the input reads as it did. -/
def composeUndoesUptoRow : OpenClaim := { program := "ytgdcffahhpeibaagreatdoor", sum := "801bb007233041168b89891fcd6248bdb28e5aac81a1ac0d3a09e3e3983f667d", func := "henkan/henkanlaw08.ComposeUndoes", spec := "composeUndoes", inPlace := ["internal/abi.NoEscape", "internal/bytealg.CountString", "internal/bytealg.IndexByteString", "internal/bytealg.IndexString"], unfollowed := true, recurses := true, named := ["unicode/utf8.first", "unicode/utf8.acceptRanges", "internal/bytealg.MaxLen"], plainKeys := false, apart := false, laid := [("unicode/utf8.acceptRanges", laid_unicode_utf8_acceptRanges), ("unicode/utf8.first", laid_unicode_utf8_first)], narrowed := true }
def ComposeUndoesUptoSaid : Prop := composeUndoesUptoRow.holds Tryz.pinned (OpenSpec.upto composeUndoesSpec)

end Rows
end Go.Proofs.YtgdcffahhpeibaaGreatDoor
