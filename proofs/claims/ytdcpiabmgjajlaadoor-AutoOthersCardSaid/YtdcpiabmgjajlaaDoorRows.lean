/-
  NARROWER THAN 'FOR EVERY INPUT', by the rows' own cells (each row's printed sentence says how): AutoNews: laid · AutoSteps: laid · AutoTypes: laid · AutoNone: laid · AutoOne: laid · AutoPends: laid · AutoOthers: laid · AutoBare: laid · AutoTyped: laid · AutoLeast: laid · AutoKnown: laid.
  DERIVED. THE GIVEN ROWS OF THIS SEAT. 11 by the template 'for every input the law returns true; each argument reads behind the call as it read before'; 0 by the template 'total and deterministic' (their statements: YtdcpiabmgjajlaaDoorTotals.lean).
  GIVEN WITH THE SEED: the statements are not yours to turn. If you find one false, say at which input.
  Laid BY PROGRAM, IN A SANDBOX (cutbox-rows.mjs): the forced cells as the released guide's own fill.sh prints them over the translation 91bf9987f946887c… (all of the seat's roots in one cut). By AI agents, Wed Nov 11 2026. No macro, syntax, notation, axiom, sorry.
-/
import Derived.Test.YtdcpiabmgjajlaaDoorChecked
import GoSem.PinnedTables
import GoSem.Claim
import GoSem.ClaimJoined
import GoSem.ClaimMapViews
import Derived.JoinedTies
import Derived.KernelRfl
namespace Go.Proofs.YtdcpiabmgjajlaaDoor
/- THE CELL 'sum', in the pinned program and in every row, IS THE sha256 OF THE DUMP (.gsa) THAT YtdcpiabmgjajlaaDoorProg.lean LOADS. Nothing in Lean hashes anything: it is a label: what it is worth is what the hold of that sum in a sandbox is worth. -/
noncomputable def Tryd.pinned : Pinned := { name := "ytdcpiabmgjajlaadoor", sum := "91bf9987f946887c91d0cf16373961b19f6680df9e9220c02540552a20c8e45c", checked := Tryd.checked }
namespace Rows
def none {H : Type} : Left H := { results := [], args := [] }

/- WHAT THE LISTED PACKAGE-LEVEL VARIABLES READ AS WHEN THE CALL BEGINS. Each datum BY PROGRAM (the guide's laid-datum.mjs) off the statement by which the dump's own 'gosem.cut.vars' lays the variable. In a bare row this is a premise. The card (YtdcpiabmgjajlaaDoorCards.lean) ties it to the program's text. -/
def laid_unicode_utf8_acceptRanges {H : Type} : DataW H := .agg [.agg [.lit (.int .u8 128), .lit (.int .u8 191)], .agg [.lit (.int .u8 160), .lit (.int .u8 191)], .agg [.lit (.int .u8 128), .lit (.int .u8 159)], .agg [.lit (.int .u8 144), .lit (.int .u8 191)], .agg [.lit (.int .u8 128), .lit (.int .u8 143)], .agg [.lit (.int .u8 0), .lit (.int .u8 0)], .agg [.lit (.int .u8 0), .lit (.int .u8 0)], .agg [.lit (.int .u8 0), .lit (.int .u8 0)], .agg [.lit (.int .u8 0), .lit (.int .u8 0)], .agg [.lit (.int .u8 0), .lit (.int .u8 0)], .agg [.lit (.int .u8 0), .lit (.int .u8 0)], .agg [.lit (.int .u8 0), .lit (.int .u8 0)], .agg [.lit (.int .u8 0), .lit (.int .u8 0)], .agg [.lit (.int .u8 0), .lit (.int .u8 0)], .agg [.lit (.int .u8 0), .lit (.int .u8 0)], .agg [.lit (.int .u8 0), .lit (.int .u8 0)]]
/-- One of Go's own tables, pinned by name: the form's constant. -/
def laid_unicode_utf8_first : DataW Unit := Go.Pinned.utf8First

/-- 'henkanlaw06.AutoNews': WHATEVER THE INPUT: true; the input reads as it did. -/
def autoNewsSpec : ChangeSpec := { name := "autoNews", fn := fun _ => fun
  | [d1, d2] => { results := [.lit (.bool true)], args := [d1, d2] }
  | _ => none }
def autoNewsRow : OpenClaim := { program := "ytdcpiabmgjajlaadoor", sum := "91bf9987f946887c91d0cf16373961b19f6680df9e9220c02540552a20c8e45c", func := "henkan/henkanlaw06.AutoNews", spec := "autoNews", inPlace := ["internal/bytealg.IndexByteString", "internal/bytealg.IndexString", "internal/abi.NoEscape"], unfollowed := true, recurses := true, named := ["unicode/utf8.first", "unicode/utf8.acceptRanges", "internal/bytealg.MaxLen"], plainKeys := false, apart := false, laid := [("unicode/utf8.acceptRanges", laid_unicode_utf8_acceptRanges), ("unicode/utf8.first", laid_unicode_utf8_first)] }
def AutoNewsSaid : Prop := autoNewsRow.holds Tryd.pinned (OpenSpec.ofChange autoNewsSpec)

/-- ITS FALSE NEIGHBOUR: 'it returns false'. Refute it at one input. -/
def autoNewsWrong : ChangeSpec := { name := "autoNews", fn := fun _ => fun
  | [d1, d2] => { results := [.lit (.bool false)], args := [d1, d2] }
  | _ => none }
def AutoNewsWrongFalsely : Prop := autoNewsRow.holds Tryd.pinned (OpenSpec.ofChange autoNewsWrong)

/-- 'henkanlaw06.AutoSteps': WHATEVER THE INPUT: true; the input reads as it did. -/
def autoStepsSpec : ChangeSpec := { name := "autoSteps", fn := fun _ => fun
  | [d1, d2, d3] => { results := [.lit (.bool true)], args := [d1, d2, d3] }
  | _ => none }
def autoStepsRow : OpenClaim := { program := "ytdcpiabmgjajlaadoor", sum := "91bf9987f946887c91d0cf16373961b19f6680df9e9220c02540552a20c8e45c", func := "henkan/henkanlaw06.AutoSteps", spec := "autoSteps", inPlace := ["internal/bytealg.IndexByteString", "internal/bytealg.IndexString", "internal/abi.NoEscape"], unfollowed := true, recurses := true, named := ["unicode/utf8.first", "unicode/utf8.acceptRanges", "internal/bytealg.MaxLen"], plainKeys := false, apart := false, laid := [("unicode/utf8.acceptRanges", laid_unicode_utf8_acceptRanges), ("unicode/utf8.first", laid_unicode_utf8_first)] }
def AutoStepsSaid : Prop := autoStepsRow.holds Tryd.pinned (OpenSpec.ofChange autoStepsSpec)

/-- ITS FALSE NEIGHBOUR: 'it returns false'. Refute it at one input. -/
def autoStepsWrong : ChangeSpec := { name := "autoSteps", fn := fun _ => fun
  | [d1, d2, d3] => { results := [.lit (.bool false)], args := [d1, d2, d3] }
  | _ => none }
def AutoStepsWrongFalsely : Prop := autoStepsRow.holds Tryd.pinned (OpenSpec.ofChange autoStepsWrong)

/-- 'henkanlaw06.AutoTypes': WHATEVER THE INPUT: true; the input reads as it did. -/
def autoTypesSpec : ChangeSpec := { name := "autoTypes", fn := fun _ => fun
  | [d1, d2] => { results := [.lit (.bool true)], args := [d1, d2] }
  | _ => none }
def autoTypesRow : OpenClaim := { program := "ytdcpiabmgjajlaadoor", sum := "91bf9987f946887c91d0cf16373961b19f6680df9e9220c02540552a20c8e45c", func := "henkan/henkanlaw06.AutoTypes", spec := "autoTypes", inPlace := ["internal/bytealg.IndexByteString", "internal/bytealg.IndexString", "internal/abi.NoEscape"], unfollowed := true, recurses := true, named := ["unicode/utf8.first", "unicode/utf8.acceptRanges", "internal/bytealg.MaxLen"], plainKeys := false, apart := false, laid := [("unicode/utf8.acceptRanges", laid_unicode_utf8_acceptRanges), ("unicode/utf8.first", laid_unicode_utf8_first)] }
def AutoTypesSaid : Prop := autoTypesRow.holds Tryd.pinned (OpenSpec.ofChange autoTypesSpec)

/-- ITS FALSE NEIGHBOUR: 'it returns false'. Refute it at one input. -/
def autoTypesWrong : ChangeSpec := { name := "autoTypes", fn := fun _ => fun
  | [d1, d2] => { results := [.lit (.bool false)], args := [d1, d2] }
  | _ => none }
def AutoTypesWrongFalsely : Prop := autoTypesRow.holds Tryd.pinned (OpenSpec.ofChange autoTypesWrong)

/-- 'henkanlaw06.AutoNone': WHATEVER THE INPUT: true; the input reads as it did. -/
def autoNoneSpec : ChangeSpec := { name := "autoNone", fn := fun _ => fun
  | [d1, d2] => { results := [.lit (.bool true)], args := [d1, d2] }
  | _ => none }
def autoNoneRow : OpenClaim := { program := "ytdcpiabmgjajlaadoor", sum := "91bf9987f946887c91d0cf16373961b19f6680df9e9220c02540552a20c8e45c", func := "henkan/henkanlaw06.AutoNone", spec := "autoNone", inPlace := ["internal/abi.NoEscape", "internal/bytealg.IndexByteString", "internal/bytealg.IndexString"], unfollowed := true, recurses := true, named := ["unicode/utf8.first", "unicode/utf8.acceptRanges", "internal/bytealg.MaxLen"], plainKeys := false, apart := false, laid := [("unicode/utf8.acceptRanges", laid_unicode_utf8_acceptRanges), ("unicode/utf8.first", laid_unicode_utf8_first)] }
def AutoNoneSaid : Prop := autoNoneRow.holds Tryd.pinned (OpenSpec.ofChange autoNoneSpec)

/-- ITS FALSE NEIGHBOUR: 'it returns false'. Refute it at one input. -/
def autoNoneWrong : ChangeSpec := { name := "autoNone", fn := fun _ => fun
  | [d1, d2] => { results := [.lit (.bool false)], args := [d1, d2] }
  | _ => none }
def AutoNoneWrongFalsely : Prop := autoNoneRow.holds Tryd.pinned (OpenSpec.ofChange autoNoneWrong)

/-- 'henkanlaw06.AutoOne': WHATEVER THE INPUT: true; the input reads as it did. -/
def autoOneSpec : ChangeSpec := { name := "autoOne", fn := fun _ => fun
  | [d1, d2, d3] => { results := [.lit (.bool true)], args := [d1, d2, d3] }
  | _ => none }
def autoOneRow : OpenClaim := { program := "ytdcpiabmgjajlaadoor", sum := "91bf9987f946887c91d0cf16373961b19f6680df9e9220c02540552a20c8e45c", func := "henkan/henkanlaw06.AutoOne", spec := "autoOne", inPlace := ["internal/bytealg.IndexByteString", "internal/bytealg.IndexString", "internal/abi.NoEscape"], unfollowed := true, recurses := true, named := ["unicode/utf8.first", "unicode/utf8.acceptRanges", "internal/bytealg.MaxLen"], plainKeys := false, apart := false, laid := [("unicode/utf8.acceptRanges", laid_unicode_utf8_acceptRanges), ("unicode/utf8.first", laid_unicode_utf8_first)] }
def AutoOneSaid : Prop := autoOneRow.holds Tryd.pinned (OpenSpec.ofChange autoOneSpec)

/-- ITS FALSE NEIGHBOUR: 'it returns false'. Refute it at one input. -/
def autoOneWrong : ChangeSpec := { name := "autoOne", fn := fun _ => fun
  | [d1, d2, d3] => { results := [.lit (.bool false)], args := [d1, d2, d3] }
  | _ => none }
def AutoOneWrongFalsely : Prop := autoOneRow.holds Tryd.pinned (OpenSpec.ofChange autoOneWrong)

/-- 'henkanlaw06.AutoPends': WHATEVER THE INPUT: true; the input reads as it did. -/
def autoPendsSpec : ChangeSpec := { name := "autoPends", fn := fun _ => fun
  | [d1, d2] => { results := [.lit (.bool true)], args := [d1, d2] }
  | _ => none }
def autoPendsRow : OpenClaim := { program := "ytdcpiabmgjajlaadoor", sum := "91bf9987f946887c91d0cf16373961b19f6680df9e9220c02540552a20c8e45c", func := "henkan/henkanlaw06.AutoPends", spec := "autoPends", inPlace := ["internal/bytealg.IndexByteString", "internal/bytealg.IndexString", "internal/abi.NoEscape"], unfollowed := true, recurses := true, named := ["unicode/utf8.first", "unicode/utf8.acceptRanges", "internal/bytealg.MaxLen"], plainKeys := false, apart := false, laid := [("unicode/utf8.acceptRanges", laid_unicode_utf8_acceptRanges), ("unicode/utf8.first", laid_unicode_utf8_first)] }
def AutoPendsSaid : Prop := autoPendsRow.holds Tryd.pinned (OpenSpec.ofChange autoPendsSpec)

/-- ITS FALSE NEIGHBOUR: 'it returns false'. Refute it at one input. -/
def autoPendsWrong : ChangeSpec := { name := "autoPends", fn := fun _ => fun
  | [d1, d2] => { results := [.lit (.bool false)], args := [d1, d2] }
  | _ => none }
def AutoPendsWrongFalsely : Prop := autoPendsRow.holds Tryd.pinned (OpenSpec.ofChange autoPendsWrong)

/-- 'henkanlaw06.AutoOthers': WHATEVER THE INPUT: true; the input reads as it did. -/
def autoOthersSpec : ChangeSpec := { name := "autoOthers", fn := fun _ => fun
  | [d1, d2, d3] => { results := [.lit (.bool true)], args := [d1, d2, d3] }
  | _ => none }
def autoOthersRow : OpenClaim := { program := "ytdcpiabmgjajlaadoor", sum := "91bf9987f946887c91d0cf16373961b19f6680df9e9220c02540552a20c8e45c", func := "henkan/henkanlaw06.AutoOthers", spec := "autoOthers", inPlace := ["internal/bytealg.IndexByteString", "internal/bytealg.IndexString", "internal/abi.NoEscape"], unfollowed := true, recurses := true, named := ["unicode/utf8.first", "unicode/utf8.acceptRanges", "internal/bytealg.MaxLen"], plainKeys := false, apart := false, laid := [("unicode/utf8.acceptRanges", laid_unicode_utf8_acceptRanges), ("unicode/utf8.first", laid_unicode_utf8_first)] }
def AutoOthersSaid : Prop := autoOthersRow.holds Tryd.pinned (OpenSpec.ofChange autoOthersSpec)

/-- ITS FALSE NEIGHBOUR: 'it returns false'. Refute it at one input. -/
def autoOthersWrong : ChangeSpec := { name := "autoOthers", fn := fun _ => fun
  | [d1, d2, d3] => { results := [.lit (.bool false)], args := [d1, d2, d3] }
  | _ => none }
def AutoOthersWrongFalsely : Prop := autoOthersRow.holds Tryd.pinned (OpenSpec.ofChange autoOthersWrong)

/-- 'henkanlaw06.AutoBare': WHATEVER THE INPUT: true; the input reads as it did. -/
def autoBareSpec : ChangeSpec := { name := "autoBare", fn := fun _ => fun
  | [d] => { results := [.lit (.bool true)], args := [d] }
  | _ => none }
def autoBareRow : OpenClaim := { program := "ytdcpiabmgjajlaadoor", sum := "91bf9987f946887c91d0cf16373961b19f6680df9e9220c02540552a20c8e45c", func := "henkan/henkanlaw06.AutoBare", spec := "autoBare", inPlace := ["internal/bytealg.IndexByteString", "internal/bytealg.IndexString", "internal/abi.NoEscape"], unfollowed := true, recurses := true, named := ["unicode/utf8.first", "unicode/utf8.acceptRanges", "internal/bytealg.MaxLen"], plainKeys := false, apart := false, laid := [("unicode/utf8.acceptRanges", laid_unicode_utf8_acceptRanges), ("unicode/utf8.first", laid_unicode_utf8_first)] }
def AutoBareSaid : Prop := autoBareRow.holds Tryd.pinned (OpenSpec.ofChange autoBareSpec)

/-- ITS FALSE NEIGHBOUR: 'it returns false'. Refute it at one input. -/
def autoBareWrong : ChangeSpec := { name := "autoBare", fn := fun _ => fun
  | [d] => { results := [.lit (.bool false)], args := [d] }
  | _ => none }
def AutoBareWrongFalsely : Prop := autoBareRow.holds Tryd.pinned (OpenSpec.ofChange autoBareWrong)

/-- 'henkanlaw06.AutoTyped': WHATEVER THE INPUT: true; the input reads as it did. -/
def autoTypedSpec : ChangeSpec := { name := "autoTyped", fn := fun _ => fun
  | [d1, d2, d3] => { results := [.lit (.bool true)], args := [d1, d2, d3] }
  | _ => none }
def autoTypedRow : OpenClaim := { program := "ytdcpiabmgjajlaadoor", sum := "91bf9987f946887c91d0cf16373961b19f6680df9e9220c02540552a20c8e45c", func := "henkan/henkanlaw06.AutoTyped", spec := "autoTyped", inPlace := ["internal/bytealg.IndexByteString", "internal/bytealg.IndexString", "internal/abi.NoEscape"], unfollowed := true, recurses := true, named := ["unicode/utf8.first", "unicode/utf8.acceptRanges", "internal/bytealg.MaxLen"], plainKeys := false, apart := false, laid := [("unicode/utf8.acceptRanges", laid_unicode_utf8_acceptRanges), ("unicode/utf8.first", laid_unicode_utf8_first)] }
def AutoTypedSaid : Prop := autoTypedRow.holds Tryd.pinned (OpenSpec.ofChange autoTypedSpec)

/-- ITS FALSE NEIGHBOUR: 'it returns false'. Refute it at one input. -/
def autoTypedWrong : ChangeSpec := { name := "autoTyped", fn := fun _ => fun
  | [d1, d2, d3] => { results := [.lit (.bool false)], args := [d1, d2, d3] }
  | _ => none }
def AutoTypedWrongFalsely : Prop := autoTypedRow.holds Tryd.pinned (OpenSpec.ofChange autoTypedWrong)

/-- 'henkanlaw06.AutoLeast': WHATEVER THE INPUT: true; the input reads as it did. -/
def autoLeastSpec : ChangeSpec := { name := "autoLeast", fn := fun _ => fun
  | [d1, d2] => { results := [.lit (.bool true)], args := [d1, d2] }
  | _ => none }
def autoLeastRow : OpenClaim := { program := "ytdcpiabmgjajlaadoor", sum := "91bf9987f946887c91d0cf16373961b19f6680df9e9220c02540552a20c8e45c", func := "henkan/henkanlaw06.AutoLeast", spec := "autoLeast", inPlace := ["internal/bytealg.IndexByteString", "internal/bytealg.IndexString", "internal/abi.NoEscape"], unfollowed := true, recurses := true, named := ["unicode/utf8.first", "unicode/utf8.acceptRanges", "internal/bytealg.MaxLen"], plainKeys := false, apart := false, laid := [("unicode/utf8.acceptRanges", laid_unicode_utf8_acceptRanges), ("unicode/utf8.first", laid_unicode_utf8_first)] }
def AutoLeastSaid : Prop := autoLeastRow.holds Tryd.pinned (OpenSpec.ofChange autoLeastSpec)

/-- ITS FALSE NEIGHBOUR: 'it returns false'. Refute it at one input. -/
def autoLeastWrong : ChangeSpec := { name := "autoLeast", fn := fun _ => fun
  | [d1, d2] => { results := [.lit (.bool false)], args := [d1, d2] }
  | _ => none }
def AutoLeastWrongFalsely : Prop := autoLeastRow.holds Tryd.pinned (OpenSpec.ofChange autoLeastWrong)

/-- 'henkanlaw06.AutoKnown': WHATEVER THE INPUT: true; the input reads as it did. -/
def autoKnownSpec : ChangeSpec := { name := "autoKnown", fn := fun _ => fun
  | [] => { results := [.lit (.bool true)], args := [] }
  | _ => none }
def autoKnownRow : OpenClaim := { program := "ytdcpiabmgjajlaadoor", sum := "91bf9987f946887c91d0cf16373961b19f6680df9e9220c02540552a20c8e45c", func := "henkan/henkanlaw06.AutoKnown", spec := "autoKnown", inPlace := ["internal/bytealg.IndexByteString", "internal/bytealg.IndexString", "internal/abi.NoEscape"], unfollowed := true, recurses := true, named := ["unicode/utf8.first", "unicode/utf8.acceptRanges", "internal/bytealg.MaxLen"], plainKeys := false, apart := false, laid := [("unicode/utf8.acceptRanges", laid_unicode_utf8_acceptRanges), ("unicode/utf8.first", laid_unicode_utf8_first)] }
def AutoKnownSaid : Prop := autoKnownRow.holds Tryd.pinned (OpenSpec.ofChange autoKnownSpec)

/-- ITS FALSE NEIGHBOUR: 'it returns false'. Refute it at one input. -/
def autoKnownWrong : ChangeSpec := { name := "autoKnown", fn := fun _ => fun
  | [] => { results := [.lit (.bool false)], args := [] }
  | _ => none }
def AutoKnownWrongFalsely : Prop := autoKnownRow.holds Tryd.pinned (OpenSpec.ofChange autoKnownWrong)

/- THE SECOND FORM. 'bulk': how many values and letters a reading holds, each counted each time it is reached (what is shared counts as often as it is met; a slice's spare places count too). A statement '..UptoSaid' is the law's where the arguments, and the package variables that the reading takes, are together of bulk at most 1048576: NARROWER than '..Said'. Prove '..Said' where nothing that the law and all that it calls make is longer than what came in: it says more and counts as full. Else prove '..UptoSaid'. A law counts once. -/
mutual
def uptoBulk {H : Type} : DataW H → Nat
  | .lit (.string bytes) => bytes.length + 1
  | .lit _ => 1
  | .nil => 1
  | .ptr d => uptoBulk d + 1
  | .slice elems spare => uptoBulkAll elems + uptoBulkAll spare + 1
  | .agg parts => uptoBulkAll parts + 1
  | .iface _ d => uptoBulk d + 1
  | .map entries => uptoBulkEntries entries + 1
  | .held _ => 1
def uptoBulkAll {H : Type} : List (DataW H) → Nat
  | [] => 0
  | d :: r => uptoBulk d + uptoBulkAll r
def uptoBulkEntries {H : Type} : List (Lit × DataW H) → Nat
  | [] => 0
  | x :: r => uptoBulkEntry x + uptoBulkEntries r
def uptoBulkEntry {H : Type} : Lit × DataW H → Nat
  | (.string bytes, d) => bytes.length + uptoBulk d + 1
  | (_, d) => uptoBulk d + 1
 end
def uptoSmall : (H : Type) → List (DataW H) → Bool := fun _ ds => decide (uptoBulkAll ds ≤ 1048576)
def OpenSpec.upto (s : _root_.Go.ChangeSpec) : _root_.Go.OpenSpec := { _root_.Go.OpenSpec.ofChange s with cond := some uptoSmall }

/-- 'henkanlaw06.AutoNews', WHERE WHAT IT READS IS OF BULK AT MOST 1048576: true; the input reads as it did. -/
def autoNewsUptoRow : OpenClaim := { program := "ytdcpiabmgjajlaadoor", sum := "91bf9987f946887c91d0cf16373961b19f6680df9e9220c02540552a20c8e45c", func := "henkan/henkanlaw06.AutoNews", spec := "autoNews", inPlace := ["internal/bytealg.IndexByteString", "internal/bytealg.IndexString", "internal/abi.NoEscape"], unfollowed := true, recurses := true, named := ["unicode/utf8.first", "unicode/utf8.acceptRanges", "internal/bytealg.MaxLen"], plainKeys := false, apart := false, laid := [("unicode/utf8.acceptRanges", laid_unicode_utf8_acceptRanges), ("unicode/utf8.first", laid_unicode_utf8_first)], narrowed := true }
def AutoNewsUptoSaid : Prop := autoNewsUptoRow.holds Tryd.pinned (OpenSpec.upto autoNewsSpec)

/-- 'henkanlaw06.AutoSteps', WHERE WHAT IT READS IS OF BULK AT MOST 1048576: true; the input reads as it did. -/
def autoStepsUptoRow : OpenClaim := { program := "ytdcpiabmgjajlaadoor", sum := "91bf9987f946887c91d0cf16373961b19f6680df9e9220c02540552a20c8e45c", func := "henkan/henkanlaw06.AutoSteps", spec := "autoSteps", inPlace := ["internal/bytealg.IndexByteString", "internal/bytealg.IndexString", "internal/abi.NoEscape"], unfollowed := true, recurses := true, named := ["unicode/utf8.first", "unicode/utf8.acceptRanges", "internal/bytealg.MaxLen"], plainKeys := false, apart := false, laid := [("unicode/utf8.acceptRanges", laid_unicode_utf8_acceptRanges), ("unicode/utf8.first", laid_unicode_utf8_first)], narrowed := true }
def AutoStepsUptoSaid : Prop := autoStepsUptoRow.holds Tryd.pinned (OpenSpec.upto autoStepsSpec)

/-- 'henkanlaw06.AutoTypes', WHERE WHAT IT READS IS OF BULK AT MOST 1048576: true; the input reads as it did. -/
def autoTypesUptoRow : OpenClaim := { program := "ytdcpiabmgjajlaadoor", sum := "91bf9987f946887c91d0cf16373961b19f6680df9e9220c02540552a20c8e45c", func := "henkan/henkanlaw06.AutoTypes", spec := "autoTypes", inPlace := ["internal/bytealg.IndexByteString", "internal/bytealg.IndexString", "internal/abi.NoEscape"], unfollowed := true, recurses := true, named := ["unicode/utf8.first", "unicode/utf8.acceptRanges", "internal/bytealg.MaxLen"], plainKeys := false, apart := false, laid := [("unicode/utf8.acceptRanges", laid_unicode_utf8_acceptRanges), ("unicode/utf8.first", laid_unicode_utf8_first)], narrowed := true }
def AutoTypesUptoSaid : Prop := autoTypesUptoRow.holds Tryd.pinned (OpenSpec.upto autoTypesSpec)

/-- 'henkanlaw06.AutoNone', WHERE WHAT IT READS IS OF BULK AT MOST 1048576: true; the input reads as it did. -/
def autoNoneUptoRow : OpenClaim := { program := "ytdcpiabmgjajlaadoor", sum := "91bf9987f946887c91d0cf16373961b19f6680df9e9220c02540552a20c8e45c", func := "henkan/henkanlaw06.AutoNone", spec := "autoNone", inPlace := ["internal/abi.NoEscape", "internal/bytealg.IndexByteString", "internal/bytealg.IndexString"], unfollowed := true, recurses := true, named := ["unicode/utf8.first", "unicode/utf8.acceptRanges", "internal/bytealg.MaxLen"], plainKeys := false, apart := false, laid := [("unicode/utf8.acceptRanges", laid_unicode_utf8_acceptRanges), ("unicode/utf8.first", laid_unicode_utf8_first)], narrowed := true }
def AutoNoneUptoSaid : Prop := autoNoneUptoRow.holds Tryd.pinned (OpenSpec.upto autoNoneSpec)

/-- 'henkanlaw06.AutoOne', WHERE WHAT IT READS IS OF BULK AT MOST 1048576: true; the input reads as it did. -/
def autoOneUptoRow : OpenClaim := { program := "ytdcpiabmgjajlaadoor", sum := "91bf9987f946887c91d0cf16373961b19f6680df9e9220c02540552a20c8e45c", func := "henkan/henkanlaw06.AutoOne", spec := "autoOne", inPlace := ["internal/bytealg.IndexByteString", "internal/bytealg.IndexString", "internal/abi.NoEscape"], unfollowed := true, recurses := true, named := ["unicode/utf8.first", "unicode/utf8.acceptRanges", "internal/bytealg.MaxLen"], plainKeys := false, apart := false, laid := [("unicode/utf8.acceptRanges", laid_unicode_utf8_acceptRanges), ("unicode/utf8.first", laid_unicode_utf8_first)], narrowed := true }
def AutoOneUptoSaid : Prop := autoOneUptoRow.holds Tryd.pinned (OpenSpec.upto autoOneSpec)

/-- 'henkanlaw06.AutoPends', WHERE WHAT IT READS IS OF BULK AT MOST 1048576: true; the input reads as it did. -/
def autoPendsUptoRow : OpenClaim := { program := "ytdcpiabmgjajlaadoor", sum := "91bf9987f946887c91d0cf16373961b19f6680df9e9220c02540552a20c8e45c", func := "henkan/henkanlaw06.AutoPends", spec := "autoPends", inPlace := ["internal/bytealg.IndexByteString", "internal/bytealg.IndexString", "internal/abi.NoEscape"], unfollowed := true, recurses := true, named := ["unicode/utf8.first", "unicode/utf8.acceptRanges", "internal/bytealg.MaxLen"], plainKeys := false, apart := false, laid := [("unicode/utf8.acceptRanges", laid_unicode_utf8_acceptRanges), ("unicode/utf8.first", laid_unicode_utf8_first)], narrowed := true }
def AutoPendsUptoSaid : Prop := autoPendsUptoRow.holds Tryd.pinned (OpenSpec.upto autoPendsSpec)

/-- 'henkanlaw06.AutoOthers', WHERE WHAT IT READS IS OF BULK AT MOST 1048576: true; the input reads as it did. -/
def autoOthersUptoRow : OpenClaim := { program := "ytdcpiabmgjajlaadoor", sum := "91bf9987f946887c91d0cf16373961b19f6680df9e9220c02540552a20c8e45c", func := "henkan/henkanlaw06.AutoOthers", spec := "autoOthers", inPlace := ["internal/bytealg.IndexByteString", "internal/bytealg.IndexString", "internal/abi.NoEscape"], unfollowed := true, recurses := true, named := ["unicode/utf8.first", "unicode/utf8.acceptRanges", "internal/bytealg.MaxLen"], plainKeys := false, apart := false, laid := [("unicode/utf8.acceptRanges", laid_unicode_utf8_acceptRanges), ("unicode/utf8.first", laid_unicode_utf8_first)], narrowed := true }
def AutoOthersUptoSaid : Prop := autoOthersUptoRow.holds Tryd.pinned (OpenSpec.upto autoOthersSpec)

/-- 'henkanlaw06.AutoBare', WHERE WHAT IT READS IS OF BULK AT MOST 1048576: true; the input reads as it did. -/
def autoBareUptoRow : OpenClaim := { program := "ytdcpiabmgjajlaadoor", sum := "91bf9987f946887c91d0cf16373961b19f6680df9e9220c02540552a20c8e45c", func := "henkan/henkanlaw06.AutoBare", spec := "autoBare", inPlace := ["internal/bytealg.IndexByteString", "internal/bytealg.IndexString", "internal/abi.NoEscape"], unfollowed := true, recurses := true, named := ["unicode/utf8.first", "unicode/utf8.acceptRanges", "internal/bytealg.MaxLen"], plainKeys := false, apart := false, laid := [("unicode/utf8.acceptRanges", laid_unicode_utf8_acceptRanges), ("unicode/utf8.first", laid_unicode_utf8_first)], narrowed := true }
def AutoBareUptoSaid : Prop := autoBareUptoRow.holds Tryd.pinned (OpenSpec.upto autoBareSpec)

/-- 'henkanlaw06.AutoTyped', WHERE WHAT IT READS IS OF BULK AT MOST 1048576: true; the input reads as it did. -/
def autoTypedUptoRow : OpenClaim := { program := "ytdcpiabmgjajlaadoor", sum := "91bf9987f946887c91d0cf16373961b19f6680df9e9220c02540552a20c8e45c", func := "henkan/henkanlaw06.AutoTyped", spec := "autoTyped", inPlace := ["internal/bytealg.IndexByteString", "internal/bytealg.IndexString", "internal/abi.NoEscape"], unfollowed := true, recurses := true, named := ["unicode/utf8.first", "unicode/utf8.acceptRanges", "internal/bytealg.MaxLen"], plainKeys := false, apart := false, laid := [("unicode/utf8.acceptRanges", laid_unicode_utf8_acceptRanges), ("unicode/utf8.first", laid_unicode_utf8_first)], narrowed := true }
def AutoTypedUptoSaid : Prop := autoTypedUptoRow.holds Tryd.pinned (OpenSpec.upto autoTypedSpec)

/-- 'henkanlaw06.AutoLeast', WHERE WHAT IT READS IS OF BULK AT MOST 1048576: true; the input reads as it did. -/
def autoLeastUptoRow : OpenClaim := { program := "ytdcpiabmgjajlaadoor", sum := "91bf9987f946887c91d0cf16373961b19f6680df9e9220c02540552a20c8e45c", func := "henkan/henkanlaw06.AutoLeast", spec := "autoLeast", inPlace := ["internal/bytealg.IndexByteString", "internal/bytealg.IndexString", "internal/abi.NoEscape"], unfollowed := true, recurses := true, named := ["unicode/utf8.first", "unicode/utf8.acceptRanges", "internal/bytealg.MaxLen"], plainKeys := false, apart := false, laid := [("unicode/utf8.acceptRanges", laid_unicode_utf8_acceptRanges), ("unicode/utf8.first", laid_unicode_utf8_first)], narrowed := true }
def AutoLeastUptoSaid : Prop := autoLeastUptoRow.holds Tryd.pinned (OpenSpec.upto autoLeastSpec)

/-- 'henkanlaw06.AutoKnown', WHERE WHAT IT READS IS OF BULK AT MOST 1048576: true; the input reads as it did. -/
def autoKnownUptoRow : OpenClaim := { program := "ytdcpiabmgjajlaadoor", sum := "91bf9987f946887c91d0cf16373961b19f6680df9e9220c02540552a20c8e45c", func := "henkan/henkanlaw06.AutoKnown", spec := "autoKnown", inPlace := ["internal/bytealg.IndexByteString", "internal/bytealg.IndexString", "internal/abi.NoEscape"], unfollowed := true, recurses := true, named := ["unicode/utf8.first", "unicode/utf8.acceptRanges", "internal/bytealg.MaxLen"], plainKeys := false, apart := false, laid := [("unicode/utf8.acceptRanges", laid_unicode_utf8_acceptRanges), ("unicode/utf8.first", laid_unicode_utf8_first)], narrowed := true }
def AutoKnownUptoSaid : Prop := autoKnownUptoRow.holds Tryd.pinned (OpenSpec.upto autoKnownSpec)

end Rows
end Go.Proofs.YtdcpiabmgjajlaaDoor
