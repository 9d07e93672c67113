/-
  No cell of these rows narrows 'for every input' (looked for: loops, veiled, ifaces, maps, wideKeys, modest, calm, conditions, laid).
  DERIVED. THE GIVEN ROWS OF THIS SEAT. 3 by the template 'for every input the law returns true; each argument reads behind the call as it read before'; 0 by the template 'total and deterministic' (their statements: YtcgfcedlllmbhaaTotals.lean).
  GIVEN WITH THE SEED: the statements are not yours to turn. If you find one false, say at which input.
  Laid BY PROGRAM, IN A SANDBOX (cutbox-rows.mjs): the forced cells as the released guide's own fill.sh prints them over the translation fe0eb227357c2429… (all of the seat's roots in one cut). By AI agents, Wed Nov 11 2026. No macro, syntax, notation, axiom, sorry.
-/
import Derived.Test.YtcgfcedlllmbhaaChecked
import GoSem.Claim
import GoSem.ClaimJoined
import GoSem.ClaimMapViews
import Derived.JoinedTies
import Derived.KernelRfl
namespace Go.Proofs.Ytcgfcedlllmbhaa
/- THE CELL 'sum', in the pinned program and in every row, IS THE sha256 OF THE DUMP (.gsa) THAT YtcgfcedlllmbhaaProg.lean LOADS. Nothing in Lean hashes anything: it is a label: what it is worth is what the hold of that sum in a sandbox is worth. -/
noncomputable def Try.pinned : Pinned := { name := "ytcgfcedlllmbhaa", sum := "fe0eb227357c24299144304228ee2e46665d05ac98c100dc1cc671fb613e4851", checked := Try.checked }
namespace Rows
def none {H : Type} : Left H := { results := [], args := [] }

/-- 'henkanlaw04.CaldateDays': WHATEVER THE INPUT: true; the input reads as it did. -/
def caldateDaysSpec : ChangeSpec := { name := "caldateDays", fn := fun _ => fun
  | [d1, d2, d3, d4] => { results := [.lit (.bool true)], args := [d1, d2, d3, d4] }
  | _ => none }
def caldateDaysRow : OpenClaim := { program := "ytcgfcedlllmbhaa", sum := "fe0eb227357c24299144304228ee2e46665d05ac98c100dc1cc671fb613e4851", func := "henkan/henkanlaw04.CaldateDays", spec := "caldateDays", apart := false }
def CaldateDaysSaid : Prop := caldateDaysRow.holds Try.pinned (OpenSpec.ofChange caldateDaysSpec)

/-- ITS FALSE NEIGHBOUR: 'it returns false'. Refute it at one input. -/
def caldateDaysWrong : ChangeSpec := { name := "caldateDays", fn := fun _ => fun
  | [d1, d2, d3, d4] => { results := [.lit (.bool false)], args := [d1, d2, d3, d4] }
  | _ => none }
def CaldateDaysWrongFalsely : Prop := caldateDaysRow.holds Try.pinned (OpenSpec.ofChange caldateDaysWrong)

/-- 'henkanlaw04.CaldateBack': WHATEVER THE INPUT: true; the input reads as it did. -/
def caldateBackSpec : ChangeSpec := { name := "caldateBack", fn := fun _ => fun
  | [d1, d2, d3, d4] => { results := [.lit (.bool true)], args := [d1, d2, d3, d4] }
  | _ => none }
def caldateBackRow : OpenClaim := { program := "ytcgfcedlllmbhaa", sum := "fe0eb227357c24299144304228ee2e46665d05ac98c100dc1cc671fb613e4851", func := "henkan/henkanlaw04.CaldateBack", spec := "caldateBack", apart := false }
def CaldateBackSaid : Prop := caldateBackRow.holds Try.pinned (OpenSpec.ofChange caldateBackSpec)

/-- ITS FALSE NEIGHBOUR: 'it returns false'. Refute it at one input. -/
def caldateBackWrong : ChangeSpec := { name := "caldateBack", fn := fun _ => fun
  | [d1, d2, d3, d4] => { results := [.lit (.bool false)], args := [d1, d2, d3, d4] }
  | _ => none }
def CaldateBackWrongFalsely : Prop := caldateBackRow.holds Try.pinned (OpenSpec.ofChange caldateBackWrong)

/-- 'henkanlaw04.CaldateNames': WHATEVER THE INPUT: true; the input reads as it did. -/
def caldateNamesSpec : ChangeSpec := { name := "caldateNames", fn := fun _ => fun
  | [d] => { results := [.lit (.bool true)], args := [d] }
  | _ => none }
def caldateNamesRow : OpenClaim := { program := "ytcgfcedlllmbhaa", sum := "fe0eb227357c24299144304228ee2e46665d05ac98c100dc1cc671fb613e4851", func := "henkan/henkanlaw04.CaldateNames", spec := "caldateNames", apart := false }
def CaldateNamesSaid : Prop := caldateNamesRow.holds Try.pinned (OpenSpec.ofChange caldateNamesSpec)

/-- ITS FALSE NEIGHBOUR: 'it returns false'. Refute it at one input. -/
def caldateNamesWrong : ChangeSpec := { name := "caldateNames", fn := fun _ => fun
  | [d] => { results := [.lit (.bool false)], args := [d] }
  | _ => none }
def CaldateNamesWrongFalsely : Prop := caldateNamesRow.holds Try.pinned (OpenSpec.ofChange caldateNamesWrong)

/- THE SECOND FORM. 'bulk': how many values and letters a reading holds, each counted each time it is reached (what is shared counts as often as it is met; a slice's spare places count too). A statement '..UptoSaid' is the law's where the arguments, and the package variables that the reading takes, are together of bulk at most 1048576: NARROWER than '..Said'. Prove '..Said' where nothing that the law and all that it calls make is longer than what came in: it says more and counts as full. Else prove '..UptoSaid'. A law counts once. -/
mutual
def uptoBulk {H : Type} : DataW H → Nat
  | .lit (.string bytes) => bytes.length + 1
  | .lit _ => 1
  | .nil => 1
  | .ptr d => uptoBulk d + 1
  | .slice elems spare => uptoBulkAll elems + uptoBulkAll spare + 1
  | .agg parts => uptoBulkAll parts + 1
  | .iface _ d => uptoBulk d + 1
  | .map entries => uptoBulkEntries entries + 1
  | .held _ => 1
def uptoBulkAll {H : Type} : List (DataW H) → Nat
  | [] => 0
  | d :: r => uptoBulk d + uptoBulkAll r
def uptoBulkEntries {H : Type} : List (Lit × DataW H) → Nat
  | [] => 0
  | x :: r => uptoBulkEntry x + uptoBulkEntries r
def uptoBulkEntry {H : Type} : Lit × DataW H → Nat
  | (.string bytes, d) => bytes.length + uptoBulk d + 1
  | (_, d) => uptoBulk d + 1
 end
def uptoSmall : (H : Type) → List (DataW H) → Bool := fun _ ds => decide (uptoBulkAll ds ≤ 1048576)
def OpenSpec.upto (s : _root_.Go.ChangeSpec) : _root_.Go.OpenSpec := { _root_.Go.OpenSpec.ofChange s with cond := some uptoSmall }

/-- 'henkanlaw04.CaldateDays', WHERE WHAT IT READS IS OF BULK AT MOST 1048576: true; the input reads as it did. -/
def caldateDaysUptoRow : OpenClaim := { program := "ytcgfcedlllmbhaa", sum := "fe0eb227357c24299144304228ee2e46665d05ac98c100dc1cc671fb613e4851", func := "henkan/henkanlaw04.CaldateDays", spec := "caldateDays", apart := false, narrowed := true }
def CaldateDaysUptoSaid : Prop := caldateDaysUptoRow.holds Try.pinned (OpenSpec.upto caldateDaysSpec)

/-- 'henkanlaw04.CaldateBack', WHERE WHAT IT READS IS OF BULK AT MOST 1048576: true; the input reads as it did. -/
def caldateBackUptoRow : OpenClaim := { program := "ytcgfcedlllmbhaa", sum := "fe0eb227357c24299144304228ee2e46665d05ac98c100dc1cc671fb613e4851", func := "henkan/henkanlaw04.CaldateBack", spec := "caldateBack", apart := false, narrowed := true }
def CaldateBackUptoSaid : Prop := caldateBackUptoRow.holds Try.pinned (OpenSpec.upto caldateBackSpec)

/-- 'henkanlaw04.CaldateNames', WHERE WHAT IT READS IS OF BULK AT MOST 1048576: true; the input reads as it did. -/
def caldateNamesUptoRow : OpenClaim := { program := "ytcgfcedlllmbhaa", sum := "fe0eb227357c24299144304228ee2e46665d05ac98c100dc1cc671fb613e4851", func := "henkan/henkanlaw04.CaldateNames", spec := "caldateNames", apart := false, narrowed := true }
def CaldateNamesUptoSaid : Prop := caldateNamesUptoRow.holds Try.pinned (OpenSpec.upto caldateNamesSpec)

end Rows
end Go.Proofs.Ytcgfcedlllmbhaa
