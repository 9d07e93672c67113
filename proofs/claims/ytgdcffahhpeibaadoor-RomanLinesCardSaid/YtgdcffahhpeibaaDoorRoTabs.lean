/-
  The tables that a row lists, as the walks of rules want them; a world for a row's witness. No condition but the row's own list.
-/
import Derived.Test.YtgdcffahhpeibaaDoorRoWorks
import Derived.Test.YtgdcffahhpeibaaDoorCards
import Derived.Test.YtgdcffahhpeibaaDoorTie
import Derived.ProofKit
import Derived.OpenShut
import Derived.Deep.DeepHandedRow
import Derived.Lib.LaidU8T
import Derived.Lib.LaidTab
namespace Go.Proofs.YtgdcffahhpeibaaDoor
open Go.RowKit Go.Lib
def u8ren : Go.Shelf.Ren := ⟨fun n => n, fun | 5 => 5 | 119 => 128 | 138 => 130 | 139 => 131 | n => n, fun | 3 => 1 | 4 => 2 | n => n⟩
theorem u8types : U8Types Tryd.prog u8ren where
  t5 := Tryd.underlying5
  t119 := Tryd.underlying128
  t138 := Tryd.underlying130
  t139 := Tryd.underlying131
theorem u8extra : U8Extra Tryd.prog u8ren where
  n3 := by kernel_rfl
  n4 := by kernel_rfl
  y3 := by kernel_rfl
  y4 := by kernel_rfl
  c5 := by kernel_rfl
  c119 := by kernel_rfl
  c138 := by kernel_rfl

theorem eFirst : (firstData : DataW Unit) = Rows.laid_unicode_utf8_first := by kernel_rfl
theorem eAcc : (acceptData : DataW Unit) = Rows.laid_unicode_utf8_acceptRanges := by kernel_rfl
abbrev theLaidR : List (String × DataW Unit) := [("unicode/utf8.acceptRanges", Rows.laid_unicode_utf8_acceptRanges), ("unicode/utf8.first", Rows.laid_unicode_utf8_first)]
theorem rtabs_of_laid {W : World} (h : laidMetH Tryd.prog theLaidR W) (hS : W.ShapedOpen Tryd.prog) : Tabs W := by
  have hm : laidMet Tryd.prog theLaidR W := h
  refine ⟨utf8Tabs_of_readsT u8types u8extra ?_ ?_, Tryd.laysM145.s1_3 W hS⟩
  · rw [eFirst]; exact laidMet.reads hm (show ("unicode/utf8.first", Rows.laid_unicode_utf8_first) ∈ theLaidR by simp [theLaidR])
  · rw [eAcc]; exact laidMet.reads hm (show ("unicode/utf8.acceptRanges", Rows.laid_unicode_utf8_acceptRanges) ∈ theLaidR by simp [theLaidR])
theorem own : ownKnob Tryd.prog.godebug = none := by kernel_rfl
def lay (g : Nat) (cs : Array Value) (h : Array Obj) : Array Obj := h.modify g fun
  | .cells _ t frozen => .cells cs t frozen
  | o => o
/-- the heap's tables hold what the program's text lays -/
def layAll (h : Array Obj) : Array Obj := lay 1 (firstTab.map fun z => Value.int .u8 z).toArray (lay 2 (((List.range 16).flatMap fun i => [Value.int .u8 (accLo i : Int), Value.int .u8 (accHi i : Int)])).toArray h)
/-- a world for a witness -/
noncomputable def laidWorldR (os : Os) : World :=
  { World.holding Tryd.prog os ⟨#[], #[], []⟩ with heap := layAll (World.holding Tryd.prog os ⟨#[], #[], []⟩).heap }
theorem laid_metR (os : Os) (args : Array Value) : laidMet Tryd.prog theLaidR ((laidWorldR os).forCall (fun _ _ => 0) ⟨#[], args, []⟩).memory :=
  laidMet_of_run' 8 (by kernel_rfl) (by kernel_rfl)
end Go.Proofs.YtgdcffahhpeibaaDoor
