/-
  What the laws of the automaton stand on; the automaton that is nil. No condition.
-/
import Derived.Test.YtdcpiabmgjajlaaDoorAuOpen
import Derived.Test.YtdcpiabmgjajlaaDoorAuRCheck
import Derived.Test.YtdcpiabmgjajlaaDoorAuRTypes
import Derived.Test.YtdcpiabmgjajlaaDoorAuStep
import Derived.Test.YtdcpiabmgjajlaaDoorAuLaws
namespace Go.Proofs.YtdcpiabmgjajlaaDoor
open Go.RowKit
set_option maxRecDepth 100000 in
theorem type_nil (s : ByteArray) (l : List UInt8) (w : World) (h : Is s l) (hs : s.size < 9223372036854775807) (ht : Tabs w) : Calls Tryd.prog 26 #[.pointer none, .string s] w fun e w' => e = .returned (.tuple #[.string ⟨#[]⟩, .bool false]) ∧ Below w.heap.size w w' := by
  have HH := Lib.hid h
  have HT := Lib.hid ht
  clear h ht
  go_enter Tryd.func26, Tryd.ntmps26
  go_wp2_with fail
  with_reducible refine (pcount_any s l _ HH.out hs HT.out).mono ?_
  rintro e w1 ⟨rfl, hb⟩
  have HB := Lib.hid hb
  clear hb
  obtain ⟨z, hz⟩ : ∃ z, UT.countZ l = z := ⟨_, rfl⟩
  rw [hz]
  clear hz
  go_wp2_with fail
  go_ret2
  exact ⟨rfl, HB.out⟩
theorem u8_of {a : Int} (h : (Lit.int .u8 a).wf = true) : ∃ c : UInt8, a = (c.toNat : Int) := by
  have hx : 0 ≤ a ∧ a ≤ 255 := by simpa [Lit.wf, IntKind.min, IntKind.max, IntKind.signed, IntKind.bits] using h
  refine ⟨UInt8.ofNat a.toNat, ?_⟩
  simp only [UInt8.toNat_ofNat']
  omega
end Go.Proofs.YtdcpiabmgjajlaaDoor
