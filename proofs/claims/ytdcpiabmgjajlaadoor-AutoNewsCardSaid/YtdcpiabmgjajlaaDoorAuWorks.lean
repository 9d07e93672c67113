/-
  henkanlaw06.small and works by their contracts. The tables are as the program lays them.
-/
import Derived.Test.YtdcpiabmgjajlaaDoorAuGiven
import Derived.Test.YtdcpiabmgjajlaaDoorAuNew
import Derived.Test.YtdcpiabmgjajlaaDoorAuPType
import Derived.Test.YtdcpiabmgjajlaaDoorAuSmall
namespace Go.Proofs.YtdcpiabmgjajlaaDoor
open Go.RowKit
/-- the rules of the second table of examples, as byte arrays -/
def smallB : List RuleB := [(⟨#[97]⟩, ⟨#[227, 129, 130]⟩, ⟨#[]⟩), (⟨#[110]⟩, ⟨#[227, 130, 147]⟩, ⟨#[]⟩), (⟨#[110, 97]⟩, ⟨#[227, 129, 170]⟩, ⟨#[]⟩), (⟨#[110, 110]⟩, ⟨#[227, 130, 147]⟩, ⟨#[]⟩), (⟨#[120, 121]⟩, ⟨#[]⟩, ⟨#[97]⟩)]
theorem smallB_is : rulesL smallB = Au.small := by rfl
theorem smallB_short : Short3 smallB := by unfold Short3 smallB; decide
set_option maxRecDepth 100000 in
set_option maxHeartbeats 4000000 in
theorem small_any (w : World) : Calls Tryd.prog 29 #[] w fun e w' => (∃ v, e = .returned v ∧ LieR v smallB w') ∧ Below w.heap.size w w' := by
  have hO := Lib.hid (show OwnR 32 w.heap.size (.slice (some ⟨w.heap.size, 0, none⟩) 5 5) smallB (w.alloc (.cells (cellsR smallB).toArray 32)) from
    World.ownsRow_lit w (cellsR smallB).toArray 5 (by omega) (by unfold maxLen; omega) rfl)
  go_enter Tryd.func29, Tryd.ntmps29
  go_wp2_with fail
  go_ret
  exact ⟨⟨_, rfl, hO.out.lie⟩, (Below.refl _ _).alloc (Nat.le_refl _) _⟩
theorem s_ty : (⟨#[227, 129, 170]⟩ : ByteArray).size < 9223372036854775807 := by decide
theorem smallB_len : smallB.length ≤ 1000000000000 := by decide
theorem AutoIs.go {B : Nat} {xs : List RuleB} {a : Nat} {w w' : World} (h : AutoIs B xs a w) (hB : B ≤ w.heap.size) (hb : Below w.heap.size w w') : AutoIs B xs a w' := h.below (hb.mono hB)
theorem s_110_110_97 : Is ⟨#[110, 110, 97]⟩ [110, 110, 97] ∧ (⟨#[110, 110, 97]⟩ : ByteArray).size ≤ 1000000000 := ⟨rfl, by decide⟩
theorem s_120_121_97 : Is ⟨#[120, 121, 97]⟩ [120, 121, 97] ∧ (⟨#[120, 121, 97]⟩ : ByteArray).size ≤ 1000000000 := ⟨rfl, by decide⟩
theorem s_227_129_170 : Is ⟨#[227, 129, 170]⟩ [227, 129, 170] ∧ (⟨#[227, 129, 170]⟩ : ByteArray).size ≤ 1000000000 := ⟨rfl, by decide⟩
theorem s_110 : Is ⟨#[110]⟩ [110] ∧ (⟨#[110]⟩ : ByteArray).size ≤ 1000000000 := ⟨rfl, by decide⟩
set_option maxRecDepth 100000 in
set_option maxHeartbeats 4000000 in
theorem works_any (w : World) (ht : Tabs w) : Calls Tryd.prog 18 #[] w fun e w' => e = .returned (.bool true) ∧ Below w.heap.size w w' := by
  have HT := Lib.hid ht
  clear ht
  go_enter Tryd.func18, Tryd.ntmps18
  go_wp2_with fail
  with_reducible refine (small_any _).mono ?_
  rintro e w1 ⟨⟨v, rfl, hl⟩, hb⟩
  have HB1 := Lib.hid hb
  have HL := Lib.hid hl
  clear hb hl
  go_wp2_with fail
  with_reducible refine (new_any v smallB w1 HL.out smallB_len smallB_short (HT.out.keep HB1.out)).mono ?_
  rintro e w2 ⟨hv, hb⟩
  rcases hv with ⟨hne, _⟩ | ⟨_, a, rfl, ha⟩
  · exact absurd Au.small_ok hne
  have HB2 := Lib.hid (HB1.out.trans (hb.mono HB1.out.size))
  have HA2 := Lib.hid ha
  have H2 := Lib.hid (Nat.le_refl w2.heap.size)
  clear ha hb
  obtain ⟨N, hN⟩ : ∃ N, w2.heap.size = N := ⟨_, rfl⟩
  have HN := Eqq.mk hN
  rw [hN] at HA2
  clear hN
  go_wp2_with fail
  with_reducible refine (run_any N a smallB ⟨#[110, 110, 97]⟩ [110, 110, 97] w2 HA2.out (by have := HN.out; omega) s_110_110_97.1 s_110_110_97.2).mono ?_
  rw [smallB_is, Au.small_run1, show TwoV ([227, 130, 147, 227, 129, 130], []) = .returned (.tuple #[.string ⟨#[227, 130, 147, 227, 129, 130]⟩, .string ⟨#[]⟩]) from rfl]
  rintro e w3 ⟨rfl, hb⟩
  have HB3 := Lib.hid (HB2.out.trans (hb.mono HB2.out.size))
  have H3 := Lib.hid (Nat.le_trans (Nat.le_of_eq HN.out.symm) hb.size)
  have HA3 := Lib.hid (HA2.out.go (Nat.le_of_eq HN.out.symm) hb)
  clear hb
  go_wp2_with fail
  with_reducible refine (run_any N a smallB ⟨#[120, 121, 97]⟩ [120, 121, 97] w3 HA3.out H3.out s_120_121_97.1 s_120_121_97.2).mono ?_
  rw [smallB_is, Au.small_run2, show TwoV ([227, 129, 130, 227, 129, 130], []) = .returned (.tuple #[.string ⟨#[227, 129, 130, 227, 129, 130]⟩, .string ⟨#[]⟩]) from rfl]
  rintro e w4 ⟨rfl, hb⟩
  have HB4 := Lib.hid (HB3.out.trans (hb.mono HB3.out.size))
  have H4 := Lib.hid (Nat.le_trans H3.out hb.size)
  have HA4 := Lib.hid (HA3.out.go H3.out hb)
  clear hb
  go_wp2_with fail
  with_reducible refine (type_any N a smallB ⟨#[227, 129, 170]⟩ [227, 129, 170] w4 HA4.out H4.out s_227_129_170.1 s_ty (HT.out.keep HB4.out)).mono ?_
  rintro e w5 ⟨hty, hb⟩
  obtain ⟨r, hr, rfl⟩ := hty.2 (by decide +kernel) (by decide +kernel)
  rw [smallB_is] at hr
  obtain rfl := hr.eq Au.small_na
  rw [show TypeE (some [110, 97]) = .returned (.tuple #[.string ⟨#[110, 97]⟩, .bool true]) from rfl]
  have HB5 := Lib.hid (HB4.out.trans (hb.mono HB4.out.size))
  have H5 := Lib.hid (Nat.le_trans H4.out hb.size)
  have HA5 := Lib.hid (HA4.out.go H4.out hb)
  clear hb hr hty
  go_wp2_with fail
  with_reducible refine (flush_any N a smallB ⟨#[110]⟩ [110] w5 HA5.out H5.out s_110.1 s_110.2).mono ?_
  rw [smallB_is, Au.small_flush, show ba [227, 130, 147] = ⟨#[227, 130, 147]⟩ from rfl]
  rintro e w6 ⟨rfl, hb⟩
  have HB6 := Lib.hid (HB5.out.trans (hb.mono HB5.out.size))
  clear hb
  go_wp2_with fail
  go_ret
  exact ⟨rfl, HB6.out⟩
end Go.Proofs.YtdcpiabmgjajlaaDoor
