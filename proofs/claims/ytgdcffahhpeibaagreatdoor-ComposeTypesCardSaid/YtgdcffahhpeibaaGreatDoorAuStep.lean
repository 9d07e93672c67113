/-
  (*auto.Auto).Step by its contract; Step, Run, Flush of no automaton. The rules are allowed; the strings short.
-/
import Derived.Test.YtgdcffahhpeibaaGreatDoorAuProg
import Derived.Test.YtgdcffahhpeibaaGreatDoorAuRStep
namespace Go.Proofs.YtgdcffahhpeibaaGreatDoor
open Go.RowKit
set_option maxRecDepth 100000 in
set_option maxHeartbeats 4000000 in
theorem step_any (B a : Nat) (xs : List RuleB) (p : ByteArray) (pl : List UInt8) (c : UInt8) (z : Int) (hz : z = (c.toNat : Int)) (w : World) (ha : AutoIs B xs a w) (hBw : B ≤ w.heap.size) (hp : Is p pl) (hs : p.size ≤ 500000000) :
    Calls Tryz.prog 29 #[.pointer (some ⟨a, 0, none⟩), .string p, .int .u8 z] w fun e w' => e = TwoV (Au.step (rulesL xs) pl c) ∧ Below w.heap.size w w' := by
  have HP := Lib.hid hp
  have HA := Lib.hid (ha.mono hBw)
  have HCV := Lib.hid (conv_one c z hz)
  have HZ := Lib.hid (show (Au.keysOf pl).length + (Au.keysOf [c]).length ≤ 1000000000 by have := Au.keysOf_len pl; have := Au.keysOf_len [c]; have := hp.size; rw [List.length_singleton] at *; omega)
  have HB0 := Lib.hid ((Below.refl w.heap.size w).alloc (Nat.le_refl _) (.cells #[.pointer none, .slice none 0 0] 120))
  have HBl := Lib.hid (bldr_fresh w)
  obtain ⟨W0, hW0⟩ : ∃ W0, w.alloc (.cells #[.pointer none, .slice none 0 0] 120) = W0 := ⟨_, rfl⟩
  rw [hW0] at HB0 HBl
  clear hp ha hz
  go_enter Tryz.func29, Tryz.ntmps29
  go_wp2_with fail
  clear hW0
  go_region_with
    (first
      | (rw [HCV.out w2 _ HC2.out]; simp only [Result.andThen]; rw [Oper.upon_value])
      | (rw [HCV.out (W0.drew.alloc (.cells #[.int .u8 z] 5)) _ (cell_one_new W0.drew (.int .u8 z) 5 0 _ rfl)]; simp only [Result.andThen]; rw [Oper.upon_value])
      | (rw [HCV.out (W0.alloc (.cells #[.int .u8 z] 5)).drew _ (show (W0.alloc (.cells #[.int .u8 z] 5)).drew.cell? ⟨W0.heap.size, 0, none⟩ = some (.int .u8 z) from cell_one_new W0 (.int .u8 z) 5 0 _ rfl)]; simp only [Result.andThen]; rw [Oper.upon_value])
      | (rw [HCV.out (w2.alloc (.cells #[.int .u8 z] 5)) _ (cell_one_new w2 (.int .u8 z) 5 0 _ rfl)]; simp only [Result.andThen]; rw [Oper.upon_value])
      | (go_at_call 68; (with_reducible refine (clean_any p pl _ HP.out (by omega)).mono ?_); rintro e w2 ⟨he, hb⟩; subst he; have HB2 := Lib.hid ((Below.refl W0.heap.size W0).drew.trans (show Below W0.heap.size W0.drew w2 from hb)); clear hb)
      | (go_at_call 68; (with_reducible refine (clean_any p pl _ HP.out (by omega)).mono ?_); rintro e w2 ⟨he, hb⟩; subst he; have HB2 := Lib.hid (((Below.refl W0.heap.size W0).drew.alloc (Nat.le_refl _) (.cells #[.int .u8 z] 5)).trans (hb.mono (by simp))); have HC2 := Lib.hid (show w2.cell? ⟨W0.heap.size, 0, none⟩ = some (.int .u8 z) from below_cellU (cell_one_new W0.drew (.int .u8 z) 5 0 _ rfl) hb (Nat.le_refl _)); clear hb)
      | (go_at_call 68; (with_reducible refine (clean_any (ba [c]) [c] _ (is_ba _) (by rw [ba_size]; simp)).mono ?_); rintro e w3 ⟨he, hb⟩; subst he; have HB3 := Lib.hid (HB2.out.trans ((show Below w2.heap.size w2 w3 from hb).mono HB2.out.size)); clear hb)
      | (go_at_call 68; (with_reducible refine (clean_any (ba [c]) [c] _ (is_ba _) (by rw [ba_size]; simp)).mono ?_); rintro e w3 ⟨he, hb⟩; subst he; have HB3 := Lib.hid ((HB2.out.alloc HB2.out.size (.cells #[.int .u8 z] 5)).trans (hb.mono (Nat.le_trans HB2.out.size (by simp)))); clear hb)
      | (go_at_call 67; (with_reducible refine (feed_any w.heap.size a w.heap.size xs [] (ba (Au.keysOf pl)) (ba (Au.keysOf [c])) (Au.keysOf pl) (Au.keysOf [c]) _ (HA.out.below (HB0.out.trans (HB3.out.mono HB0.out.size))) (bldr_keep HBl.out HB3.out) (HB0.out.trans (HB3.out.mono HB0.out.size)).size (is_ba _) (is_ba _) HZ.out (by simp)).mono ?_); rintro e w4 ⟨he, hI, hb⟩; subst he; have HB4 := Lib.hid ((HB0.out.trans (HB3.out.mono HB0.out.size)).trans hb); have HBl4 := Lib.hid hI; clear hI hb))
  all_goals
    (go_wp2_with fail
     (with_reducible refine (bld_string w.heap.size w.heap.size _ _ HBl4.out HB4.out.size).mono ?_)
     rintro e w5 ⟨rfl, hI, hb⟩
     have HB5 := Lib.hid (HB4.out.trans hb.1)
     clear hI hb
     go_wp2_with fail
     go_ret2
     exact ⟨by unfold TwoV Au.step; first | rfl | trivial, HB5.out⟩)
set_option maxRecDepth 100000 in
theorem step_nil (p : ByteArray) (z : Int) (w : World) :
    Calls Tryz.prog 29 #[.pointer none, .string p, .int .u8 z] w fun e w' => e = TwoV ([], []) ∧ w = w' := by
  go_enter Tryz.func29, Tryz.ntmps29
  go_wp2_with fail
  go_ret2
  exact ⟨by unfold TwoV; first | rfl | trivial, by first | rfl | trivial⟩
set_option maxRecDepth 100000 in
theorem run_nil (p : ByteArray) (w : World) :
    Calls Tryz.prog 31 #[.pointer none, .string p] w fun e w' => e = TwoV ([], []) ∧ w = w' := by
  go_enter Tryz.func31, Tryz.ntmps31
  go_wp2_with fail
  go_ret2
  exact ⟨by unfold TwoV; first | rfl | trivial, by first | rfl | trivial⟩
set_option maxRecDepth 100000 in
theorem flush_nil (p : ByteArray) (w : World) :
    Calls Tryz.prog 70 #[.pointer none, .string p] w fun e w' => e = .returned (.string (ba [])) ∧ w = w' := by
  go_enter Tryz.func70, Tryz.ntmps70
  go_wp2_with fail
  go_ret
  exact ⟨by first | rfl | trivial, by first | rfl | trivial⟩
end Go.Proofs.YtgdcffahhpeibaaGreatDoor
