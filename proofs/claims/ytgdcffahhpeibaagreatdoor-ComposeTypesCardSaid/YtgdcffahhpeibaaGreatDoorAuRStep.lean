/-
  henkanref06.Step by its contract. The rules are allowed; the strings short.
-/
import Derived.Test.YtgdcffahhpeibaaGreatDoorAuRef
import Derived.Test.YtgdcffahhpeibaaGreatDoorGList
namespace Go.Proofs.YtgdcffahhpeibaaGreatDoor
open Go.RowKit
theorem conv_one (c : UInt8) (z : Int) (hz : z = (c.toNat : Int)) (W : World) (b : Nat) (h : W.cell? ⟨b, 0, none⟩ = some (.int .u8 z)) : (convert 57 9 (.slice (some ⟨b, 0, none⟩) 1 1)).run Tryz.prog W = .ok (.string (ba [c])) W := by
  subst hz
  exact run_convert_bytes_back W 57 9 5 ⟨b, 0, none⟩ 1 [c] Tryz.underlying57 Tryz.underlying5 Tryz.underlying9 (fun j hj => by
    obtain rfl : j = 0 := by simpa using hj
    rw [addr_add]
    exact h)
set_option maxRecDepth 100000 in
set_option maxHeartbeats 4000000 in
theorem rstep_any (p : ByteArray) (pl : List UInt8) (c : UInt8) (z : Int) (hz : z = (c.toNat : Int)) (v : Value) (xs : List RuleB) (w : World) (hp : Is p pl) (hl : LieR v xs w) (hok : Ro.check (rulesL xs) = 0) (hn : xs.length ≤ 1000000000000) (hs : p.size ≤ 500000000) :
    Calls Tryz.prog 64 #[v, .string p, .int .u8 z] w fun e w' => e = TwoV (Au.step (rulesL xs) pl c) ∧ Below w.heap.size w w' := by
  have HP := Lib.hid hp
  have HL := Lib.hid hl
  have HOK := Eqq.mk hok
  have hconv := conv_one c z hz
  have HZ := Lib.hid (show (Au.keysOf pl).length + (Au.keysOf [c]).length ≤ 1000000000 by have := Au.keysOf_len pl; have := Au.keysOf_len [c]; have := hp.size; rw [List.length_singleton] at *; omega)
  have HCV := Lib.hid hconv
  clear hp hl hok hz hconv
  go_enter Tryz.func64, Tryz.ntmps64
  go_wp2_with fail
  go_region_with
    (first
      | (rw [HCV.out w2 _ HC2.out]; simp only [Result.andThen]; rw [Oper.upon_value])
      | (rw [HCV.out (w.drew.alloc (.cells #[.int .u8 z] 5)) _ (cell_one_new w.drew (.int .u8 z) 5 0 _ rfl)]; simp only [Result.andThen]; rw [Oper.upon_value])
      | (rw [HCV.out (w.alloc (.cells #[.int .u8 z] 5)).drew _ (show (w.alloc (.cells #[.int .u8 z] 5)).drew.cell? ⟨w.heap.size, 0, none⟩ = some (.int .u8 z) from cell_one_new w (.int .u8 z) 5 0 _ rfl)]; simp only [Result.andThen]; rw [Oper.upon_value])
      | (rw [HCV.out (w2.alloc (.cells #[.int .u8 z] 5)) _ (cell_one_new w2 (.int .u8 z) 5 0 _ rfl)]; simp only [Result.andThen]; rw [Oper.upon_value])
      | (go_at_call 91; (with_reducible refine (rkeys_any p pl _ HP.out (by omega)).mono ?_); rintro e w2 ⟨he, hb⟩; subst he; have HB2 := Lib.hid ((Below.refl w.heap.size w).drew.trans (show Below w.heap.size w.drew w2 from hb)); clear hb)
      | (go_at_call 91; (with_reducible refine (rkeys_any p pl _ HP.out (by omega)).mono ?_); rintro e w2 ⟨he, hb⟩; subst he; have HB2 := Lib.hid (((Below.refl w.heap.size w).drew.alloc (Nat.le_refl _) (.cells #[.int .u8 z] 5)).trans (hb.mono (by simp))); have HC2 := Lib.hid (show w2.cell? ⟨w.heap.size, 0, none⟩ = some (.int .u8 z) from below_cellU (cell_one_new w.drew (.int .u8 z) 5 0 _ rfl) hb (Nat.le_refl _)); clear hb)
      | (go_at_call 91; (with_reducible refine (rkeys_any (ba [c]) [c] _ (is_ba _) (by rw [ba_size]; simp)).mono ?_); rintro e w3 ⟨he, hb⟩; subst he; have HB3 := Lib.hid (HB2.out.trans ((show Below w2.heap.size w2 w3 from hb).mono HB2.out.size)); clear hb)
      | (go_at_call 91; (with_reducible refine (rkeys_any (ba [c]) [c] _ (is_ba _) (by rw [ba_size]; simp)).mono ?_); rintro e w3 ⟨he, hb⟩; subst he; have HB3 := Lib.hid ((HB2.out.alloc HB2.out.size (.cells #[.int .u8 z] 5)).trans (hb.mono (Nat.le_trans HB2.out.size (by simp)))); clear hb)
      | (go_at_call 90; (with_reducible refine (rfeed_any (ba (Au.keysOf pl)) (ba (Au.keysOf [c])) (Au.keysOf pl) (Au.keysOf [c]) v xs _ (is_ba _) (is_ba _) (HL.out.keep HB3.out) HOK.out hn HZ.out).mono ?_); rintro e w4 ⟨he, hb⟩; unfold TwoV at he; subst he; have HB4 := Lib.hid (HB3.out.trans (hb.mono HB3.out.size)); clear hb))
  all_goals
    (go_wp2_with fail
     go_ret2
     exact ⟨by first | rfl | trivial, HB4.out⟩)
end Go.Proofs.YtgdcffahhpeibaaGreatDoor
