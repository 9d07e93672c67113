/-
  strconv.Itoa at a day's numbers, caldate.padded, its kanji, henkanref04.Number, kanji by their contracts. No condition but the ranges named and the tables.
-/
import Derived.Test.YtnpkcobapckhdaaGreatDoorNumRef
import Derived.Test.YtnpkcobapckhdaaGreatDoorCalForm
import Derived.Lib.AppendIntMem
import Derived.Lib.SlBytesRow
import Derived.Outline
namespace Go.Proofs.YtnpkcobapckhdaaGreatDoor
open Go.RowKit

theorem gPow : Tryz.prog.globalNamed "internal/strconv.uint64pow10" = some 8 := by kernel_rfl
/-- the tables that the walks over days read -/
structure CTabs (w : World) : Prop where
  num : Tabs w
  pow : Lib.TabIs Tryz.prog w "internal/strconv.uint64pow10" .u64 Lib.pow10Tab
theorem tabIs_below {n : String} {g : Nat} {k : IntKind} {zs : List Int} {w w' : World} {B : Nat} (hg : Tryz.prog.globalNamed n = some g) (h : Lib.TabIs Tryz.prog w n k zs) (hb : Below B w w') (hB : w.heap.size ≤ B) : Lib.TabIs Tryz.prog w' n k zs := by
  unfold Lib.TabIs at *
  unfold World.var? at *
  rw [hg] at h ⊢
  simp only [Option.bind_some] at h ⊢
  have hlt : g < w.heap.size := by
    rcases Nat.lt_or_ge g w.heap.size with h' | h'
    · exact h'
    · rw [Array.getElem?_eq_none h'] at h; cases h
  rw [hb.block g (Nat.lt_of_lt_of_le hlt hB)]
  exact h
theorem CTabs.below {B : Nat} {w w' : World} (h : CTabs w) (hb : Below B w w') (hB : w.heap.size ≤ B) : CTabs w' := ⟨h.num.below hb hB, tabIs_below gPow h.pow hb hB⟩
theorem CTabs.keep {w w' : World} (h : CTabs w) (hb : Below w.heap.size w w') : CTabs w' := h.below hb (Nat.le_refl _)
/-- a string handed back -/
def GivesS (t : List UInt8) (w : World) (e : Ending) (w' : World) : Prop := ∃ b : ByteArray, Is b t ∧ e = .returned (.string b) ∧ Below w.heap.size w w'

theorem itoa_any (n : Nat) (w : World) (hn : n < 10000) (ht : CTabs w) :
    Calls Tryz.prog 57 #[.int .i64 n] w (GivesS (Num.digs n) w) := by
  refine (Tryz.strconv_Itoa (n : Int) (by omega) (by omega) w ht.pow).mono ?_
  rintro e w' ⟨rfl, k, os, rfl⟩
  exact ⟨_, by rw [CF.itoa_digs n hn]; exact Is.mk _, rfl, Lib.below_grow _ _ (Nat.le_refl _) _ _⟩

set_option maxHeartbeats 1000000 in
theorem padded_any (n k : Nat) (w : World) (hn : n < 10000) (hk : k ≤ 4) (ht : CTabs w) :
    Calls Tryz.prog 58 #[.int .i64 n, .int .i64 k] w (GivesS (CF.pad k n) w) := by
  have HT := Lib.hid ht
  clear ht
  obtain ⟨c, hc⟩ : ∃ c, k - (Num.digs n).length = c := ⟨_, rfl⟩
  have hc4 : c ≤ 4 := by omega
  have HC := Lib.hid hc
  have HL := Lib.hid (Num.digs_len n)
  go_enter Tryz.func58, Tryz.ntmps58
  go_wp2_with fail
  refine (itoa_any n _ hn HT.out).mono ?_
  rintro e w1 ⟨b, hb, rfl, hb1⟩
  have HB := Lib.hid hb
  have HB1 := Lib.hid hb1
  have hbz : b.size ≤ 4 := by rw [hb.size]; exact HL.out.2
  have hmx : max (0 : Int) ((k : Int) - (b.size : Int)) = (c : Int) := by rw [hb.size]; omega
  clear hb hb1 hc
  go_wp2_with fail
  refine (Tryz.strings_Repeat ⟨#[48]⟩ c _ (by omega) (by show 1 * c ≤ _; omega)).mono ?_
  rintro e w2 ⟨rfl, hb2⟩
  obtain ⟨z, hz⟩ : ∃ z, z = (⟨(Lib.repeatL (⟨#[48]⟩ : ByteArray).data.toList c).toArray⟩ : ByteArray) := ⟨_, rfl⟩
  have HZ := Lib.hid (show Is z (List.replicate c 48) by rw [hz, ← CF.repeatL_zero]; exact Is.mk _)
  rw [← hz]
  have hzz : z.size ≤ 4 := by rw [HZ.out.size, List.length_replicate]; exact hc4
  have HB2 := Lib.hid (HB1.out.trans (hb2.mono HB1.out.size))
  clear hb2 hz hmx
  go_wp2_with fail
  go_ret
  exact ⟨_, by unfold CF.pad; rw [HC.out]; exact HZ.out.append HB.out, rfl, HB2.out⟩

set_option maxHeartbeats 1000000 in
theorem kanjiC_any (n : Nat) (w : World) (hn : n < 10000) (ht : CTabs w) :
    Calls Tryz.prog 59 #[.int .i64 n] w (GivesS (CF.kan n) w) := by
  have HT := Lib.hid ht
  have HV := Lib.hid (Num.digs_valid n hn)
  have HL := Lib.hid (Num.digs_len n)
  clear ht
  go_enter Tryz.func59, Tryz.ntmps59
  go_wp2_with fail
  refine (itoa_any n _ hn HT.out).mono ?_
  rintro e w1 ⟨b, hb, rfl, hb1⟩
  have HB := Lib.hid hb
  have HB1 := Lib.hid hb1
  have HT1 := Lib.hid (HT.out.keep hb1)
  have hbz : b.size ≤ 4 := by rw [hb.size]; exact HL.out.2
  clear hb hb1
  go_wp2_with fail
  refine (kanji_any b (Num.digs n) _ HB.out (by omega) HT1.out.num).mono ?_
  rintro e w2 ⟨c, hc, rfl, hb2⟩
  have HC := Lib.hid (show Is c (CF.kan n) by unfold wrt at hc; rwa [if_pos HV.out] at hc)
  have HB2 := Lib.hid (HB1.out.trans (hb2.mono HB1.out.size))
  clear hc hb2
  go_wp2_with fail
  go_ret
  exact ⟨c, HC.out, rfl, HB2.out⟩
end Go.Proofs.YtnpkcobapckhdaaGreatDoor
