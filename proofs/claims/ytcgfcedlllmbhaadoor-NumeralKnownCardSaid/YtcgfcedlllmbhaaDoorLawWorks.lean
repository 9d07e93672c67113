/-
  henkanlaw03.works by its contract: it answers true wherever the tables stand. No condition.
-/
import Derived.Test.YtcgfcedlllmbhaaDoorLawTabs
namespace Go.Proofs.YtcgfcedlllmbhaaDoor
open Go.RowKit

theorem Tabs.keep {w w' : World} (h : Tabs w) (hb : Below w.heap.size w w') : Tabs w' := h.below hb (Nat.le_refl _)
def n12030 : List UInt8 := [49, 50, 48, 51, 48]
theorem Is.lit (l : List UInt8) : Is ⟨l.toArray⟩ l := Is.mk l

set_option maxRecDepth 100000 in
set_option maxHeartbeats 2000000 in
theorem works_any (w : World) (ht : Tabs w) : Calls Tryd.prog 20 #[] w fun e w' => e = .returned (.bool true) ∧ Below w.heap.size w w' := by
  have HT := Lib.hid ht
  have HV := Lib.hid (show Num.valid n12030 = true by decide)
  clear ht
  go_enter Tryd.func20, Tryd.ntmps20
  go_wp2_with fail
  refine (kanji_any _ n12030 _ (Is.mk n12030) (by decide) HT.out).mono ?_
  rintro e w1 ⟨k, hk, rfl, hb1⟩
  rw [HV.out]
  have HB1 := Lib.hid hb1
  have HT1 := Lib.hid (HT.out.keep hb1)
  have e1 : (k.toList == [228, 184, 128, 228, 184, 135, 228, 186, 140, 229, 141, 131, 228, 184, 137, 229, 141, 129]) = true := by rw [hk.list]; decide
  clear hk hb1
  go_wp2_with fail
  refine (positional_any _ n12030 _ (Is.mk n12030) (by decide) HT1.out).mono ?_
  rintro e w2 ⟨p, hp, rfl, hb2⟩
  rw [HV.out]
  have HB2 := Lib.hid (HB1.out.trans (hb2.mono HB1.out.size))
  have HT2 := Lib.hid (HT1.out.keep hb2)
  have e2 : (p.toList == [228, 184, 128, 228, 186, 140, 227, 128, 135, 228, 184, 137, 227, 128, 135]) = true := by rw [hp.list]; decide
  clear hp hb2
  go_wp2_with fail
  refine (formal_any _ n12030 _ (Is.mk n12030) (by decide) HT2.out).mono ?_
  rintro e w3 ⟨f, hf, rfl, hb3⟩
  rw [HV.out]
  have HB3 := Lib.hid (HB2.out.trans (hb3.mono HB2.out.size))
  have HT3 := Lib.hid (HT2.out.keep hb3)
  have e3 : (f.toList == [229, 163, 177, 228, 184, 135, 229, 188, 144, 229, 141, 131, 229, 143, 130, 230, 139, 190]) = true := by rw [hf.list]; decide
  clear hf hb3
  go_wp2_with fail
  refine (commas_any _ n12030 _ (Is.mk n12030) (by decide)).mono ?_
  rintro e w4 ⟨s, hs, rfl, hb4⟩
  rw [HV.out]
  have HB4 := Lib.hid (HB3.out.trans (hb4.mono HB3.out.size))
  have HT4 := Lib.hid (HT3.out.keep hb4)
  have e4 : (s.toList == [49, 50, 44, 48, 51, 48]) = true := by rw [hs.list]; decide
  clear hs hb4
  go_wp2_with fail
  refine (parse_any _ [229, 141, 131, 228, 184, 128] _ (Is.mk [229, 141, 131, 228, 184, 128]) (by decide) HT4.out).mono ?_
  rintro e w5 ⟨n, hn, rfl, hb5⟩
  have hp5 : Num.progParse [229, 141, 131, 228, 184, 128] = ([49, 48, 48, 49], true) := by decide
  rw [hp5] at *
  have HB5 := Lib.hid (HB4.out.trans (hb5.mono HB4.out.size))
  have e5 : (n.toList == [49, 48, 48, 49]) = true := by rw [hn.list]; decide
  clear hn hb5 hp5
  go_wp2_with fail
  go_ret
  exact ⟨rfl, HB5.out⟩
end Go.Proofs.YtcgfcedlllmbhaaDoor
