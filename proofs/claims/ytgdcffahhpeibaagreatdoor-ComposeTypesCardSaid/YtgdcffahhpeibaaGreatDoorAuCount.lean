/-
  utf.Count by its contract. No condition but the string's own bound.
-/
import Derived.Test.YtgdcffahhpeibaaGreatDoorAuNew
import Derived.Test.YtgdcffahhpeibaaGreatDoorShelf2
import Derived.Test.YtgdcffahhpeibaaGreatDoorUtfRunes
import Derived.Lib.RuneCount
import Derived.Lib.TrimUEq
namespace Go.Proofs.YtgdcffahhpeibaaGreatDoor
open Go.RowKit
theorem UT.count_go (s : ByteArray) : ∀ (n pos : Nat), Lib.runeCountFrom s n pos = (UT.runesGo n (s.data.toList.drop pos)).length
  | 0, pos => rfl
  | n + 1, pos => by
    rw [Lib.runeCountFrom, UT.runesGo]
    have hsz := (Is.of s).size
    by_cases h : pos < s.size
    · rw [if_pos h, if_neg (by intro e; have := congrArg List.length e; rw [List.length_drop, List.length_nil] at this; omega), List.length_cons, UT.count_go s n, ← Lib.decodeL_drop, List.drop_drop, Nat.add_comm]
    · rw [if_neg h, if_pos (List.drop_eq_nil_of_le (by omega))]; rfl
theorem UT.count_is {s : ByteArray} {l : List UInt8} (h : Is s l) : Lib.runeCount s = (UT.runes l).length := by
  have := UT.count_go s s.size 0
  rw [List.drop_zero, h.data] at this
  unfold Lib.runeCount UT.runes
  rw [this, h.size]
/-- how many characters; -1: it is not valid -/
def UT.countZ (l : List UInt8) : Int := if Lib.validD l = true then ((UT.runes l).length : Int) else -1
set_option maxRecDepth 100000 in
set_option maxHeartbeats 4000000 in
theorem pcount_any (s : ByteArray) (l : List UInt8) (w : World) (h : Is s l) (hs : s.size < 9223372036854775807) (ht : Tabs w) :
    Calls Tryz.prog 49 #[.string s] w fun e w' => e = .returned (.int .i64 (UT.countZ l)) ∧ Below w.heap.size w w' := by
  have HD := Eqq.mk h.data
  have HC := Eqq.mk (UT.count_is h)
  have HT := Lib.hid ht
  clear h ht
  obtain ⟨v, hv⟩ : ∃ v, Lib.validD l = v := ⟨_, rfl⟩
  have HV := Eqq.mk hv
  cases v
  · have HR := Eqq.mk (show UT.countZ l = -1 by unfold UT.countZ; rw [if_neg (by rw [hv]; simp)])
    clear hv
    go_enter Tryz.func49, Tryz.ntmps49
    go_wp2_with fail
    with_reducible refine (Tryz.utf8_ValidString s _ (by omega) HT.out.utf).mono ?_
    rw [HD.out, HV.out]
    rintro e w1 ⟨rfl, hb⟩
    have HB := Lib.hid hb
    clear hb
    go_wp2_with fail
    go_ret
    exact ⟨by rw [HR.out]; rfl, HB.out⟩
  · have HR := Eqq.mk (show UT.countZ l = ((UT.runes l).length : Int) by unfold UT.countZ; rw [if_pos hv])
    clear hv
    go_enter Tryz.func49, Tryz.ntmps49
    go_wp2_with fail
    with_reducible refine (Tryz.utf8_ValidString s _ (by omega) HT.out.utf).mono ?_
    rw [HD.out, HV.out]
    rintro e w1 ⟨rfl, hb⟩
    have HB := Lib.hid hb
    clear hb
    go_wp2_with fail
    with_reducible refine (Tryz.utf8_RuneCountInString s _ (by omega)).mono ?_
    rw [HC.out]
    rintro e w2 ⟨rfl, pos, rfl⟩
    have HB2 := Lib.hid (show Below w.heap.size w (w1.iter s pos) from HB.out.alloc HB.out.size _)
    go_wp2_with fail
    go_ret
    exact ⟨by rw [HR.out]; rfl, HB2.out⟩
end Go.Proofs.YtgdcffahhpeibaaGreatDoor
