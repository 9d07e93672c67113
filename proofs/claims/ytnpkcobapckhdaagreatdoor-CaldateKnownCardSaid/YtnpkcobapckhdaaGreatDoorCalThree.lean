/-
  henkanref04.three by its contract. No condition but the strings' own bounds.
-/
import Derived.Test.YtnpkcobapckhdaaGreatDoorCalVal
import Derived.Test.YtnpkcobapckhdaaGreatDoorCalDate
namespace Go.Proofs.YtnpkcobapckhdaaGreatDoor
open Go.RowKit
theorem cut_len (l t : List UInt8) : (Lib.cut l t).1.length ≤ l.length ∧ (Lib.cut l t).2.1.length ≤ l.length := by
  unfold Lib.cut
  split
  · exact ⟨by rw [List.length_take]; omega, by rw [List.length_drop]; omega⟩
  · exact ⟨Nat.le_refl _, Nat.zero_le _⟩
/-- the three numbers of a text, and whether both signs stand in it -/
def threeV (l ta tb : List UInt8) : Value :=
  .tuple #[.int .i64 (CF.rnum (Lib.cut l ta).1), .int .i64 (CF.rnum (Lib.cut (Lib.cut l ta).2.1 tb).1), .int .i64 (CF.rnum (Lib.cut (Lib.cut l ta).2.1 tb).2.1), .bool ((Lib.cut l ta).2.2 && (Lib.cut (Lib.cut l ta).2.1 tb).2.2)]
set_option maxRecDepth 100000 in
set_option maxHeartbeats 2000000 in
theorem three_any (s a b : ByteArray) (l ta tb : List UInt8) (w : World) (h : Is s l) (ha : Is a ta) (hb : Is b tb) (hs : s.size ≤ 140737488351232) (a1 : 1 ≤ ta.length) (a3 : ta.length ≤ 3) (b1 : 1 ≤ tb.length) (b3 : tb.length ≤ 3) :
    Calls Tryz.prog 50 #[.string s, .string a, .string b] w fun e w' => e = .returned (threeV l ta tb) ∧ Below w.heap.size w w' := by
  unfold threeV
  have hz := h.size
  have HI := Lib.hid h
  have HA := Lib.hid ha
  have HBB := Lib.hid hb
  have HL1 := Lib.hid (cut_len l ta)
  have A1 := Lib.hid a1
  have A3 := Lib.hid a3
  have B1 := Lib.hid b1
  have B3 := Lib.hid b3
  obtain ⟨c, hc⟩ : ∃ c, Lib.cut l ta = c := ⟨_, rfl⟩
  have HC := Lib.hid hc
  rw [hc] at HL1 ⊢
  clear h ha hb a1 a3 b1 b3 hc
  obtain ⟨y, rest, ok⟩ := c
  have HL2 := Lib.hid (cut_len rest tb)
  obtain ⟨c2, hc2⟩ : ∃ c2, Lib.cut rest tb = c2 := ⟨_, rfl⟩
  have HC2 := Lib.hid hc2
  dsimp only
  rw [hc2] at HL2 ⊢
  clear hc2
  obtain ⟨m, d, is⟩ := c2
  dsimp only
  go_enter Tryz.func50, Tryz.ntmps50
  go_wp2_with fail
  refine (rcut_any s a l ta _ HI.out HA.out hs A1.out A3.out).mono ?_
  rw [HC.out]
  rintro e w1 ⟨x1, r1, hx1, hr1, rfl, hw1⟩
  have hz1 : x1.size ≤ s.size := by rw [hx1.size, hz]; exact HL1.out.1
  have hz2 : r1.size ≤ s.size := by rw [hr1.size, hz]; exact HL1.out.2
  have HX1 := Lib.hid hx1
  have HR1 := Lib.hid hr1
  have HW1 := Lib.hid hw1
  have hrl := hr1.size
  clear hx1 hr1 hw1
  dsimp only
  go_wp2_with fail
  refine (rcut_any r1 b rest tb _ HR1.out HBB.out (by omega) B1.out B3.out).mono ?_
  rw [HC2.out]
  rintro e w2 ⟨x2, r2, hx2, hr2, rfl, hw2⟩
  have hz3 : x2.size ≤ r1.size := by rw [hx2.size, hrl]; exact HL2.out.1
  have hz4 : r2.size ≤ r1.size := by rw [hr2.size, hrl]; exact HL2.out.2
  have HX2 := Lib.hid hx2
  have HR2 := Lib.hid hr2
  have HW2 := Lib.hid (HW1.out.trans (hw2.mono HW1.out.size))
  clear hx2 hr2 hw2
  dsimp only
  go_wp2_with fail
  refine (value_any x1 y _ HX1.out (by omega)).mono ?_
  rintro e w3 ⟨rfl, hw3⟩
  have HW3 := Lib.hid (HW2.out.trans (hw3.mono HW2.out.size))
  clear hw3
  go_wp2_with fail
  refine (value_any x2 m _ HX2.out (by omega)).mono ?_
  rintro e w4 ⟨rfl, hw4⟩
  have HW4 := Lib.hid (HW3.out.trans (hw4.mono HW3.out.size))
  clear hw4
  go_wp2_with fail
  refine (value_any r2 d _ HR2.out (by omega)).mono ?_
  rintro e w5 ⟨rfl, hw5⟩
  have HW5 := Lib.hid (HW4.out.trans (hw5.mono HW4.out.size))
  clear hw5
  cases ok
  · go_wp2_with fail
    refine bodyPost_ret (results_tmp4 rfl _ _ _) rfl ?_
    exact ⟨rfl, HW5.out⟩
  · go_wp2_with fail
    refine bodyPost_ret (results_tmp4 rfl _ _ _) rfl ?_
    exact ⟨rfl, HW5.out⟩
end Go.Proofs.YtnpkcobapckhdaaGreatDoor
