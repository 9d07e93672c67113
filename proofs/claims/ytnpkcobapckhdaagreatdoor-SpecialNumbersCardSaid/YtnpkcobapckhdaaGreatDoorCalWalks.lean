/-
  The calendar's functions by their contracts: caldate.start, before, Day; henkanref04.Leap, Length, Day. No condition beyond the ranges that each theorem names.
-/
import Derived.Test.YtnpkcobapckhdaaGreatDoorRows
import Derived.Test.YtnpkcobapckhdaaGreatDoorCalMath
import Derived.WalkKit
import Derived.WalkSpells
import Derived.WalkLawsBesides
import Derived.Lib.Hide
namespace Go.Proofs.YtnpkcobapckhdaaGreatDoor
open Go.RowKit

theorem ret_int {k : IntKind} {a b : Int} (h : a = b) : Ending.returned (.int k a) = .returned (.int k b) := by rw [h]

set_option maxHeartbeats 400000 in
theorem start_any (y : Int) (w : World) (h1 : 1 ≤ y) (h2 : y ≤ 10001) :
    Calls Tryz.prog 61 #[.int .i64 y] w fun e w' => e = .returned (.int .i64 (Cal.st y)) ∧ w = w' := by
  go_enter Tryz.func61, Tryz.ntmps61
  go_wp2
  go_ret
  exact ⟨ret_int rfl, rfl⟩

set_option maxHeartbeats 400000 in
theorem before_any (y m : Int) (w : World) (h1 : 1 ≤ y) (h2 : y ≤ 10000) (h3 : 1 ≤ m) (h4 : m ≤ 12) :
    Calls Tryz.prog 62 #[.int .i64 y, .int .i64 m] w fun e w' => e = .returned (.int .i64 (Cal.bef y m)) ∧ w = w' := by
  by_cases c0 : m ≤ 2
  · go_enter Tryz.func62, Tryz.ntmps62
    go_wp2
    go_ret
    exact ⟨ret_int (by unfold Cal.bef; rw [if_pos c0]), rfl⟩
  · by_cases c1 : y % 4 = 0
    · by_cases c2 : y % 100 = 0
      · by_cases c3 : y % 400 = 0
        · have e1 : (y % 4 == 0) = true := by simpa using c1
          have e2 : (y % 100 != 0) = false := by simpa using c2
          have e3 : (y % 400 == 0) = true := by simpa using c3
          have H := Lib.hid (show Cal.lp y = 1 by unfold Cal.lp; rw [if_pos ⟨c1, Or.inr c3⟩])
          clear c1 c2 c3
          go_enter Tryz.func62, Tryz.ntmps62
          go_wp2
          go_ret
          exact ⟨ret_int (by unfold Cal.bef; rw [if_neg (by omega), H.out]), rfl⟩
        · have e1 : (y % 4 == 0) = true := by simpa using c1
          have e2 : (y % 100 != 0) = false := by simpa using c2
          have e3 : (y % 400 == 0) = false := by simpa using c3
          have H := Lib.hid (show Cal.lp y = 0 by unfold Cal.lp; rw [if_neg (by omega)])
          clear c1 c2 c3
          go_enter Tryz.func62, Tryz.ntmps62
          go_wp2
          go_ret
          exact ⟨ret_int (by unfold Cal.bef; rw [if_neg (by omega), H.out]; omega), rfl⟩
      · have e1 : (y % 4 == 0) = true := by simpa using c1
        have e2 : (y % 100 != 0) = true := by simpa using c2
        have H := Lib.hid (show Cal.lp y = 1 by unfold Cal.lp; rw [if_pos ⟨c1, Or.inl c2⟩])
        clear c1 c2
        go_enter Tryz.func62, Tryz.ntmps62
        go_wp2
        go_ret
        exact ⟨ret_int (by unfold Cal.bef; rw [if_neg (by omega), H.out]), rfl⟩
    · have e1 : (y % 4 == 0) = false := by simpa using c1
      have H := Lib.hid (show Cal.lp y = 0 by unfold Cal.lp; rw [if_neg (by omega)])
      clear c1
      go_enter Tryz.func62, Tryz.ntmps62
      go_wp2
      go_ret
      exact ⟨ret_int (by unfold Cal.bef; rw [if_neg (by omega), H.out]; omega), rfl⟩


set_option maxHeartbeats 400000 in
theorem leap_any (y : Int) (w : World) (h1 : 1 ≤ y) (h2 : y ≤ 10000) :
    Calls Tryz.prog 131 #[.int .i64 y] w fun e w' => e = .returned (.bool (decide (Cal.lp y = 1))) ∧ w = w' := by
  by_cases c1 : y % 4 = 0
  · by_cases c2 : y % 100 = 0
    · by_cases c3 : y % 400 = 0
      · have e1 : (y % 4 == 0) = true := by simpa using c1
        have e2 : (y % 100 != 0) = false := by simpa using c2
        have e3 : (y % 400 == 0) = true := by simpa using c3
        have H := Lib.hid (show Cal.lp y = 1 by unfold Cal.lp; rw [if_pos ⟨c1, Or.inr c3⟩])
        clear c1 c2 c3
        go_enter Tryz.func131, Tryz.ntmps131
        go_wp2
        go_ret
        exact ⟨by rw [H.out]; rfl, rfl⟩
      · have e1 : (y % 4 == 0) = true := by simpa using c1
        have e2 : (y % 100 != 0) = false := by simpa using c2
        have e3 : (y % 400 == 0) = false := by simpa using c3
        have H := Lib.hid (show Cal.lp y = 0 by unfold Cal.lp; rw [if_neg (by omega)])
        clear c1 c2 c3
        go_enter Tryz.func131, Tryz.ntmps131
        go_wp2
        go_ret
        exact ⟨by rw [H.out]; rfl, rfl⟩
    · have e1 : (y % 4 == 0) = true := by simpa using c1
      have e2 : (y % 100 != 0) = true := by simpa using c2
      have H := Lib.hid (show Cal.lp y = 1 by unfold Cal.lp; rw [if_pos ⟨c1, Or.inl c2⟩])
      clear c1 c2
      go_enter Tryz.func131, Tryz.ntmps131
      go_wp2
      go_ret
      exact ⟨by rw [H.out]; rfl, rfl⟩
  · have e1 : (y % 4 == 0) = false := by simpa using c1
    have H := Lib.hid (show Cal.lp y = 0 by unfold Cal.lp; rw [if_neg (by omega)])
    clear c1
    go_enter Tryz.func131, Tryz.ntmps131
    go_wp2
    go_ret
    exact ⟨by rw [H.out]; rfl, rfl⟩

set_option maxHeartbeats 400000 in
theorem length_any (y m : Int) (w : World) (h1 : 1 ≤ y) (h2 : y ≤ 10000) (h3 : 1 ≤ m) (h4 : m ≤ 12) :
    Calls Tryz.prog 100 #[.int .i64 y, .int .i64 m] w fun e w' => e = .returned (.int .i64 (Cal.mlen y m)) ∧ w = w' := by
  by_cases c : m = 2
  · subst c
    have h01 := Cal.lp_01 y
    by_cases c1 : Cal.lp y = 1
    · have e1 : decide (Cal.lp y = 1) = true := by simpa using c1
      have H := Lib.hid c1
      clear c1 h01
      go_enter Tryz.func100, Tryz.ntmps100
      go_wp2_with (go_at_call 131; refine (leap_any _ _ h1 h2).mono ?_; rintro e w' ⟨rfl, rfl⟩)
      go_ret
      exact ⟨ret_int (by simp [Cal.mlen, H.out]), rfl⟩
    · have e1 : decide (Cal.lp y = 1) = false := by simpa using c1
      have H := Lib.hid (show Cal.lp y = 0 by omega)
      clear c1 h01
      go_enter Tryz.func100, Tryz.ntmps100
      go_wp2_with (go_at_call 131; refine (leap_any _ _ h1 h2).mono ?_; rintro e w' ⟨rfl, rfl⟩)
      go_ret
      exact ⟨ret_int (by simp [Cal.mlen, H.out]), rfl⟩
  · have hm : m = 1 ∨ m = 3 ∨ m = 4 ∨ m = 5 ∨ m = 6 ∨ m = 7 ∨ m = 8 ∨ m = 9 ∨ m = 10 ∨ m = 11 ∨ m = 12 := by omega
    clear c
    rcases hm with rfl | rfl | rfl | rfl | rfl | rfl | rfl | rfl | rfl | rfl | rfl
    all_goals
      go_enter Tryz.func100, Tryz.ntmps100
      go_wp2_with fail
      go_ret
      exact ⟨ret_int (by simp [Cal.mlen]), rfl⟩

set_option maxHeartbeats 1000000 in
theorem day_yes (y m d : Int) (w : World) (h : Cal.ok y m d = true) :
    Calls Tryz.prog 26 #[.int .i64 y, .int .i64 m, .int .i64 d] w fun e w' => e = .returned (.tuple #[.int .i64 (Cal.num y m d), .bool true]) ∧ w = w' := by
  rw [Cal.ok_iff] at h
  obtain ⟨h1, h2, h3, h4, h5, h6⟩ := h
  have b1 := Cal.st_bd y h1 (by omega)
  have b2 := Cal.st_bd (y + 1) (by omega) (by omega)
  have b3 := Cal.bef_bd y m h3 h4
  have b4 := Cal.mlen_bd y m
  have b5 : d ≤ 31 := by omega
  by_cases c : m < 12
  · have b6 : Cal.st y + Cal.bef y m + d ≤ Cal.st y + Cal.bef y (m + 1) := by rw [Cal.bef_succ y m h3 c]; omega
    have b7 := Cal.bef_bd y (m + 1) (by omega) (by omega)
    clear h6 b4
    go_enter Tryz.func26, Tryz.ntmps26
    go_wp2_with (first | (go_at_call 61; refine (start_any _ _ (by omega) (by omega)).mono ?_; rintro e w' ⟨rfl, rfl⟩) | (go_at_call 62; refine (before_any _ _ _ (by omega) (by omega) (by omega) (by omega)).mono ?_; rintro e w' ⟨rfl, rfl⟩))
    go_ret2
    exact ⟨rfl, rfl⟩
  · have b6 : Cal.st y + Cal.bef y m + d ≤ Cal.st (y + 1) := by rw [Cal.st_succ y]; have := Cal.bef_end y m h3 h4; omega
    clear h6 b4
    go_enter Tryz.func26, Tryz.ntmps26
    go_wp2_with (first | (go_at_call 61; refine (start_any _ _ (by omega) (by omega)).mono ?_; rintro e w' ⟨rfl, rfl⟩) | (go_at_call 62; refine (before_any _ _ _ (by omega) (by omega) (by omega) (by omega)).mono ?_; rintro e w' ⟨rfl, rfl⟩))
    go_ret2
    exact ⟨rfl, rfl⟩

set_option maxHeartbeats 1000000 in
theorem day_no (y m d : Int) (w : World) (h : Cal.ok y m d = false) :
    Calls Tryz.prog 26 #[.int .i64 y, .int .i64 m, .int .i64 d] w fun e w' => e = .returned (.tuple #[.int .i64 0, .bool false]) ∧ w = w' := by
  have h0 : ¬ (Cal.ok y m d = true) := by simp [h]
  rw [Cal.ok_iff] at h0
  clear h
  by_cases g1 : y < 1
  · clear h0; go_enter Tryz.func26, Tryz.ntmps26
    go_wp2_with fail
    go_ret2
    exact ⟨rfl, rfl⟩
  by_cases g2 : 9999 < y
  · clear h0; go_enter Tryz.func26, Tryz.ntmps26
    go_wp2_with fail
    go_ret2
    exact ⟨rfl, rfl⟩
  by_cases g3 : m < 1
  · clear h0; go_enter Tryz.func26, Tryz.ntmps26
    go_wp2_with fail
    go_ret2
    exact ⟨rfl, rfl⟩
  by_cases g4 : 12 < m
  · clear h0; go_enter Tryz.func26, Tryz.ntmps26
    go_wp2_with fail
    go_ret2
    exact ⟨rfl, rfl⟩
  by_cases g5 : d < 1
  · clear h0; go_enter Tryz.func26, Tryz.ntmps26
    go_wp2_with fail
    go_ret2
    exact ⟨rfl, rfl⟩
  by_cases g6 : 31 < d
  · clear h0; go_enter Tryz.func26, Tryz.ntmps26
    go_wp2_with fail
    go_ret2
    exact ⟨rfl, rfl⟩
  have b1 := Cal.st_bd y (by omega) (by omega)
  have b2 := Cal.st_bd (y + 1) (by omega) (by omega)
  have b3 := Cal.bef_bd y m (by omega) (by omega)
  have b4 := Cal.mlen_bd y m
  have b5 : Cal.mlen y m < d := by omega
  by_cases c : m < 12
  · have b6 : Cal.st y + Cal.bef y (m + 1) < Cal.st y + Cal.bef y m + d := by rw [Cal.bef_succ y m (by omega) c]; omega
    have b7 := Cal.bef_bd y (m + 1) (by omega) (by omega)
    clear h0 b4 b5
    go_enter Tryz.func26, Tryz.ntmps26
    go_wp2_with (first | (go_at_call 61; refine (start_any _ _ (by omega) (by omega)).mono ?_; rintro e w' ⟨rfl, rfl⟩) | (go_at_call 62; refine (before_any _ _ _ (by omega) (by omega) (by omega) (by omega)).mono ?_; rintro e w' ⟨rfl, rfl⟩))
    go_ret2
    exact ⟨rfl, rfl⟩
  · obtain rfl : m = 12 := by omega
    have e31 : Cal.mlen y 12 = 31 := by simp [Cal.mlen]
    omega

set_option maxHeartbeats 1000000 in
/-- henkanref04.Day at a valid date -/
theorem rday_yes (y m d : Int) (w : World) (h : Cal.ok y m d = true) :
    Calls Tryz.prog 51 #[.int .i64 y, .int .i64 m, .int .i64 d] w fun e w' => e = .returned (.tuple #[.int .i64 (Cal.num y m d), .bool true]) ∧ w = w' := by
  rw [Cal.ok_iff] at h
  obtain ⟨h1, h2, h3, h4, h5, h6⟩ := h
  have b1 := Cal.st_bd y h1 (by omega)
  have b4 := Cal.mlen_bd y m
  have H1 := Lib.hid (Cal.bef_1 y)
  go_enter Tryz.func51, Tryz.ntmps51
  go_wp2_with (go_at_call 100; refine (length_any _ _ _ (by omega) (by omega) (by omega) (by omega)).mono ?_; rintro e w' ⟨rfl, rfl⟩)
  go_loop [8, 9] (fun n k => ∃ j : Int, 1 ≤ j ∧ j ≤ m ∧ k = .int .i64 j ∧ n = .int .i64 (Cal.st y + Cal.bef y j)) (fun _ k => (12 - intOf k).toNat)
  case atStart => exact ⟨1, by omega, by omega, rfl, by rw [H1.out]; unfold Cal.st; congr 1; omega⟩
  case round =>
    obtain ⟨j, hj1, hj2, rfl, rfl⟩ := hrel
    have c3 := Cal.bef_bd y j (by omega) (by omega)
    have c4 := Cal.mlen_bd y j
    by_cases hc : j < m
    · have HS := Lib.hid (Cal.bef_succ y j hj1 (by omega))
      go_wp2_with (go_at_call 100; refine (length_any _ _ _ (by omega) (by omega) (by omega) (by omega)).mono ?_; rintro e w' ⟨rfl, rfl⟩)
      go_round
      case rel => exact ⟨j + 1, by omega, by omega, rfl, by rw [HS.out]; congr 1; omega⟩
      case measure => simp [intOf]; omega
    · obtain rfl : j = m := by omega
      go_wp2_with fail
      go_ret2
      exact ⟨rfl, rfl⟩

set_option maxHeartbeats 1000000 in
theorem rday_no (y m d : Int) (w : World) (h : Cal.ok y m d = false) :
    Calls Tryz.prog 51 #[.int .i64 y, .int .i64 m, .int .i64 d] w fun e w' => e = .returned (.tuple #[.int .i64 0, .bool false]) ∧ w = w' := by
  have h0 : ¬ (Cal.ok y m d = true) := by simp [h]
  rw [Cal.ok_iff] at h0
  clear h
  by_cases g1 : y < 1
  · clear h0; go_enter Tryz.func51, Tryz.ntmps51
    go_wp2_with fail
    go_ret2
    exact ⟨rfl, rfl⟩
  by_cases g2 : 9999 < y
  · clear h0; go_enter Tryz.func51, Tryz.ntmps51
    go_wp2_with fail
    go_ret2
    exact ⟨rfl, rfl⟩
  by_cases g3 : m < 1
  · clear h0; go_enter Tryz.func51, Tryz.ntmps51
    go_wp2_with fail
    go_ret2
    exact ⟨rfl, rfl⟩
  by_cases g4 : 12 < m
  · clear h0; go_enter Tryz.func51, Tryz.ntmps51
    go_wp2_with fail
    go_ret2
    exact ⟨rfl, rfl⟩
  by_cases g5 : d < 1
  · clear h0; go_enter Tryz.func51, Tryz.ntmps51
    go_wp2_with fail
    go_ret2
    exact ⟨rfl, rfl⟩
  have b4 := Cal.mlen_bd y m
  have b5 : Cal.mlen y m < d := by omega
  clear h0
  go_enter Tryz.func51, Tryz.ntmps51
  go_wp2_with (go_at_call 100; refine (length_any _ _ _ (by omega) (by omega) (by omega) (by omega)).mono ?_; rintro e w' ⟨rfl, rfl⟩)
  go_ret2
  exact ⟨rfl, rfl⟩

end Go.Proofs.YtnpkcobapckhdaaGreatDoor
