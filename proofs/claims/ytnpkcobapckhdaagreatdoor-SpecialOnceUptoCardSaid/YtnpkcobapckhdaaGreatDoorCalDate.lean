/-
  caldate.Date and henkanref04.Date: at a day from 1 to 3652059 the date whose number the day is; elsewhere nothing. No condition.
-/
import Derived.Test.YtnpkcobapckhdaaGreatDoorCalWalks
namespace Go.Proofs.YtnpkcobapckhdaaGreatDoor
open Go.RowKit

theorem results_tmp4 {fn : Func} {t u v x : Tmp} (h : fn.results = #[.tmp t, .tmp u, .tmp v, .tmp x]) (tmps : Array Value) (P : Program) (w : World) :
    (results fn tmps).run P w = .ok (.tuple #[tmps.getD t undef, tmps.getD u undef, tmps.getD v undef, tmps.getD x undef]) w := by
  simp [results, h]

/-- the date of day n -/
def DateOf (n : Int) (w : World) (e : Ending) (w' : World) : Prop :=
  ∃ y m d : Int, Cal.ok y m d = true ∧ Cal.num y m d = n ∧ e = .returned (.tuple #[.int .i64 y, .int .i64 m, .int .i64 d, .bool true]) ∧ w = w'

theorem dateOf_mk (n y m : Int) (w : World) (h1 : 1 ≤ y) (h2 : y ≤ 9999) (h3 : 1 ≤ m) (h4 : m ≤ 12) (a : Cal.bef y m < n - Cal.st y) (b : n - Cal.st y ≤ Cal.bef y m + Cal.mlen y m) :
    DateOf n w (.returned (.tuple #[.int .i64 y, .int .i64 m, .int .i64 (n - Cal.st y - Cal.bef y m), .bool true])) w :=
  ⟨y, m, n - Cal.st y - Cal.bef y m, by rw [Cal.ok_iff]; omega, by unfold Cal.num; omega, rfl, rfl⟩

set_option maxHeartbeats 1000000 in
theorem date_yes (n : Int) (w : World) (h1 : 1 ≤ n) (h2 : n ≤ 3652059) :
    Calls Tryz.prog 53 #[.int .i64 n] w (DateOf n w) := by
  have g := Cal.guess_lo n h1 h2
  have g9 : (n - 1) * 400 / 146097 + 1 ≤ 9999 := by omega
  go_enter Tryz.func53, Tryz.ntmps53
  go_wp2_with fail
  go_loop [2] (fun t => ∃ y : Int, 1 ≤ y ∧ y ≤ 9999 ∧ t = .int .i64 y) (fun t => (intOf t).toNat)
  case atStart => exact ⟨_, by omega, by omega, rfl⟩
  case round =>
    obtain ⟨y, hy1, hy2, rfl⟩ := hrel
    have b1 := Cal.st_bd y hy1 (by omega)
    by_cases hc : n ≤ Cal.st y
    · have hy3 : 1 < y := by
        by_cases e : y = 1
        · subst e; simp [Cal.st] at hc; omega
        · omega
      go_wp2_with (go_at_call 61; refine (start_any _ _ (by omega) (by omega)).mono ?_; rintro e w' ⟨rfl, rfl⟩)
      go_round
      case rel => exact ⟨y - 1, by omega, by omega, rfl⟩
      case measure => simp [intOf]; omega
    · have hc' : Cal.st y < n := by omega
      clear hc g g9
      go_wp2_with (go_at_call 61; refine (start_any _ _ (by omega) (by omega)).mono ?_; rintro e w' ⟨rfl, rfl⟩)
      go_loop [2] (fun t => ∃ z : Int, 1 ≤ z ∧ z ≤ 9999 ∧ Cal.st z < n ∧ t = .int .i64 z) (fun t => (10000 - intOf t).toNat)
      case atStart => exact ⟨y, by omega, by omega, hc', rfl⟩
      case round =>
        obtain ⟨z, hz1, hz2, hz3, rfl⟩ := hrel
        clear hy1 hy2 b1 hc'
        have b1 := Cal.st_bd z hz1 (by omega)
        have b2 := Cal.st_bd (z + 1) (by omega) (by omega)
        by_cases hc : Cal.st (z + 1) < n
        · have hz4 : z < 9999 := by
            by_cases e : z = 9999
            · subst e; simp [Cal.st] at hc; omega
            · omega
          go_wp2_with (go_at_call 61; refine (start_any _ _ (by omega) (by omega)).mono ?_; rintro e w' ⟨rfl, rfl⟩)
          go_round
          case rel => exact ⟨z + 1, by omega, by omega, hc, rfl⟩
          case measure => simp [intOf]; omega
        · have hs : n - Cal.st z ≤ Cal.bef z 12 + Cal.mlen z 12 := by
            have a := Cal.st_succ z; have b := Cal.bef_12 z
            have c : Cal.mlen z 12 = 31 := by simp [Cal.mlen]
            omega
          have hc' : n ≤ Cal.st (z + 1) := by omega
          clear hc
          go_wp2_with (go_at_call 61; refine (start_any _ _ (by omega) (by omega)).mono ?_; rintro e w' ⟨rfl, rfl⟩)
          go_loop [3] (fun t => ∃ m : Int, 1 ≤ m ∧ m ≤ 12 ∧ n - Cal.st z ≤ Cal.bef z m + Cal.mlen z m ∧ t = .int .i64 m) (fun t => (intOf t).toNat)
          case atStart => exact ⟨12, by omega, by omega, hs, rfl⟩
          case round =>
            obtain ⟨m, hm1, hm2, hm3, rfl⟩ := hrel
            clear hs
            have b3 := Cal.bef_bd z m hm1 hm2
            by_cases hc : n - Cal.st z ≤ Cal.bef z m
            · have hm4 : 1 < m := by
                by_cases e : m = 1
                · subst e; rw [Cal.bef_1] at hc; omega
                · omega
              have H5 := Lib.hid (show n - Cal.st z ≤ Cal.bef z (m - 1) + Cal.mlen z (m - 1) by
                have a := Cal.bef_succ z (m - 1) (by omega) (by omega)
                rw [show m - 1 + 1 = m by omega] at a; omega)
              clear hm3
              go_wp2_with (go_at_call 62; refine (before_any _ _ _ (by omega) (by omega) (by omega) (by omega)).mono ?_; rintro e w' ⟨rfl, rfl⟩)
              go_round
              case rel => exact ⟨m - 1, by omega, by omega, H5.out, rfl⟩
              case measure => simp [intOf]; omega
            · have hc' : Cal.bef z m < n - Cal.st z := by omega
              clear hc
              have H5 := Lib.hid hm3
              clear hm3
              go_wp2_with (go_at_call 62; refine (before_any _ _ _ (by omega) (by omega) (by omega) (by omega)).mono ?_; rintro e w' ⟨rfl, rfl⟩)
              refine bodyPost_ret (results_tmp4 rfl _ _ _) rfl ?_
              exact dateOf_mk n z m _ hz1 hz2 hm1 hm2 hc' H5.out

set_option maxHeartbeats 400000 in
theorem date_no (n : Int) (w : World) (h : n < 1 ∨ 3652059 < n) :
    Calls Tryz.prog 53 #[.int .i64 n] w fun e w' => e = .returned (.tuple #[.int .i64 0, .int .i64 0, .int .i64 0, .bool false]) ∧ w = w' := by
  by_cases c : n < 1
  · clear h
    go_enter Tryz.func53, Tryz.ntmps53
    go_wp2_with fail
    refine bodyPost_ret (results_tmp4 rfl _ _ _) rfl ?_
    exact ⟨rfl, rfl⟩
  · have c' : 3652059 < n := by omega
    clear h
    go_enter Tryz.func53, Tryz.ntmps53
    go_wp2_with fail
    refine bodyPost_ret (results_tmp4 rfl _ _ _) rfl ?_
    exact ⟨rfl, rfl⟩

set_option maxHeartbeats 400000 in
theorem rdate_no (n : Int) (w : World) (h : n < 1 ∨ 3652059 < n) :
    Calls Tryz.prog 85 #[.int .i64 n] w fun e w' => e = .returned (.tuple #[.int .i64 0, .int .i64 0, .int .i64 0, .bool false]) ∧ w = w' := by
  by_cases c : n < 1
  · clear h
    go_enter Tryz.func85, Tryz.ntmps85
    go_wp2_with fail
    refine bodyPost_ret (results_tmp4 rfl _ _ _) rfl ?_
    exact ⟨rfl, rfl⟩
  · have c' : 3652059 < n := by omega
    clear h
    go_enter Tryz.func85, Tryz.ntmps85
    go_wp2_with fail
    refine bodyPost_ret (results_tmp4 rfl _ _ _) rfl ?_
    exact ⟨rfl, rfl⟩

theorem num_first (y m : Int) : Cal.num y m 1 = Cal.st y + Cal.bef y m + 1 := rfl
theorem ok_first (y m : Int) (h1 : 1 ≤ y) (h2 : y ≤ 9999) (h3 : 1 ≤ m) (h4 : m ≤ 12) : Cal.ok y m 1 = true := by
  rw [Cal.ok_iff]; have := Cal.mlen_bd y m; omega
theorem not_ok_year (y m d : Int) (h : 9999 < y) : Cal.ok y m d = false := by simp [Cal.ok]; omega

theorem rdateOf_mk (n y m : Int) (w : World) (h1 : 1 ≤ y) (h2 : y ≤ 9999) (h3 : 1 ≤ m) (h4 : m ≤ 12) (a : Cal.num y m 1 ≤ n) (b : n - Cal.st y ≤ Cal.bef y m + Cal.mlen y m) :
    DateOf n w (.returned (.tuple #[.int .i64 y, .int .i64 m, .int .i64 (n - Cal.num y m 1 + 1), .bool true])) w :=
  ⟨y, m, n - Cal.num y m 1 + 1, by rw [num_first] at *; rw [Cal.ok_iff]; omega, by rw [num_first] at *; unfold Cal.num; omega, rfl, rfl⟩

set_option maxHeartbeats 1000000 in
theorem rdate_yes (n : Int) (w : World) (h1 : 1 ≤ n) (h2 : n ≤ 3652059) :
    Calls Tryz.prog 85 #[.int .i64 n] w (DateOf n w) := by
  have g : Cal.st ((n - 1) / 366 + 1) < n := by unfold Cal.st; omega
  have g1 : (n - 1) / 366 + 1 ≤ 9999 := by omega
  go_enter Tryz.func85, Tryz.ntmps85
  go_wp2_with fail
  go_loop [6, 7, 8] (fun t _ _ => ∃ y : Int, 1 ≤ y ∧ y ≤ 9999 ∧ Cal.st y < n ∧ t = .int .i64 y) (fun t _ _ => (10000 - intOf t).toNat)
  case atStart => exact ⟨_, by omega, by omega, g, rfl⟩
  case round =>
    obtain ⟨y, hy1, hy2, hy3, rfl⟩ := hrel
    clear g g1
    have b1 := Cal.st_bd y hy1 (by omega)
    have b2 := Cal.st_bd (y + 1) (by omega) (by omega)
    by_cases hc : y < 9999 ∧ Cal.st (y + 1) < n
    · obtain ⟨hc1, hc2⟩ := hc
      have hk := ok_first (y + 1) 1 (by omega) (by omega) (by omega) (by omega)
      have hn : Cal.num (y + 1) 1 1 ≤ n := by rw [num_first, Cal.bef_1]; omega
      have H := Lib.hid hk; clear hk
      go_wp2_with (go_at_call 51; refine (rday_yes _ _ _ _ H.out).mono ?_; rintro e w' ⟨rfl, rfl⟩)
      go_round
      case rel => exact ⟨y + 1, by omega, by omega, hc2, rfl⟩
      case measure => simp [intOf]; omega
    · have hs : n - Cal.st y ≤ Cal.bef y 12 + Cal.mlen y 12 := by
        have a := Cal.st_succ y; have b := Cal.bef_12 y
        have c : Cal.mlen y 12 = 31 := by simp [Cal.mlen]
        by_cases e : y = 9999
        · subst e; simp [Cal.st] at *; omega
        · omega
      have Hf := Lib.hid (ok_first y 12 (by omega) (by omega) (by omega) (by omega))
      have b3 := Cal.bef_bd y 12 (by omega) (by omega)
      by_cases e : y < 9999
      · have hn : n < Cal.num (y + 1) 1 1 := by rw [num_first, Cal.bef_1]; omega
        have H := Lib.hid (ok_first (y + 1) 1 (by omega) (by omega) (by omega) (by omega))
        clear hc
        go_wp2_with (go_at_call 51; first | ((with_reducible refine (rday_yes _ _ _ _ H.out).mono ?_); rintro e w' ⟨rfl, rfl⟩) | ((with_reducible refine (rday_yes _ _ _ _ Hf.out).mono ?_); rintro e w' ⟨rfl, rfl⟩))
        go_loop [9, 10] (fun t f => ∃ m : Int, 1 ≤ m ∧ m ≤ 12 ∧ n - Cal.st y ≤ Cal.bef y m + Cal.mlen y m ∧ t = .int .i64 m ∧ f = .int .i64 (Cal.num y m 1)) (fun t _ => (intOf t).toNat)
        case atStart => exact ⟨12, by omega, by omega, hs, rfl, rfl⟩
        case round =>
          obtain ⟨m, hm1, hm2, hm3, rfl, rfl⟩ := hrel
          clear hs hn H Hf b2 b3
          have b3 := Cal.bef_bd y m hm1 hm2
          by_cases hc : n < Cal.num y m 1
          · have hm4 : 1 < m := by
              by_cases e : m = 1
              · subst e; rw [num_first, Cal.bef_1] at hc; omega
              · omega
            have H5 := Lib.hid (show n - Cal.st y ≤ Cal.bef y (m - 1) + Cal.mlen y (m - 1) by
              have a := Cal.bef_succ y (m - 1) (by omega) (by omega)
              rw [show m - 1 + 1 = m by omega] at a; rw [num_first] at hc; omega)
            have Hf := Lib.hid (ok_first y (m - 1) (by omega) (by omega) (by omega) (by omega))
            clear hm3
            go_wp2_with (go_at_call 51; refine (rday_yes _ _ _ _ Hf.out).mono ?_; rintro e w' ⟨rfl, rfl⟩)
            go_round
            case rel => exact ⟨m - 1, by omega, by omega, H5.out, rfl, rfl⟩
            case measure => simp [intOf]; omega
          · have hc' : Cal.num y m 1 ≤ n := by omega
            have hp : 1 ≤ Cal.num y m 1 := by rw [num_first]; omega
            clear hc
            have H5 := Lib.hid hm3
            clear hm3
            go_wp2_with fail
            refine bodyPost_ret (results_tmp4 rfl _ _ _) rfl ?_
            exact rdateOf_mk n y m _ hy1 hy2 hm1 hm2 hc' H5.out
      · have H := Lib.hid (not_ok_year (y + 1) 1 1 (by omega))
        clear hc e
        go_wp2_with (go_at_call 51; first | ((with_reducible refine (rday_no _ _ _ _ H.out).mono ?_); rintro e w' ⟨rfl, rfl⟩) | ((with_reducible refine (rday_yes _ _ _ _ Hf.out).mono ?_); rintro e w' ⟨rfl, rfl⟩))
        go_loop [9, 10] (fun t f => ∃ m : Int, 1 ≤ m ∧ m ≤ 12 ∧ n - Cal.st y ≤ Cal.bef y m + Cal.mlen y m ∧ t = .int .i64 m ∧ f = .int .i64 (Cal.num y m 1)) (fun t _ => (intOf t).toNat)
        case atStart => exact ⟨12, by omega, by omega, hs, rfl, rfl⟩
        case round =>
          obtain ⟨m, hm1, hm2, hm3, rfl, rfl⟩ := hrel
          clear hs H Hf b2 b3
          have b3 := Cal.bef_bd y m hm1 hm2
          by_cases hc : n < Cal.num y m 1
          · have hm4 : 1 < m := by
              by_cases e : m = 1
              · subst e; rw [num_first, Cal.bef_1] at hc; omega
              · omega
            have H5 := Lib.hid (show n - Cal.st y ≤ Cal.bef y (m - 1) + Cal.mlen y (m - 1) by
              have a := Cal.bef_succ y (m - 1) (by omega) (by omega)
              rw [show m - 1 + 1 = m by omega] at a; rw [num_first] at hc; omega)
            have Hf := Lib.hid (ok_first y (m - 1) (by omega) (by omega) (by omega) (by omega))
            clear hm3
            go_wp2_with (go_at_call 51; refine (rday_yes _ _ _ _ Hf.out).mono ?_; rintro e w' ⟨rfl, rfl⟩)
            go_round
            case rel => exact ⟨m - 1, by omega, by omega, H5.out, rfl, rfl⟩
            case measure => simp [intOf]; omega
          · have hc' : Cal.num y m 1 ≤ n := by omega
            have hp : 1 ≤ Cal.num y m 1 := by rw [num_first]; omega
            clear hc
            have H5 := Lib.hid hm3
            clear hm3
            go_wp2_with fail
            refine bodyPost_ret (results_tmp4 rfl _ _ _) rfl ?_
            exact rdateOf_mk n y m _ hy1 hy2 hm1 hm2 hc' H5.out
end Go.Proofs.YtnpkcobapckhdaaGreatDoor
