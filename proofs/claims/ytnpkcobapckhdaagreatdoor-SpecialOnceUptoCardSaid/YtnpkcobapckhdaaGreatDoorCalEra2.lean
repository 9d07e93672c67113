/-
  henkanref04.Era by its contract, at every day number. No condition.
-/
import Derived.Test.YtnpkcobapckhdaaGreatDoorCalEra
namespace Go.Proofs.YtnpkcobapckhdaaGreatDoor
open Go.RowKit
theorem rday_quiet (y m d : Int) (w : World) (q : Nat) (h : Cal.ok y m d = true) :
    Calls Tryz.prog 51 #[.int .i64 y, .int .i64 m, .int .i64 d] (w.drewN q) fun e w' => e = .returned (.tuple #[.int .i64 (Cal.num y m d), .bool true]) ∧ ∃ r, w' = w.drewN r :=
  Calls.quiet_of_same ((rday_yes y m d _ h).mono fun _ _ ⟨h1, h2⟩ => ⟨h1, h2.symm⟩)
def rw0 (w : World) : World := (((w.alloc (.cells #[.string ⟨meiji⟩, .string ⟨taisho⟩, .string ⟨showa⟩, .string ⟨heisei⟩, .string ⟨reiwa⟩] 9)).alloc (.cells #[.int .i64 1868, .int .i64 1912, .int .i64 1926, .int .i64 1989, .int .i64 2019] 3)).alloc (.cells #[.int .i64 1, .int .i64 7, .int .i64 12, .int .i64 1, .int .i64 5] 3)).alloc (.cells #[.int .i64 25, .int .i64 30, .int .i64 25, .int .i64 8, .int .i64 1] 3)
theorem below_rw0 (w : World) : Below w.heap.size w (rw0 w) :=
  (((((Below.refl _ _).alloc (Nat.le_refl _) _).alloc (by simp) _).alloc (by simp; omega) _).alloc (by simp; omega) _)

theorem notBeforeN1 (n : Int) (HN : Hid (notBefore n 0)) (T : Hid (n < Cal.num 2019 5 1)) : notBefore n 1 := by
  have a := T.out
  have b := HN.out
  rw [era_days.1] at a
  unfold notBefore at *
  omega
theorem notBeforeN2 (n : Int) (HN : Hid (notBefore n 1)) (T : Hid (n < Cal.num 1989 1 8)) : notBefore n 2 := by
  have a := T.out
  have b := HN.out
  rw [era_days.2.1] at a
  unfold notBefore at *
  omega
theorem notBeforeN3 (n : Int) (HN : Hid (notBefore n 2)) (T : Hid (n < Cal.num 1926 12 25)) : notBefore n 3 := by
  have a := T.out
  have b := HN.out
  rw [era_days.2.2.1] at a
  unfold notBefore at *
  omega
theorem notBeforeN4 (n : Int) (HN : Hid (notBefore n 3)) (T : Hid (n < Cal.num 1912 7 30)) : notBefore n 4 := by
  have a := T.out
  have b := HN.out
  rw [era_days.2.2.2.1] at a
  unfold notBefore at *
  omega
theorem notBeforeN5 (n : Int) (HN : Hid (notBefore n 4)) (T : Hid (n < Cal.num 1868 1 25)) : notBefore n 5 := by
  have a := T.out
  have b := HN.out
  rw [era_days.2.2.2.2] at a
  unfold notBefore at *
  omega

def Tab (w wr : World) : Prop := ∀ a, wr.cell? a = (rw0 w).cell? a
theorem tab0 (w wr : World) (h : Tab w wr) : wr.cell? ⟨w.heap.size, 0, none⟩ = some (.string ⟨meiji⟩) ∧ wr.cell? ⟨w.heap.size + 1, 0, none⟩ = some (.int .i64 1868) ∧ wr.cell? ⟨w.heap.size + 1 + 1, 0, none⟩ = some (.int .i64 1) ∧ wr.cell? ⟨w.heap.size + 1 + 1 + 1, 0, none⟩ = some (.int .i64 25) := by
  unfold Tab rw0 at h
  refine ⟨?_, ?_, ?_, ?_⟩ <;> rw [h] <;> go_simp
theorem tab1 (w wr : World) (h : Tab w wr) : wr.cell? ⟨w.heap.size, 1, none⟩ = some (.string ⟨taisho⟩) ∧ wr.cell? ⟨w.heap.size + 1, 1, none⟩ = some (.int .i64 1912) ∧ wr.cell? ⟨w.heap.size + 1 + 1, 1, none⟩ = some (.int .i64 7) ∧ wr.cell? ⟨w.heap.size + 1 + 1 + 1, 1, none⟩ = some (.int .i64 30) := by
  unfold Tab rw0 at h
  refine ⟨?_, ?_, ?_, ?_⟩ <;> rw [h] <;> go_simp
theorem tab2 (w wr : World) (h : Tab w wr) : wr.cell? ⟨w.heap.size, 2, none⟩ = some (.string ⟨showa⟩) ∧ wr.cell? ⟨w.heap.size + 1, 2, none⟩ = some (.int .i64 1926) ∧ wr.cell? ⟨w.heap.size + 1 + 1, 2, none⟩ = some (.int .i64 12) ∧ wr.cell? ⟨w.heap.size + 1 + 1 + 1, 2, none⟩ = some (.int .i64 25) := by
  unfold Tab rw0 at h
  refine ⟨?_, ?_, ?_, ?_⟩ <;> rw [h] <;> go_simp
theorem tab3 (w wr : World) (h : Tab w wr) : wr.cell? ⟨w.heap.size, 3, none⟩ = some (.string ⟨heisei⟩) ∧ wr.cell? ⟨w.heap.size + 1, 3, none⟩ = some (.int .i64 1989) ∧ wr.cell? ⟨w.heap.size + 1 + 1, 3, none⟩ = some (.int .i64 1) ∧ wr.cell? ⟨w.heap.size + 1 + 1 + 1, 3, none⟩ = some (.int .i64 8) := by
  unfold Tab rw0 at h
  refine ⟨?_, ?_, ?_, ?_⟩ <;> rw [h] <;> go_simp
theorem tab4 (w wr : World) (h : Tab w wr) : wr.cell? ⟨w.heap.size, 4, none⟩ = some (.string ⟨reiwa⟩) ∧ wr.cell? ⟨w.heap.size + 1, 4, none⟩ = some (.int .i64 2019) ∧ wr.cell? ⟨w.heap.size + 1 + 1, 4, none⟩ = some (.int .i64 5) ∧ wr.cell? ⟨w.heap.size + 1 + 1 + 1, 4, none⟩ = some (.int .i64 1) := by
  unfold Tab rw0 at h
  refine ⟨?_, ?_, ?_, ?_⟩ <;> rw [h] <;> go_simp

theorem tab_drew (w wr : World) (h : Tab w wr) (q : Nat) : Tab w (wr.drewN q) := fun a => h a
set_option maxRecDepth 100000 in
set_option maxHeartbeats 1000000 in
theorem rera_any (n : Int) (w : World) (h2 : n ≤ 3652059) :
    Calls Tryz.prog 88 #[.int .i64 n] w (EraOf n w) := by
  have hd0 : decide (3652059 < n) = false := by simp; omega
  go_enter Tryz.func88, Tryz.ntmps88
  go_wp2_with fail
  go_loopw [9, 10, 11, 12, 13, 14, 15] (fun i _ _ _ _ _ _ wr => ∃ (j : Int), -1 ≤ j ∧ j ≤ 4 ∧ i = .int .i64 j ∧ notBefore n (4 - j).toNat ∧ Tab w wr ∧ Below w.heap.size w wr) (fun i _ _ _ _ _ _ _ => (intOf i + 1).toNat)
  case atStart => exact ⟨4, by omega, by omega, rfl, by simp [notBefore], fun _ => rfl, below_rw0 w⟩
  case round =>
    obtain ⟨j, hj1, hj2, rfl, hn, ht, hb⟩ := hrel
    have HN := Lib.hid hn
    have HT := Lib.hid ht
    have HB := Lib.hid hb
    clear hn ht hb
    obtain rfl | rfl | rfl | rfl | rfl | rfl : j = 4 ∨ j = 3 ∨ j = 2 ∨ j = 1 ∨ j = 0 ∨ j = -1 := by omega
    · obtain ⟨c1, c2, c3, c4⟩ := tab4 w wr HT.out
      have HK := Lib.hid (show Cal.ok 2019 5 1 = true by decide)
      by_cases hc : Cal.num 2019 5 1 ≤ n
      · have hc' : decide (Cal.num 2019 5 1 ≤ n) = true := by simpa using hc
        have hn1 : 1 ≤ n := by have := Cal.num_bd _ _ _ HK.out; omega
        have HC := Lib.hid hc
        clear hc
        go_wp2_with fail
        go_quiet ((go_at_call 51; exact rday_quiet 2019 5 1 _ _ HK.out))
        go_wp2_with fail
        refine (rdate_yes _ _ (by omega) h2).mono ?_
        rintro e w' ⟨y, m, d, hok, hnum, rfl, rfl⟩
        have H := Lib.hid hok
        have N := Lib.hid hnum
        rw [Cal.ok_iff] at hok
        obtain ⟨y1, y2, _⟩ := hok
        clear hnum
        go_wp2_with fail
        go_quiet (fail)
        go_wp2_with fail
        go_ret3
        exact eraOf0 n y m d w _ H N HN (Lib.hid (by rw [N.out]; exact HC.out)) (below_drewN (below_drewN HB.out _) _)
      · have hc' : decide (Cal.num 2019 5 1 ≤ n) = false := by simpa using hc
        have HC := Lib.hid (show n < Cal.num 2019 5 1 by omega)
        clear hc
        go_wp2_with fail
        go_quiet ((go_at_call 51; exact rday_quiet 2019 5 1 _ _ HK.out))
        go_wp2_with fail
        go_roundw
        case rel => exact ⟨3, by omega, by omega, rfl, notBeforeN1 n HN HC, tab_drew _ _ HT.out _, below_drewN HB.out _⟩
        case measure => simp [intOf]
    · obtain ⟨c1, c2, c3, c4⟩ := tab3 w wr HT.out
      have HK := Lib.hid (show Cal.ok 1989 1 8 = true by decide)
      by_cases hc : Cal.num 1989 1 8 ≤ n
      · have hc' : decide (Cal.num 1989 1 8 ≤ n) = true := by simpa using hc
        have hn1 : 1 ≤ n := by have := Cal.num_bd _ _ _ HK.out; omega
        have HC := Lib.hid hc
        clear hc
        go_wp2_with fail
        go_quiet ((go_at_call 51; exact rday_quiet 1989 1 8 _ _ HK.out))
        go_wp2_with fail
        refine (rdate_yes _ _ (by omega) h2).mono ?_
        rintro e w' ⟨y, m, d, hok, hnum, rfl, rfl⟩
        have H := Lib.hid hok
        have N := Lib.hid hnum
        rw [Cal.ok_iff] at hok
        obtain ⟨y1, y2, _⟩ := hok
        clear hnum
        go_wp2_with fail
        go_quiet (fail)
        go_wp2_with fail
        go_ret3
        exact eraOf1 n y m d w _ H N HN (Lib.hid (by rw [N.out]; exact HC.out)) (below_drewN (below_drewN HB.out _) _)
      · have hc' : decide (Cal.num 1989 1 8 ≤ n) = false := by simpa using hc
        have HC := Lib.hid (show n < Cal.num 1989 1 8 by omega)
        clear hc
        go_wp2_with fail
        go_quiet ((go_at_call 51; exact rday_quiet 1989 1 8 _ _ HK.out))
        go_wp2_with fail
        go_roundw
        case rel => exact ⟨2, by omega, by omega, rfl, notBeforeN2 n HN HC, tab_drew _ _ HT.out _, below_drewN HB.out _⟩
        case measure => simp [intOf]
    · obtain ⟨c1, c2, c3, c4⟩ := tab2 w wr HT.out
      have HK := Lib.hid (show Cal.ok 1926 12 25 = true by decide)
      by_cases hc : Cal.num 1926 12 25 ≤ n
      · have hc' : decide (Cal.num 1926 12 25 ≤ n) = true := by simpa using hc
        have hn1 : 1 ≤ n := by have := Cal.num_bd _ _ _ HK.out; omega
        have HC := Lib.hid hc
        clear hc
        go_wp2_with fail
        go_quiet ((go_at_call 51; exact rday_quiet 1926 12 25 _ _ HK.out))
        go_wp2_with fail
        refine (rdate_yes _ _ (by omega) h2).mono ?_
        rintro e w' ⟨y, m, d, hok, hnum, rfl, rfl⟩
        have H := Lib.hid hok
        have N := Lib.hid hnum
        rw [Cal.ok_iff] at hok
        obtain ⟨y1, y2, _⟩ := hok
        clear hnum
        go_wp2_with fail
        go_quiet (fail)
        go_wp2_with fail
        go_ret3
        exact eraOf2 n y m d w _ H N HN (Lib.hid (by rw [N.out]; exact HC.out)) (below_drewN (below_drewN HB.out _) _)
      · have hc' : decide (Cal.num 1926 12 25 ≤ n) = false := by simpa using hc
        have HC := Lib.hid (show n < Cal.num 1926 12 25 by omega)
        clear hc
        go_wp2_with fail
        go_quiet ((go_at_call 51; exact rday_quiet 1926 12 25 _ _ HK.out))
        go_wp2_with fail
        go_roundw
        case rel => exact ⟨1, by omega, by omega, rfl, notBeforeN3 n HN HC, tab_drew _ _ HT.out _, below_drewN HB.out _⟩
        case measure => simp [intOf]
    · obtain ⟨c1, c2, c3, c4⟩ := tab1 w wr HT.out
      have HK := Lib.hid (show Cal.ok 1912 7 30 = true by decide)
      by_cases hc : Cal.num 1912 7 30 ≤ n
      · have hc' : decide (Cal.num 1912 7 30 ≤ n) = true := by simpa using hc
        have hn1 : 1 ≤ n := by have := Cal.num_bd _ _ _ HK.out; omega
        have HC := Lib.hid hc
        clear hc
        go_wp2_with fail
        go_quiet ((go_at_call 51; exact rday_quiet 1912 7 30 _ _ HK.out))
        go_wp2_with fail
        refine (rdate_yes _ _ (by omega) h2).mono ?_
        rintro e w' ⟨y, m, d, hok, hnum, rfl, rfl⟩
        have H := Lib.hid hok
        have N := Lib.hid hnum
        rw [Cal.ok_iff] at hok
        obtain ⟨y1, y2, _⟩ := hok
        clear hnum
        go_wp2_with fail
        go_quiet (fail)
        go_wp2_with fail
        go_ret3
        exact eraOf3 n y m d w _ H N HN (Lib.hid (by rw [N.out]; exact HC.out)) (below_drewN (below_drewN HB.out _) _)
      · have hc' : decide (Cal.num 1912 7 30 ≤ n) = false := by simpa using hc
        have HC := Lib.hid (show n < Cal.num 1912 7 30 by omega)
        clear hc
        go_wp2_with fail
        go_quiet ((go_at_call 51; exact rday_quiet 1912 7 30 _ _ HK.out))
        go_wp2_with fail
        go_roundw
        case rel => exact ⟨0, by omega, by omega, rfl, notBeforeN4 n HN HC, tab_drew _ _ HT.out _, below_drewN HB.out _⟩
        case measure => simp [intOf]
    · obtain ⟨c1, c2, c3, c4⟩ := tab0 w wr HT.out
      have HK := Lib.hid (show Cal.ok 1868 1 25 = true by decide)
      by_cases hc : Cal.num 1868 1 25 ≤ n
      · have hc' : decide (Cal.num 1868 1 25 ≤ n) = true := by simpa using hc
        have hn1 : 1 ≤ n := by have := Cal.num_bd _ _ _ HK.out; omega
        have HC := Lib.hid hc
        clear hc
        go_wp2_with fail
        go_quiet ((go_at_call 51; exact rday_quiet 1868 1 25 _ _ HK.out))
        go_wp2_with fail
        refine (rdate_yes _ _ (by omega) h2).mono ?_
        rintro e w' ⟨y, m, d, hok, hnum, rfl, rfl⟩
        have H := Lib.hid hok
        have N := Lib.hid hnum
        rw [Cal.ok_iff] at hok
        obtain ⟨y1, y2, _⟩ := hok
        clear hnum
        go_wp2_with fail
        go_quiet (fail)
        go_wp2_with fail
        go_ret3
        exact eraOf4 n y m d w _ H N HN (Lib.hid (by rw [N.out]; exact HC.out)) (below_drewN (below_drewN HB.out _) _)
      · have hc' : decide (Cal.num 1868 1 25 ≤ n) = false := by simpa using hc
        have HC := Lib.hid (show n < Cal.num 1868 1 25 by omega)
        clear hc
        go_wp2_with fail
        go_quiet ((go_at_call 51; exact rday_quiet 1868 1 25 _ _ HK.out))
        go_wp2_with fail
        go_roundw
        case rel => exact ⟨-1, by omega, by omega, rfl, notBeforeN5 n HN HC, tab_drew _ _ HT.out _, below_drewN HB.out _⟩
        case measure => simp [intOf]
    · go_wp2_with fail
      go_ret3
      exact eraOf5 n w _ HN HB.out

set_option maxHeartbeats 400000 in
theorem rera_no (n : Int) (w : World) (h : 3652059 < n) :
    Calls Tryz.prog 88 #[.int .i64 n] w fun e w' => e = .returned (.tuple #[.string ⟨#[]⟩, .int .i64 0, .bool false]) ∧ Below w.heap.size w w' := by
  go_enter Tryz.func88, Tryz.ntmps88
  go_wp2_with fail
  go_ret3
  exact ⟨rfl, Below.refl _ _⟩
theorem eraRes_form (n y : Int) : ∃ s k b, eraRes n y = .tuple #[.string s, .int .i64 k, .bool b] := by
  unfold eraRes
  split
  · exact ⟨_, _, _, rfl⟩
  split
  · exact ⟨_, _, _, rfl⟩
  split
  · exact ⟨_, _, _, rfl⟩
  split
  · exact ⟨_, _, _, rfl⟩
  split <;> exact ⟨_, _, _, rfl⟩
end Go.Proofs.YtnpkcobapckhdaaGreatDoor
