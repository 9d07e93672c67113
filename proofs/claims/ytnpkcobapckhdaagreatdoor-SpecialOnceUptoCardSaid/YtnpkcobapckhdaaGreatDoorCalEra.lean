/-
  The eras: caldate.eras and caldate.Era by their contracts, at every day number. No condition.
-/
import Derived.Test.YtnpkcobapckhdaaGreatDoorCalNames
import Derived.BigQuiet
import Derived.Deep.QuietTactic
namespace Go.Proofs.YtnpkcobapckhdaaGreatDoor
open Go.RowKit
example : Cal.num 2019 5 1 = 737180 := by decide
theorem num_lex (y m d y' m' d' : Int) (h : Cal.ok y m d = true) (h' : Cal.ok y' m' d' = true) (l : y < y' ∨ y = y' ∧ (m < m' ∨ m = m' ∧ d < d')) : Cal.num y m d < Cal.num y' m' d' := by
  have a := Cal.num_year y m d h
  have a' := Cal.num_year y' m' d' h'
  rw [Cal.ok_iff] at h h'
  rcases l with l | ⟨rfl, l | ⟨rfl, l⟩⟩
  · have := Cal.st_mono (y + 1) y' (by omega); omega
  · have := Cal.bef_lt y m m' (by omega) l (by omega); unfold Cal.num; omega
  · unfold Cal.num; omega

/-- the test of an era as the program takes it, and what it says of the day's number -/
theorem era_test (ey em ed y m d : Int) (he : Cal.ok ey em ed = true) (h : Cal.ok y m d = true) :
    (Cal.num ey em ed ≤ Cal.num y m d ∧ (decide (ey < y) = true ∨ (decide (ey < y) = false ∧ (y == ey) = true ∧ decide (em < m) = true) ∨ (decide (ey < y) = false ∧ (y == ey) = true ∧ decide (em < m) = false ∧ (m == em) = true ∧ decide (ed ≤ d) = true))) ∨
    (Cal.num y m d < Cal.num ey em ed ∧ ((decide (ey < y) = false ∧ (y == ey) = false) ∨ (decide (ey < y) = false ∧ (y == ey) = true ∧ decide (em < m) = false ∧ (m == em) = false) ∨ (decide (ey < y) = false ∧ (y == ey) = true ∧ decide (em < m) = false ∧ (m == em) = true ∧ decide (ed ≤ d) = false))) := by
  by_cases c1 : ey < y
  · left; exact ⟨Int.le_of_lt (num_lex _ _ _ _ _ _ he h (by omega)), by simp [c1]⟩
  by_cases c2 : y = ey
  · subst c2
    by_cases c3 : em < m
    · left; exact ⟨Int.le_of_lt (num_lex _ _ _ _ _ _ he h (by omega)), by simp [c3]⟩
    by_cases c4 : m = em
    · subst c4
      by_cases c5 : ed ≤ d
      · left; exact ⟨by unfold Cal.num; omega, by simp [c5]⟩
      · right; exact ⟨by unfold Cal.num; omega, by simp [c5]⟩
    · right; exact ⟨num_lex _ _ _ _ _ _ h he (by omega), by simp [c3, c4]⟩
  · right; exact ⟨num_lex _ _ _ _ _ _ h he (by omega), by simp [c1, c2]⟩


def eraV (name : Array UInt8) (y m d : Int) : Value := .agg #[.string ⟨name⟩, .int .i64 y, .int .i64 m, .int .i64 d]
def reiwa : Array UInt8 := #[228, 187, 164, 229, 146, 140]
def heisei : Array UInt8 := #[229, 185, 179, 230, 136, 144]
def showa : Array UInt8 := #[230, 152, 173, 229, 146, 140]
def taisho : Array UInt8 := #[229, 164, 167, 230, 173, 163]
def meiji : Array UInt8 := #[230, 152, 142, 230, 178, 187]
def erasC : Array Value := #[.string ⟨reiwa⟩, .int .i64 2019, .int .i64 5, .int .i64 1, .string ⟨heisei⟩, .int .i64 1989, .int .i64 1, .int .i64 8, .string ⟨showa⟩, .int .i64 1926, .int .i64 12, .int .i64 25, .string ⟨taisho⟩, .int .i64 1912, .int .i64 7, .int .i64 30, .string ⟨meiji⟩, .int .i64 1868, .int .i64 1, .int .i64 25]

theorem setRow_get (w : World) (g : Nat) (cs : Array Value) (k : Nat) (h : k ≠ g) : (w.setRow g cs).heap[k]? = w.heap[k]? := by
  simp only [World.setRow, Array.getElem?_modify]
  rw [if_neg (fun e => h e.symm)]
theorem below_setRow {B : Nat} {a w : World} (h : Below B a w) {g : Nat} (hg : B ≤ g) (cs : Array Value) : Below B a (w.setRow g cs) :=
  h.trans ⟨rfl, rfl, rfl, by simp [World.setRow], fun k hk => setRow_get _ _ _ _ (by omega)⟩
def zeros39 : Array Value := #[.string ⟨#[]⟩, .int .i64 0, .int .i64 0, .int .i64 0, .string ⟨#[]⟩, .int .i64 0, .int .i64 0, .int .i64 0, .string ⟨#[]⟩, .int .i64 0, .int .i64 0, .int .i64 0, .string ⟨#[]⟩, .int .i64 0, .int .i64 0, .int .i64 0, .string ⟨#[]⟩, .int .i64 0, .int .i64 0, .int .i64 0]
set_option maxHeartbeats 400000 in
theorem eras_any (w : World) :
    Calls Tryz.prog 46 #[] w fun e w' => e = .returned (.agg erasC) ∧ Below w.heap.size w w' := by
  go_enter Tryz.func46, Tryz.ntmps46
  go_wp2_with (refine wpList_store_row rfl 65 (.tmp 0) (.tmp 6) rfl w.heap.size erasC rfl rfl 65 zeros39 (MapKept.heap_alloc w _).1 (by kernel_rfl) rfl (by kernel_rfl) ?_)
  exact bodyPost_ret (v := .agg erasC) (results_cell_row rfl _ _ w.heap.size 65 erasC (0, 0) _ rfl (setRow_heap _ _ zeros39 _ _ _ (MapKept.heap_alloc w _).1) Tryz.underlying65 rfl (by kernel_rfl)) rfl ⟨rfl, below_setRow ((Below.refl _ _).alloc (Nat.le_refl _) _) (Nat.le_refl _) _⟩

/-- the era's result for day n in year y -/
def eraRes (n y : Int) : Value :=
  if 737180 ≤ n then .tuple #[.string ⟨reiwa⟩, .int .i64 (y - 2019 + 1), .bool true]
  else if 726110 ≤ n then .tuple #[.string ⟨heisei⟩, .int .i64 (y - 1989 + 1), .bool true]
  else if 703450 ≤ n then .tuple #[.string ⟨showa⟩, .int .i64 (y - 1926 + 1), .bool true]
  else if 698189 ≤ n then .tuple #[.string ⟨taisho⟩, .int .i64 (y - 1912 + 1), .bool true]
  else if 681932 ≤ n then .tuple #[.string ⟨meiji⟩, .int .i64 (y - 1868 + 1), .bool true]
  else .tuple #[.string ⟨#[]⟩, .int .i64 0, .bool false]
theorem era_days : Cal.num 2019 5 1 = 737180 ∧ Cal.num 1989 1 8 = 726110 ∧ Cal.num 1926 12 25 = 703450 ∧ Cal.num 1912 7 30 = 698189 ∧ Cal.num 1868 1 25 = 681932 := by decide
theorem era_ok : Cal.ok 2019 5 1 = true ∧ Cal.ok 1989 1 8 = true ∧ Cal.ok 1926 12 25 = true ∧ Cal.ok 1912 7 30 = true ∧ Cal.ok 1868 1 25 = true := by decide

/-- what an era function returns at a day up to the last -/
def EraOf (n : Int) (w : World) (e : Ending) (w' : World) : Prop :=
  (n < 681932 ∧ e = .returned (.tuple #[.string ⟨#[]⟩, .int .i64 0, .bool false]) ∧ Below w.heap.size w w') ∨
  (681932 ≤ n ∧ ∃ y m d : Int, Cal.ok y m d = true ∧ Cal.num y m d = n ∧ e = .returned (eraRes n y) ∧ Below w.heap.size w w')
/-- the day lies before the first k eras -/
def notBefore (n : Int) (k : Nat) : Prop := (1 ≤ k → n < 737180) ∧ (2 ≤ k → n < 726110) ∧ (3 ≤ k → n < 703450) ∧ (4 ≤ k → n < 698189) ∧ (5 ≤ k → n < 681932)
theorem idx0 (w : World) : (Instr.index 65 (.agg #[.string ⟨reiwa⟩, .int .i64 2019, .int .i64 5, .int .i64 1, .string ⟨heisei⟩, .int .i64 1989, .int .i64 1, .int .i64 8, .string ⟨showa⟩, .int .i64 1926, .int .i64 12, .int .i64 25, .string ⟨taisho⟩, .int .i64 1912, .int .i64 7, .int .i64 30, .string ⟨meiji⟩, .int .i64 1868, .int .i64 1, .int .i64 25]) (.int .i64 0)).run Tryz.prog w = .ok (.agg #[.string ⟨reiwa⟩, .int .i64 2019, .int .i64 5, .int .i64 1]) w := by kernel_rfl
theorem idx1 (w : World) : (Instr.index 65 (.agg #[.string ⟨reiwa⟩, .int .i64 2019, .int .i64 5, .int .i64 1, .string ⟨heisei⟩, .int .i64 1989, .int .i64 1, .int .i64 8, .string ⟨showa⟩, .int .i64 1926, .int .i64 12, .int .i64 25, .string ⟨taisho⟩, .int .i64 1912, .int .i64 7, .int .i64 30, .string ⟨meiji⟩, .int .i64 1868, .int .i64 1, .int .i64 25]) (.int .i64 1)).run Tryz.prog w = .ok (.agg #[.string ⟨heisei⟩, .int .i64 1989, .int .i64 1, .int .i64 8]) w := by kernel_rfl
theorem idx2 (w : World) : (Instr.index 65 (.agg #[.string ⟨reiwa⟩, .int .i64 2019, .int .i64 5, .int .i64 1, .string ⟨heisei⟩, .int .i64 1989, .int .i64 1, .int .i64 8, .string ⟨showa⟩, .int .i64 1926, .int .i64 12, .int .i64 25, .string ⟨taisho⟩, .int .i64 1912, .int .i64 7, .int .i64 30, .string ⟨meiji⟩, .int .i64 1868, .int .i64 1, .int .i64 25]) (.int .i64 2)).run Tryz.prog w = .ok (.agg #[.string ⟨showa⟩, .int .i64 1926, .int .i64 12, .int .i64 25]) w := by kernel_rfl
theorem idx3 (w : World) : (Instr.index 65 (.agg #[.string ⟨reiwa⟩, .int .i64 2019, .int .i64 5, .int .i64 1, .string ⟨heisei⟩, .int .i64 1989, .int .i64 1, .int .i64 8, .string ⟨showa⟩, .int .i64 1926, .int .i64 12, .int .i64 25, .string ⟨taisho⟩, .int .i64 1912, .int .i64 7, .int .i64 30, .string ⟨meiji⟩, .int .i64 1868, .int .i64 1, .int .i64 25]) (.int .i64 3)).run Tryz.prog w = .ok (.agg #[.string ⟨taisho⟩, .int .i64 1912, .int .i64 7, .int .i64 30]) w := by kernel_rfl
theorem idx4 (w : World) : (Instr.index 65 (.agg #[.string ⟨reiwa⟩, .int .i64 2019, .int .i64 5, .int .i64 1, .string ⟨heisei⟩, .int .i64 1989, .int .i64 1, .int .i64 8, .string ⟨showa⟩, .int .i64 1926, .int .i64 12, .int .i64 25, .string ⟨taisho⟩, .int .i64 1912, .int .i64 7, .int .i64 30, .string ⟨meiji⟩, .int .i64 1868, .int .i64 1, .int .i64 25]) (.int .i64 4)).run Tryz.prog w = .ok (.agg #[.string ⟨meiji⟩, .int .i64 1868, .int .i64 1, .int .i64 25]) w := by kernel_rfl
/-- the day lies before the first k eras -/
theorem eraOf0 (n y m d : Int) (w w' : World) (H : Hid (Cal.ok y m d = true)) (N : Hid (Cal.num y m d = n)) (HN : Hid (notBefore n 0)) (T : Hid (Cal.num 2019 5 1 ≤ Cal.num y m d)) (HB : Below w.heap.size w w') :
    EraOf n w (.returned (.tuple #[.string ⟨reiwa⟩, .int .i64 (y - 2019 + 1), .bool true])) w' := by
  have a := T.out
  have b := HN.out
  rw [N.out, era_days.1] at a
  unfold notBefore at b
  refine .inr ⟨by omega, y, m, d, H.out, N.out, ?_, HB⟩
  unfold eraRes
  rw [if_pos (by omega)]
theorem eraOf1 (n y m d : Int) (w w' : World) (H : Hid (Cal.ok y m d = true)) (N : Hid (Cal.num y m d = n)) (HN : Hid (notBefore n 1)) (T : Hid (Cal.num 1989 1 8 ≤ Cal.num y m d)) (HB : Below w.heap.size w w') :
    EraOf n w (.returned (.tuple #[.string ⟨heisei⟩, .int .i64 (y - 1989 + 1), .bool true])) w' := by
  have a := T.out
  have b := HN.out
  rw [N.out, era_days.2.1] at a
  unfold notBefore at b
  refine .inr ⟨by omega, y, m, d, H.out, N.out, ?_, HB⟩
  unfold eraRes
  rw [if_neg (by omega)]
  rw [if_pos (by omega)]
theorem eraOf2 (n y m d : Int) (w w' : World) (H : Hid (Cal.ok y m d = true)) (N : Hid (Cal.num y m d = n)) (HN : Hid (notBefore n 2)) (T : Hid (Cal.num 1926 12 25 ≤ Cal.num y m d)) (HB : Below w.heap.size w w') :
    EraOf n w (.returned (.tuple #[.string ⟨showa⟩, .int .i64 (y - 1926 + 1), .bool true])) w' := by
  have a := T.out
  have b := HN.out
  rw [N.out, era_days.2.2.1] at a
  unfold notBefore at b
  refine .inr ⟨by omega, y, m, d, H.out, N.out, ?_, HB⟩
  unfold eraRes
  rw [if_neg (by omega)]
  rw [if_neg (by omega)]
  rw [if_pos (by omega)]
theorem eraOf3 (n y m d : Int) (w w' : World) (H : Hid (Cal.ok y m d = true)) (N : Hid (Cal.num y m d = n)) (HN : Hid (notBefore n 3)) (T : Hid (Cal.num 1912 7 30 ≤ Cal.num y m d)) (HB : Below w.heap.size w w') :
    EraOf n w (.returned (.tuple #[.string ⟨taisho⟩, .int .i64 (y - 1912 + 1), .bool true])) w' := by
  have a := T.out
  have b := HN.out
  rw [N.out, era_days.2.2.2.1] at a
  unfold notBefore at b
  refine .inr ⟨by omega, y, m, d, H.out, N.out, ?_, HB⟩
  unfold eraRes
  rw [if_neg (by omega)]
  rw [if_neg (by omega)]
  rw [if_neg (by omega)]
  rw [if_pos (by omega)]
theorem eraOf4 (n y m d : Int) (w w' : World) (H : Hid (Cal.ok y m d = true)) (N : Hid (Cal.num y m d = n)) (HN : Hid (notBefore n 4)) (T : Hid (Cal.num 1868 1 25 ≤ Cal.num y m d)) (HB : Below w.heap.size w w') :
    EraOf n w (.returned (.tuple #[.string ⟨meiji⟩, .int .i64 (y - 1868 + 1), .bool true])) w' := by
  have a := T.out
  have b := HN.out
  rw [N.out, era_days.2.2.2.2] at a
  unfold notBefore at b
  refine .inr ⟨by omega, y, m, d, H.out, N.out, ?_, HB⟩
  unfold eraRes
  rw [if_neg (by omega)]
  rw [if_neg (by omega)]
  rw [if_neg (by omega)]
  rw [if_neg (by omega)]
  rw [if_pos (by omega)]
theorem eraOf5 (n : Int) (w w' : World) (HN : Hid (notBefore n 5)) (HB : Below w.heap.size w w') :
    EraOf n w (.returned (.tuple #[.string ⟨#[]⟩, .int .i64 0, .bool false])) w' :=
  .inl ⟨HN.out.2.2.2.2 (Nat.le_refl _), rfl, HB⟩
theorem notBefore1 (n y m d : Int) (N : Hid (Cal.num y m d = n)) (HN : Hid (notBefore n 0)) (T : Hid (Cal.num y m d < Cal.num 2019 5 1)) : notBefore n 1 := by
  have a := T.out
  have b := HN.out
  rw [N.out, era_days.1] at a
  unfold notBefore at *
  omega
theorem notBefore2 (n y m d : Int) (N : Hid (Cal.num y m d = n)) (HN : Hid (notBefore n 1)) (T : Hid (Cal.num y m d < Cal.num 1989 1 8)) : notBefore n 2 := by
  have a := T.out
  have b := HN.out
  rw [N.out, era_days.2.1] at a
  unfold notBefore at *
  omega
theorem notBefore3 (n y m d : Int) (N : Hid (Cal.num y m d = n)) (HN : Hid (notBefore n 2)) (T : Hid (Cal.num y m d < Cal.num 1926 12 25)) : notBefore n 3 := by
  have a := T.out
  have b := HN.out
  rw [N.out, era_days.2.2.1] at a
  unfold notBefore at *
  omega
theorem notBefore4 (n y m d : Int) (N : Hid (Cal.num y m d = n)) (HN : Hid (notBefore n 3)) (T : Hid (Cal.num y m d < Cal.num 1912 7 30)) : notBefore n 4 := by
  have a := T.out
  have b := HN.out
  rw [N.out, era_days.2.2.2.1] at a
  unfold notBefore at *
  omega
theorem notBefore5 (n y m d : Int) (N : Hid (Cal.num y m d = n)) (HN : Hid (notBefore n 4)) (T : Hid (Cal.num y m d < Cal.num 1868 1 25)) : notBefore n 5 := by
  have a := T.out
  have b := HN.out
  rw [N.out, era_days.2.2.2.2] at a
  unfold notBefore at *
  omega
set_option maxRecDepth 100000 in
set_option maxHeartbeats 1000000 in
theorem era_yes (n : Int) (w : World) (h1 : 1 ≤ n) (h2 : n ≤ 3652059) :
    Calls Tryz.prog 27 #[.int .i64 n] w (EraOf n w) := by
  go_enter Tryz.func27, Tryz.ntmps27
  go_wp2_with fail
  refine (date_yes _ _ h1 h2).mono ?_
  rintro e w' ⟨y, m, d, hok, hnum, rfl, rfl⟩
  have H := Lib.hid hok
  have N := Lib.hid hnum
  rw [Cal.ok_iff] at hok
  obtain ⟨y1, y2, _⟩ := hok
  clear hnum
  go_wp2_with fail
  refine (eras_any _).mono ?_
  rintro e w1 ⟨rfl, hb⟩
  have HB := Lib.hid hb
  clear hb
  unfold erasC
  go_wp2_with fail
  go_loopw [9, 20] (fun _ i wr => ∃ k : Nat, k ≤ 5 ∧ i = .int .i64 k ∧ notBefore n k ∧ Below w.heap.size w wr) (fun _ i _ => 5 - (intOf i).toNat)
  case atStart => exact ⟨0, by omega, rfl, by simp [notBefore], HB.out⟩
  case round =>
    obtain ⟨k, hk, rfl, hn, hb⟩ := hrel
    clear HB
    have HB := Lib.hid hb
    have HN := Lib.hid hn
    clear hb hn
    have i0 := idx0
    have i1 := idx1
    have i2 := idx2
    have i3 := idx3
    have i4 := idx4
    obtain rfl | rfl | rfl | rfl | rfl | rfl : k = 0 ∨ k = 1 ∨ k = 2 ∨ k = 3 ∨ k = 4 ∨ k = 5 := by omega
    · rcases era_test 2019 5 1 y m d (by decide) H.out with ⟨t0, t1 | ⟨t1, t2, t3⟩ | ⟨t1, t2, t3, t4, t5⟩⟩ | ⟨t0, ⟨t1, t2⟩ | ⟨t1, t2, t3, t4⟩ | ⟨t1, t2, t3, t4, t5⟩⟩
      iterate 3
        · have T0 := Lib.hid t0
          clear t0
          go_wp2_with fail
          go_quiet (fail)
          go_wp2_with fail
          go_ret3
          exact eraOf0 n y m d w _ H N HN T0 (below_drewN (HB.out.alloc HB.out.size _) _)
      iterate 2
        · have T0 := Lib.hid t0
          clear t0
          go_wp2_with fail
          go_roundw
          case rel => exact ⟨0 + 1, by omega, rfl, notBefore1 n y m d N HN T0, HB.out.alloc HB.out.size _⟩
          case measure => simp [intOf]
      · exfalso; have t6 := of_decide_eq_false t5; omega
    · rcases era_test 1989 1 8 y m d (by decide) H.out with ⟨t0, t1 | ⟨t1, t2, t3⟩ | ⟨t1, t2, t3, t4, t5⟩⟩ | ⟨t0, ⟨t1, t2⟩ | ⟨t1, t2, t3, t4⟩ | ⟨t1, t2, t3, t4, t5⟩⟩
      iterate 3
        · have T0 := Lib.hid t0
          clear t0
          go_wp2_with fail
          go_quiet (fail)
          go_wp2_with fail
          go_ret3
          exact eraOf1 n y m d w _ H N HN T0 (below_drewN (HB.out.alloc HB.out.size _) _)
      iterate 2
        · have T0 := Lib.hid t0
          clear t0
          go_wp2_with fail
          go_roundw
          case rel => exact ⟨1 + 1, by omega, rfl, notBefore2 n y m d N HN T0, HB.out.alloc HB.out.size _⟩
          case measure => simp [intOf]
      · have T0 := Lib.hid t0
        clear t0
        go_wp2_with fail
        go_roundw
        case rel => exact ⟨1 + 1, by omega, rfl, notBefore2 n y m d N HN T0, HB.out.alloc HB.out.size _⟩
        case measure => simp [intOf]
    · rcases era_test 1926 12 25 y m d (by decide) H.out with ⟨t0, t1 | ⟨t1, t2, t3⟩ | ⟨t1, t2, t3, t4, t5⟩⟩ | ⟨t0, ⟨t1, t2⟩ | ⟨t1, t2, t3, t4⟩ | ⟨t1, t2, t3, t4, t5⟩⟩
      iterate 3
        · have T0 := Lib.hid t0
          clear t0
          go_wp2_with fail
          go_quiet (fail)
          go_wp2_with fail
          go_ret3
          exact eraOf2 n y m d w _ H N HN T0 (below_drewN (HB.out.alloc HB.out.size _) _)
      iterate 2
        · have T0 := Lib.hid t0
          clear t0
          go_wp2_with fail
          go_roundw
          case rel => exact ⟨2 + 1, by omega, rfl, notBefore3 n y m d N HN T0, HB.out.alloc HB.out.size _⟩
          case measure => simp [intOf]
      · have T0 := Lib.hid t0
        clear t0
        go_wp2_with fail
        go_roundw
        case rel => exact ⟨2 + 1, by omega, rfl, notBefore3 n y m d N HN T0, HB.out.alloc HB.out.size _⟩
        case measure => simp [intOf]
    · rcases era_test 1912 7 30 y m d (by decide) H.out with ⟨t0, t1 | ⟨t1, t2, t3⟩ | ⟨t1, t2, t3, t4, t5⟩⟩ | ⟨t0, ⟨t1, t2⟩ | ⟨t1, t2, t3, t4⟩ | ⟨t1, t2, t3, t4, t5⟩⟩
      iterate 3
        · have T0 := Lib.hid t0
          clear t0
          go_wp2_with fail
          go_quiet (fail)
          go_wp2_with fail
          go_ret3
          exact eraOf3 n y m d w _ H N HN T0 (below_drewN (HB.out.alloc HB.out.size _) _)
      iterate 2
        · have T0 := Lib.hid t0
          clear t0
          go_wp2_with fail
          go_roundw
          case rel => exact ⟨3 + 1, by omega, rfl, notBefore4 n y m d N HN T0, HB.out.alloc HB.out.size _⟩
          case measure => simp [intOf]
      · have T0 := Lib.hid t0
        clear t0
        go_wp2_with fail
        go_roundw
        case rel => exact ⟨3 + 1, by omega, rfl, notBefore4 n y m d N HN T0, HB.out.alloc HB.out.size _⟩
        case measure => simp [intOf]
    · rcases era_test 1868 1 25 y m d (by decide) H.out with ⟨t0, t1 | ⟨t1, t2, t3⟩ | ⟨t1, t2, t3, t4, t5⟩⟩ | ⟨t0, ⟨t1, t2⟩ | ⟨t1, t2, t3, t4⟩ | ⟨t1, t2, t3, t4, t5⟩⟩
      iterate 3
        · have T0 := Lib.hid t0
          clear t0
          go_wp2_with fail
          go_quiet (fail)
          go_wp2_with fail
          go_ret3
          exact eraOf4 n y m d w _ H N HN T0 (below_drewN (HB.out.alloc HB.out.size _) _)
      iterate 2
        · have T0 := Lib.hid t0
          clear t0
          go_wp2_with fail
          go_roundw
          case rel => exact ⟨4 + 1, by omega, rfl, notBefore5 n y m d N HN T0, HB.out.alloc HB.out.size _⟩
          case measure => simp [intOf]
      · have T0 := Lib.hid t0
        clear t0
        go_wp2_with fail
        go_roundw
        case rel => exact ⟨4 + 1, by omega, rfl, notBefore5 n y m d N HN T0, HB.out.alloc HB.out.size _⟩
        case measure => simp [intOf]
    · go_wp2_with fail
      go_ret3
      exact eraOf5 n w _ HN HB.out

set_option maxHeartbeats 400000 in
theorem era_no (n : Int) (w : World) (h : n < 1 ∨ 3652059 < n) :
    Calls Tryz.prog 27 #[.int .i64 n] w fun e w' => e = .returned (.tuple #[.string ⟨#[]⟩, .int .i64 0, .bool false]) ∧ Below w.heap.size w w' := by
  have H := Lib.hid h
  clear h
  go_enter Tryz.func27, Tryz.ntmps27
  go_wp2_with fail
  refine (date_no _ _ H.out).mono ?_
  rintro e w' ⟨rfl, rfl⟩
  go_wp2_with fail
  go_ret3
  exact ⟨rfl, Below.refl _ _⟩

end Go.Proofs.YtnpkcobapckhdaaGreatDoor
