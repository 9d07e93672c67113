/-
  Plain arithmetic of the calendar: how many days are before a year and a month. No condition.
-/
namespace Go.Proofs.YtnpkcobapckhdaaGreatDoor
namespace Cal
/-- 1 in a leap year, 0 otherwise -/
def lp (y : Int) : Int := if y % 4 = 0 ∧ (y % 100 ≠ 0 ∨ y % 400 = 0) then 1 else 0
def st (y : Int) : Int := 365 * (y - 1) + (y - 1) / 4 - (y - 1) / 100 + (y - 1) / 400
def bef (y m : Int) : Int := if m ≤ 2 then (153 * ((m + 9) % 12) + 2) / 5 + 59 - 365 else (153 * ((m + 9) % 12) + 2) / 5 + 59 + lp y
def mlen (y m : Int) : Int := if m = 2 then 28 + lp y else if m = 4 ∨ m = 6 ∨ m = 9 ∨ m = 11 then 30 else 31
def num (y m d : Int) : Int := st y + bef y m + d
def ok (y m d : Int) : Bool := decide (1 ≤ y ∧ y ≤ 9999 ∧ 1 ≤ m ∧ m ≤ 12 ∧ 1 ≤ d ∧ d ≤ mlen y m)

theorem lp_01 (y : Int) : 0 ≤ lp y ∧ lp y ≤ 1 := by unfold lp; split <;> omega
theorem st_succ (y : Int) : st (y + 1) = st y + 365 + lp y := by
  unfold st lp; split <;> omega
theorem bef_succ (y m : Int) (h1 : 1 ≤ m) (h2 : m < 12) : bef y (m + 1) = bef y m + mlen y m := by
  have h : m = 1 ∨ m = 2 ∨ m = 3 ∨ m = 4 ∨ m = 5 ∨ m = 6 ∨ m = 7 ∨ m = 8 ∨ m = 9 ∨ m = 10 ∨ m = 11 := by omega
  rcases h with rfl | rfl | rfl | rfl | rfl | rfl | rfl | rfl | rfl | rfl | rfl <;> simp [bef, mlen] <;> omega
theorem bef_12 (y : Int) : bef y 12 = 334 + lp y := by simp [bef]
theorem bef_1 (y : Int) : bef y 1 = 0 := by simp [bef]
theorem mlen_bd (y m : Int) : 28 ≤ mlen y m ∧ mlen y m ≤ 31 := by
  have := lp_01 y; unfold mlen; split
  · omega
  · split <;> omega
theorem st_mono (a b : Int) (h : a ≤ b) : st a ≤ st b := by unfold st; omega
theorem st_bd (y : Int) (h1 : 1 ≤ y) (h2 : y ≤ 10000) : 0 ≤ st y ∧ st y ≤ 3652059 := by unfold st; omega
theorem bef_bd (y m : Int) (h1 : 1 ≤ m) (h2 : m ≤ 12) : 0 ≤ bef y m ∧ bef y m ≤ 335 := by
  have := lp_01 y
  have h : m = 1 ∨ m = 2 ∨ m = 3 ∨ m = 4 ∨ m = 5 ∨ m = 6 ∨ m = 7 ∨ m = 8 ∨ m = 9 ∨ m = 10 ∨ m = 11 ∨ m = 12 := by omega
  rcases h with rfl | rfl | rfl | rfl | rfl | rfl | rfl | rfl | rfl | rfl | rfl | rfl <;> simp [bef] <;> omega
theorem bef_lt (y m k : Int) (h1 : 1 ≤ m) (h2 : m < k) (h3 : k ≤ 12) : bef y m + mlen y m ≤ bef y k := by
  have := lp_01 y
  have h : m = 1 ∨ m = 2 ∨ m = 3 ∨ m = 4 ∨ m = 5 ∨ m = 6 ∨ m = 7 ∨ m = 8 ∨ m = 9 ∨ m = 10 ∨ m = 11 := by omega
  have hk : k = 2 ∨ k = 3 ∨ k = 4 ∨ k = 5 ∨ k = 6 ∨ k = 7 ∨ k = 8 ∨ k = 9 ∨ k = 10 ∨ k = 11 ∨ k = 12 := by omega
  have e : ∀ a, bef y a = bef y a := fun _ => rfl
  rcases h with rfl | rfl | rfl | rfl | rfl | rfl | rfl | rfl | rfl | rfl | rfl <;> rcases hk with rfl | rfl | rfl | rfl | rfl | rfl | rfl | rfl | rfl | rfl | rfl <;> first | (exfalso; omega) | (simp [bef, mlen]; done) | (simp [bef, mlen]; omega)
theorem bef_end (y m : Int) (h1 : 1 ≤ m) (h2 : m ≤ 12) : bef y m + mlen y m ≤ 365 + lp y := by
  by_cases e : m = 12
  · subst e; rw [bef_12]; simp [mlen]; omega
  · have a := bef_lt y m 12 h1 (by omega) (by omega); rw [bef_12] at a; omega
theorem ok_iff (y m d : Int) : ok y m d = true ↔ (1 ≤ y ∧ y ≤ 9999 ∧ 1 ≤ m ∧ m ≤ 12 ∧ 1 ≤ d ∧ d ≤ mlen y m) := by simp [ok]
theorem num_year (y m d : Int) (h : ok y m d = true) : st y < num y m d ∧ num y m d ≤ st (y + 1) := by
  rw [ok_iff] at h
  have a := bef_bd y m (by omega) (by omega)
  have b := bef_end y m (by omega) (by omega)
  rw [st_succ]; unfold num; omega
theorem num_bd (y m d : Int) (h : ok y m d = true) : 1 ≤ num y m d ∧ num y m d ≤ 3652059 := by
  have a := num_year y m d h
  rw [ok_iff] at h
  have b := st_bd y (by omega) (by omega)
  have c := st_bd (y + 1) (by omega) (by omega)
  omega
theorem num_inj (y m d y' m' d' : Int) (h : ok y m d = true) (h' : ok y' m' d' = true) (e : num y m d = num y' m' d') : y = y' ∧ m = m' ∧ d = d' := by
  have a := num_year y m d h
  have a' := num_year y' m' d' h'
  have hy : y = y' := by
    rcases Int.lt_trichotomy y y' with g | g | g
    · have := st_mono (y + 1) y' (by omega); omega
    · exact g
    · have := st_mono (y' + 1) y (by omega); omega
  subst hy
  rw [ok_iff] at h h'
  have hm : m = m' := by
    rcases Int.lt_trichotomy m m' with g | g | g
    · have := bef_lt y m m' (by omega) g (by omega); unfold num at e; omega
    · exact g
    · have := bef_lt y m' m (by omega) g (by omega); unfold num at e; omega
  subst hm
  unfold num at e; omega
theorem guess_lo (n : Int) (h1 : 1 ≤ n) (h2 : n ≤ 3652059) : 1 ≤ (n - 1) * 400 / 146097 + 1 ∧ (n - 1) * 400 / 146097 + 1 ≤ 10000 := by omega
/-- the day after: the next of the month, or the first of the next month -/
theorem next_day (y m d y' m' d' : Int) (h : ok y m d = true) (h' : ok y' m' d' = true) (e : num y' m' d' = num y m d + 1) :
    (y' = y ∧ m' = m ∧ d' = d + 1) ∨ (d' = 1 ∧ (y' = y ∧ m' = m + 1 ∨ y' = y + 1 ∧ m' = 1 ∧ m = 12)) := by
  have hb := h; rw [ok_iff] at hb
  by_cases c1 : d < mlen y m
  · have g : ok y m (d + 1) = true := by rw [ok_iff]; omega
    have := num_inj y' m' d' y m (d + 1) h' g (by rw [e]; unfold num; omega)
    omega
  · by_cases c2 : m < 12
    · have g : ok y (m + 1) 1 = true := by rw [ok_iff]; have := mlen_bd y (m + 1); omega
      have := num_inj y' m' d' y (m + 1) 1 h' g (by rw [e]; have := bef_succ y m (by omega) c2; unfold num; omega)
      omega
    · obtain rfl : m = 12 := by omega
      have hm : mlen y 12 = 31 := by simp [mlen]
      by_cases c3 : y < 9999
      · have g : ok (y + 1) 1 1 = true := by rw [ok_iff]; have := mlen_bd (y + 1) 1; omega
        have := num_inj y' m' d' (y + 1) 1 1 h' g (by rw [e]; have := st_succ y; have := bef_12 y; have := bef_1 (y + 1); unfold num; omega)
        omega
      · obtain rfl : y = 9999 := by omega
        have := num_bd y' m' d' h'
        rw [e] at this; unfold num st bef at this; simp [lp] at this; omega
end Cal
end Go.Proofs.YtnpkcobapckhdaaGreatDoor
