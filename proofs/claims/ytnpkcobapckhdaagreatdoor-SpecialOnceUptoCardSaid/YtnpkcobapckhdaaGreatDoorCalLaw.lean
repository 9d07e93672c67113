/-
  Lists of strings as they lie; henkanlaw04.sameTexts by its contract; what the calendar's laws want besides. No condition.
-/
import Derived.Test.YtnpkcobapckhdaaGreatDoorGTabs
import Derived.Test.YtnpkcobapckhdaaGreatDoorCalForms
import Derived.Test.YtnpkcobapckhdaaGreatDoorCalRForms
import Derived.Test.YtnpkcobapckhdaaGreatDoorCalNames
import Derived.BigQuiet
import Derived.Deep.QuietTactic
namespace Go.Proofs.YtnpkcobapckhdaaGreatDoor
open Go.RowKit

/-- a slice of strings as it lies: nil and empty, or the head of a row of a block -/
def Lies (v : Value) (xs : List ByteArray) (w : World) : Prop := ∃ ao cap, v = .slice ao xs.length cap ∧ ∀ k, k < xs.length → ∃ g, ao = some ⟨g, 0, none⟩ ∧ w.cell? ⟨g, k, none⟩ = some (.string (xs.getD k ⟨#[]⟩))
theorem Lies.nil (w : World) : Lies (.slice none 0 0) [] w := ⟨none, 0, rfl, fun k hk => by simp at hk⟩
theorem Strs.lies {B : Nat} {v : Value} {xs : List ByteArray} {w : World} (h : Strs B v xs w) : Lies v xs w := by
  by_cases h0 : xs = []
  · obtain ⟨ao, cap, rfl⟩ := h.frame
    exact ⟨ao, cap, rfl, fun k hk => by rw [h0] at hk; simp at hk⟩
  · obtain ⟨g, cap, rfl, _, _, _, hc, _⟩ := h.at h0
    refine ⟨_, cap, rfl, fun k hk => ⟨g, rfl, ?_⟩⟩
    refine hc k _ ?_
    rw [List.getD_eq_getElem?_getD, List.getElem?_eq_getElem hk]; rfl
theorem Lies.below {v : Value} {xs : List ByteArray} {w w' : World} {B : Nat} (h : Lies v xs w) (hb : Below B w w') (hB : w.heap.size ≤ B) : Lies v xs w' := by
  obtain ⟨ao, cap, rfl, h⟩ := h
  refine ⟨ao, cap, rfl, fun k hk => ?_⟩
  obtain ⟨g, hg, hc⟩ := h k hk
  exact ⟨g, hg, by rw [hb.cell (p := ⟨g, k, none⟩) (Nat.lt_of_lt_of_le (cell_lt hc) hB)]; exact hc⟩
theorem bel_dn {B : Nat} {a w : World} (h : Below B a w) (q : Nat) : Below B a (w.drewN q) := h.trans ⟨rfl, rfl, rfl, Nat.le_refl _, fun _ _ => rfl⟩
set_option maxHeartbeats 1000000 in
theorem sameT_yes (va vb : Value) (xs : List ByteArray) (w : World) (ha : Lies va xs w) (hb : Lies vb xs w) (hl : xs.length ≤ 4611686018427387904) :
    Calls Tryz.prog 28 #[va, vb] w fun e w' => e = .returned (.bool true) ∧ Below w.heap.size w w' := by
  obtain ⟨ao, ca, rfl, ha⟩ := ha
  obtain ⟨bo, cb, rfl, hb⟩ := hb
  obtain ⟨n, hn⟩ : ∃ n, xs.length = n := ⟨_, rfl⟩
  rw [hn] at ha hb hl
  rw [hn]
  have HA := Lib.hid ha
  have HB := Lib.hid hb
  clear ha hb hn
  go_enter Tryz.func28, Tryz.ntmps28
  go_wp2_with fail
  go_loopw [5] (fun i wr => ∃ k : Nat, k ≤ n ∧ i = .int .i64 k ∧ ∃ q, wr = w.drewN q) (fun i _ => n - (intOf i).toNat)
  case atStart => exact ⟨0, by omega, rfl, 0, rfl⟩
  case round =>
    obtain ⟨k, hk, rfl, q, rfl⟩ := hrel
    by_cases hkn : k < n
    · obtain ⟨g, rfl, hg⟩ := HA.out k hkn
      obtain ⟨g2, rfl, hg2⟩ := HB.out k hkn
      obtain ⟨x, hx⟩ : ∃ x, xs.getD k ⟨#[]⟩ = x := ⟨_, rfl⟩
      rw [hx] at hg hg2
      clear hx
      go_wp2_with fail
      go_quiet (fail)
      go_wp2_with fail
      go_roundw
      case rel => exact ⟨k + 1, by omega, by go_num, _, rfl⟩
      case measure => simp [intOf]; omega
    · obtain rfl : k = n := by omega
      go_wp2_with fail
      go_ret
      exact ⟨rfl, bel_dn (Below.refl _ _) q⟩
/-- lists of the same texts are the same -/
theorem bas_inj : ∀ {xs ys : List ByteArray}, xs.map (·.data.toList) = ys.map (·.data.toList) → xs = ys
  | [], [], _ => rfl
  | [], y :: ys, h => by simp at h
  | x :: xs, [], h => by simp at h
  | x :: xs, y :: ys, h => by
    simp only [List.map_cons, List.cons.injEq] at h
    have e : x = y := ByteArray.ext (Array.toList_inj.1 h.1)
    rw [e, bas_inj h.2]
theorem formsL_len (n y m d : Nat) : (CF.formsL n y m d).length ≤ 8 := by
  unfold CF.formsL
  rw [List.length_append]
  have := CF.withYear_len n y m d
  show _ + 2 ≤ 8
  omega
theorem year_exists (n : Int) (h1 : 1 ≤ n) : ∀ k : Nat, n ≤ Cal.st ((k : Int) + 1) → ∃ y : Nat, 1 ≤ y ∧ y ≤ k ∧ Cal.st y < n ∧ n ≤ Cal.st ((y : Int) + 1)
  | 0, h => by simp [Cal.st] at h; omega
  | k + 1, h => by
    by_cases c : Cal.st ((k + 1 : Nat) : Int) < n
    · exact ⟨k + 1, by omega, Nat.le_refl _, c, h⟩
    · obtain ⟨y, a, b, e, f⟩ := year_exists n h1 k (by have : ((k : Int) + 1) = ((k + 1 : Nat) : Int) := by omega
                                                       rw [this]; omega)
      exact ⟨y, a, by omega, e, f⟩
theorem month_exists (r y : Int) (h1 : 1 ≤ r) : ∀ k : Nat, k + 1 ≤ 12 → r ≤ Cal.bef y ((k : Int) + 1) + Cal.mlen y ((k : Int) + 1) → ∃ m : Nat, 1 ≤ m ∧ m ≤ k + 1 ∧ Cal.bef y m < r ∧ r ≤ Cal.bef y m + Cal.mlen y m
  | 0, _, h => ⟨1, by omega, by omega, by have := Cal.bef_1 y; show Cal.bef y 1 < r; omega, h⟩
  | k + 1, hk, h => by
    by_cases c : Cal.bef y ((k + 1 + 1 : Nat) : Int) < r
    · exact ⟨k + 1 + 1, by omega, Nat.le_refl _, c, h⟩
    · have hs := Cal.bef_succ y ((k : Int) + 1) (by omega) (by omega)
      obtain ⟨m, a, b, e, f⟩ := month_exists r y h1 k (by omega) (by
        have e1 : ((k + 1 + 1 : Nat) : Int) = (k : Int) + 1 + 1 := by omega
        rw [e1, hs] at c; omega)
      exact ⟨m, a, by omega, e, f⟩
theorem date_exists (n : Nat) (h1 : 1 ≤ n) (h2 : n ≤ 3652059) : ∃ y m d : Nat, Cal.ok y m d = true ∧ Cal.num y m d = n := by
  obtain ⟨y, a, b, e, f⟩ := year_exists n (by omega) 9999 (by show _ ≤ Cal.st 10000; simp [Cal.st]; omega)
  have hs := Cal.st_succ (y : Int)
  have h12 := Cal.bef_12 (y : Int)
  obtain ⟨m, a1, b1, e1, f1⟩ := month_exists ((n : Int) - Cal.st y) y (by omega) 11 (by omega) (by
    show _ ≤ Cal.bef y 12 + Cal.mlen y 12
    have : Cal.mlen (y : Int) 12 = 31 := by simp [Cal.mlen]
    omega)
  refine ⟨y, m, ((n : Int) - Cal.st y - Cal.bef y m).toNat, ?_, ?_⟩
  · rw [Cal.ok_iff]; omega
  · unfold Cal.num; omega
end Go.Proofs.YtnpkcobapckhdaaGreatDoor
