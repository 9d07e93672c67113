/-
  henkanlaw05.Few for every list. No condition.
-/
import Derived.Test.YtbdekjfimojkbaaDoorRoOpen
namespace Go.Proofs.YtbdekjfimojkbaaDoor
open Go.RowKit
theorem Few3.short {xs : List RuleB} (h : Few3 xs) : Short3 xs := fun r hr => by
  obtain ⟨a, b, c⟩ := h r hr
  exact ⟨by omega, by omega, by omega⟩
set_option maxRecDepth 100000 in
set_option maxHeartbeats 4000000 in
theorem few_all (v : Value) (xs : List RuleB) (w : World) (h : LieR v xs w) (hn : xs.length ≤ 9223372036854775807) (hz : ∀ r ∈ xs, r.1.size ≤ 9223372036854775807 ∧ r.2.1.size ≤ 9223372036854775807 ∧ r.2.2.size ≤ 9223372036854775807) :
    Calls Tryd.prog 15 #[v] w fun e w' => FewR xs e ∧ w = w' := by
  have HZ := Lib.hid hz
  obtain ⟨ao, cap, rfl, hcap, hx⟩ := h
  obtain ⟨n, hn2⟩ : ∃ n, xs.length = n := ⟨_, rfl⟩
  have HN := Eqq.mk hn2
  rw [hn2] at hn ⊢
  have HX := Lib.hid hx
  clear hx hn2 hcap hz
  go_enter Tryd.func15, Tryd.ntmps15
  go_wp2_with fail
  go_loopw [3] (fun iv wr => ∃ k : Nat, k ≤ n ∧ k ≤ 200 ∧ iv = .int .i64 k ∧ Few3 (xs.take k) ∧ wr = w) (fun iv _ => n - (intOf iv).toNat)
  case atStart => exact ⟨0, Nat.zero_le _, by omega, rfl, fun r hr => by simp at hr, rfl⟩
  case round =>
    obtain ⟨k, hk, hk2, rfl, hf, rfl⟩ := hrel
    have HF := Lib.hid hf
    clear hf
    by_cases hlt : k < n
    · have i1 : decide ((k : Int) < (n : Int)) = true := decide_eq_true (by omega)
      by_cases hl2 : k < 200
      · have i2 : decide ((k : Int) < (200 : Int)) = true := decide_eq_true (by omega)
        have hkl : k < xs.length := by rw [HN.out]; exact hlt
        obtain ⟨r, hr⟩ : ∃ r, xs[k]? = some r := ⟨_, List.getElem?_eq_getElem hkl⟩
        obtain ⟨g, o, rfl, c1, c2, c3⟩ := HX.out k r hr
        obtain ⟨z1, z2, z3⟩ := HZ.out r (List.mem_of_getElem? hr)
        have HFT := Lib.hid (few_take xs k r hr HF.out)
        obtain ⟨r1, r2, r3⟩ := r
        dsimp only at c1 c2 c3 z1 z2 z3 HFT
        clear hr
        by_cases q1 : 100 < r1.size
        · have e1 : decide (100 < r1.size) = true := decide_eq_true q1
          go_wp2_with fail
          go_ret
          exact ⟨⟨false, rfl, fun h => (by cases h)⟩, rfl⟩
        · have e1 : decide (100 < r1.size) = false := decide_eq_false q1
          by_cases q2 : 100 < r2.size
          · have e2 : decide (100 < r2.size) = true := decide_eq_true q2
            go_wp2_with fail
            go_ret
            exact ⟨⟨false, rfl, fun h => (by cases h)⟩, rfl⟩
          · have e2 : decide (100 < r2.size) = false := decide_eq_false q2
            by_cases q3 : 100 < r3.size
            · have e3 : decide (100 < r3.size) = true := decide_eq_true q3
              go_wp2_with fail
              go_ret
              exact ⟨⟨false, rfl, fun h => (by cases h)⟩, rfl⟩
            · have e3 : decide (100 < r3.size) = false := decide_eq_false q3
              have HFN := Lib.hid (HFT.out (by omega) (by omega) (by omega))
              go_wp2_with fail
              go_roundw
              case rel => exact ⟨k + 1, by omega, by omega, by go_num, HFN.out, by first | rfl | trivial⟩
              case measure => simp [intOf]; omega
      · have i2 : decide ((k : Int) < (200 : Int)) = false := decide_eq_false (by omega)
        have i3 : decide ((n : Int) ≤ (200 : Int)) = false := decide_eq_false (by omega)
        go_wp2_with fail
        go_ret
        exact ⟨⟨false, rfl, fun h => (by cases h)⟩, rfl⟩
    · obtain rfl : k = n := by omega
      have i1 : decide ((k : Int) < (k : Int)) = false := decide_eq_false (by omega)
      have i3 : decide ((k : Int) ≤ (200 : Int)) = true := decide_eq_true (by omega)
      go_wp2_with fail
      go_ret
      refine ⟨⟨true, rfl, fun _ => ⟨by rw [HN.out]; exact hk2, ?_⟩⟩, rfl⟩
      have := HF.out
      rwa [← HN.out, List.take_length] at this
end Go.Proofs.YtbdekjfimojkbaaDoor
