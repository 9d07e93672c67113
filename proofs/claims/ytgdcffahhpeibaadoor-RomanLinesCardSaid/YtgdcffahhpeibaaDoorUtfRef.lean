/-
  henkanref01.length, Character, Next, Runes, Count by their contracts. No condition but the string's own bound.
-/
import Derived.Test.YtgdcffahhpeibaaDoorUtfMath
import Derived.Test.YtgdcffahhpeibaaDoorRBase
import Derived.Below
import Derived.BigQuiet
import Derived.Deep.QuietTactic
namespace Go.Proofs.YtgdcffahhpeibaaDoor
open Go.RowKit
theorem b_drop {s : ByteArray} {l : List UInt8} (h : Is s l) (pos k : Nat) (hk : pos + k < s.size) : UT.b (l.drop pos) k = (s[pos + k]'hk).toNat := by
  unfold UT.b
  rw [List.getD_eq_getElem?_getD, List.getElem?_drop, h.get _ hk]; rfl
theorem least_cell (w : World) (n : Nat) (hn : n ≤ 4) : (w.alloc (.cells #[.int .i32 0, .int .i32 0, .int .i32 128, .int .i32 2048, .int .i32 65536] 21)).cell? ⟨w.heap.size, n, none⟩ = some (.int .i32 (UT.least n)) := by
  obtain rfl | rfl | rfl | rfl | rfl : n = 0 ∨ n = 1 ∨ n = 2 ∨ n = 3 ∨ n = 4 := by omega
  all_goals (go_simp; try rfl)
theorem next_all {x : List UInt8} {n c : Nat} (h : 0 < x.length) (hl : UT.lead (UT.b x 0) = (n, c)) (hn : 1 ≤ n) (hs : n ≤ x.length) (hc : ∀ k, 1 ≤ k → k < n → 128 ≤ UT.b x k ∧ UT.b x k ≤ 191) :
    UT.nextL x = if UT.accN x c (n - 1) < UT.least n ∨ UT.isCh (UT.accN x c (n - 1)) = false then (0, 0) else (UT.accN x c (n - 1), n) := by
  rcases Nat.lt_or_ge n 2 with h2 | h2
  · obtain rfl : n = 1 := by omega
    obtain ⟨a, rfl⟩ := UT.lead_one hl
    have hch : UT.isCh (UT.b x 0) = true := decide_eq_true ⟨by omega, by omega⟩
    rw [UT.next_one h a]
    show _ = if UT.b x 0 < 0 ∨ UT.isCh (UT.b x 0) = false then (0, 0) else (UT.b x 0, 1)
    rw [if_neg (by rw [hch]; simp)]
  · exact UT.next_end h hl h2 hs hc
theorem lead_bd {v n c : Nat} (h : UT.lead v = (n, c)) : n ≤ 4 ∧ c < 256 := by
  unfold UT.lead at h
  repeat' split at h
  all_goals (injection h with h1 h2; omega)
theorem accN_bd1 {x : List UInt8} {v n c : Nat} (hl : UT.lead v = (n, c)) (hn : 1 ≤ n) (i : Nat) (hi : i < n) : UT.accN x c i < 2097152 := by
  rcases Nat.lt_or_ge n 2 with h2 | h2
  · obtain rfl : i = 0 := by omega
    have := lead_bd hl
    show c < _; omega
  · exact UT.accN_bd hl h2 i hi
end Go.Proofs.YtgdcffahhpeibaaDoor
