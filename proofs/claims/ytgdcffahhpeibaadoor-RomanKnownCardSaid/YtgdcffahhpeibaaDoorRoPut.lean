/-
  henkanref05.put by its contract: a rule in its place. No condition but the list's own bound.
-/
import Derived.Test.YtgdcffahhpeibaaDoorRoGiven
import Derived.Test.YtgdcffahhpeibaaDoorRoDefMath
import Derived.Deep.RegionHeld3
namespace Go.Proofs.YtgdcffahhpeibaaDoor
open Go.RowKit
set_option linter.unusedVariables false
theorem ltB_lt : ∀ a b : List UInt8, Ro.ltB a b = decide (a < b)
  | [], [] => by decide
  | [], _ :: _ => by rw [Ro.ltB]; exact (decide_eq_true (List.nil_lt_cons _ _)).symm
  | _ :: _, [] => by rw [Ro.ltB]; exact (decide_eq_false (List.not_lt_nil _)).symm
  | a :: r, b :: s => by
    rw [Ro.ltB, ltB_lt r s, Bool.eq_iff_iff]
    simp only [Bool.or_eq_true, Bool.and_eq_true, decide_eq_true_eq, beq_iff_eq, List.cons_lt_cons_iff]
/-- the loop: what is written, and whether the rule was put -/
def putS (r : RuleB) : List RuleB → List RuleB × Bool
  | [] => ([], false)
  | x :: l => if r.1.data.toList < x.1.data.toList then (r :: x :: l, true) else (x :: (putS r l).1, (putS r l).2)
theorem putS_snoc (r x : RuleB) : ∀ l : List RuleB, putS r (l ++ [x]) = if (putS r l).2 = true then ((putS r l).1 ++ [x], true) else if r.1.data.toList < x.1.data.toList then ((putS r l).1 ++ [r] ++ [x], true) else ((putS r l).1 ++ [x], false)
  | [] => by
    show putS r [x] = _
    rw [putS, putS, putS]
    simp
  | y :: l => by
    rw [List.cons_append, putS, putS, putS_snoc r x l]
    by_cases h : r.1.data.toList < y.1.data.toList
    · rw [if_pos h, if_pos h, if_pos rfl]; rfl
    · rw [if_neg h, if_neg h]
      dsimp only
      by_cases h2 : (putS r l).2 = true
      · rw [if_pos h2, if_pos h2]; rfl
      · rw [if_neg h2, if_neg h2]
        by_cases h3 : r.1.data.toList < x.1.data.toList
        · rw [if_pos h3, if_pos h3]; rfl
        · rw [if_neg h3, if_neg h3]; rfl
theorem putS_len (r : RuleB) : ∀ l : List RuleB, (putS r l).1.length ≤ l.length + 1
  | [] => by simp [putS]
  | x :: l => by
    have := putS_len r l
    rw [putS]
    split
    · simp
    · simp only [List.length_cons]; omega
theorem putS_no (r : RuleB) : ∀ l : List RuleB, (putS r l).2 = false → (putS r l).1 = l
  | [], _ => rfl
  | x :: l, h => by
    rw [putS] at h ⊢
    split
    · rename_i h2; rw [if_pos h2] at h; cases h
    · rename_i h2
      rw [if_neg h2] at h
      rw [putS_no r l h]
theorem putS_put (r : RuleB) : ∀ l : List RuleB, rulesL (if (putS r l).2 = true then (putS r l).1 else (putS r l).1 ++ [r]) = Ro.putL (rulesL l) (ruleL r)
  | [] => by rw [putS]; rfl
  | x :: l => by
    have ih := putS_put r l
    show rulesL (if (putS r (x :: l)).2 = true then (putS r (x :: l)).1 else (putS r (x :: l)).1 ++ [r]) = Ro.putL (ruleL x :: rulesL l) (ruleL r)
    by_cases h : r.1.data.toList < x.1.data.toList
    · have e : Ro.putL (ruleL x :: rulesL l) (ruleL r) = ruleL r :: ruleL x :: rulesL l := by
        rw [Ro.putL, ltB_lt, show decide ((ruleL r).1 < (ruleL x).1) = true from decide_eq_true h]; rfl
      rw [e, putS, if_pos h]
      rfl
    · have e : Ro.putL (ruleL x :: rulesL l) (ruleL r) = ruleL x :: Ro.putL (rulesL l) (ruleL r) := by
        rw [Ro.putL, ltB_lt, show decide ((ruleL r).1 < (ruleL x).1) = false from decide_eq_false h]; rfl
      rw [e, ← ih, putS, if_neg h]
      dsimp only
      split <;> rfl
end Go.Proofs.YtgdcffahhpeibaaDoor
