/-
  henkanref06: Keys, begin, apply, feed, Step, Run, Flush by their contracts. The rules are allowed; the strings short.
-/
import Derived.Test.YtgdcffahhpeibaaDoorAuRound
import Derived.Test.YtgdcffahhpeibaaDoorRoCheck
import Derived.StillTailTactics
import Derived.Deep.RegionHeld3
import Derived.Deep.LoopGhost
namespace Go.Proofs.YtgdcffahhpeibaaDoor
open Go.RowKit
/-- the string of these bytes -/
def ba (l : List UInt8) : ByteArray := ⟨l.toArray⟩
theorem is_ba (l : List UInt8) : Is (ba l) l := Is.mk l
theorem Is.ba {t : ByteArray} {l : List UInt8} (h : Is t l) : t = ba l := h.eq (is_ba l)
theorem Is.cell {t : ByteArray} {l : List UInt8} (h : Is t l) (k : Nat) (c : UInt8) (hc : l[k]? = some c) : Is (t.extract k (k + 1)) [c] := by
  have hk : k < l.length := by
    rcases Nat.lt_or_ge k l.length with h' | h'
    · exact h'
    · rw [List.getElem?_eq_none h'] at hc; cases hc
  have : (l.drop k).take (k + 1 - k) = [c] := by
    rw [show k + 1 - k = 1 by omega, List.drop_eq_getElem_cons hk]
    rw [List.getElem?_eq_getElem hk] at hc
    injection hc with hc
    rw [hc]; rfl
  unfold Is at *
  rw [Lib.extract_data, h, this]
theorem Is.parts {t : ByteArray} {a : List UInt8} (h : Is t a) (i j : Nat) : Is (t.extract i j) ((a.drop i).take (j - i)) := by
  unfold Is at *
  rw [Lib.extract_data, h]
theorem ba_size (l : List UInt8) : (ba l).size = l.length := (is_ba l).size
theorem isEmpty_yes {t : ByteArray} (h : Is t []) : t = ⟨#[]⟩ := h.eq (Is.mk [])
theorem isEmpty_no {t : ByteArray} {l : List UInt8} (h : Is t l) (hl : l ≠ []) : t.toList.isEmpty = false ∧ t.data.isEmpty = false := by
  obtain ⟨⟨d⟩⟩ := t
  unfold Is at h
  dsimp only at h
  subst h
  cases d with
  | nil => exact absurd rfl hl
  | cons c d => exact ⟨by rw [Lib.toList_data]; rfl, rfl⟩
/-- the rule that begins a string, among rules in memory -/
def BeginV (xs : List RuleB) (l : List UInt8) (e : Ending) : Prop :=
  (∃ r, r ∈ xs ∧ Au.begin (rulesL xs) l = some (ruleL r) ∧ e = .returned (.tuple #[ruleV r, .bool true])) ∨ (Au.begin (rulesL xs) l = none ∧ ∃ r, e = .returned (.tuple #[ruleV r, .bool false]))
theorem found_cases (xs : List RuleB) (k : List UInt8) : (∃ r, r ∈ xs ∧ Ro.find (rulesL xs) k = some (ruleL r) ∧ FoundV xs k = .tuple #[ruleV r, .bool true]) ∨ (Ro.find (rulesL xs) k = none ∧ FoundV xs k = .tuple #[ruleV (⟨#[]⟩, ⟨#[]⟩, ⟨#[]⟩), .bool false]) := by
  rw [found_find]
  unfold FoundV
  cases hf : xs.find? (fun r => r.1.data.toList == k) with
  | none => exact .inr ⟨rfl, rfl⟩
  | some r => exact .inl ⟨r, List.mem_of_find?_eq_some hf, rfl, rfl⟩
theorem rule_of {xs : List RuleB} (hc : Ro.check (rulesL xs) = 0) {r : RuleB} (hr : r ∈ xs) : 0 < r.1.size ∧ r.1.size ≤ 4 ∧ r.2.1.size ≤ 16 ∧ r.2.2.size ≤ 3 := by
  have h := Au.rule_sizes hc (List.mem_map.2 ⟨r, hr, rfl⟩)
  have e1 := (Is.of r.1).size
  have e2 := (Is.of r.2.1).size
  have e3 := (Is.of r.2.2).size
  rw [e1, e2, e3]
  exact h
theorem begin_len {xs : List RuleB} {l : List UInt8} {r : RuleB} (h : Au.begin (rulesL xs) l = some (ruleL r)) : r.1.size ≤ l.length := by
  obtain ⟨h1, h2, h3, h4⟩ := Au.begin_some h
  rw [(Is.of r.1).size]; exact h3
theorem app_is {xs : List RuleB} {l : List UInt8} {r : RuleB} {s : ByteArray} (hs : Is s l) (h : Au.begin (rulesL xs) l = some (ruleL r)) : Is r.2.1 (Au.apply (rulesL xs) l).1 ∧ Is (r.2.2 ++ s.extract r.1.size s.size) (Au.apply (rulesL xs) l).2 := by
  rw [Au.apply_hit h]
  refine ⟨Is.of _, ?_⟩
  show Is _ (r.2.2.data.toList ++ l.drop r.1.data.toList.length)
  rw [← (Is.of r.1).size]
  exact (Is.of r.2.2).append (hs.from r.1.size)
/-- two strings handed back -/
def TwoV (p : List UInt8 × List UInt8) : Ending := .returned (.tuple #[.string (ba p.1), .string (ba p.2)])
def strB : Value → List UInt8
  | .string s => s.data.toList
  | _ => []
theorem strB_is {t : ByteArray} {l : List UInt8} (h : Is t l) : strB (.string t) = l := h
theorem notEmpty {t : ByteArray} {l : List UInt8} (h : Is t l) (hl : l ≠ []) : t.toList.isEmpty = false ∧ (!t.toList.isEmpty) = true ∧ t.data.isEmpty = false ∧ (!t.data.isEmpty) = true ∧ 0 < t.size := by
  obtain ⟨a, b⟩ := isEmpty_no h hl
  exact ⟨a, by rw [a]; rfl, b, by rw [b]; rfl, by rw [h.size]; exact List.length_pos_iff.2 hl⟩
end Go.Proofs.YtgdcffahhpeibaaDoor
