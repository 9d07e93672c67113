/-
  strings.Cut and strings.Split at one byte, as pieces between the bytes. No condition.
-/
import Derived.Test.YtgdcffahhpeibaaGreatDoorRoMath
import Derived.Lib.IndexMore
import Derived.Lib.SplitLaws
namespace Go.Proofs.YtgdcffahhpeibaaGreatDoor
namespace Ro
open UT (Bs)
/-! ### a separator behind characters that are others -/
theorem index_skip (sep : List UInt8) (r : List UInt8) (hr : 0 ≤ Lib.index r sep) : ∀ a : List UInt8, (∀ i, i < a.length → sep.isPrefixOf ((a ++ r).drop i) = false) → Lib.index (a ++ r) sep = a.length + Lib.index r sep
  | [], _ => by simp
  | c :: a, h => by
    have h0 := h 0 (by simp)
    rw [List.drop_zero] at h0
    have ih := index_skip sep r hr a (fun i hi => by have := h (i + 1) (by simp; omega); simpa using this)
    show Lib.index (c :: (a ++ r)) sep = _
    rw [Lib.index, show sep.isPrefixOf (c :: (a ++ r)) = false from h0, if_neg (by simp), ih]
    have hne : ((a.length : Int) + Lib.index r sep == -1) = false := by rw [beq_eq_false_iff_ne]; omega
    rw [hne, if_neg (by simp), List.length_cons]
    omega
theorem index_none (sep : List UInt8) (h0 : sep ≠ []) : ∀ a : List UInt8, (∀ i, i < a.length → sep.isPrefixOf (a.drop i) = false) → Lib.index a sep = -1
  | [], _ => by
    cases sep with
    | nil => exact absurd rfl h0
    | cons x y => rfl
  | c :: a, h => by
    have hp := h 0 (by simp)
    rw [List.drop_zero] at hp
    have ih := index_none sep h0 a (fun i hi => by have := h (i + 1) (by simp; omega); simpa using this)
    rw [Lib.index, hp, if_neg (by simp), ih]
    rfl
theorem index_head (sep b : List UInt8) (h0 : sep ≠ []) : Lib.index (sep ++ b) sep = 0 := by
  cases sep with
  | nil => exact absurd rfl h0
  | cons x y =>
    show Lib.index (x :: (y ++ b)) (x :: y) = 0
    rw [Lib.index, if_pos (by rw [List.isPrefixOf_iff_prefix]; exact ⟨b, rfl⟩)]
theorem cut_at (a sep b : List UInt8) (h0 : sep ≠ []) (h : ∀ i, i < a.length → sep.isPrefixOf ((a ++ (sep ++ b)).drop i) = false) : Lib.cut (a ++ (sep ++ b)) sep = (a, b, true) := by
  have e : Lib.index (a ++ (sep ++ b)) sep = a.length := by
    rw [index_skip sep (sep ++ b) (by rw [index_head sep b h0]; omega) a h, index_head sep b h0]; omega
  unfold Lib.cut
  rw [e, if_pos (by omega)]
  simp only [Int.toNat_natCast]
  rw [List.take_left, ← List.append_assoc]
  congr 2
  have : a.length + sep.length = (a ++ sep).length := by rw [List.length_append]
  rw [this, List.drop_left]
theorem cut_none (a sep : List UInt8) (h0 : sep ≠ []) (h : ∀ i, i < a.length → sep.isPrefixOf (a.drop i) = false) : Lib.cut a sep = (a, [], false) := by
  unfold Lib.cut
  rw [index_none sep h0 a h, if_neg (by omega)]


theorem pre_one (c : UInt8) (l : Bs) : List.isPrefixOf [c] l = (l.head? == some c) := by
  cases l with
  | nil => rfl
  | cons x l =>
    simp only [List.isPrefixOf, List.head?_cons, Bool.and_true]
    rw [Bool.eq_iff_iff, beq_iff_eq, beq_iff_eq]
    exact ⟨fun e => by rw [e], fun e => by injection e with e; exact e.symm⟩
theorem free_pre {c : UInt8} {a : Bs} (h : c ∉ a) (r : Bs) : ∀ i, i < a.length → List.isPrefixOf [c] ((a ++ r).drop i) = false := by
  intro i hi
  rw [pre_one, List.drop_append_of_le_length (by omega), List.drop_eq_getElem_cons hi, List.cons_append, List.head?_cons]
  cases hb : (some a[i] == some c)
  · rfl
  · have := eq_of_beq hb
    injection this with this
    exact absurd (List.getElem_mem hi) (by rw [this]; exact h)
theorem cut_one {c : UInt8} (a r : Bs) (h : c ∉ a) : Lib.cut (a ++ c :: r) [c] = (a, r, true) :=
  cut_at a [c] r (by simp) (free_pre h _)
theorem cut_no {c : UInt8} (a : Bs) (h : c ∉ a) : Lib.cut a [c] = (a, [], false) :=
  cut_none a [c] (by simp) (fun i hi => by have := free_pre h [] i hi; rwa [List.append_nil] at this)
theorem prog_step (line : Bs) (out : List Rule) (hl : out.length ≤ 500) : progStep line out = lineStep line out := prog_line cut_one cut_no line out hl
theorem index_one {c : UInt8} (a r : Bs) (h : c ∉ a) : Lib.index (a ++ c :: r) [c] = a.length := by
  have e : Lib.index ([c] ++ r) [c] = 0 := index_head [c] r (by simp)
  have := index_skip [c] ([c] ++ r) (by rw [e]; omega) a (free_pre h _)
  rw [e, Int.add_zero] at this
  exact this
theorem index_no {c : UInt8} (a : Bs) (h : c ∉ a) : Lib.index a [c] = -1 := index_none [c] (by simp) a (fun i hi => by have := free_pre h [] i hi; rwa [List.append_nil] at this)
theorem count_no {c : UInt8} (a : Bs) (h : c ∉ a) : Lib.count a [c] = 0 := Lib.count_miss (index_no a h)
theorem drop_at (a r : Bs) (c : UInt8) : (a ++ c :: r).drop (a.length + 1) = r := by
  rw [show a.length + 1 = (a ++ [c]).length by simp, show a ++ c :: r = (a ++ [c]) ++ r by simp, List.drop_left]
theorem count_one {c : UInt8} (a r : Bs) (h : c ∉ a) : Lib.count (a ++ c :: r) [c] = 1 + Lib.count r [c] := by
  rw [Lib.count_hit (i := a.length) (by simp) (index_one a r h)]
  congr 2
  exact drop_at a r c
/-- strings.Split at one byte -/
theorem split_pieces (c : UInt8) : ∀ (n : Nat) (l : Bs), l.length ≤ n → Lib.splitK [c] 0 (Lib.count l [c]) l = pieces c l ∧ (pieces c l).length = Lib.count l [c] + 1
  | n, l, hn => by
    by_cases hm : c ∈ l
    · obtain ⟨a, r, rfl, ha⟩ := pieces_split c l hm
      cases n with
      | zero => simp at hn
      | succ n =>
        have ih := split_pieces c n r (by simp at hn; omega)
        rw [count_one a r ha, pieces_app c r a ha, Nat.add_comm 1]
        refine ⟨?_, by rw [List.length_cons, ih.2]⟩
        rw [Lib.splitK, index_one a r ha]
        have hne : ((a.length : Int) == -1) = false := by rw [beq_eq_false_iff_ne]; omega
        rw [hne, if_neg (by simp), Int.toNat_natCast, Nat.add_zero, List.take_left]
        congr 1
        rw [show ([c] : Bs).length = 1 from rfl, drop_at]
        exact ih.1
    · rw [count_no l hm, pieces_none c l hm]
      exact ⟨rfl, rfl⟩
theorem splitB_pieces (c : UInt8) (s : ByteArray) : (Lib.splitB ⟨#[c]⟩ 0 (Lib.countB s ⟨#[c]⟩) s).map (·.data.toList) = pieces c s.data.toList ∧ (Lib.splitB ⟨#[c]⟩ 0 (Lib.countB s ⟨#[c]⟩) s).length = Lib.countB s ⟨#[c]⟩ + 1 := by
  have h := split_pieces c _ s.data.toList (Nat.le_refl _)
  have e : (Lib.splitB ⟨#[c]⟩ 0 (Lib.countB s ⟨#[c]⟩) s).map (·.data.toList) = pieces c s.data.toList := by
    rw [Lib.splitB_data]
    exact h.1
  refine ⟨e, ?_⟩
  have := congrArg List.length e
  rw [List.length_map] at this
  rw [this]
  exact h.2
end Ro
end Go.Proofs.YtgdcffahhpeibaaGreatDoor
