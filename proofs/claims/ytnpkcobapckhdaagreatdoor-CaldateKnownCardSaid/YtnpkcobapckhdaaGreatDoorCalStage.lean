import Derived.Test.YtnpkcobapckhdaaGreatDoorCalParse
namespace Go.Proofs.YtnpkcobapckhdaaGreatDoor
namespace CF
open Num (Bs)
def enames : List Bs := [meijiL, taishoL, showaL, heiseiL, reiwaL]
def ebase : List Int := [1867, 1911, 1925, 1988, 2018]
/-- the text and the years to add behind k eras -/
def stage (t : Bs) : Nat → Bs × Int
  | 0 => (t, 0)
  | k + 1 => rera1 (stage t k) (enames.getD k []) (ebase.getD k 0)
theorem stage_5 (t : Bs) : stage t 5 = reraCut t := rfl
theorem stage_len (t : Bs) : ∀ k, (stage t k).1.length ≤ t.length
  | 0 => Nat.le_refl _
  | k + 1 => by
    have ih := stage_len t k
    rw [stage]
    unfold rera1
    split
    · exact Nat.le_trans (by rw [List.length_drop]; omega) ih
    · exact ih

/-! ### the three pairs of signs, tried in turn -/
def sepA (k : Nat) : Bs := if k = 0 then nen else if k = 1 then [47] else [45]
def sepB (k : Nat) : Bs := if k = 0 then gatsu else if k = 1 then [47] else [45]
/-- what is found from the k-th pair on -/
def tleft (s : Bs) (f : Bs → Bs → Tr) (k : Nat) : Int × Bool :=
  firstHit s (if k = 0 then [f nen gatsu, f [47] [47], f [45] [45]] else if k = 1 then [f [47] [47], f [45] [45]] else if k = 2 then [f [45] [45]] else [])
theorem refCal_left (s : Bs) : refCal s = tleft s (rtr (stage (txt s) 5).2 (stage (txt s) 5).1) 0 := rfl
theorem progCal_left (s : Bs) : progCal s = tleft s (ptr (eraCut (txt s)).2 (eraCut (txt s)).1) 0 := rfl
theorem tleft_next (s : Bs) (f : Bs → Bs → Tr) (k : Nat) (hk : k < 3) : tleft s f k = match f (sepA k) (sepB k) with
    | none => tleft s f (k + 1)
    | some (y, m, d) => match hit s y m d with
      | some n => (n, true)
      | none => tleft s f (k + 1) := by
  obtain rfl | rfl | rfl : k = 0 ∨ k = 1 ∨ k = 2 := by omega
  · show firstHit s [f nen gatsu, f [47] [47], f [45] [45]] = _
    rw [show sepA 0 = nen from rfl, show sepB 0 = gatsu from rfl]
    cases f nen gatsu <;> rfl
  · show firstHit s [f [47] [47], f [45] [45]] = _
    rw [show sepA 1 = [47] from rfl, show sepB 1 = [47] from rfl]
    cases f [47] [47] <;> rfl
  · show firstHit s [f [45] [45]] = _
    rw [show sepA 2 = [45] from rfl, show sepB 2 = [45] from rfl]
    cases f [45] [45] <;> rfl
theorem tleft_end (s : Bs) (f : Bs → Bs → Tr) : tleft s f 3 = (0, false) := rfl
theorem tleft_skip {s : Bs} {f : Bs → Bs → Tr} {k : Nat} (hk : k < 3) (h : f (sepA k) (sepB k) = none) : tleft s f k = tleft s f (k + 1) := by
  rw [tleft_next s f k hk, h]
theorem tleft_miss {s : Bs} {f : Bs → Bs → Tr} {k : Nat} {y m d : Int} (hk : k < 3) (h : f (sepA k) (sepB k) = some (y, m, d)) (hn : ¬ (Cal.ok y m d = true ∧ s ∈ withYear (Cal.num y m d).toNat y.toNat m.toNat d.toNat)) : tleft s f k = tleft s f (k + 1) := by
  have e : hit s y m d = none := by unfold hit; rw [if_neg hn]
  rw [tleft_next s f k hk, h]
  show (match hit s y m d with | some n => (n, true) | none => tleft s f (k + 1)) = _
  rw [e]
theorem tleft_hit {s : Bs} {f : Bs → Bs → Tr} {k : Nat} {y m d : Int} (hk : k < 3) (h : f (sepA k) (sepB k) = some (y, m, d)) (ho : Cal.ok y m d = true) (hs : s ∈ withYear (Cal.num y m d).toNat y.toNat m.toNat d.toNat) : tleft s f k = (Cal.num y m d, true) := by
  have e : hit s y m d = some (Cal.num y m d) := by unfold hit; rw [if_pos ⟨ho, hs⟩]
  rw [tleft_next s f k hk, h]
  show (match hit s y m d with | some n => (n, true) | none => tleft s f (k + 1)) = _
  rw [e]
theorem sep_len (k : Nat) : 1 ≤ (sepA k).length ∧ (sepA k).length ≤ 3 ∧ 1 ≤ (sepB k).length ∧ (sepB k).length ≤ 3 := by
  unfold sepA sepB
  repeat' split
  all_goals exact ⟨by decide, by decide, by decide, by decide⟩
theorem rtr_none {a : Int} {t A B : Bs} (h : ((Lib.cut t A).2.2 && (Lib.cut (Lib.cut t A).2.1 B).2.2) = false) : rtr a t A B = none := by
  unfold rtr; rw [if_neg (by rw [← Bool.and_eq_true, h]; decide)]
theorem rtr_some {a : Int} {t A B : Bs} (h : ((Lib.cut t A).2.2 && (Lib.cut (Lib.cut t A).2.1 B).2.2) = true) : rtr a t A B = some ((rnum (Lib.cut t A).1 : Int) + a, (rnum (Lib.cut (Lib.cut t A).2.1 B).1 : Int), (rnum (Lib.cut (Lib.cut t A).2.1 B).2.1 : Int)) := by
  unfold rtr; rw [if_pos (by rw [← Bool.and_eq_true, h])]
theorem ptr_none {a : Int} {t A B : Bs} (h : ((Lib.cut t A).2.2 && (Lib.cut (Lib.cut t A).2.1 B).2.2) = false) : ptr a t A B = none := by
  unfold ptr; rw [if_neg (by rw [← Bool.and_eq_true, h]; decide)]
theorem ptr_some {a : Int} {t A B : Bs} (h : ((Lib.cut t A).2.2 && (Lib.cut (Lib.cut t A).2.1 B).2.2) = true) : ptr a t A B = some (a + pnum (Lib.cut t A).1 - 1, pnum (Lib.cut (Lib.cut t A).2.1 B).1, pnum (Lib.cut (Lib.cut t A).2.1 B).2.1) := by
  unfold ptr; rw [if_pos (by rw [← Bool.and_eq_true, h])]
theorem rnum_bd (l : Bs) : rnum l < 100000 := by
  unfold rnum
  split
  · omega
  · exact rgo_le _ 0 0 (by omega) (by omega)
theorem stage_bd (t : Bs) : ∀ k, 0 ≤ (stage t k).2 ∧ (stage t k).2 ≤ 2018
  | 0 => ⟨Int.le_refl 0, show (0 : Int) ≤ 2018 by decide⟩
  | k + 1 => by
    have ih := stage_bd t k
    rw [stage]
    unfold rera1
    split
    · show 0 ≤ ebase.getD k 0 ∧ ebase.getD k 0 ≤ 2018
      rcases Nat.lt_or_ge k 5 with h | h
      · obtain rfl | rfl | rfl | rfl | rfl : k = 0 ∨ k = 1 ∨ k = 2 ∨ k = 3 ∨ k = 4 := by omega
        all_goals (simp [ebase])
      · rw [List.getD_eq_getElem?_getD, List.getElem?_eq_none (by exact h)]; exact ⟨by decide, by decide⟩
    · exact ih
theorem eraCut_bd (t : Bs) : 1 ≤ (eraCut t).2 ∧ (eraCut t).2 ≤ 2019 := by
  unfold eraCut
  repeat' split
  all_goals (dsimp only; omega)
theorem eraCut_len (t : Bs) : (eraCut t).1.length ≤ t.length := by
  unfold eraCut
  repeat' split
  all_goals first | exact Nat.le_refl _ | (rw [List.length_drop]; omega)
end CF
end Go.Proofs.YtnpkcobapckhdaaGreatDoor
