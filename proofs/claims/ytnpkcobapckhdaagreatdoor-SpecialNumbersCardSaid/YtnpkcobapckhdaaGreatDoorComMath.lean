/-
  Commas as a plain function: split from the end, three by three. No condition.
-/
import Derived.Test.YtnpkcobapckhdaaGreatDoorNumMath
import Derived.Lib.Join
namespace Go.Proofs.YtnpkcobapckhdaaGreatDoor
namespace Num
theorem com_len (f : Bool) : ∀ l, (com f l).length ≤ 2 * l.length
  | [] => by simp [com]
  | c :: r => by
    have ih := com_len false r
    rw [com, List.length_append, List.length_cons, List.length_cons]
    split <;> simp <;> omega
theorem com_cons (f : Bool) (c : UInt8) (r : Bs) : com f (c :: r) = (if f = false ∧ (r.length + 1) % 3 = 0 then [44] else []) ++ c :: com false r := rfl
theorem com_three (a b c : UInt8) : com false [a, b, c] = [44, a, b, c] := by simp [com]
theorem com_app (y : Bs) (hy : y.length = 3) : ∀ (x : Bs) (f : Bool), x ≠ [] → com f (x ++ y) = com f x ++ 44 :: y
  | [], _, h => absurd rfl h
  | [c], f, _ => by
    match y, hy with
    | [p, q, r], _ => simp [com]
  | c :: d :: x, f, _ => by
    have ih := com_app y hy (d :: x) false (by simp)
    have e2 : (((d :: x) ++ y).length + 1) % 3 = ((d :: x).length + 1) % 3 := by rw [List.length_append, hy]; omega
    show com f (c :: ((d :: x) ++ y)) = com f (c :: (d :: x)) ++ 44 :: y
    rw [com_cons f c ((d :: x) ++ y), com_cons f c (d :: x), ih, e2, List.append_assoc]
    rfl
/-- one step of the program: the last three are split off -/
theorem com_split (l : Bs) (h : 3 < l.length) : com true l = com true (l.take (l.length - 3)) ++ 44 :: l.drop (l.length - 3) := by
  have a := com_app (l.drop (l.length - 3)) (by rw [List.length_drop]; omega) (l.take (l.length - 3)) true (by
    intro e
    have := congrArg List.length e
    rw [List.length_take] at this
    simp at this
    omega)
  rw [List.take_append_drop] at a
  exact a
theorem com_short (l : Bs) (h : l.length ≤ 3) : com true l = l := by
  match l, h with
  | [], _ => rfl
  | [a], _ => simp [com]
  | [a, b], _ => simp [com]
  | [a, b, c], _ => simp [com]
/-- what is still to be split, and what has been -/
def ComRel (l a : Bs) (xs : List Bs) : Prop := com true l = com true a ++ Lib.joinTail [44] xs.reverse
theorem comRel_start (l : Bs) : ComRel l l [] := by simp [ComRel, Lib.joinTail]
theorem comRel_step {l a : Bs} {xs : List Bs} (h : ComRel l a xs) (h3 : 3 < a.length) : ComRel l (a.take (a.length - 3)) (xs ++ [a.drop (a.length - 3)]) := by
  unfold ComRel at *
  rw [h, com_split a h3, List.reverse_append]
  simp [Lib.joinTail]
theorem comRel_end {l a : Bs} {xs : List Bs} (h : ComRel l a xs) (h3 : a.length ≤ 3) : Lib.join (xs ++ [a]).reverse [44] = com true l := by
  unfold ComRel at h
  rw [h, com_short a h3, List.reverse_append]
  simp only [List.reverse_cons, List.reverse_nil, List.nil_append, List.singleton_append]
  rw [Lib.join_cons]
end Num
end Go.Proofs.YtnpkcobapckhdaaGreatDoor
