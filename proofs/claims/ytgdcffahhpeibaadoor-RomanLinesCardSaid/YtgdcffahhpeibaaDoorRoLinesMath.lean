/-
  Lines put together and taken apart: the plain laws that RomanLines asks. No condition.
-/
import Derived.Test.YtgdcffahhpeibaaDoorRoStrs2
namespace Go.Proofs.YtgdcffahhpeibaaDoor
namespace Ro
open UT (Bs)
def total : List Bs → Nat
  | [] => 0
  | a :: r => a.length + 1 + total r
theorem total_app : ∀ A B : List Bs, total (A ++ B) = total A + total B
  | [], B => by simp [total]
  | a :: A, B => by rw [List.cons_append, total, total, total_app A B]; omega
theorem joined_total : ∀ L : List Bs, (joined L).length ≤ total L
  | [] => by simp [joined, total]
  | [a] => by simp [joined, total]
  | a :: b :: r => by
    have := joined_total (b :: r)
    rw [joined, total, List.length_append, List.length_cons]
    omega
theorem total_pieces (c : UInt8) : ∀ l : Bs, total (pieces c l) = l.length + 1
  | [] => by simp [pieces, total]
  | x :: r => by
    have ih := total_pieces c r
    by_cases hx : x = c
    · subst hx
      rw [pieces_cons_eq, total, ih, List.length_cons, List.length_nil]; omega
    · obtain ⟨q, qs, h1, h2⟩ := pieces_cons_ne hx r
      rw [h1, total] at ih
      rw [h2, total, List.length_cons, List.length_cons]
      omega
theorem total_pieces' {l : Bs} {L : List Bs} (h : L = pieces 10 l) : total L = l.length + 1 := by rw [h, total_pieces]
theorem total_more (L : List Bs) (k : Nat) (x : Bs) : total (L.take k ++ [x] ++ L.drop k) = total L + x.length + 1 := by
  have h := total_app (L.take k) (L.drop k)
  rw [List.take_append_drop] at h
  rw [total_app, total_app, h]
  simp only [total]
  omega
theorem total_take (L : List Bs) (k : Nat) : total (L.take k) ≤ total L := by
  have h := total_app (L.take k) (L.drop k)
  rw [List.take_append_drop] at h
  omega
theorem parse_num (l : Bs) : (parse l).2.1 ≤ l.length + 1 ∧ (parse l).1.length ≤ 500 := by
  unfold parse
  split
  · simp
  · rcases parseGo_inv (pieces 10 l) 0 [] Fine.nil with ⟨m, h1, h2⟩ | ⟨n, _, h2, h3⟩
    · rw [h1]; exact ⟨Nat.zero_le _, h2.2⟩
    · rw [h3]
      have := pieces_len 10 l
      exact ⟨by dsimp only; omega, by simp⟩
/-- the text with one skipped line more -/
theorem parse_more (l : Bs) (k : Nat) (x : Bs) (hx : skip x = true) (hx10 : (10 : UInt8) ∉ x) (hl : l.length ≤ 5000) (hxl : x.length ≤ 100) (hk : k ≤ (pieces 10 l).length) :
    parse (joined ((pieces 10 l).take k ++ [x] ++ (pieces 10 l).drop k)) = ((parse l).1, if k < (parse l).2.1 then (parse l).2.1 + 1 else (parse l).2.1, (parse l).2.2) := by
  have ht := total_more (pieces 10 l) k x
  have hj := joined_total ((pieces 10 l).take k ++ [x] ++ (pieces 10 l).drop k)
  have hp : parse l = parseGo (pieces 10 l) 0 [] := by unfold parse; rw [if_neg (by omega)]
  have hpm : parse (joined ((pieces 10 l).take k ++ [x] ++ (pieces 10 l).drop k)) = parseGo ((pieces 10 l).take k ++ x :: (pieces 10 l).drop k) 0 [] := by
    unfold parse
    rw [if_neg (by rw [total_pieces] at ht; omega), pieces_joined _ (by simp) (fun a ha => ?_)]
    · simp
    · simp only [List.mem_append, List.mem_cons, List.not_mem_nil, or_false] at ha
      rcases ha with (ha | rfl) | ha
      · exact pieces_free 10 l a (List.mem_of_mem_take ha)
      · exact hx10
      · exact pieces_free 10 l a (List.mem_of_mem_drop ha)
  rw [hpm, parseGo_skip _ _ x hx [] Fine.nil, List.take_append_drop, ← hp, List.length_take, Nat.min_eq_left hk]
/-- the beginning of a text -/
theorem parse_part (l : Bs) (k : Nat) (hl : l.length ≤ 5000) : parse (joined ((pieces 10 l).take k)) = parseGo ((pieces 10 l).take k) 0 [] := by
  have ht := total_take (pieces 10 l) k
  have hj := joined_total ((pieces 10 l).take k)
  rw [total_pieces] at ht
  unfold parse
  rw [if_neg (by omega)]
  by_cases h0 : (pieces 10 l).take k = []
  · rw [h0]; rfl
  · rw [pieces_joined _ h0 (fun a ha => pieces_free 10 l a (List.mem_of_mem_take ha))]
theorem part_good (l : Bs) (k : Nat) (hl : l.length ≤ 5000) (h : (parse l).2.2 = 0) :
    (parse (joined ((pieces 10 l).take k))).2.2 = 0 ∧ ∃ more, (parse l).1 = (parse (joined ((pieces 10 l).take k))).1 ++ more := by
  have hp : parse l = parseGo ((pieces 10 l).take k ++ (pieces 10 l).drop k) 0 [] := by unfold parse; rw [if_neg (by omega), List.take_append_drop]
  rw [parse_part l k hl]
  rw [hp, parseGo_app] at h ⊢
  rcases parseGo_inv ((pieces 10 l).take k) 0 [] Fine.nil with ⟨m1, h1, h2⟩ | ⟨n, _, _, h3⟩
  · rw [h1] at h ⊢
    dsimp only at h ⊢
    rw [if_pos rfl] at h ⊢
    refine ⟨rfl, ?_⟩
    rcases parseGo_inv ((pieces 10 l).drop k) (0 + ((pieces 10 l).take k).length) _ h2 with ⟨m2, h4, _⟩ | ⟨n, _, _, h6⟩
    · exact ⟨m2, by rw [h4]⟩
    · rw [h6] at h; cases h
  · rw [h3] at h
    simp at h
end Ro
end Go.Proofs.YtgdcffahhpeibaaDoor
