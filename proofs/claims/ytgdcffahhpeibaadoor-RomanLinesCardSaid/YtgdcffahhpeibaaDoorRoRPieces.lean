/-
  henkanref05.pieces by its contract. No condition but the string's own bound.
-/
import Derived.Test.YtgdcffahhpeibaaDoorRoRPrint
namespace Go.Proofs.YtgdcffahhpeibaaDoor
open Go.RowKit
namespace Ro
open UT (Bs)
theorem run_next {l : Bs} {c : UInt8} {fr i : Nat} (hi : i < l.length) (hf : fr ≤ i) (hno : ∀ j, fr ≤ j → j < i → l[j]? ≠ some c) (hc : l[i]? = some c) : pieces c (l.drop fr) = (l.drop fr).take (i - fr) :: pieces c (l.drop (i + 1)) := by
  have hd : l.drop fr = (l.drop fr).take (i - fr) ++ c :: l.drop (i + 1) := by
    conv => lhs; rw [← List.take_append_drop (i - fr) (l.drop fr), List.drop_drop]
    rw [show fr + (i - fr) = i by omega, List.drop_eq_getElem_cons hi]
    rw [List.getElem?_eq_getElem hi] at hc
    injection hc with hc
    rw [hc]
  rw [hd, pieces_app, ← hd]
  intro hm
  obtain ⟨j, hj⟩ := List.getElem?_of_mem hm
  rw [List.getElem?_take] at hj
  split at hj
  · rw [List.getElem?_drop] at hj
    exact hno (fr + j) (by omega) (by omega) hj
  · cases hj
theorem run_last {l : Bs} {c : UInt8} {fr : Nat} (hno : ∀ j, fr ≤ j → j < l.length → l[j]? ≠ some c) : pieces c (l.drop fr) = [l.drop fr] := by
  apply pieces_none
  intro hm
  obtain ⟨j, hj⟩ := List.getElem?_of_mem hm
  rw [List.getElem?_drop] at hj
  have hjl : fr + j < l.length := by
    rcases Nat.lt_or_ge (fr + j) l.length with h | h
    · exact h
    · rw [List.getElem?_eq_none h] at hj; cases hj
  exact hno (fr + j) (by omega) hjl hj
end Ro
theorem Is.part {t : ByteArray} {a : List UInt8} (h : Is t a) (i j : Nat) : Is (t.extract i j) ((a.drop i).take (j - i)) := by
  unfold Is at *
  rw [Lib.extract_data, h]
set_option maxRecDepth 100000 in
theorem Strs.one {ops : Array Oper} {rest : List Oper} {o : Oper} {a : Act} {Q : Exit → Act → World → Prop} (w : World) (hgd : o.guard = none) (s x : Operand)
    (ho : o.op = .call { callee := .builtin .append, args := #[s, x], argTypes := #[23, 23] }) (B : Nat) (v : Value) (xs : List ByteArray) (hs : a.eval s = v) (hown : Strs B v xs w)
    (b : Nat) (y : ByteArray) (hx : a.eval x = .slice (some ⟨b, 0, none⟩) 1 1) (c0 : w.cell? ⟨b, 0, none⟩ = some (.string y)) (hbd : xs.length ≤ 100000000) (hB : B ≤ w.heap.size)
    (h : ∀ v' w', Strs B v' (xs ++ [y]) w' → w.grownBy w' v.ownBlock → wpList Tryd.prog ops Q rest (a.put o.dst v') w') : wpList Tryd.prog ops Q (o :: rest) a w := by
  obtain ⟨i0, hi, hz0, hz1, hz2⟩ := info_parts infoStr
  refine wpList_append_own w hgd s x 23 ho B 9 i0 (.string ⟨#[]⟩) 1 16 Tryd.underlying23 hi hz0 hz1 hz2 rfl (by decide) v xs.length (xs.map Value.string) hs hown ⟨b, 0, none⟩ 1 1 [.string y] hx rfl (fun j u hu => ?_) (fun u hu => ?_) (by unfold maxLen; omega) (by omega) hB ?_
  · rw [Addr.add_lit, Nat.zero_add]
    cases j with
    | zero => injection hu with hu; subst hu; exact c0
    | succ j => cases hu
  · simp only [List.mem_cons, List.not_mem_nil, or_false] at hu
    subst hu; rfl
  · intro v' w' h1 h2 _
    refine h v' w' ?_ h2
    unfold Strs
    rw [List.length_append, List.map_append]
    exact h1
end Go.Proofs.YtgdcffahhpeibaaDoor
