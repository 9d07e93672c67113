/-
  Parts of a list of strings, appended to a list of the call's own in a region that draws its order. No condition.
-/
import Derived.Test.YtgdcffahhpeibaaDoorRoLines
import Derived.Test.YtgdcffahhpeibaaDoorRoTurn
namespace Go.Proofs.YtgdcffahhpeibaaDoor
open Go.RowKit
/-- a list of strings that is read: cells -/
def SrcS (v : Value) (ys : List ByteArray) (w : World) : Prop := ∃ ad c, v = .slice (some ad) ys.length c ∧ ∀ (j : Nat) u, (ys.map Value.string)[j]? = some u → w.cell? (ad.add j) = some u
theorem SrcS.below {v : Value} {ys : List ByteArray} {w w' : World} {B : Nat} (h : SrcS v ys w) (hb : Below B w w') (hB : w.heap.size ≤ B) : SrcS v ys w' := by
  obtain ⟨ad, c, hv, hc⟩ := h
  refine ⟨ad, c, hv, fun j u hu => ?_⟩
  have := hc j u hu
  exact (hb.cell (Nat.lt_of_lt_of_le (World.block_lt_of_cell? w _ this) hB)).trans this
theorem SrcS.one {b : Nat} {y : ByteArray} {w : World} (h : w.cell? ⟨b, 0, none⟩ = some (.string y)) : SrcS (.slice (some ⟨b, 0, none⟩) 1 1) [y] w := by
  refine ⟨_, _, rfl, fun j u hu => ?_⟩
  cases j with
  | zero => injection hu with hu; subst hu; exact h
  | succ j => cases hu
theorem add_none (g o j : Nat) : (⟨g, o, none⟩ : Addr).add j = ⟨g, o + j, none⟩ := by
  unfold Addr.add
  split
  · rename_i e; rw [e]; rfl
  · rfl
theorem srcS_take {g cap k : Nat} {xs : List ByteArray} {w : World} (h : ∀ (k : Nat) x, xs[k]? = some x → w.cell? ⟨g, k, none⟩ = some (.string x)) (hk : k ≤ xs.length) : SrcS (.slice (some ⟨g, 0, none⟩) k cap) (xs.take k) w := by
  refine ⟨_, _, by rw [List.length_take, Nat.min_eq_left hk], fun j u hu => ?_⟩
  rw [add_none, Nat.zero_add]
  rw [List.getElem?_map] at hu
  cases hx : (xs.take k)[j]? with
  | none => rw [hx] at hu; cases hu
  | some x =>
    rw [hx] at hu
    injection hu with hu
    rw [← hu]
    rw [List.getElem?_take] at hx
    split at hx
    · exact h j x hx
    · cases hx
theorem srcS_drop {g k c n : Nat} {xs : List ByteArray} {w : World} (h : ∀ (k : Nat) x, xs[k]? = some x → w.cell? ⟨g, k, none⟩ = some (.string x)) (hn : xs.length = n) : SrcS (.slice (some ⟨g, k, none⟩) (n - k) c) (xs.drop k) w := by
  refine ⟨_, _, by rw [List.length_drop, hn], fun j u hu => ?_⟩
  rw [add_none]
  rw [List.getElem?_map] at hu
  cases hx : (xs.drop k)[j]? with
  | none => rw [hx] at hu; cases hu
  | some x =>
    rw [hx] at hu
    injection hu with hu
    rw [← hu]
    rw [List.getElem?_drop] at hx
    exact h (k + j) x hx
theorem Strs.empty (B : Nat) (w : World) (hB : B ≤ w.heap.size) : Strs B (.slice (some ⟨w.heap.size, 0, none⟩) 0 0) [] (w.alloc (.cells #[] 9)) :=
  ⟨rfl, .inr ⟨w.heap.size, 0, #[], rfl, hB, (MapKept.heap_alloc w _).1, Nat.le_refl _, by unfold maxLen; omega, rfl, rfl⟩⟩
set_option maxRecDepth 100000 in
theorem step_append_strs {ops : Array Oper} {o : Oper} {a : Act} {K : Act → World → Prop} {Q : Exit → Act → World → Prop} {E : Prop} (w : World) (hgd : o.guard = none) (s x : Operand)
    (ho : o.op = .call { callee := .builtin .append, args := #[s, x], argTypes := #[23, 23] }) (B : Nat) (v : Value) (xs : List ByteArray) (hs : a.eval s = v) (hown : Strs B v xs w)
    (v2 : Value) (ys : List ByteArray) (hx : a.eval x = v2) (hsrc : SrcS v2 ys w) (hbd : xs.length + ys.length ≤ 1000000) (hB : B ≤ w.heap.size)
    (h : ∀ v' w', Strs B v' (xs ++ ys) w' → (∀ W, Below B W w → Below B W w') → (∀ b o z, w.cell? ⟨b, o, none⟩ = some z → some b ≠ v.ownBlock → w'.cell? ⟨b, o, none⟩ = some z) → w.heap.size ≤ w'.heap.size → K (a.put o.dst v') w') : if Region.wanted o (yielded ops a.tmps) = true then Oper.wp Tryd.prog o a w K Q else E := by
  have hw : Region.wanted o (yielded ops a.tmps) = true := by simp [Region.wanted, hgd]
  rw [if_pos hw]
  obtain ⟨i0, hi, hz0, hz1, hz2⟩ := info_parts infoStr
  obtain ⟨ad, c, rfl, hc⟩ := hsrc
  refine wp_append_own w s x 23 ho B 9 i0 (.string ⟨#[]⟩) 1 16 Tryd.underlying23 hi hz0 hz1 hz2 rfl (by decide) v xs.length (xs.map Value.string) hs hown ad ys.length c (ys.map Value.string) hx (by simp) hc (fun u hu => ?_) (by unfold maxLen; omega) (by omega) hB ?_
  · obtain ⟨y, _, rfl⟩ := List.mem_map.1 hu; rfl
  · intro v' w' h1 h2 _
    refine h v' w' ?_ (fun W hW => hW.grown h2 hB (fun k hk => (World.ownsRow.lt hown k hk).1)) (fun b o z hz hne => cell_grown h2 hz hne) h2.size
    unfold Strs
    rw [List.length_append, List.map_append]
    exact h1
end Go.Proofs.YtgdcffahhpeibaaDoor
