/-
  A list of strings that the call itself made and owns: its cells, appends, and what keeps it.
-/
import Derived.Test.YtgdcffahhpeibaaGreatDoorRBase
import Derived.Laws.IdiomCopy
import Derived.Sort.Row
import Derived.WalkSmall
namespace Go.Proofs.YtgdcffahhpeibaaGreatDoor
open Go.RowKit

theorem infoStr : (Tryz.prog.info? 9).map (fun i => (i.zero, i.size, i.bytes)) = some (some (.string ⟨#[]⟩), 1, 16) := by kernel_rfl
/-- the slice value v holds the strings xs, in a block of the call's own (from B on), or is nil and holds none -/
def Strs (B : Nat) (v : Value) (xs : List ByteArray) (w : World) : Prop := w.ownsRow B 9 1 v xs.length (xs.map Value.string)
theorem Strs.nil (B : Nat) (w : World) : Strs B (.slice none 0 0) [] w := World.ownsRow_nil _ _ _ _
/-- not empty: where it lies -/
theorem Strs.at {B : Nat} {v : Value} {xs : List ByteArray} {w : World} (h : Strs B v xs w) (h0 : xs ≠ []) :
    ∃ g cap, v = .slice (some ⟨g, 0, none⟩) xs.length cap ∧ B ≤ g ∧ g < w.heap.size ∧ xs.length ≤ cap ∧ (∀ j x, xs[j]? = some x → w.cell? ⟨g, j, none⟩ = some (.string x)) ∧ (∀ j, w.frozen? ⟨g, j, none⟩ = false) ∧ ∃ cur, w.heap[g]? = some (.cells cur 9 (0, 0)) := by
  obtain ⟨h1, ⟨rfl, hn⟩ | ⟨g, cap, cur, rfl, hB, hg, hc, hm, hs, ht⟩⟩ := h
  · exact absurd (List.eq_nil_of_length_eq_zero hn) h0
  · refine ⟨g, cap, rfl, hB, heap_lt hg, hc, fun j x hx => ?_, fun j => Lib.frozen_of_heap hg j, cur, hg⟩
    rw [Lib.cell_of_heap hg]
    have h2 : (cur.toList.take (xs.length * 1))[j]? = some (.string x) := by rw [ht, List.getElem?_map, hx]; rfl
    have hj : j < xs.length := by
      rcases Nat.lt_or_ge j xs.length with h' | h'
      · exact h'
      · rw [List.getElem?_eq_none h'] at hx; cases hx
    rw [List.getElem?_take, if_pos (by omega)] at h2
    rw [← h2, Array.getElem?_toList]
theorem Strs.frame {B : Nat} {v : Value} {xs : List ByteArray} {w : World} (h : Strs B v xs w) : ∃ ao cap, v = .slice ao xs.length cap := by
  obtain ⟨_, ⟨hv, hn⟩ | ⟨g, cap, cur, hv, _⟩⟩ := h
  · exact ⟨none, 0, by rw [hv, hn]⟩
  · exact ⟨_, _, hv⟩
theorem Strs.drewN {B : Nat} {v : Value} {xs : List ByteArray} {w : World} (h : Strs B v xs w) (q : Nat) : Strs B v xs (w.drewN q) := h
theorem Strs.alloc {B : Nat} {v : Value} {xs : List ByteArray} {w : World} (h : Strs B v xs w) (o : Obj) : Strs B v xs (w.alloc o) := World.ownsRow.alloc h o
/-- behind a call that keeps what lies below B2, the list that lies there stands -/
theorem Strs.below {B B2 : Nat} {v : Value} {xs : List ByteArray} {w w' : World} (h : Strs B v xs w) (hb : Below B2 w w') (hB : w.heap.size ≤ B2) : Strs B v xs w' := by
  obtain ⟨h1, h2 | ⟨g, cap, cur, hv, hB', hg, r⟩⟩ := h
  · exact ⟨h1, .inl h2⟩
  · exact ⟨h1, .inr ⟨g, cap, cur, hv, hB', by rw [hb.block g (Nat.lt_of_lt_of_le (heap_lt hg) hB)]; exact hg, r⟩⟩

theorem strs_snoc {B : Nat} {v : Value} {xs : List ByteArray} {t : ByteArray} {w : World} (h : w.ownsRow B 9 1 v (xs.length + 1) (xs.map Value.string ++ [.string t])) : Strs B v (xs ++ [t]) w := by
  unfold Strs
  rw [List.length_append, List.map_append]
  exact h


end Go.Proofs.YtgdcffahhpeibaaGreatDoor
