/-
  A list of one-cell values that the call itself made and owns; henkanref01.Runes, Count by their contracts. No condition but the string's own bound.
-/
import Derived.Test.YtgdcffahhpeibaaDoorUtfRef
import Derived.Test.YtgdcffahhpeibaaDoorStrs
namespace Go.Proofs.YtgdcffahhpeibaaDoor
open Go.RowKit
/-- the slice value v holds the cells cs of type T, in a block of the call's own (from B on), or is nil and holds none -/
def Own1 (T : TypeId) (B : Nat) (v : Value) (cs : List Value) (w : World) : Prop := w.ownsRow B T 1 v cs.length cs
theorem Own1.nil (T : TypeId) (B : Nat) (w : World) : Own1 T B (.slice none 0 0) [] w := World.ownsRow_nil _ _ _ _
theorem Own1.at {T : TypeId} {B : Nat} {v : Value} {cs : List Value} {w : World} (h : Own1 T B v cs w) (h0 : cs ≠ []) :
    ∃ g cap, v = .slice (some ⟨g, 0, none⟩) cs.length cap ∧ B ≤ g ∧ g < w.heap.size ∧ cs.length ≤ cap ∧ (∀ j x, cs[j]? = some x → w.cell? ⟨g, j, none⟩ = some x) ∧ (∀ j, w.frozen? ⟨g, j, none⟩ = false) ∧ ∃ cur, w.heap[g]? = some (.cells cur T (0, 0)) := by
  obtain ⟨h1, ⟨rfl, hn⟩ | ⟨g, cap, cur, rfl, hB, hg, hc, hm, hs, ht⟩⟩ := h
  · exact absurd (List.eq_nil_of_length_eq_zero hn) h0
  · refine ⟨g, cap, rfl, hB, heap_lt hg, hc, fun j x hx => ?_, fun j => Lib.frozen_of_heap hg j, cur, hg⟩
    rw [Lib.cell_of_heap hg]
    have h2 : (cur.toList.take (cs.length * 1))[j]? = some x := by rw [ht, hx]
    have hj : j < cs.length := by
      rcases Nat.lt_or_ge j cs.length with h' | h'
      · exact h'
      · rw [List.getElem?_eq_none h'] at hx; cases hx
    rw [List.getElem?_take, if_pos (by omega)] at h2
    rw [← h2, Array.getElem?_toList]
theorem Own1.frame {T : TypeId} {B : Nat} {v : Value} {cs : List Value} {w : World} (h : Own1 T B v cs w) : ∃ ao cap, v = .slice ao cs.length cap := by
  obtain ⟨_, ⟨hv, hn⟩ | ⟨g, cap, cur, hv, _⟩⟩ := h
  · exact ⟨none, 0, by rw [hv, hn]⟩
  · exact ⟨_, _, hv⟩
theorem Own1.drewN {T : TypeId} {B : Nat} {v : Value} {cs : List Value} {w : World} (h : Own1 T B v cs w) (q : Nat) : Own1 T B v cs (w.drewN q) := h
theorem Own1.alloc {T : TypeId} {B : Nat} {v : Value} {cs : List Value} {w : World} (h : Own1 T B v cs w) (o : Obj) : Own1 T B v cs (w.alloc o) := World.ownsRow.alloc h o
theorem Own1.below {T : TypeId} {B B2 : Nat} {v : Value} {cs : List Value} {w w' : World} (h : Own1 T B v cs w) (hb : Below B2 w w') (hB : w.heap.size ≤ B2) : Own1 T B v cs w' := by
  obtain ⟨h1, h2 | ⟨g, cap, cur, hv, hB', hg, r⟩⟩ := h
  · exact ⟨h1, .inl h2⟩
  · exact ⟨h1, .inr ⟨g, cap, cur, hv, hB', by rw [hb.block g (Nat.lt_of_lt_of_le (heap_lt hg) hB)]; exact hg, r⟩⟩
theorem Own1.snoc {T : TypeId} {B : Nat} {v x : Value} {cs : List Value} {w : World} (h : w.ownsRow B T 1 v (cs.length + 1) (cs ++ [x])) : Own1 T B v (cs ++ [x]) w := by
  unfold Own1
  rw [List.length_append]
  exact h
theorem infoRune : (Tryd.prog.info? 21).map (fun i => (i.zero, i.size, i.bytes)) = some (some (.int .i32 0), 1, 4) := by kernel_rfl
def runeC (xs : List Nat) : List Value := xs.map fun (c : Nat) => Value.int .i32 (c : Int)
def RunesAt (B : Nat) (v : Value) (xs : List Nat) (w : World) : Prop := Own1 21 B v (runeC xs) w
/-- what Runes hands back -/
def RunesOf (l : List UInt8) (w : World) (e : Ending) (w' : World) : Prop :=
  Below w.heap.size w w' ∧ ((Lib.validD l = false ∧ e = .returned (.tuple #[.slice none 0 0, .bool false])) ∨ (Lib.validD l = true ∧ ∃ v, RunesAt w.heap.size v (UT.runes l) w' ∧ e = .returned (.tuple #[v, .bool true])))
end Go.Proofs.YtgdcffahhpeibaaDoor
