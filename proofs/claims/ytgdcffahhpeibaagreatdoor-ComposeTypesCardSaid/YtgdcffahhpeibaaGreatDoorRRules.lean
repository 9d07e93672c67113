/-
  Rules as values and as they lie in memory: lists that came in, lists that a call owns. No condition.
-/
import Derived.Test.YtgdcffahhpeibaaGreatDoorUtfRunes
import Derived.Test.YtgdcffahhpeibaaGreatDoorRoCut
namespace Go.Proofs.YtgdcffahhpeibaaGreatDoor
open Go.RowKit
abbrev RuleB := ByteArray × ByteArray × ByteArray
abbrev ruleV (r : RuleB) : Value := .agg #[.string r.1, .string r.2.1, .string r.2.2]
def ruleL (r : RuleB) : Ro.Rule := (r.1.data.toList, r.2.1.data.toList, r.2.2.data.toList)
def ruleC (r : RuleB) : List Value := [.string r.1, .string r.2.1, .string r.2.2]
def rulesL (xs : List RuleB) : List Ro.Rule := xs.map ruleL
theorem ruleL_inj {a b : RuleB} (h : ruleL a = ruleL b) : a = b := by
  obtain ⟨a1, a2, a3⟩ := a
  obtain ⟨b1, b2, b3⟩ := b
  unfold ruleL at h
  dsimp only at h
  injection h with h1 h2
  injection h2 with h2 h3
  rw [show a1 = b1 from ByteArray.ext (Array.toList_inj.1 h1), show a2 = b2 from ByteArray.ext (Array.toList_inj.1 h2), show a3 = b3 from ByteArray.ext (Array.toList_inj.1 h3)]
theorem box3_0 (w : World) (x y z : Value) (T : TypeId) : (w.alloc (.cells #[x, y, z] T)).cell? ⟨w.heap.size, 0, none⟩ = some x := by
  rw [Lib.cell_of_heap (MapKept.heap_alloc w _).1]; rfl
theorem box3_1 (w : World) (x y z : Value) (T : TypeId) : (w.alloc (.cells #[x, y, z] T)).cell? ⟨w.heap.size, 1, none⟩ = some y := by
  rw [Lib.cell_of_heap (MapKept.heap_alloc w _).1]; rfl
theorem box3_2 (w : World) (x y z : Value) (T : TypeId) : (w.alloc (.cells #[x, y, z] T)).cell? ⟨w.heap.size, 2, none⟩ = some z := by
  rw [Lib.cell_of_heap (MapKept.heap_alloc w _).1]; rfl
/-- the slice value v reads as the rules xs -/
def LieR (v : Value) (xs : List RuleB) (w : World) : Prop := ∃ ao cap, v = .slice ao xs.length cap ∧ xs.length ≤ cap ∧ ∀ k r, xs[k]? = some r → ∃ g o, ao = some ⟨g, o, none⟩ ∧
  w.cell? ⟨g, o + k * 3, none⟩ = some (.string r.1) ∧ w.cell? ⟨g, o + k * 3 + 1, none⟩ = some (.string r.2.1) ∧ w.cell? ⟨g, o + k * 3 + 2, none⟩ = some (.string r.2.2)
theorem LieR.nil (w : World) : LieR (.slice none 0 0) [] w := ⟨none, 0, rfl, Nat.le_refl _, fun k r h => by simp at h⟩
theorem LieR.below {v : Value} {xs : List RuleB} {w w' : World} {B : Nat} (h : LieR v xs w) (hb : Below B w w') (hB : w.heap.size ≤ B) : LieR v xs w' := by
  obtain ⟨ao, cap, hv, hc, hx⟩ := h
  refine ⟨ao, cap, hv, hc, fun k r hk => ?_⟩
  obtain ⟨g, o, ha, h1, h2, h3⟩ := hx k r hk
  exact ⟨g, o, ha, below_cellU h1 hb hB, below_cellU h2 hb hB, below_cellU h3 hb hB⟩
theorem LieR.keep {v : Value} {xs : List RuleB} {w w' : World} (h : LieR v xs w) (hb : Below w.heap.size w w') : LieR v xs w' := h.below hb (Nat.le_refl _)
/-- the cells of a list of rules -/
def cellsR (xs : List RuleB) : List Value := xs.flatMap ruleC
theorem cellsR_len : ∀ xs : List RuleB, (cellsR xs).length = xs.length * 3
  | [] => rfl
  | r :: xs => by
    show (ruleC r ++ cellsR xs).length = _
    rw [List.length_append, cellsR_len xs, List.length_cons]
    show 3 + _ = _
    omega
theorem cellsR_app (xs ys : List RuleB) : cellsR (xs ++ ys) = cellsR xs ++ cellsR ys := by unfold cellsR; rw [List.flatMap_append]
theorem cellsR_at : ∀ (xs : List RuleB) (k : Nat) (r : RuleB), xs[k]? = some r → (cellsR xs)[k * 3]? = some (.string r.1) ∧ (cellsR xs)[k * 3 + 1]? = some (.string r.2.1) ∧ (cellsR xs)[k * 3 + 2]? = some (.string r.2.2)
  | [], k, r, h => by simp at h
  | x :: xs, 0, r, h => by
    rw [List.getElem?_cons_zero] at h
    injection h with h
    subst h
    exact ⟨rfl, rfl, rfl⟩
  | x :: xs, k + 1, r, h => by
    rw [List.getElem?_cons_succ] at h
    have ih := cellsR_at xs k r h
    have e : ∀ j, (cellsR (x :: xs))[(k + 1) * 3 + j]? = (cellsR xs)[k * 3 + j]? := by
      intro j
      show (ruleC x ++ cellsR xs)[(k + 1) * 3 + j]? = _
      have hl : (ruleC x).length = 3 := rfl
      rw [List.getElem?_append_right (by omega), hl, show (k + 1) * 3 + j - 3 = k * 3 + j by omega]
    have e0 := e 0
    rw [Nat.add_zero, Nat.add_zero] at e0
    exact ⟨e0.trans ih.1, (e 1).trans ih.2.1, (e 2).trans ih.2.2⟩
/-- the slice value v owns the rules xs, in a block of type T of the call's own (from B on), or is nil and holds none -/
def OwnR (T : TypeId) (B : Nat) (v : Value) (xs : List RuleB) (w : World) : Prop := w.ownsRow B T 3 v xs.length (cellsR xs)
theorem OwnR.nil (T : TypeId) (B : Nat) (w : World) : OwnR T B (.slice none 0 0) [] w := World.ownsRow_nil _ _ _ _
theorem OwnR.lie {T : TypeId} {B : Nat} {v : Value} {xs : List RuleB} {w : World} (h : OwnR T B v xs w) : LieR v xs w := by
  obtain ⟨h1, ⟨rfl, hn⟩ | ⟨g, cap, cur, rfl, hB, hg, hc, hm, hs, ht⟩⟩ := h
  · obtain rfl : xs = [] := List.eq_nil_of_length_eq_zero hn
    exact LieR.nil w
  · refine ⟨_, cap, rfl, hc, fun k r hk => ⟨g, 0, rfl, ?_⟩⟩
    have hkl : k < xs.length := by
      rcases Nat.lt_or_ge k xs.length with h' | h'
      · exact h'
      · rw [List.getElem?_eq_none h'] at hk; cases hk
    have ha := cellsR_at xs k r hk
    rw [← ht] at ha
    simp only [Nat.zero_add, Lib.cell_of_heap hg]
    have e : ∀ j, j < 3 → (cur.toList.take (xs.length * 3))[k * 3 + j]? = cur[k * 3 + j]? := by
      intro j hj
      rw [List.getElem?_take, if_pos (by omega), Array.getElem?_toList]
    have e0 := e 0 (by omega)
    rw [Nat.add_zero] at e0
    exact ⟨e0.symm.trans ha.1, (e 1 (by omega)).symm.trans ha.2.1, (e 2 (by omega)).symm.trans ha.2.2⟩
theorem OwnR.frame {T : TypeId} {B : Nat} {v : Value} {xs : List RuleB} {w : World} (h : OwnR T B v xs w) : ∃ ao cap, v = .slice ao xs.length cap := by
  obtain ⟨_, ⟨hv, hn⟩ | ⟨g, cap, cur, hv, _⟩⟩ := h
  · exact ⟨none, 0, by rw [hv, hn]⟩
  · exact ⟨_, _, hv⟩
theorem OwnR.drewN {T : TypeId} {B : Nat} {v : Value} {xs : List RuleB} {w : World} (h : OwnR T B v xs w) (q : Nat) : OwnR T B v xs (w.drewN q) := h
theorem OwnR.alloc {T : TypeId} {B : Nat} {v : Value} {xs : List RuleB} {w : World} (h : OwnR T B v xs w) (o : Obj) : OwnR T B v xs (w.alloc o) := World.ownsRow.alloc h o
theorem OwnR.below {T : TypeId} {B B2 : Nat} {v : Value} {xs : List RuleB} {w w' : World} (h : OwnR T B v xs w) (hb : Below B2 w w') (hB : w.heap.size ≤ B2) : OwnR T B v xs w' := by
  obtain ⟨h1, h2 | ⟨g, cap, cur, hv, hB', hg, r⟩⟩ := h
  · exact ⟨h1, .inl h2⟩
  · exact ⟨h1, .inr ⟨g, cap, cur, hv, hB', by rw [hb.block g (Nat.lt_of_lt_of_le (heap_lt hg) hB)]; exact hg, r⟩⟩
theorem OwnR.keep {T : TypeId} {B : Nat} {v : Value} {xs : List RuleB} {w w' : World} (h : OwnR T B v xs w) (hb : Below w.heap.size w w') : OwnR T B v xs w' := h.below hb (Nat.le_refl _)
theorem OwnR.snoc {T : TypeId} {B : Nat} {v : Value} {xs : List RuleB} {r : RuleB} {w : World} (h : w.ownsRow B T 3 v (xs.length + 1) (cellsR xs ++ ruleC r)) : OwnR T B v (xs ++ [r]) w := by
  unfold OwnR
  rw [List.length_append, cellsR_app, show cellsR [r] = ruleC r by simp [cellsR]]
  exact h
end Go.Proofs.YtgdcffahhpeibaaGreatDoor
