/-
  What the walks of rules ask of a world: unicode/utf8's two tables, as the program's text lays them; strings as lists of bytes; small laws on worlds. No condition.
-/
import Derived.Test.YtgdcffahhpeibaaGreatDoorBld
import Derived.Shelf.Strings.SlTrimAscii
import Derived.Laws.IdiomCopy
import Derived.Sort.Row
import Derived.WalkSmall
import Derived.Lib.LaidU8T
import Derived.Laws.AppendOwnNone
import Derived.Below
import Derived.BigQuiet
import Derived.Deep.QuietTactic
namespace Go.Proofs.YtgdcffahhpeibaaGreatDoor
open Go.RowKit
/-- an equation that no tactic looks into -/
structure Eqq {α : Type} (a b : α) : Prop where
  out : a = b
theorem cell_lt {w : World} {b o : Nat} {v : Value} (h : w.cell? ⟨b, o, none⟩ = some v) : b < w.heap.size := by
  unfold World.cell? at h
  rcases Nat.lt_or_ge b w.heap.size with h' | h'
  · exact h'
  · simp [Array.getElem?_eq_none h'] at h
structure Tabs (w : World) : Prop where
  utf : Lib.Utf8Tabs 0 1 w
  mx : ∃ m, w.cell? ⟨2, 0, none⟩ = some (.int .i64 m)
theorem below_cellU {B : Nat} {w w' : World} {p : Addr} {v : Value} (h : w.cell? p = some v) (hb : Below B w w') (hB : w.heap.size ≤ B) : w'.cell? p = some v :=
  (hb.cell (Nat.lt_of_lt_of_le (World.block_lt_of_cell? w _ h) hB)).trans h
theorem Tabs.below {B : Nat} {w w' : World} (h : Tabs w) (hb : Below B w w') (hB : w.heap.size ≤ B) : Tabs w' where
  utf := ⟨fun c hc => by
      have a := h.utf.1 c hc
      have b := cell_lt a
      rw [← a]; exact hb.cell (p := ⟨_, _, none⟩) (Nat.lt_of_lt_of_le b hB), fun i hi => by
      have a := h.utf.2 i hi
      have b := cell_lt a.1
      exact ⟨by rw [← a.1]; exact hb.cell (p := ⟨_, _, none⟩) (Nat.lt_of_lt_of_le b hB), by rw [← a.2]; exact hb.cell (p := ⟨_, _, none⟩) (Nat.lt_of_lt_of_le b hB)⟩⟩
  mx := let ⟨m, h⟩ := h.mx; ⟨m, below_cellU h hb hB⟩
theorem Tabs.keep {w w' : World} (h : Tabs w) (hb : Below w.heap.size w w') : Tabs w' := h.below hb (Nat.le_refl _)
/-- t is the string of these bytes -/
def Is (t : ByteArray) (l : List UInt8) : Prop := t.data.toList = l
theorem Is.eq {t t' : ByteArray} {l : List UInt8} (h : Is t l) (h' : Is t' l) : t = t' := by
  cases t; cases t'
  unfold Is at h h'
  simp only [ByteArray.mk.injEq]
  exact Array.toList_inj.1 (h.trans h'.symm)
theorem Is.size {t : ByteArray} {l : List UInt8} (h : Is t l) : t.size = l.length := by
  unfold Is at h
  rw [← h]; exact (Array.length_toList).symm
theorem Is.list {t : ByteArray} {l : List UInt8} (h : Is t l) : t.toList = l := (Lib.toList_data t).trans h
theorem Is.mk (l : List UInt8) : Is ⟨l.toArray⟩ l := List.toList_toArray
theorem Is.data {t : ByteArray} {l : List UInt8} (h : Is t l) : t.data.toList = l := h
theorem Is.of (s : ByteArray) : Is s s.data.toList := rfl
theorem Is.get {t : ByteArray} {l : List UInt8} (h : Is t l) (i : Nat) (hi : i < t.size) : l[i]? = some (t[i]'hi) := by
  unfold Is at h
  subst h
  rw [Array.getElem?_toList]
  exact Array.getElem?_eq_getElem hi
theorem Is.append {a b : ByteArray} {x y : List UInt8} (h : Is a x) (h' : Is b y) : Is (a ++ b) (x ++ y) := by
  unfold Is at *
  rw [ByteArray.data_append, Array.toList_append, h, h']
theorem Is.from {t : ByteArray} {a : List UInt8} (h : Is t a) (i : Nat) : Is (t.extract i t.size) (a.drop i) := by
  unfold Is at *
  rw [Lib.extract_to_end, h]
theorem Is.upto {t : ByteArray} {a : List UInt8} (h : Is t a) (j : Nat) : Is (t.extract 0 j) (a.take j) := by
  unfold Is at *
  rw [Lib.extract_data, h]; simp
theorem bel_dn {B : Nat} {a w : World} (h : Below B a w) (q : Nat) : Below B a (w.drewN q) := h.trans ⟨rfl, rfl, rfl, Nat.le_refl _, fun _ _ => rfl⟩
theorem bas_inj : ∀ {xs ys : List ByteArray}, xs.map (·.data.toList) = ys.map (·.data.toList) → xs = ys
  | [], [], _ => rfl
  | [], _ :: _, h => by simp at h
  | _ :: _, [], h => by simp at h
  | x :: xs, y :: ys, h => by
    simp only [List.map_cons, List.cons.injEq] at h
    rw [show x = y from ByteArray.ext (Array.toList_inj.1 h.1), bas_inj h.2]
end Go.Proofs.YtgdcffahhpeibaaGreatDoor
