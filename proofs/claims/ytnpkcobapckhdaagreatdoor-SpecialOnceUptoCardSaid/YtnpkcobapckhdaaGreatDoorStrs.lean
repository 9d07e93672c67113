/-
  A list of strings that the call itself made and owns: its cells, appends, and what keeps it.
-/
import Derived.Test.YtnpkcobapckhdaaGreatDoorNumTabs
import Derived.Laws.IdiomCopy
import Derived.Sort.Row
import Derived.WalkSmall
namespace Go.Proofs.YtnpkcobapckhdaaGreatDoor
open Go.RowKit

theorem infoStr : (Tryz.prog.info? 9).map (fun i => (i.zero, i.size, i.bytes)) = some (some (.string ⟨#[]⟩), 1, 16) := by kernel_rfl
/-- the slice value v holds the strings xs, in a block of the call's own (from B on), or is nil and holds none -/
def Strs (B : Nat) (v : Value) (xs : List ByteArray) (w : World) : Prop := w.ownsRow B 9 1 v xs.length (xs.map Value.string)
theorem Strs.nil (B : Nat) (w : World) : Strs B (.slice none 0 0) [] w := World.ownsRow_nil _ _ _ _
/-- not empty: where it lies -/
theorem Strs.at {B : Nat} {v : Value} {xs : List ByteArray} {w : World} (h : Strs B v xs w) (h0 : xs ≠ []) :
    ∃ g cap, v = .slice (some ⟨g, 0, none⟩) xs.length cap ∧ B ≤ g ∧ g < w.heap.size ∧ xs.length ≤ cap ∧ (∀ j x, xs[j]? = some x → w.cell? ⟨g, j, none⟩ = some (.string x)) ∧ (∀ j, w.frozen? ⟨g, j, none⟩ = false) ∧ ∃ cur, w.heap[g]? = some (.cells cur 9 (0, 0)) := by
  obtain ⟨h1, ⟨rfl, hn⟩ | ⟨g, cap, cur, rfl, hB, hg, hc, hm, hs, ht⟩⟩ := h
  · exact absurd (List.eq_nil_of_length_eq_zero hn) h0
  · refine ⟨g, cap, rfl, hB, heap_lt hg, hc, fun j x hx => ?_, fun j => Lib.frozen_of_heap hg j, cur, hg⟩
    rw [Lib.cell_of_heap hg]
    have h2 : (cur.toList.take (xs.length * 1))[j]? = some (.string x) := by rw [ht, List.getElem?_map, hx]; rfl
    have hj : j < xs.length := by
      rcases Nat.lt_or_ge j xs.length with h' | h'
      · exact h'
      · rw [List.getElem?_eq_none h'] at hx; cases hx
    rw [List.getElem?_take, if_pos (by omega)] at h2
    rw [← h2, Array.getElem?_toList]
theorem Strs.frame {B : Nat} {v : Value} {xs : List ByteArray} {w : World} (h : Strs B v xs w) : ∃ ao cap, v = .slice ao xs.length cap := by
  obtain ⟨_, ⟨hv, hn⟩ | ⟨g, cap, cur, hv, _⟩⟩ := h
  · exact ⟨none, 0, by rw [hv, hn]⟩
  · exact ⟨_, _, hv⟩
theorem Strs.drewN {B : Nat} {v : Value} {xs : List ByteArray} {w : World} (h : Strs B v xs w) (q : Nat) : Strs B v xs (w.drewN q) := h
theorem Strs.alloc {B : Nat} {v : Value} {xs : List ByteArray} {w : World} (h : Strs B v xs w) (o : Obj) : Strs B v xs (w.alloc o) := World.ownsRow.alloc h o
/-- behind a call that keeps what lies below B2, the list that lies there stands -/
theorem Strs.below {B B2 : Nat} {v : Value} {xs : List ByteArray} {w w' : World} (h : Strs B v xs w) (hb : Below B2 w w') (hB : w.heap.size ≤ B2) : Strs B v xs w' := by
  obtain ⟨h1, h2 | ⟨g, cap, cur, hv, hB', hg, r⟩⟩ := h
  · exact ⟨h1, .inl h2⟩
  · exact ⟨h1, .inr ⟨g, cap, cur, hv, hB', by rw [hb.block g (Nat.lt_of_lt_of_le (heap_lt hg) hB)]; exact hg, r⟩⟩

theorem strs_snoc {B : Nat} {v : Value} {xs : List ByteArray} {t : ByteArray} {w : World} (h : w.ownsRow B 9 1 v (xs.length + 1) (xs.map Value.string ++ [.string t])) : Strs B v (xs ++ [t]) w := by
  unfold Strs
  rw [List.length_append, List.map_append]
  exact h

theorem join_any (g cap n : Nat) (ys : List ByteArray) (sep : ByteArray) (w : World) (hn : ys.length = n) (hc : ∀ (j : Nat) (x : ByteArray), ys[j]? = some x → w.cell? ⟨g, j, none⟩ = some (.string x)) (hg : g < w.heap.size) (hN : n ≤ 140737488355328) (hcap : n ≤ cap)
    (hlen : (Lib.join (ys.map (·.data.toList)) sep.data.toList).length ≤ 140737488355328) :
    Calls Tryz.prog 56 #[.slice (some ⟨g, 0, none⟩) n cap, .string sep] w fun e w' => (∃ t, Is t (Lib.join (ys.map (·.data.toList)) sep.data.toList) ∧ e = .returned (.string t)) ∧ Below w.heap.size w w' := by
  subst hn
  exact (Tryz.strings_Join g 0 cap ys sep w (fun j x hx => by rw [Nat.zero_add]; exact hc j x hx) hg hN hcap hlen).mono fun e w' ⟨he, hb⟩ => ⟨⟨_, Is.mk _, he⟩, hb⟩

theorem below_setCells {B : Nat} {a : World} (b : Nat) (hB : B ≤ b) : ∀ (vs : List Value) (o : Nat) (w : World), Below B a w → Below B a (w.setCells b o vs)
  | [], _, _, h => h
  | v :: r, o, w, h => by
    rw [World.setCells]
    exact below_setCells b hB r (o + 1) _ (h.setCell (p := ⟨b, o, none⟩) hB v)
open Go.Lib Go.Sort in
theorem strs_enc (ys : List ByteArray) (n : Nat) (hn : ys.length = n) : (Lib.strsOf (fun i => ys.getD i ByteArray.empty) n).reverse.map encStr = ys.reverse.map Value.string := by
  subst hn
  rw [List.map_reverse, List.map_reverse]
  congr 1
  apply List.ext_getElem?
  intro i
  rw [List.getElem?_map, List.getElem?_map]
  unfold Lib.strsOf
  rw [List.getElem?_map]
  by_cases h : i < ys.length
  · rw [List.getElem?_range h, List.getElem?_eq_getElem h]
    simp only [Option.map_some]
    rw [List.getD_eq_getElem?_getD, List.getElem?_eq_getElem h]
    rfl
  · rw [List.getElem?_eq_none (by rw [List.length_range]; omega), List.getElem?_eq_none (by omega)]
    rfl
open Go.Lib Go.Sort in
theorem reverse_any (g cap n : Nat) (ys : List ByteArray) (w : World) (hn : ys.length = n) (hc : ∀ (j : Nat) (x : ByteArray), ys[j]? = some x → w.cell? ⟨g, j, none⟩ = some (.string x)) (hf : ∀ j, w.frozen? ⟨g, j, none⟩ = false) (hN : n ≤ 9223372036854775807) :
    Calls Tryz.prog 110 #[.slice (some ⟨g, 0, none⟩) n cap] w fun e w' => e = .returned (.tuple #[]) ∧ (∀ (j : Nat) (x : ByteArray), ys.reverse[j]? = some x → w'.cell? ⟨g, j, none⟩ = some (.string x)) ∧ RowKit.Below g w w' := by
  refine (Tryz.slices_Reverse_string_cells g 0 n cap (fun i => ys.getD i ByteArray.empty) w hN (fun i hi => ?_) (fun j _ => hf (0 + j))).mono ?_
  · rw [Nat.zero_add]
    refine hc i _ ?_
    rw [List.getD_eq_getElem?_getD, List.getElem?_eq_getElem (by omega)]
    rfl
  · rintro e w' ⟨rfl, q, rfl⟩
    rw [strs_enc ys n hn]
    refine ⟨rfl, fun j x hx => ?_, below_setCells g (Nat.le_refl _) _ _ _ (below_drewN (Below.refl _ _) q)⟩
    have hl : (ys.reverse.map Value.string).length = n := by rw [List.length_map, List.length_reverse]; exact hn
    have hj : j < n := by
      rcases Nat.lt_or_ge j ys.reverse.length with h' | h'
      · rw [List.length_reverse] at h'; omega
      · rw [List.getElem?_eq_none h'] at hx; cases hx
    have a := World.cell?_setCells_in g (ys.reverse.map Value.string) 0 (w.drewN q) (fun k hk => by
      rw [hl] at hk
      rw [Nat.zero_add]
      have := hc k (ys[k]'(by omega)) (List.getElem?_eq_getElem (by omega))
      show (w.cell? _).isSome = true
      rw [this]; rfl) j (by omega)
    rw [Nat.zero_add] at a
    rw [a, List.getElem_map]
    rw [List.getElem?_eq_getElem (by rw [List.length_reverse]; omega)] at hx
    rw [Option.some.inj hx]
end Go.Proofs.YtnpkcobapckhdaaGreatDoor
