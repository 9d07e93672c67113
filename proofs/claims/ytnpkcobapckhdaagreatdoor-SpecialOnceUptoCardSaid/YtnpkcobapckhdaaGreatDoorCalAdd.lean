/-
  caldate.Forms$1 (it joins the parts and appends) by its contract. No condition but the ranges named.
-/
import Derived.Test.YtnpkcobapckhdaaGreatDoorStrs
import Derived.Test.YtnpkcobapckhdaaGreatDoorCalForm
import Derived.Deep.RegionLaw
import Derived.Deep.AppendLies
import Derived.Outline
namespace Go.Proofs.YtnpkcobapckhdaaGreatDoor
open Go.RowKit

/-- the variable in block ob holds the list xs, in memory from B on -/
def OutIs (B ob : Nat) (xs : List ByteArray) (w : World) : Prop := B ≤ ob ∧ ∃ v, w.heap[ob]? = some (.cells #[v] 23 (0, 0)) ∧ Strs B v xs w
theorem OutIs.below {B B2 ob : Nat} {xs : List ByteArray} {w w' : World} (h : OutIs B ob xs w) (hb : Below B2 w w') (hB : w.heap.size ≤ B2) : OutIs B ob xs w' := by
  obtain ⟨h1, v, h2, h3⟩ := h
  exact ⟨h1, v, by rw [hb.block ob (Nat.lt_of_lt_of_le (heap_lt h2) hB)]; exact h2, h3.below hb hB⟩
theorem add_new (w : World) (t : ByteArray) : ∀ (j : Nat) (u : Value), [Value.string t][j]? = some u → (w.alloc (.cells #[.string t] 9)).cell? ((⟨w.heap.size, 0, none⟩ : Addr).add j) = some u := by
  intro j u hj
  match j, hj with
  | 0, hj => simp at hj; subst hj; exact Lib.cell_of_heap (MapKept.heap_alloc w (.cells #[.string t] 9)).1 0

theorem strs_setCell {B ob : Nat} {v : Value} {xs : List ByteArray} {w : World} {cs : Array Value} {fr : Nat × Nat} (h : Strs B v xs w) (hv : w.heap[ob]? = some (.cells cs 23 fr)) (u : Value) : Strs B v xs (w.setCell ⟨ob, 0, none⟩ u) := by
  have hne := Lib.ownBlock_ne h hv (by decide)
  obtain ⟨h1, h2 | ⟨g, cap, cur, rfl, hB', hg, r⟩⟩ := h
  · exact ⟨h1, .inl h2⟩
  · refine ⟨h1, .inr ⟨g, cap, cur, rfl, hB', ?_, r⟩⟩
    rw [Below.heap_setCell _ _ _ _ (by intro he; exact hne (by simp [Value.ownBlock]; exact he))]
    exact hg

set_option maxRecDepth 100000 in
set_option maxHeartbeats 3200000 in
theorem add_any (B ob g n c : Nat) (ps xs : List ByteArray) (X : List UInt8) (w : World) (ho : OutIs B ob xs w) (hB : B ≤ w.heap.size) (hp : ps.length = n) (hc : ∀ (j : Nat) (x : ByteArray), ps[j]? = some x → w.cell? ⟨g, j, none⟩ = some (.string x)) (hg : g < w.heap.size)
    (hX : (ps.map (·.data.toList)).flatten = X) (hl : X.length ≤ 1000) (hn : n ≤ 10) (hnc : n ≤ c) (hxs : xs.length ≤ 10) :
    Calls Tryz.prog 55 #[.slice (some ⟨g, 0, none⟩) n c, .pointer (some ⟨ob, 0, none⟩)] w fun e w' => e = .returned (.tuple #[]) ∧ (∃ t, Is t X ∧ OutIs B ob (xs ++ [t]) w') ∧ Below B w w' := by
  obtain ⟨i0, hi, hz0, hz1, hz2⟩ := info_parts infoStr
  obtain ⟨hBo, v, hv, hx⟩ := ho
  obtain ⟨ao, cap, rfl⟩ := hx.frame
  have hob := heap_lt hv
  have c0 : w.cell? ⟨ob, 0, none⟩ = some (.slice ao xs.length cap) := by rw [Lib.cell_of_heap hv]; rfl
  have HJ := Lib.hid (show Lib.join (ps.map (·.data.toList)) (⟨#[]⟩ : ByteArray).data.toList = X by rw [← hX]; exact CF.join_flat _)
  have HC := Lib.hid hc
  have HP := Lib.hid hp
  have HV := Lib.hid hv
  have HX := Lib.hid hx
  clear hc hp hX hv hx
  go_enter Tryz.func55, Tryz.ntmps55
  go_wp2_with fail
  go_region_law
    (first
      | (refine step_append_lies _ (by rfl) _ _ _ (by rfl) B 9 i0 _ 1 16 Tryz.underlying23 hi hz0 hz1 hz2 rfl (by omega) _ xs.length (xs.map Value.string) (by rfl) (World.ownsRow.alloc HX1.out _) ⟨w1.heap.size, 0, none⟩ 1 1 [.string t] (by rfl) (by rfl) (add_new w1 t) (by simp [Value.oneCell']) (by omega) (by unfold maxLen; omega) (by omega) (by simp; omega) (w1.heap.size + 1) (by simp) ?_; intro gg cap2 w2 hown2 hgrow hat hlt; have h2 : w2.heap[ob]? = some (.cells #[.slice ao xs.length cap] 23 (0, 0)) := by { rw [hgrow.block ob (by simp; omega) (Ne.symm (Lib.ownBlock_ne HX1.out HV1.out (by decide))), Lib.alloc_old _ _ _ (by omega)]; exact HV1.out }; have c2 : w2.cell? ⟨ob, 0, none⟩ = some (.slice ao xs.length cap) := by { rw [Lib.cell_of_heap h2]; rfl }; have f2 : w2.frozen? ⟨ob, 0, none⟩ = false := Lib.frozen_of_heap h2 0)
      | (go_simp; go_at_call 56; refine (join_any g c n ps ⟨#[]⟩ w.drew HP.out HC.out hg (by omega) hnc (by rw [HJ.out]; omega)).mono ?_; rintro e w1 ⟨⟨t, ht, rfl⟩, hb0⟩; have hb1 : Below w.heap.size w w1 := (Below.trans (⟨rfl, rfl, rfl, Nat.le_refl _, fun _ _ => rfl⟩ : Below w.heap.size w w.drew) hb0); have c1 : w1.cell? ⟨ob, 0, none⟩ = some (.slice ao xs.length cap) := (hb1.cell (p := ⟨ob, 0, none⟩) hob).trans c0; have ca : ∀ o, (w1.alloc o).cell? ⟨ob, 0, none⟩ = some (.slice ao xs.length cap) := fun o => (World.cell?_alloc_lt _ _ _ (Nat.lt_of_lt_of_le hob hb1.size)).trans c1; have hs1 := hb1.size; have HB1 := Lib.hid hb1; have HT := Lib.hid ht; have HX1 := Lib.hid (HX.out.below hb1 (Nat.le_refl _)); have HV1 := Lib.hid ((hb1.block ob hob).trans HV.out); clear hb1 hb0 ht)
      | fail)
  all_goals
    show bodyPost _ _ _ _ _ _
    go_end0
    refine ⟨rfl, ⟨t, by rw [← HJ.out]; exact HT.out, hBo, _, ?_, strs_setCell (strs_snoc hown2) h2 _⟩, ?_⟩
    · exact heap_setCell_same _ _ 0 _ _ _ h2
    · exact ((HB1.out.mono hB).trans (((Below.refl _ _).alloc (Nat.le_trans hB hs1) _).grown hgrow (by simp; omega) (fun k hk => (HX1.out.lt k hk).1))).setCell (p := ⟨ob, 0, none⟩) hBo _
end Go.Proofs.YtnpkcobapckhdaaGreatDoor
