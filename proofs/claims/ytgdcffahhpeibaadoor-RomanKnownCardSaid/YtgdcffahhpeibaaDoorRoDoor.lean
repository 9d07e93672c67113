/-
  What RomanDefault and RomanKnown ask besides: the rows of a list that may be written. No condition.
-/
import Derived.Test.YtgdcffahhpeibaaDoorRoRDef
import Derived.Test.YtgdcffahhpeibaaDoorDefWalk
import Derived.Test.YtgdcffahhpeibaaDoorRoFew
namespace Go.Proofs.YtgdcffahhpeibaaDoor
open Go.RowKit
/-- a row of 162 rules may be written -/
def Hole (g : Nat) (w : World) : Prop := ∀ j, j < 486 → (∃ u, w.cell? ⟨g, j, none⟩ = some u) ∧ w.frozen? ⟨g, j, none⟩ = false
theorem Hole.set {g : Nat} {w : World} (h : Hole g w) (j : Nat) (v : Value) : Hole g (w.setCell ⟨g, j, none⟩ v) := fun i hi => by
  obtain ⟨⟨u, hu⟩, hf⟩ := h i hi
  refine ⟨?_, by rw [World.frozen?_setCell]; exact hf⟩
  by_cases e : (⟨g, j, none⟩ : Addr) = ⟨g, i, none⟩
  · rw [e]; exact ⟨v, World.cell?_setCell_same (h := hu) ..⟩
  · exact ⟨u, by rw [World.cell?_setCell_other (h := e) ..]; exact hu⟩
theorem Hole.of {g cap : Nat} {ys : List RuleB} {w : World} (h : LieR (.slice (some ⟨g, 0, none⟩) 162 cap) ys w) (hn : ys.length = 162) (hf : ∀ j, j < 486 → w.frozen? ⟨g, j, none⟩ = false) : Hole g w := fun j hj => by
  refine ⟨?_, hf j hj⟩
  obtain ⟨ao, cap', hv, _, hx⟩ := h
  obtain ⟨r, hr⟩ : ∃ r, ys[j / 3]? = some r := ⟨_, List.getElem?_eq_getElem (by omega)⟩
  obtain ⟨g', o', ha, c0, c1, c2⟩ := hx _ r hr
  injection hv with hv
  rw [← hv] at ha
  injection ha with ha
  injection ha with h1 h2
  subst h1; subst h2
  have h3 : j % 3 = 0 ∨ j % 3 = 1 ∨ j % 3 = 2 := by omega
  rcases h3 with h | h | h
  · exact ⟨_, by rw [show j = 0 + j / 3 * 3 by omega]; exact c0⟩
  · exact ⟨_, by rw [show j = 0 + j / 3 * 3 + 1 by omega]; exact c1⟩
  · exact ⟨_, by rw [show j = 0 + j / 3 * 3 + 2 by omega]; exact c2⟩
theorem def_short {ys : List RuleB} (h : rulesL ys = Ro.defL) : Short3 ys := by
  intro r hr
  have h1 : ruleL r ∈ Ro.defL := by rw [← h]; exact List.mem_map.2 ⟨r, hr, rfl⟩
  have h2 : ∀ x ∈ Ro.defL, x.1.length ≤ 100 ∧ x.2.1.length ≤ 100 ∧ x.2.2.length ≤ 100 := by decide +kernel
  obtain ⟨h3, h4, h5⟩ := h2 _ h1
  obtain ⟨r1, r2, r3⟩ := r
  have e1 := (Is.of r1).size
  have e2 := (Is.of r2).size
  have e3 := (Is.of r3).size
  unfold ruleL at h3 h4 h5
  dsimp only at h3 h4 h5 ⊢
  omega
theorem def_long {ys : List RuleB} (h : rulesL ys = Ro.defL) : ys.length = 162 := by
  have := Ro.def_len
  rw [← h] at this
  unfold rulesL at this
  rwa [List.length_map] at this
end Go.Proofs.YtgdcffahhpeibaaDoor
