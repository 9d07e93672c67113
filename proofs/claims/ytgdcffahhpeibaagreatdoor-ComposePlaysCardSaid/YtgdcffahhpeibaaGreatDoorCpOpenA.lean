/-
  A list of edits opened to what lies there. No condition but the row's own.
-/
import Derived.Test.YtgdcffahhpeibaaGreatDoorCpRegM
namespace Go.Proofs.YtgdcffahhpeibaaGreatDoor
open Go.ChangeShapes Go.WideShapes Go.ChangeAt Go.RowKit Go.Deep
set_option linter.unusedVariables false
set_option maxRecDepth 100000 in
theorem open_acts {H : Type} {enc : TypeId × Value → H} {W : World} {base : Nat} {v : Value} {d : DataW H} {p : List MemPlace} (hval : Value.okWide Tryz.prog W .any base 72 v) (h : DataW.Trod enc Tryz.prog W 0 (fun _ => true) true 72 v d p) :
    ∃ xs : List ActP, LieG actE v xs W ∧ xs.length ≤ 9223372036854775807 := by
  obtain ⟨a1, len, cap, rfl⟩ := okWide_slice Tryz.underlying72 hval
  have hsp : ∀ ad, a1 = some ad → ad.spot = none := by
    intro ad e
    subst e
    simp only [Value.okWide, Tryz.underlying72] at hval
    exact hval.2.2.2.1
  obtain ⟨fuel, hf⟩ := h
  rcases open_slice Tryz.underlying72 hf with ⟨hcs, _⟩ | ⟨a, len', cap', m, n, D, Pl, hcs, _, hl, hm, hmm, hd, hi⟩
  · simp [Value.cells] at hcs
    obtain ⟨rfl, rfl, rfl⟩ := hcs
    exact ⟨[], LieG.nil W, by simp⟩
  · simp [Value.cells] at hcs
    obtain ⟨rfl, rfl, rfl⟩ := hcs
    rw [if_pos rfl] at hmm
    obtain ⟨g0, o0, sp⟩ := a
    obtain rfl : sp = none := hsp _ rfl
    obtain ⟨xs, hx1, hx2⟩ := listedB (fun i (r : ActP) => ∀ (j : Nat) u, (actE.enc r)[j]? = some u → W.cell? ⟨g0, o0 + i * 3 + j, none⟩ = some u) len (fun i him => by
      obtain ⟨cs', hc, ht'⟩ := hi i (by omega)
      rw [cellsAct] at hc
      obtain ⟨r, rfl⟩ := open_act ht'
      obtain ⟨g, o, ha, hat⟩ := cells_at8 (by omega) hc
      rw [addr_add] at ha
      injection ha with ha1 ha2
      subst ha1; subst ha2
      exact ⟨r, hat⟩)
    exact ⟨xs, ⟨some ⟨g0, o0, none⟩, cap, by rw [hx1], by omega, (fun e => by cases e), (fun ad e => by injection e with e; exact ⟨_, _, e.symm⟩), (fun k r hk => ⟨g0, o0, rfl, hx2 k r hk⟩)⟩, by unfold maxLen at hm; omega⟩
end Go.Proofs.YtgdcffahhpeibaaGreatDoor
