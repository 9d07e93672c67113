/-
  Lists of rules as elements of three cells: appended whole, written to. No condition.
-/
import Derived.Test.YtgdcffahhpeibaaGreatDoorGList
import Derived.Test.YtgdcffahhpeibaaGreatDoorRoCheck
import Derived.Deep.Slices
namespace Go.Proofs.YtgdcffahhpeibaaGreatDoor
open Go.ChangeShapes Go.WideShapes Go.RowKit
/-- a rule, as it lies -/
def ruleE : Enc RuleB where
  k := 3
  enc := ruleC
  pos := by decide
  len := fun _ => rfl
  one := fun c u hu => by
    unfold ruleC at hu
    simp only [List.mem_cons, List.not_mem_nil, or_false] at hu
    rcases hu with rfl | rfl | rfl <;> rfl
theorem inforoman : (Tryz.prog.info? 87).map (fun i => (i.zero, i.size, i.bytes)) = some (some (ruleV (⟨#[]⟩, ⟨#[]⟩, ⟨#[]⟩)), 3, 48) := by kernel_rfl
def ruleApp : AppT Tryz.prog ruleE 27 87 where
  z := ruleV (⟨#[]⟩, ⟨#[]⟩, ⟨#[]⟩)
  bytes := 48
  under := Tryz.underlying27
  info := inforoman
  zsz := rfl
theorem ownR_iff {T : TypeId} {B : Nat} {v : Value} {xs : List RuleB} {w : World} : OwnR T B v xs w ↔ OwnG ruleE T B v xs w := Iff.rfl
theorem LieR.srcG {v : Value} {xs : List RuleB} {w : World} (h : LieR v xs w) (hs : v = .slice none 0 0 ∨ ∃ a n c, v = .slice (some a) n c) : SrcG ruleE v xs w := by
  obtain ⟨ao, cap, rfl, hc, hx⟩ := h
  rcases hs with e | ⟨a, n, c, e⟩
  · injection e with e1 e2 e3
    subst e1; subst e3
    obtain rfl : xs = [] := List.eq_nil_of_length_eq_zero (by omega)
    exact .inl ⟨rfl, rfl⟩
  · injection e with e1 e2 e3
    subst e1
    refine .inr ⟨a, cap, rfl, fun j u hu => ?_⟩
    have hjl : j < (ruleE.cells xs).length := by
      rcases Nat.lt_or_ge j (ruleE.cells xs).length with h | h
      · exact h
      · rw [List.getElem?_eq_none h] at hu; cases hu
    rw [ruleE.cells_len] at hjl
    have hjl3 : j < xs.length * 3 := hjl
    obtain ⟨r, hr⟩ : ∃ r, xs[j / 3]? = some r := ⟨_, List.getElem?_eq_getElem (by omega)⟩
    obtain ⟨g', o', ha, c0, c1, c2⟩ := hx _ r hr
    injection ha with ha
    subst ha
    rw [addr_add]
    obtain ⟨e0, e1, e2⟩ := cellsR_at xs _ r hr
    have hj : j = j / 3 * 3 + j % 3 := by omega
    have hu' : (cellsR xs)[j]? = some u := hu
    have h3 : j % 3 = 0 ∨ j % 3 = 1 ∨ j % 3 = 2 := by omega
    rcases h3 with h | h | h
    · rw [h, Nat.add_zero] at hj
      rw [hj] at hu' ⊢
      rw [e0] at hu'; injection hu' with hu'; rw [← hu']; exact c0
    · rw [h] at hj
      rw [hj] at hu' ⊢
      rw [e1] at hu'; injection hu' with hu'; rw [← hu', ← Nat.add_assoc]; exact c1
    · rw [h] at hj
      rw [hj] at hu' ⊢
      rw [e2] at hu'; injection hu' with hu'; rw [← hu', ← Nat.add_assoc]; exact c2
/-- an empty list that was made -/
theorem OwnR.empty (T : TypeId) (B : Nat) (w : World) (hB : B ≤ w.heap.size) : OwnR T B (.slice (some ⟨w.heap.size, 0, none⟩) 0 0) [] (w.alloc (.cells #[] T)) := by
  refine ⟨rfl, .inr ⟨w.heap.size, 0, #[], rfl, hB, (MapKept.heap_alloc w _).1, Nat.le_refl _, by unfold maxLen; omega, rfl, rfl⟩⟩
theorem cellsR_set : ∀ (xs : List RuleB) (i : Nat) (y : RuleB), i < xs.length → cellsR (xs.set i y) = (((cellsR xs).set (i * 3) (.string y.1)).set (i * 3 + 1) (.string y.2.1)).set (i * 3 + 2) (.string y.2.2)
  | [], _, _, h => by simp at h
  | x :: xs, 0, y, _ => rfl
  | x :: xs, i + 1, y, h => by
    have ih := cellsR_set xs i y (by simpa using h)
    rw [List.set_cons_succ]
    show ruleC x ++ cellsR (xs.set i y) = (((ruleC x ++ cellsR xs).set _ _).set _ _).set _ _
    rw [ih, show (i + 1) * 3 = i * 3 + 1 + 1 + 1 by omega]
    simp [ruleC]
theorem OwnR.put {T : TypeId} {B g n cap : Nat} {xs : List RuleB} {w : World} (h : OwnR T B (.slice (some ⟨g, 0, none⟩) n cap) xs w) (hn : n = xs.length) (i : Nat) (hi : i < xs.length) (y : RuleB) :
    OwnR T B (.slice (some ⟨g, 0, none⟩) n cap) (xs.set i y) (((w.setCell ⟨g, i * 3, none⟩ (.string y.1)).setCell ⟨g, i * 3 + 1, none⟩ (.string y.2.1)).setCell ⟨g, i * 3 + 2, none⟩ (.string y.2.2)) := by
  subst hn
  have h1 := (World.ownsRow.stored h (i * 3) (.string y.1)).1
  have h2 := (World.ownsRow.stored h1 (i * 3 + 1) (.string y.2.1)).1
  have h3 := (World.ownsRow.stored h2 (i * 3 + 2) (.string y.2.2)).1
  unfold OwnR
  rw [cellsR_set xs i y hi, List.length_set]
  exact h3
theorem OwnR.at {T : TypeId} {B i n : Nat} {ao : Option Addr} {cap : Nat} {xs : List RuleB} {w : World} (h : OwnR T B (.slice ao n cap) xs w) (hi : i < xs.length) :
    ∃ g, ao = some ⟨g, 0, none⟩ ∧ B ≤ g ∧ ∀ j, j < 3 → ∃ u, w.cell? ⟨g, i * 3 + j, none⟩ = some u ∧ w.frozen? ⟨g, i * 3 + j, none⟩ = false := by
  obtain ⟨h1, ⟨hv, hn⟩ | ⟨g, cap', cur, hv, hB, hg, hc, hm, hs, ht⟩⟩ := h
  · omega
  · injection hv with ha hb
    subst ha
    refine ⟨g, rfl, hB, fun j hj => ?_⟩
    have hlt : i * 3 + j < cur.size := by rw [hs]; omega
    exact ⟨cur[i * 3 + j], by rw [Lib.cell_of_heap hg]; exact Array.getElem?_eq_getElem hlt, Lib.frozen_of_heap hg _⟩
set_option maxRecDepth 100000 in
theorem open_shape {H : Type} {enc : TypeId × Value → H} {W : World} {base : Nat} {v : Value} {d : DataW H} {p : List MemPlace} (hval : Value.okWide Tryz.prog W .any base 27 v) (h : DataW.Trod enc Tryz.prog W 0 (fun _ => true) true 27 v d p) :
    v = .slice none 0 0 ∨ ∃ a n c, v = .slice (some a) n c := by
  obtain ⟨a1, len, cap, rfl⟩ := okWide_slice Tryz.underlying27 hval
  obtain ⟨fuel, hf⟩ := h
  rcases Go.Deep.open_slice Tryz.underlying27 hf with ⟨hcs, _⟩ | ⟨a, len', cap', m, n, D, Pl, hcs, _⟩
  · simp [Value.cells] at hcs
    obtain ⟨rfl, rfl, rfl⟩ := hcs
    exact .inl rfl
  · simp [Value.cells] at hcs
    obtain ⟨rfl, rfl, rfl⟩ := hcs
    exact .inr ⟨_, _, _, rfl⟩
end Go.Proofs.YtgdcffahhpeibaaGreatDoor
