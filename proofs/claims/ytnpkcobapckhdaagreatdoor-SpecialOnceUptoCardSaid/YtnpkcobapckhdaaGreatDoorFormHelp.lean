/-
  slices.Contains over a list that the call owns; a list of two strings. No condition but the ranges named.
-/
import Derived.Test.YtnpkcobapckhdaaGreatDoorFormMath
import Derived.Test.YtnpkcobapckhdaaGreatDoorNumCom
import Derived.Test.YtnpkcobapckhdaaGreatDoorNumParse
namespace Go.Proofs.YtnpkcobapckhdaaGreatDoor
open Go.RowKit

theorem strs_two {B g : Nat} {x y : ByteArray} {w : World} (hB : B ≤ g) (h : w.heap[g]? = some (.cells #[.string x, .string y] 9 (0, 0))) : Strs B (.slice (some ⟨g, 0, none⟩) 2 2) [x, y] w :=
  ⟨rfl, .inr ⟨g, 2, _, rfl, hB, h, Nat.le_refl _, by decide, rfl, rfl⟩⟩
theorem idx_mem (t : List UInt8) : ∀ (L : List (List UInt8)) (i : Nat), 0 ≤ Num.ixF L t i ↔ t ∈ L
  | [], _ => by simp [Num.ixF]
  | z :: L, i => by
    have ih := idx_mem t L (i + 1)
    unfold Num.ixF
    split
    · rename_i h; simp [h]
    · rename_i h
      rw [ih]
      simp only [List.mem_cons]
      constructor
      · exact Or.inr
      · rintro (e | e)
        · exact absurd e.symm h
        · exact e
theorem ba_of {a : ByteArray} {l : List UInt8} (h : Is a l) : (⟨l.toArray⟩ : ByteArray) = a := (Is.mk l).eq h

set_option maxHeartbeats 1000000 in
theorem contains_any (B : Nat) (v : Value) (xs : List ByteArray) (x : ByteArray) (t : List UInt8) (w : World) (hx : Is x t) (h : Strs B v xs w) (h0 : xs ≠ []) (hl : xs.length ≤ 1000) :
    Calls Tryz.prog 71 #[v, .string x] w fun e w' => e = .returned (.bool (decide (t ∈ xs.map (·.data.toList)))) ∧ w' = w := by
  obtain ⟨g, cap, rfl, hB, hg, hcap, hc, hf, _⟩ := h.at h0
  obtain ⟨n, hn⟩ : ∃ n, xs.length = n := ⟨_, rfl⟩
  have HN := Lib.hid hn
  have HX := Lib.hid hx
  have hcells : ∀ j, j < n → w.cell? ⟨g, 0 + j, none⟩ = some (.string ⟨((xs.map (·.data.toList)).getD j []).toArray⟩) := by
    intro j hj
    rw [Nat.zero_add]
    have e : xs[j]? = some (xs[j]'(by omega)) := List.getElem?_eq_getElem (by omega)
    rw [hc j _ e, List.getD_eq_getElem?_getD, List.getElem?_map, e]
    congr 2
  have HC := Lib.hid hcells
  have hn1 : n ≤ 1000 := by omega
  have HM := Lib.hid (idx_mem t (xs.map (·.data.toList)) 0)
  have HBD := Lib.hid (ix_bd (xs.map (·.data.toList)) t)
  rw [hn]
  clear hn hx hc hf hcells hcap h h0 hl
  go_enter Tryz.func71, Tryz.ntmps71
  go_wp2_with fail
  refine (index_any g 0 n cap (xs.map (·.data.toList)) x t _ HX.out (by rw [List.length_map]; exact HN.out) (by omega) HC.out).mono ?_
  rintro e w2 ⟨rfl, rfl⟩
  obtain ⟨k, hk⟩ : ∃ k, Num.ix (xs.map (·.data.toList)) t = k := ⟨_, rfl⟩
  rw [hk]
  have HK := Lib.hid hk
  clear hk
  by_cases hk0 : 0 ≤ k
  · have HD := Lib.hid (show decide (t ∈ xs.map (·.data.toList)) = true from decide_eq_true (HM.out.1 (by have := HK.out; unfold Num.ix at this; omega)))
    go_wp2_with fail
    go_ret
    exact ⟨by rw [HD.out]; first | rfl | simp, rfl⟩
  · have HD := Lib.hid (show decide (t ∈ xs.map (·.data.toList)) = false from decide_eq_false (fun h => hk0 (by have := HK.out; have := HM.out.2 h; unfold Num.ix at *; omega)))
    have hk1 : decide (0 ≤ k) = false := decide_eq_false hk0
    go_wp2_with fail
    go_ret
    exact ⟨by rw [HD.out]; first | rfl | simp, rfl⟩
end Go.Proofs.YtnpkcobapckhdaaGreatDoor
