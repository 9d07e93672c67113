/-
  What a law's card needs besides: a slice of bytes opened; a string's reach. No condition.
-/
import Derived.Test.YtcgfcedlllmbhaaDoorLawWorks
import Derived.Carry
namespace Go.Proofs.YtcgfcedlllmbhaaDoor
open Go.ChangeShapes Go.WideShapes Go.ChangeAt Go.RowKit

theorem weights_all {H : Type} {P : Program} : ∀ (ts : List TypeId) (ds : List (DataW H)) (i : Nat) (t : TypeId) (d : DataW H), ts[i]? = some t → ds[i]? = some d → ∀ x ∈ d.weights P t, x ∈ DataW.weightsEach P ts ds
  | [], _, _, _, _, h, _, _, _ => by simp at h
  | _ :: _, [], _, _, _, _, h, _, _ => by simp at h
  | t0 :: ts, d0 :: ds, 0, t, d, h1, h2, x, hx => by
    simp only [List.getElem?_cons_zero, Option.some.injEq] at h1 h2
    subst h1; subst h2
    unfold DataW.weightsEach
    exact List.mem_append_left _ hx
  | t0 :: ts, d0 :: ds, i + 1, t, d, h1, h2, x, hx => by
    unfold DataW.weightsEach
    exact List.mem_append_right _ (weights_all ts ds i t d (by simpa using h1) (by simpa using h2) x hx)
theorem reach_at {H : Type} {P : Program} {ts : List TypeId} {ds : List (DataW H)} (h : (DataW.weightsEach P ts ds).all (· ≤ reachBytes) = true) (i : Nat) {t : TypeId} {s : ByteArray} (ht : ts[i]? = some t) (hd : ds[i]? = some (.lit (.string s.data.toList)) := by rfl) : s.size ≤ 140737488351232 := by
  have := List.all_eq_true.1 h s.data.toList.length (weights_all ts ds i t _ ht hd _ (by unfold DataW.weights; simp))
  have h2 := of_decide_eq_true this
  rw [Array.length_toList] at h2
  unfold reachBytes at h2
  exact h2
theorem cellsU8 : Tryd.prog.cellsOf 5 = 1 := by kernel_rfl
theorem open_u8s {H : Type} {enc : TypeId × Value → H} {W : World} {base : Nat} {v : Value} {d : DataW H} {p : List MemPlace} (hval : Value.okWide Tryd.prog W .any base 26 v) (h : DataW.Trod enc Tryd.prog W 0 (fun _ => true) true 26 v d p) :
    ∃ (ao : Option Addr) (n c : Nat) (bs : List UInt8), v = .slice ao n c ∧ bs.length = n ∧ n ≤ 9223372036854775807 ∧ ∀ k, k < n → ∃ g o, ao = some ⟨g, o, none⟩ ∧ W.cell? ⟨g, o + k, none⟩ = some (.int .u8 ((bs.getD k 0).toNat : Int)) := by
  obtain ⟨a1, len, cap, rfl⟩ := okWide_slice Tryd.underlying26 hval
  obtain ⟨fuel, hf⟩ := h
  rcases open_ints Tryd.underlying26 Tryd.underlying5 cellsU8 hf with ⟨hcs, hx⟩ | ⟨a, len', cap', zs, hcs, _, hl, hm, hz, hx, hcell, hwz⟩
  · simp [Value.cells] at hcs
    obtain ⟨rfl, rfl, rfl⟩ := hcs
    exact ⟨none, 0, 0, [], rfl, rfl, by omega, fun k hk => by omega⟩
  · simp [Value.cells] at hcs
    obtain ⟨rfl, rfl, rfl⟩ := hcs
    have hzl : len ≤ zs.length := by rw [hz]; simp only [if_true]; exact hl
    refine ⟨some a, len, cap, (zs.take len).map fun z => UInt8.ofNat z.toNat, rfl, by simp; omega, by unfold maxLen at hm; omega, fun k hk => ?_⟩
    have hc := hcell k (by omega)
    obtain ⟨g, o, sp⟩ := a
    have hc0 := hcell 0 (by omega)
    have hsp : sp = none := Go.Proofs.cell_spot (b := g) (o := o) hc0
    subst hsp
    have ha : (⟨g, o, none⟩ : Addr).add k = ⟨g, o + k, none⟩ := by
      unfold Addr.add
      split
      · rename_i e; rw [e]; rfl
      · rfl
    rw [ha] at hc
    refine ⟨g, o, rfl, ?_⟩
    have hz2 : zs[k]? = some (zs[k]'(by omega)) := List.getElem?_eq_getElem (by omega)
    have hw := hwz _ (List.mem_of_getElem? hz2)
    have hb : 0 ≤ zs[k]'(by omega) ∧ zs[k]'(by omega) ≤ 255 := by simpa [Lit.wf, IntKind.min, IntKind.max, IntKind.signed, IntKind.bits] using hw
    have e1 : ((zs.take len).map fun z => UInt8.ofNat z.toNat).getD k 0 = UInt8.ofNat (zs[k]'(by omega)).toNat := by
      rw [List.getD_eq_getElem?_getD, List.getElem?_map, List.getElem?_take, if_pos hk, hz2]; rfl
    rw [e1]
    have hc' : W.cell? ⟨g, o + k, none⟩ = some (.int .u8 (zs.getD k 0)) := hc
    rw [hc', List.getD_eq_getElem?_getD, hz2, UInt8.toNat_ofNat']
    congr 2
    simp only [Option.getD_some]
    omega
end Go.Proofs.YtcgfcedlllmbhaaDoor
