/-
  How long a string is that the card reaches. No condition.
-/
import Derived.Test.YtdcpiabmgjajlaaDoorAuMore
import Derived.Carry
namespace Go.Proofs.YtdcpiabmgjajlaaDoor
open Go.ChangeShapes Go.WideShapes Go.ChangeAt Go.RowKit

theorem weights_all {H : Type} {P : Program} : ∀ (ts : List TypeId) (ds : List (DataW H)) (i : Nat) (t : TypeId) (d : DataW H), ts[i]? = some t → ds[i]? = some d → ∀ x ∈ d.weights P t, x ∈ DataW.weightsEach P ts ds
  | [], _, _, _, _, h, _, _, _ => by simp at h
  | _ :: _, [], _, _, _, _, h, _, _ => by simp at h
  | t0 :: ts, d0 :: ds, 0, t, d, h1, h2, x, hx => by
    simp only [List.getElem?_cons_zero, Option.some.injEq] at h1 h2
    subst h1; subst h2
    unfold DataW.weightsEach
    exact List.mem_append_left _ hx
  | t0 :: ts, d0 :: ds, i + 1, t, d, h1, h2, x, hx => by
    unfold DataW.weightsEach
    exact List.mem_append_right _ (weights_all ts ds i t d (by simpa using h1) (by simpa using h2) x hx)
theorem reach_at {H : Type} {P : Program} {ts : List TypeId} {ds : List (DataW H)} (h : (DataW.weightsEach P ts ds).all (· ≤ reachBytes) = true) (i : Nat) {t : TypeId} {s : ByteArray} (ht : ts[i]? = some t) (hd : ds[i]? = some (.lit (.string s.data.toList)) := by rfl) : s.size ≤ 140737488351232 := by
  have := List.all_eq_true.1 h s.data.toList.length (weights_all ts ds i t _ ht hd _ (by unfold DataW.weights; simp))
  have h2 := of_decide_eq_true this
  rw [Array.length_toList] at h2
  unfold reachBytes at h2
  exact h2
end Go.Proofs.YtdcpiabmgjajlaaDoor
