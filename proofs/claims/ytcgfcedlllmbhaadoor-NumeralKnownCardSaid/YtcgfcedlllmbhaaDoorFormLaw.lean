/-
  What the laws on lists need: equal texts are equal strings; a list as it lies behind calls. No condition.
-/
import Derived.Test.YtcgfcedlllmbhaaDoorRForms
import Derived.Test.YtcgfcedlllmbhaaDoorLawOpen
namespace Go.Proofs.YtcgfcedlllmbhaaDoor
open Go.RowKit

theorem ba_inj {a b : ByteArray} (h : a.data.toList = b.data.toList) : a = b := (Is.of a).eq (show Is b a.data.toList from h.symm)
theorem bas_inj : ∀ {xs ys : List ByteArray}, xs.map (·.data.toList) = ys.map (·.data.toList) → xs = ys
  | [], [], _ => rfl
  | [], _ :: _, h => by simp at h
  | _ :: _, [], h => by simp at h
  | x :: xs, y :: ys, h => by
    simp only [List.map_cons, List.cons.injEq] at h
    rw [ba_inj h.1, bas_inj h.2]
theorem foldl_addU_len (M L : List (List UInt8)) : (M.foldl Num.addU L).length ≤ L.length + M.length := by
  induction M generalizing L with
  | nil => simp
  | cons x M ih =>
    rw [List.foldl_cons, List.length_cons]
    have := ih (Num.addU L x)
    have := Num.addU_len L x
    omega
theorem forms_len (l : List UInt8) : (Num.forms l).length ≤ 6 := by
  unfold Num.forms
  split
  · simp
  · split
    · exact foldl_addU_len _ _
    · simp
end Go.Proofs.YtcgfcedlllmbhaaDoor
