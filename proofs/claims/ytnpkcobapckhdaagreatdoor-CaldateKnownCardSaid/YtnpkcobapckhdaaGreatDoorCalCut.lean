/-
  henkanref04.cut by its contract: the first place of a text. No condition but the strings' own bounds.
-/
import Derived.Test.YtnpkcobapckhdaaGreatDoorNumRef
import Derived.Below
import Derived.BigQuiet
import Derived.Deep.QuietTactic
import Derived.Test.YtnpkcobapckhdaaGreatDoorCutMath
import Derived.Lib.IndexMore
namespace Go.Proofs.YtnpkcobapckhdaaGreatDoor
open Go.RowKit
theorem bel_dw {B : Nat} {a w : World} (h : Below B a w) (q : Nat) : Below B a (w.drewN q) := h.trans ⟨rfl, rfl, rfl, Nat.le_refl _, fun _ _ => rfl⟩
theorem cut_hit (l t : List UInt8) (k : Nat) (h : (l.drop k).take t.length = t) (hk : k + t.length ≤ l.length) (hn : ∀ j, j < k → Lib.occAt l t j = false) : Lib.cut l t = (l.take k, l.drop (k + t.length), true) := by
  have hi : Lib.index l t = k := Lib.index_first (by omega) (by rw [Lib.occAt_iff_take _ _ _ hk, h]; exact beq_self_eq_true _) hn
  unfold Lib.cut
  rw [hi, if_pos (by omega)]
  rfl
theorem cut_miss (l t : List UInt8) (k : Nat) (h0 : 1 ≤ t.length) (hk : l.length < k + t.length) (hn : ∀ j, j < k → Lib.occAt l t j = false) : Lib.cut l t = (l, [], false) := by
  have hi : Lib.index l t = -1 := Lib.index_none (fun j hj => by
    rcases Nat.lt_or_ge j k with h | h
    · exact hn j h
    · cases ho : Lib.occAt l t j
      · rfl
      · rcases Lib.occAt_room ho with h2 | h2
        · omega
        · rw [h2] at h0; simp at h0)
  unfold Lib.cut
  rw [hi, if_neg (by omega)]
theorem occ_next (l t : List UInt8) (k : Nat) (h : ¬ (l.drop k).take t.length = t) (hk : k + t.length ≤ l.length) (hn : ∀ j, j < k → Lib.occAt l t j = false) : ∀ j, j < k + 1 → Lib.occAt l t j = false := by
  intro j hj
  rcases Nat.lt_or_ge j k with h2 | h2
  · exact hn j h2
  · obtain rfl : j = k := by omega
    rw [Lib.occAt_iff_take _ _ _ hk]
    exact beq_eq_false_iff_ne.2 h

/-- what cut answers -/
def CutOf (c : List UInt8 × List UInt8 × Bool) (w : World) (e : Ending) (w' : World) : Prop :=
  ∃ a b : ByteArray, Is a c.1 ∧ Is b c.2.1 ∧ e = .returned (.tuple #[.string a, .string b, .bool c.2.2]) ∧ Below w.heap.size w w'
set_option maxHeartbeats 2000000 in
theorem rcut_any (s sep : ByteArray) (l t : List UInt8) (w : World) (h : Is s l) (h' : Is sep t) (hs : s.size ≤ 140737488351232) (h0 : 1 ≤ t.length) (h3 : t.length ≤ 3) :
    Calls Tryz.prog 49 #[.string s, .string sep] w (CutOf (Lib.cut l t) w) := by
  have HI := Lib.hid h
  have HJ := Lib.hid h'
  have HZ := Lib.hid h.size
  have HZ' := Lib.hid h'.size
  have hz0 : 1 ≤ sep.size := by rw [h'.size]; exact h0
  have hz3 : sep.size ≤ 3 := by rw [h'.size]; exact h3
  have H0 := Lib.hid h0
  clear h h' h0 h3
  go_enter Tryz.func49, Tryz.ntmps49
  go_wp2_with fail
  go_loopw [7] (fun iv wr => ∃ k : Nat, k ≤ s.size ∧ iv = .int .i64 k ∧ (∀ j, j < k → Lib.occAt l t j = false) ∧ ∃ q, wr = w.drewN q) (fun iv _ => s.size - (intOf iv).toNat)
  case atStart => exact ⟨0, by omega, rfl, fun j hj => by omega, 0, rfl⟩
  case round =>
    obtain ⟨k, hk, rfl, hn, q, rfl⟩ := hrel
    have HN := Lib.hid hn
    clear hn
    obtain ⟨E, hE⟩ : ∃ E : Nat, E = k + sep.size := ⟨_, rfl⟩
    have hwE : IntKind.i64.wrap ((k : Int) + (sep.size : Int)) = (E : Int) := by rw [hE, IntKind.wrap_i64]; omega
    have hwE2 : wrap64 ((k : Int) + (sep.size : Int)) = (E : Int) := by rw [hE]; unfold wrap64; omega
    have hE1 : k + 1 ≤ E := by omega
    have hE9 : k ≤ E := by omega
    have HE := Lib.hid hE
    by_cases hkn : E ≤ s.size
    · have hxe : (s.extract k E).toList = (l.drop k).take t.length := by rw [Lib.toList_data, ← HI.out.data, hE, HZ'.out]; simp [ByteArray.data_extract, Array.toList_extract, List.extract]
      have hEd : ((E : Int) ≤ (s.size : Int)) = True := by simp; omega
      have hkl : k + t.length ≤ l.length := by rw [← HZ.out, ← HZ'.out]; omega
      by_cases e : (l.drop k).take t.length = t
      · have hb2 : ((s.extract k E).toList == sep.toList) = true := by rw [hxe, HJ.out.list, e]; exact beq_self_eq_true _
        have HC := Lib.hid (cut_hit l t k e hkl HN.out)
        clear hxe e hkl hE
        go_wp2_with fail
        go_quiet (fail)
        go_wp2_with fail
        go_ret3
        refine ⟨s.extract 0 k, s.extract E s.size, ?_, ?_, by rw [HC.out]; rfl, bel_dw (bel_dw (Below.refl _ _) _) _⟩
        · rw [HC.out]
          unfold Is
          rw [← HI.out.data]
          simp [ByteArray.data_extract, Array.toList_extract, List.extract]
        · rw [HC.out]
          unfold Is
          rw [← HI.out.data, ← HZ'.out, ← HE.out]
          simp [ByteArray.data_extract, Array.toList_extract, List.extract]
          rw [List.take_of_length_le]
          rw [List.length_drop]
          exact Nat.le_refl _
      · have hb2 : ((s.extract k E).toList == sep.toList) = false := by rw [hxe, HJ.out.list, beq_eq_false_iff_ne]; exact fun h => e h
        have HC := Lib.hid (occ_next l t k e hkl HN.out)
        clear hxe e hkl hE
        go_wp2_with fail
        go_roundw
        case rel => exact ⟨k + 1, by omega, by go_num, HC.out, _, rfl⟩
        case measure => simp [intOf]; omega
    · have HC := Lib.hid (cut_miss l t k H0.out (by rw [← HZ.out, ← HZ'.out]; omega) HN.out)
      clear hE
      go_wp2_with fail
      go_ret3
      exact ⟨s, ⟨#[]⟩, by rw [HC.out]; exact HI.out, by rw [HC.out]; exact Is.mk _, by rw [HC.out]; rfl, bel_dw (Below.refl _ _) _⟩
end Go.Proofs.YtnpkcobapckhdaaGreatDoor
