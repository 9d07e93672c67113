/-
  henkanref03.index by its contract. No condition but the ranges named.
-/
import Derived.Test.YtnpkcobapckhdaaGreatDoorNumParse
namespace Go.Proofs.YtnpkcobapckhdaaGreatDoor
open Go.RowKit

theorem ixF_drop (L : List (List UInt8)) (T : List UInt8) (k : Nat) (hk : k < L.length) : Num.ixF (L.drop k) T k = if L.getD k [] = T then (k : Int) else Num.ixF (L.drop (k + 1)) T (k + 1) := by
  have e : L.drop k = L.getD k [] :: L.drop (k + 1) := by
    rw [List.drop_eq_getElem_cons hk, List.getD_eq_getElem?_getD, List.getElem?_eq_getElem hk]; rfl
  rw [e, Num.ixF]

set_option maxHeartbeats 1000000 in
theorem rindex_any (b n c : Nat) (L : List (List UInt8)) (s : ByteArray) (l T : List UInt8) (at' : Nat) (w : World) (h : Is s l) (hs : s.size ≤ 140737488351232) (hn : L.length = n) (hn9 : n < 100) (h3 : at' + 3 ≤ s.size) (hT : (l.drop at').take 3 = T)
    (hL : ∀ j, j < n → L.getD j [] = [] ∨ (L.getD j []).length = 3)
    (hc : ∀ j, j < n → w.cell? ⟨b, j, none⟩ = some (.string ⟨(L.getD j []).toArray⟩)) :
    Calls Tryz.prog 183 #[.slice (some ⟨b, 0, none⟩) n c, .string s, .int .i64 at'] w fun e w' => e = .returned (.int .i64 (Num.ix L T)) ∧ Below w.heap.size w w' := by
  have HI := Lib.hid h
  have HT := Lib.hid hT
  have HL := Lib.hid hL
  have HC := Lib.hid hc
  clear h hT hL hc
  go_enter Tryz.func183, Tryz.ntmps183
  go_wp2_with fail
  go_loopw [7] (fun iv wr => ∃ k : Nat, k ≤ n ∧ iv = .int .i64 k ∧ Num.ixF (L.drop k) T k = Num.ix L T ∧ Below w.heap.size w wr) (fun iv _ => n - (intOf iv).toNat)
  case atStart => exact ⟨0, by omega, rfl, rfl, Below.refl _ _⟩
  case round =>
    obtain ⟨k, hk, rfl, hr, hb⟩ := hrel
    have HB := Lib.hid hb
    clear hb
    have HR := Lib.hid hr
    clear hr
    by_cases hkn : k < n
    · have hcell : wr.cell? ⟨b, k, none⟩ = some (.string ⟨(L.getD k []).toArray⟩) := (HB.out.cell (p := ⟨b, k, none⟩) (cell_lt (HC.out k hkn))).trans (HC.out k hkn)
      obtain ⟨x, hx⟩ : ∃ x : ByteArray, (⟨(L.getD k []).toArray⟩ : ByteArray) = x := ⟨_, rfl⟩
      have hix : Is x (L.getD k []) := by rw [← hx]; exact Is.mk _
      rw [hx] at hcell
      rcases HL.out k hkn with h0 | h3'
      · have hz : x.size = 0 := by rw [hix.size, h0]; rfl
        have ht3 : T.length = 3 := by rw [← HT.out, List.length_take, List.length_drop]; have := HI.out.size; omega
        have e : ¬ L.getD k [] = T := by intro e; rw [h0] at e; rw [← e] at ht3; cases ht3
        have HRR := Lib.hid (show Num.ixF (L.drop (k + 1)) T (k + 1) = Num.ix L T by rw [← HR.out, ixF_drop L T k (by omega), if_neg e])
        clear e ht3 h0 hix hx
        go_wp2_with fail
        go_quiet (fail)
        go_wp2_with fail
        go_roundw
        case rel => exact ⟨k + 1, by omega, by go_num, HRR.out, below_drewN HB.out nq⟩
        case measure => simp [intOf]; omega
      · have hz : x.size = 3 := by rw [hix.size, h3']
        have HX := Lib.hid hix
        obtain ⟨E, hE⟩ : ∃ E : Nat, E = at' + 3 := ⟨_, rfl⟩
        have hwE : IntKind.i64.wrap ((at' : Int) + 3) = (E : Int) := by rw [hE, IntKind.wrap_i64]; omega
        have hEd : ((E : Int) ≤ (s.size : Int)) = True := by simp; omega
        have hE1 : at' ≤ E := by omega
        have hE2 : E ≤ s.size := by omega
        have HEE := Lib.hid hE
        clear hix hx
        have hxe : (s.extract at' E).toList = T := by rw [Lib.toList_data, ← HT.out, ← HI.out.data, hE]; simp [ByteArray.data_extract, Array.toList_extract, List.extract]
        by_cases e : L.getD k [] = T
        · have hb2 : ((s.extract at' E).toList == x.toList) = true := by rw [hxe, HX.out.list, e]; exact beq_self_eq_true _
          have HRR := Lib.hid (show Num.ix L T = (k : Int) by rw [← HR.out, ixF_drop L T k (by omega), if_pos e])
          clear hxe e hE
          go_wp2_with fail
          go_quiet (fail)
          go_wp2_with fail
          go_ret
          exact ⟨by rw [HRR.out]; rfl, below_drewN HB.out nq⟩
        · have hb2 : ((s.extract at' E).toList == x.toList) = false := by rw [hxe, HX.out.list, beq_eq_false_iff_ne]; exact fun h => e h.symm
          have HRR := Lib.hid (show Num.ixF (L.drop (k + 1)) T (k + 1) = Num.ix L T by rw [← HR.out, ixF_drop L T k (by omega), if_neg e])
          clear hxe e hE
          go_wp2_with fail
          go_quiet (fail)
          go_wp2_with fail
          go_roundw
          case rel => exact ⟨k + 1, by omega, by go_num, HRR.out, below_drewN HB.out nq⟩
          case measure => simp [intOf]; omega
    · have HRR := Lib.hid (show Num.ix L T = -1 by rw [← HR.out, List.drop_eq_nil_of_le (by omega)]; rfl)
      go_wp2_with fail
      go_ret
      exact ⟨by rw [HRR.out]; rfl, HB.out⟩
end Go.Proofs.YtnpkcobapckhdaaGreatDoor
