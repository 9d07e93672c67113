/-
  henkanref04.Unique, Is by their contracts, at a day that is one. No condition but the ranges named.
-/
import Derived.Test.YtnpkcobapckhdaaGreatDoorCalRForms
import Derived.Test.YtnpkcobapckhdaaGreatDoorCalParse
import Derived.BigQuiet
import Derived.Deep.QuietTactic
namespace Go.Proofs.YtnpkcobapckhdaaGreatDoor
open Go.RowKit
theorem formsL_wy (n y m d : Nat) : (CF.formsL n y m d).length = (CF.withYear n y m d).length + 2 := by
  unfold CF.formsL
  rw [List.length_append]; rfl
set_option maxRecDepth 100000 in
set_option maxHeartbeats 1000000 in
theorem runique_any (n y m d : Nat) (w : World) (h1 : 1 ≤ n) (h2 : n ≤ 3652059) (hok : Cal.ok y m d = true) (hnum : Cal.num y m d = n) :
    Calls Tryz.prog 101 #[.int .i64 n] w (fun e w' => e = .returned (.int .i64 (CF.withYear n y m d).length) ∧ Below w.heap.size w w') := by
  have HO := Lib.hid hok
  have HN := Lib.hid hnum
  have h6 := CF.withYear_len n y m d
  have HF := Lib.hid (formsL_wy n y m d)
  obtain ⟨K, hK⟩ : ∃ K, (CF.withYear n y m d).length = K := ⟨_, rfl⟩
  rw [hK] at h6 HF ⊢
  clear hok hnum hK
  go_enter Tryz.func101, Tryz.ntmps101
  go_wp2_with fail
  refine (rformsC_any n y m d _ h1 h2 HO.out HN.out).mono ?_
  rintro e w1 ⟨v, xs, hm, hx, rfl, hb⟩
  obtain ⟨ao, cap, rfl⟩ := hx.frame
  have hl : xs.length = K + 2 := by rw [← HF.out, ← hm, List.length_map]
  have HB := Lib.hid hb
  clear hm hx hb
  rw [hl]
  have hM : max (0 : Int) (((K + 2 : Nat) : Int) - 2) = (K : Int) := by omega
  go_wp2_with fail
  go_ret
  exact ⟨rfl, HB.out⟩
/-- what lies at place k of a list of texts -/
theorem text_at {xs : List ByteArray} {L : List (List UInt8)} (h : xs.map (·.data.toList) = L) (k : Nat) (hk : k < xs.length) : L[k]? = some (xs.getD k ⟨#[]⟩).data.toList := by
  rw [← h, List.getElem?_map, List.getElem?_eq_getElem hk, List.getD_eq_getElem?_getD, List.getElem?_eq_getElem hk]; rfl
theorem wy_at (n y m d k : Nat) (hk : k < (CF.withYear n y m d).length) : (CF.formsL n y m d)[k]? = (CF.withYear n y m d)[k]? := by
  unfold CF.formsL
  rw [List.getElem?_append_left hk]
set_option maxRecDepth 100000 in
set_option maxHeartbeats 2000000 in
theorem ris_any (s : ByteArray) (l : List UInt8) (n y m d : Nat) (w : World) (h : Is s l) (h1 : 1 ≤ n) (h2 : n ≤ 3652059) (hok : Cal.ok y m d = true) (hnum : Cal.num y m d = n) :
    Calls Tryz.prog 52 #[.string s, .int .i64 n] w (fun e w' => e = .returned (.bool (decide (l ∈ CF.withYear n y m d))) ∧ Below w.heap.size w w') := by
  have HI := Lib.hid h
  have HO := Lib.hid hok
  have HN := Lib.hid hnum
  have h6 := CF.withYear_len n y m d
  have HF := Lib.hid (formsL_wy n y m d)
  have HWY := Lib.hid (fun k => wy_at n y m d k)
  obtain ⟨L, hL⟩ : ∃ L, CF.withYear n y m d = L := ⟨_, rfl⟩
  have HL := Lib.hid hL
  rw [hL] at h6 HF HWY ⊢
  obtain ⟨K, hK⟩ : ∃ K, L.length = K := ⟨_, rfl⟩
  have HK := Lib.hid hK
  rw [hK] at h6 HF HWY
  clear h hok hnum hK hL
  go_enter Tryz.func52, Tryz.ntmps52
  go_wp2_with fail
  refine (rformsC_any n y m d _ h1 h2 HO.out HN.out).mono ?_
  rintro e w1 ⟨v, xs, hm, hx, rfl, hb⟩
  have hl : xs.length = K + 2 := by rw [← HF.out, ← hm, List.length_map]
  obtain ⟨g, cap, rfl, hgB, hgl, hcap, hcell, _⟩ := hx.at (by intro e; rw [e] at hl; simp at hl)
  have HC := Lib.hid hcell
  have HM := Lib.hid hm
  have HB := Lib.hid hb
  clear hm hx hb hcell hgB
  rw [hl]
  go_wp2_with fail
  go_loopw [6] (fun iv wr => ∃ k : Nat, k ≤ K ∧ iv = .int .i64 k ∧ (∀ j, j < k → L[j]? ≠ some l) ∧ Below w1.heap.size w1 wr) (fun iv _ => K - (intOf iv).toNat)
  case atStart => exact ⟨0, Nat.zero_le _, rfl, fun j hj => by omega, Below.refl _ _⟩
  case round =>
    obtain ⟨k, hk, rfl, hn, hb⟩ := hrel
    have HNO := Lib.hid hn
    have HBr := Lib.hid hb
    clear hn hb
    go_wp2_with fail
    refine (runique_any n y m d _ h1 h2 HO.out HN.out).mono ?_
    rintro e w2 ⟨rfl, hb2⟩
    rw [HL.out, HK.out]
    have HB2 := Lib.hid (HBr.out.trans (hb2.mono HBr.out.size))
    clear hb2
    by_cases hkK : k < K
    · obtain ⟨x, hx⟩ : ∃ x, xs.getD k ⟨#[]⟩ = x := ⟨_, rfl⟩
      have hkl : k < xs.length := by omega
      have hLk : L[k]? = some x.data.toList := by rw [← HWY.out k hkK, text_at HM.out k hkl, hx]
      have hcx : w2.cell? ⟨g, k, none⟩ = some (.string x) := by
        refine (HB2.out.cell (p := ⟨g, k, none⟩) hgl).trans (HC.out k x ?_)
        rw [← hx, List.getD_eq_getElem?_getD, List.getElem?_eq_getElem hkl]; rfl
      have hxe : x.toList = x.data.toList := Lib.toList_data x
      have HLK := Lib.hid hLk
      clear hx hLk
      by_cases e : x.data.toList = l
      · have hb3 : (x.toList == s.toList) = true := by rw [hxe, e, HI.out.list]; exact beq_self_eq_true _
        have HR := Lib.hid (show decide (l ∈ L) = true by rw [decide_eq_true_iff]; exact List.mem_of_getElem? (by rw [HLK.out, e]))
        clear hxe e
        go_wp2_with fail
        go_ret
        exact ⟨by rw [HR.out]; rfl, HB.out.trans (HB2.out.mono HB.out.size)⟩
      · have hb3 : (x.toList == s.toList) = false := by rw [hxe, HI.out.list]; exact beq_eq_false_iff_ne.2 e
        have HR := Lib.hid (show ∀ j, j < k + 1 → L[j]? ≠ some l by
          intro j hj hh
          rcases Nat.lt_or_ge j k with h3 | h3
          · exact HNO.out j h3 hh
          · obtain rfl : j = k := by omega
            rw [HLK.out] at hh; injection hh with hh; exact e hh)
        clear hxe e
        go_wp2_with fail
        go_roundw
        case rel => exact ⟨k + 1, by omega, by go_num, HR.out, HB2.out⟩
        case measure => simp [intOf]; omega
    · obtain rfl : k = K := by omega
      have HR := Lib.hid (show decide (l ∈ L) = false by
        rw [decide_eq_false_iff_not]
        intro hmem
        obtain ⟨j, hj, hje⟩ := List.getElem_of_mem hmem
        exact HNO.out j (by rw [← HK.out]; exact hj) (by rw [List.getElem?_eq_getElem hj, hje]))
      go_wp2_with fail
      go_ret
      exact ⟨by rw [HR.out]; rfl, HB.out.trans (HB2.out.mono HB.out.size)⟩
end Go.Proofs.YtnpkcobapckhdaaGreatDoor
