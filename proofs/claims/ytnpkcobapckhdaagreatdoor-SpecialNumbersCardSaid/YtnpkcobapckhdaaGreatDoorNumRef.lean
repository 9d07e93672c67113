/-
  henkanref03.Units, plain, formal, written, Kanji, Formal by their contracts. No condition but the string's own bound.
-/
import Derived.Test.YtnpkcobapckhdaaGreatDoorNumWrite
namespace Go.Proofs.YtnpkcobapckhdaaGreatDoor
open Go.RowKit

theorem Is.append {a b : ByteArray} {x y : List UInt8} (h : Is a x) (h' : Is b y) : Is (a ++ b) (x ++ y) := by
  unfold Is at *
  rw [ByteArray.data_append, Array.toList_append, h, h']

set_option maxHeartbeats 400000 in
theorem units_any (w : World) : Calls Tryz.prog 152 #[] w fun e w' => e = .returned (.slice (some ⟨w.heap.size, 0, none⟩) 5 5) ∧ w' = w.alloc (.cells groupsC 9) := by
  go_enter Tryz.func152, Tryz.ntmps152
  go_wp2_with fail
  go_ret
  exact ⟨rfl, rfl⟩
set_option maxHeartbeats 400000 in
theorem rdigP_any (w : World) : Calls Tryz.prog 119 #[] w fun e w' => e = .returned (.slice (some ⟨w.heap.size, 0, none⟩) 10 10) ∧ w' = w.alloc (.cells (strC Num.dgP).toArray 9) := by
  go_enter Tryz.func119, Tryz.ntmps119
  go_wp2_with fail
  go_ret
  exact ⟨rfl, rfl⟩
set_option maxHeartbeats 400000 in
theorem rdigF_any (w : World) : Calls Tryz.prog 121 #[] w fun e w' => e = .returned (.slice (some ⟨w.heap.size, 0, none⟩) 10 10) ∧ w' = w.alloc (.cells (strC Num.dgF).toArray 9) := by
  go_enter Tryz.func121, Tryz.ntmps121
  go_wp2_with fail
  go_ret
  exact ⟨rfl, rfl⟩

theorem dg_at (f : Bool) (n : Nat) (h : n < 10) : ∃ t, (strC (Num.dg f)).toArray[n]? = some (.string t) ∧ Is t (Num.dch f n) := by
  have h1 : n = 0 ∨ n = 1 ∨ n = 2 ∨ n = 3 ∨ n = 4 ∨ n = 5 ∨ n = 6 ∨ n = 7 ∨ n = 8 ∨ n = 9 := by omega
  cases f <;> rcases h1 with rfl | rfl | rfl | rfl | rfl | rfl | rfl | rfl | rfl | rfl <;> exact ⟨_, rfl, rfl⟩
theorem un_at (f : Bool) (k : Nat) (h : k < 4) : ∃ t, (strC (Num.un f)).toArray[k]? = some (.string t) ∧ Is t (Num.uch f k) := by
  have h1 : k = 0 ∨ k = 1 ∨ k = 2 ∨ k = 3 := by omega
  cases f <;> rcases h1 with rfl | rfl | rfl | rfl <;> exact ⟨_, rfl, rfl⟩

set_option maxHeartbeats 4000000 in
theorem written_long (f : Bool) (s : ByteArray) (l : List UInt8) (bd bu : Nat) (w : World) (h : Is s l) (hv : Num.valid l = true) (h0 : (l == [48]) = false)
    (rd : w.heap[bd]? = some (.cells (strC (Num.dg f)).toArray 9 (0, 0))) (ru : w.heap[bu]? = some (.cells (strC (Num.un f)).toArray 9 (0, 0))) :
    Calls Tryz.prog 120 #[.string s, .slice (some ⟨bd, 0, none⟩) 10 10, .slice (some ⟨bu, 0, none⟩) 4 4, .bool f] w fun e w' => (∃ b, Is b (Num.wr f l false) ∧ e = .returned (.string b)) ∧ Below w.heap.size w w' := by
  have HI := Lib.hid h
  have HZ := Lib.hid h.size
  have d2 : (s.toList == [48]) = false := by rw [h.list]; exact h0
  have HV := Lib.hid hv
  have h20 : s.size ≤ 20 := by rw [h.size]; exact ((Num.valid_iff l).1 hv).2.1
  have RD := Lib.hid rd
  have RU := Lib.hid ru
  have ld := heap_lt rd
  have lu := heap_lt ru
  clear h h0 hv rd ru
  go_enter Tryz.func120, Tryz.ntmps120
  go_wp2_with fail
  go_loopw [9, 10, 11] (fun ov sv i wr => ∃ (k : Nat) (acc : List UInt8) (sm : Bool) (t : ByteArray), k ≤ s.size ∧ i = .int .i64 k ∧ sv = .bool sm ∧ ov = .string t ∧ Is t acc ∧ WrRel f l k acc sm ∧ Below w.heap.size w wr) (fun _ _ i _ => s.size - (intOf i).toNat)
  case atStart => exact ⟨0, [], false, _, by omega, rfl, rfl, rfl, rfl, rfl, Below.refl _ _⟩
  case round =>
    obtain ⟨k, acc, sm, t, hk, rfl, rfl, rfl, ht, hr, hb⟩ := hrel
    have HRel := Lib.hid hr
    have HT := Lib.hid ht
    have HBe := Lib.hid hb
    have hsw := hb.size
    have hal : acc.length ≤ 180 := wrRel_len hr (by rw [← HZ.out]; exact h20)
    have htl : t.size ≤ 180 := by rw [ht.size]; exact hal
    clear hr ht hb hal
    by_cases hlt : k < s.size
    · have HG := Lib.hid (HI.out.get k hlt)
      have hdig := List.all_eq_true.1 ((Num.valid_iff l).1 HV.out).2.2.1 _ (List.mem_of_getElem? HG.out)
      rw [isD_iff] at hdig
      obtain ⟨n, hn⟩ : ∃ n, Num.val s[k] = n := ⟨_, rfl⟩
      have hn0 : (s[k].toNat : Int) = (n : Int) + 48 := by unfold Num.val at hn; omega
      have hn9 : n < 10 := by omega
      obtain ⟨p, hp⟩ : ∃ p, s.size = k + 1 + p := ⟨s.size - (k + 1), by omega⟩
      have hp0 : (s.size : Int) - 1 - (k : Int) = (p : Int) := by omega
      have hp20 : p < 20 := by omega
      have HP := Lib.hid (show l.length = k + 1 + p by rw [← HZ.out]; exact hp)
      have HN := Lib.hid hn
      obtain ⟨D, hD1, hD2⟩ := dg_at f n hn9
      obtain ⟨U, hU1, hU2⟩ := un_at f (p % 4) (by omega)
      obtain ⟨G, hG1, hG2⟩ := groups_at (p / 4) (by omega)
      have hDl : D.size ≤ 3 := by rw [hD2.size]; exact Num.dch_len _ _
      have hUl : U.size ≤ 3 := by rw [hU2.size]; exact Num.uch_len _ _
      have hGl : G.size ≤ 3 := by rw [hG2.size]; exact Num.gch_len _
      have HD2 := Lib.hid hD2
      have HU2 := Lib.hid hU2
      have HG2 := Lib.hid hG2
      have HG1 := Lib.hid hG1
      have cD : wr.cell? ⟨bd, n, none⟩ = some (.string D) := by rw [Lib.cell_of_heap ((HBe.out.block _ ld).trans RD.out)]; exact hD1
      have cU : wr.cell? ⟨bu, p % 4, none⟩ = some (.string U) := by rw [Lib.cell_of_heap ((HBe.out.block _ lu).trans RU.out)]; exact hU1
      clear hn hp hD1 hU1 hG1 hdig hD2 hU2 hG2
      by_cases hz : n = 0
      · subst hz
        by_cases hp4 : p % 4 = 0
        · have hq : (((p : Int) % 4) == 0) = true := by rw [beq_iff_eq]; omega
          have KP := Lib.hid hp4; clear hp4
          cases sm
          · go_wp2_with fail
            go_roundw
            case rel => exact ⟨k + 1, acc ++ [], false, _, by omega, by go_num, rfl, rfl, by rw [List.append_nil]; exact HT.out, wrRel_step HRel.out HG.out HN.out HP.out (by rw [Num.stepOut, if_pos rfl, Num.stepG, if_neg (by simp)]; rfl) (by rw [Num.stepS, if_pos KP.out]), HBe.out⟩
            case measure => simp [intOf]; omega
          · go_wp2_with fail
            refine (units_any _).mono ?_
            rintro e w3 ⟨rfl, rfl⟩
            have cG : (wr.alloc (.cells groupsC 9)).cell? ⟨wr.heap.size, p / 4, none⟩ = some (.string G) := by rw [Lib.cell_of_heap (MapKept.heap_alloc wr _).1]; exact HG1.out
            go_wp2_with fail
            go_roundw
            case rel => exact ⟨k + 1, acc ++ (Num.gch (p / 4)), false, _, by omega, by go_num, rfl, rfl, HT.out.append HG2.out, wrRel_step HRel.out HG.out HN.out HP.out (by rw [Num.stepOut, if_pos rfl, Num.stepG, if_pos ⟨KP.out, Or.inl rfl⟩]; rfl) (by rw [Num.stepS, if_pos KP.out]), HBe.out.alloc hsw _⟩
            case measure => simp [intOf]; omega
        · have hq : (((p : Int) % 4) == 0) = false := by rw [beq_eq_false_iff_ne]; omega
          have KP := Lib.hid hp4; clear hp4
          go_wp2_with fail
          go_roundw
          case rel => exact ⟨k + 1, acc ++ [], sm, _, by omega, by go_num, rfl, rfl, by rw [List.append_nil]; exact HT.out, wrRel_step HRel.out HG.out HN.out HP.out (by rw [Num.stepOut, if_pos rfl, Num.stepG, if_neg (fun h => KP.out h.1)]; rfl) (by rw [Num.stepS, if_neg KP.out]; simp), HBe.out⟩
          case measure => simp [intOf]; omega
      · have hz1 : 0 < n := by omega
        have KZ := Lib.hid hz; clear hz
        by_cases h1 : 1 < n
        · have K1 := Lib.hid h1
          by_cases hp4 : p % 4 = 0
          · have hq : (((p : Int) % 4) == 0) = true := by rw [beq_iff_eq]; omega
            have KP := Lib.hid hp4; clear hp4
            go_wp2_with fail
            refine (units_any _).mono ?_
            rintro e w3 ⟨rfl, rfl⟩
            have cG : (wr.alloc (.cells groupsC 9)).cell? ⟨wr.heap.size, p / 4, none⟩ = some (.string G) := by rw [Lib.cell_of_heap (MapKept.heap_alloc wr _).1]; exact HG1.out
            go_wp2_with fail
            go_roundw
            case rel => exact ⟨k + 1, acc ++ (Num.dch f n ++ Num.uch f (p % 4) ++ Num.gch (p / 4)), false, _, by omega, by go_num, rfl, rfl, by simpa only [List.append_assoc] using ((HT.out.append HD2.out).append HU2.out).append HG2.out, wrRel_step HRel.out HG.out HN.out HP.out (by rw [Num.stepOut, if_neg KZ.out, if_pos (Or.inl K1.out), Num.stepG, if_pos ⟨KP.out, Or.inr KZ.out⟩]) (by rw [Num.stepS, if_pos KP.out]), HBe.out.alloc hsw _⟩
            case measure => simp [intOf]; omega
          · have hq : (((p : Int) % 4) == 0) = false := by rw [beq_eq_false_iff_ne]; omega
            have KP := Lib.hid hp4; clear hp4
            go_wp2_with fail
            go_roundw
            case rel => exact ⟨k + 1, acc ++ (Num.dch f n ++ Num.uch f (p % 4)), true, _, by omega, by go_num, rfl, rfl, by simpa only [List.append_assoc] using (HT.out.append HD2.out).append HU2.out, wrRel_step HRel.out HG.out HN.out HP.out (by rw [Num.stepOut, if_neg KZ.out, if_pos (Or.inl K1.out), Num.stepG, if_neg (fun h => KP.out h.1)] <;> simp) (by rw [Num.stepS, if_neg KP.out]; simp [KZ.out]), HBe.out⟩
            case measure => simp [intOf]; omega
        · have h1b : n ≤ 1 := by omega
          have K1 := Lib.hid h1; clear h1
          cases f
          · by_cases hp4 : p % 4 = 0
            · have hq : (((p : Int) % 4) == 0) = true := by rw [beq_iff_eq]; omega
              have KP := Lib.hid hp4; clear hp4
              go_wp2_with fail
              refine (units_any _).mono ?_
              rintro e w3 ⟨rfl, rfl⟩
              have cG : (wr.alloc (.cells groupsC 9)).cell? ⟨wr.heap.size, p / 4, none⟩ = some (.string G) := by rw [Lib.cell_of_heap (MapKept.heap_alloc wr _).1]; exact HG1.out
              go_wp2_with fail
              go_roundw
              case rel => exact ⟨k + 1, acc ++ (Num.dch false n ++ Num.uch false (p % 4) ++ Num.gch (p / 4)), false, _, by omega, by go_num, rfl, rfl, by simpa only [List.append_assoc] using ((HT.out.append HD2.out).append HU2.out).append HG2.out, wrRel_step HRel.out HG.out HN.out HP.out (by rw [Num.stepOut, if_neg KZ.out, if_pos (Or.inr (Or.inr KP.out)), Num.stepG, if_pos ⟨KP.out, Or.inr KZ.out⟩]) (by rw [Num.stepS, if_pos KP.out]), HBe.out.alloc hsw _⟩
              case measure => simp [intOf]; omega
            · have hq : (((p : Int) % 4) == 0) = false := by rw [beq_eq_false_iff_ne]; omega
              have KP := Lib.hid hp4; clear hp4
              go_wp2_with fail
              go_roundw
              case rel => exact ⟨k + 1, acc ++ (Num.uch false (p % 4)), true, _, by omega, by go_num, rfl, rfl, HT.out.append HU2.out, wrRel_step HRel.out HG.out HN.out HP.out (by rw [Num.stepOut, if_neg KZ.out, if_neg (by rintro (h | h | h); exact K1.out h; cases h; exact KP.out h), Num.stepG, if_neg (fun h => KP.out h.1)] <;> simp) (by rw [Num.stepS, if_neg KP.out]; simp [KZ.out]), HBe.out⟩
              case measure => simp [intOf]; omega
          · by_cases hp4 : p % 4 = 0
            · have hq : (((p : Int) % 4) == 0) = true := by rw [beq_iff_eq]; omega
              have KP := Lib.hid hp4; clear hp4
              go_wp2_with fail
              refine (units_any _).mono ?_
              rintro e w3 ⟨rfl, rfl⟩
              have cG : (wr.alloc (.cells groupsC 9)).cell? ⟨wr.heap.size, p / 4, none⟩ = some (.string G) := by rw [Lib.cell_of_heap (MapKept.heap_alloc wr _).1]; exact HG1.out
              go_wp2_with fail
              go_roundw
              case rel => exact ⟨k + 1, acc ++ (Num.dch true n ++ Num.uch true (p % 4) ++ Num.gch (p / 4)), false, _, by omega, by go_num, rfl, rfl, by simpa only [List.append_assoc] using ((HT.out.append HD2.out).append HU2.out).append HG2.out, wrRel_step HRel.out HG.out HN.out HP.out (by rw [Num.stepOut, if_neg KZ.out, if_pos (Or.inr (Or.inl rfl)), Num.stepG, if_pos ⟨KP.out, Or.inr KZ.out⟩]) (by rw [Num.stepS, if_pos KP.out]), HBe.out.alloc hsw _⟩
              case measure => simp [intOf]; omega
            · have hq : (((p : Int) % 4) == 0) = false := by rw [beq_eq_false_iff_ne]; omega
              have KP := Lib.hid hp4; clear hp4
              go_wp2_with fail
              go_roundw
              case rel => exact ⟨k + 1, acc ++ (Num.dch true n ++ Num.uch true (p % 4)), true, _, by omega, by go_num, rfl, rfl, by simpa only [List.append_assoc] using (HT.out.append HD2.out).append HU2.out, wrRel_step HRel.out HG.out HN.out HP.out (by rw [Num.stepOut, if_neg KZ.out, if_pos (Or.inr (Or.inl rfl)), Num.stepG, if_neg (fun h => KP.out h.1)] <;> simp) (by rw [Num.stepS, if_neg KP.out]; simp [KZ.out]), HBe.out⟩
              case measure => simp [intOf]; omega
    · obtain rfl : k = s.size := by omega
      have HE := Lib.hid (show Is t (Num.wr f l false) by
        have := HRel.out
        unfold WrRel at this
        rw [HZ.out, List.drop_length, Num.wr, List.append_nil] at this
        rw [← this]; exact HT.out)
      go_wp2_with fail
      go_ret
      exact ⟨⟨t, HE.out, rfl⟩, HBe.out⟩

set_option maxHeartbeats 400000 in
theorem written_zero (s : ByteArray) (d u o : Value) (w : World) (h : Is s [48]) :
    Calls Tryz.prog 120 #[.string s, d, u, o] w fun e w' => e = .returned (.string ⟨Num.zero.toArray⟩) ∧ w' = w := by
  have d2 : (s.toList == [48]) = true := by rw [h.list]; rfl
  clear h
  go_enter Tryz.func120, Tryz.ntmps120
  go_wp2_with fail
  go_ret
  exact ⟨rfl, rfl⟩

set_option maxHeartbeats 1000000 in
theorem rkanji_any (s : ByteArray) (l : List UInt8) (w : World) (h : Is s l) (hs : s.size ≤ 9223372036854775807) :
    Calls Tryz.prog 83 #[.string s] w (Gives (Num.valid l) (wrt false l) w) := by
  have HI := Lib.hid h
  cases hv : Num.valid l
  · have HV := Lib.hid hv
    clear h hv
    go_enter Tryz.func83, Tryz.ntmps83
    go_wp2_with fail
    refine (digits_any s l _ HI.out hs).mono ?_
    rintro e w' ⟨rfl, rfl⟩
    rw [HV.out]
    go_wp2_with fail
    go_ret2
    exact ⟨_, by unfold wrt; rw [HV.out]; exact Is.mk [], rfl, Below.refl _ _⟩
  · have HV := Lib.hid hv
    cases h0 : (l == [48])
    · have H0 := Lib.hid h0
      clear h hv h0
      go_enter Tryz.func83, Tryz.ntmps83
      go_wp2_with fail
      refine (digits_any s l _ HI.out hs).mono ?_
      rintro e w' ⟨rfl, rfl⟩
      rw [HV.out]
      go_wp2_with fail
      refine (rdigP_any _).mono ?_
      rintro e w1 ⟨rfl, rfl⟩
      go_wp2_with fail
      refine (written_long false s l w.heap.size (w.heap.size + 1) _ HI.out HV.out H0.out ?_ ?_).mono ?_
      · rw [Below.heap_alloc _ _ _ (by simp)]; exact (MapKept.heap_alloc w _).1
      · have t := (MapKept.heap_alloc (w.alloc (.cells (strC Num.dgP).toArray 9)) (.cells (strC Num.unP).toArray 9)).1
        rw [show (w.alloc (.cells (strC Num.dgP).toArray 9)).heap.size = w.heap.size + 1 from by simp] at t
        exact t
      rintro e w2 ⟨⟨b, hb1, rfl⟩, hb2⟩
      have H1 := Lib.hid hb1
      have H2 := Lib.hid ((((Below.refl _ w).alloc (Nat.le_refl _) _).alloc (by simp) _).trans (hb2.mono (by simp; omega)))
      clear hb1 hb2
      go_wp2_with fail
      go_ret2
      exact ⟨b, by unfold wrt Num.writ; rw [HV.out, H0.out]; exact H1.out, rfl, H2.out⟩
    · have H0 := Lib.hid h0
      have HS := Lib.hid (show Is s [48] by have := eq_of_beq h0; rw [← this]; exact h)
      clear h hv h0
      go_enter Tryz.func83, Tryz.ntmps83
      go_wp2_with fail
      refine (digits_any s l _ HI.out hs).mono ?_
      rintro e w' ⟨rfl, rfl⟩
      rw [HV.out]
      go_wp2_with fail
      refine (rdigP_any _).mono ?_
      rintro e w1 ⟨rfl, rfl⟩
      go_wp2_with fail
      refine (written_zero s _ _ _ _ HS.out).mono ?_
      rintro e w2 ⟨rfl, rfl⟩
      go_wp2_with fail
      go_ret2
      exact ⟨_, by unfold wrt Num.writ; rw [HV.out, H0.out]; exact Is.mk _, rfl, ((Below.refl _ w).alloc (Nat.le_refl _) _).alloc (by simp) _⟩

set_option maxHeartbeats 1000000 in
theorem rformal_any (s : ByteArray) (l : List UInt8) (w : World) (h : Is s l) (hs : s.size ≤ 9223372036854775807) :
    Calls Tryz.prog 84 #[.string s] w (Gives (Num.valid l) (wrt true l) w) := by
  have HI := Lib.hid h
  cases hv : Num.valid l
  · have HV := Lib.hid hv
    clear h hv
    go_enter Tryz.func84, Tryz.ntmps84
    go_wp2_with fail
    refine (digits_any s l _ HI.out hs).mono ?_
    rintro e w' ⟨rfl, rfl⟩
    rw [HV.out]
    go_wp2_with fail
    go_ret2
    exact ⟨_, by unfold wrt; rw [HV.out]; exact Is.mk [], rfl, Below.refl _ _⟩
  · have HV := Lib.hid hv
    cases h0 : (l == [48])
    · have H0 := Lib.hid h0
      clear h hv h0
      go_enter Tryz.func84, Tryz.ntmps84
      go_wp2_with fail
      refine (digits_any s l _ HI.out hs).mono ?_
      rintro e w' ⟨rfl, rfl⟩
      rw [HV.out]
      go_wp2_with fail
      refine (rdigF_any _).mono ?_
      rintro e w1 ⟨rfl, rfl⟩
      go_wp2_with fail
      refine (written_long true s l w.heap.size (w.heap.size + 1) _ HI.out HV.out H0.out ?_ ?_).mono ?_
      · rw [Below.heap_alloc _ _ _ (by simp)]; exact (MapKept.heap_alloc w _).1
      · have t := (MapKept.heap_alloc (w.alloc (.cells (strC Num.dgF).toArray 9)) (.cells (strC Num.unF).toArray 9)).1
        rw [show (w.alloc (.cells (strC Num.dgF).toArray 9)).heap.size = w.heap.size + 1 from by simp] at t
        exact t
      rintro e w2 ⟨⟨b, hb1, rfl⟩, hb2⟩
      have H1 := Lib.hid hb1
      have H2 := Lib.hid ((((Below.refl _ w).alloc (Nat.le_refl _) _).alloc (by simp) _).trans (hb2.mono (by simp; omega)))
      clear hb1 hb2
      go_wp2_with fail
      go_ret2
      exact ⟨b, by unfold wrt Num.writ; rw [HV.out, H0.out]; exact H1.out, rfl, H2.out⟩
    · have H0 := Lib.hid h0
      have HS := Lib.hid (show Is s [48] by have := eq_of_beq h0; rw [← this]; exact h)
      clear h hv h0
      go_enter Tryz.func84, Tryz.ntmps84
      go_wp2_with fail
      refine (digits_any s l _ HI.out hs).mono ?_
      rintro e w' ⟨rfl, rfl⟩
      rw [HV.out]
      go_wp2_with fail
      refine (rdigF_any _).mono ?_
      rintro e w1 ⟨rfl, rfl⟩
      go_wp2_with fail
      refine (written_zero s _ _ _ _ HS.out).mono ?_
      rintro e w2 ⟨rfl, rfl⟩
      go_wp2_with fail
      go_ret2
      exact ⟨_, by unfold wrt Num.writ; rw [HV.out, H0.out]; exact Is.mk _, rfl, ((Below.refl _ w).alloc (Nat.le_refl _) _).alloc (by simp) _⟩
end Go.Proofs.YtnpkcobapckhdaaGreatDoor
