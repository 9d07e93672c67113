/-
  roman.Default by its contract: the rules of the document, in order. The tables are as the program lays them.
-/
import Derived.Test.YtgdcffahhpeibaaGreatDoorDefWalkMath
import Derived.Deep.RegionHeld3
import Derived.BigQuiet
import Derived.IntWalk
import Derived.Deep.RegionLaw
namespace Go.Proofs.YtgdcffahhpeibaaGreatDoor
open Go.RowKit
theorem wrap_one9 {a c : Nat} (h : a + 1 = c) (hc : c ≤ 1000000000000) : wrap64 ((a : Int) + 1) = (c : Int) ∧ IntKind.i64.wrap ((a : Int) + 1) = (c : Int) := ⟨by unfold wrap64; omega, by rw [IntWalk.i64_in _ (by omega)]; omega⟩
theorem vowel_cut (j : Nat) (hj : j < 5) : (⟨#[97, 105, 117, 101, 111]⟩ : ByteArray).extract j (j + 1) = ba (Ro.vowel.getD j []) ∧ (ba (Ro.vowel.getD j [])).size = 1 := by
  rcases (show j = 0 ∨ j = 1 ∨ j = 2 ∨ j = 3 ∨ j = 4 by omega) with rfl | rfl | rfl | rfl | rfl <;> decide
theorem tail_len (j : Nat) : ((Ro.tableSeq ++ Ro.tailSeq.take j).map Ro.toB).length ≤ 300 := by
  rw [List.length_map, List.length_append, List.length_take]
  have h := Ro.outI_len 25
  rw [Ro.outI_all] at h
  have : Ro.tailSeq.length = 7 := rfl
  omega
def dblB : ByteArray := ⟨#[98, 99, 100, 102, 103, 104, 106, 107, 109, 112, 114, 115, 116, 118, 119, 121, 122]⟩
theorem dbl_at : ∀ j, j < 17 → Utf8.decode dblB j = ((Ro.doubles.getD j 0).toNat, 1) ∧ Utf8.encode (((Ro.doubles.getD j 0).toNat : Nat) : Int) = ba [Ro.doubles.getD j 0] := by decide +kernel
theorem dbl_seq : ∀ j, j < 17 → Ro.doubleSeq.take (j + 1) = Ro.doubleSeq.take j ++ [([Ro.doubles.getD j 0] ++ [Ro.doubles.getD j 0], [227, 129, 163], [Ro.doubles.getD j 0])] := by decide +kernel
theorem dbl_len (j : Nat) : ((Ro.tableSeq ++ Ro.tailSeq ++ Ro.doubleSeq.take j).map Ro.toB).length ≤ 1000 := by
  rw [List.length_map, List.length_append, List.length_append, List.length_take]
  have h := Ro.outI_len 25
  rw [Ro.outI_all] at h
  have : Ro.tailSeq.length = 7 := rfl
  have : Ro.doubleSeq.length = 17 := rfl
  omega
theorem iterPos_of9 {w : World} {k p : Nat} {s : ByteArray} (h : w.heap[k]? = some (.stringIter s p)) : w.iterPos k = p := by simp [World.iterPos, h]
theorem DefIs.iterAt {B b F p : Nat} {s : ByteArray} {xs : List RuleB} {w : World} (h : DefIs B b xs w) (hit : w.heap[F]? = some (.stringIter s p)) (q : Nat) : DefIs B b xs (w.iterAt F s q) := by
  obtain ⟨h1, v, h2, h3⟩ := h
  have hb : b ≠ F := fun e => by rw [e, hit] at h2; cases h2
  refine ⟨h1, v, by rw [Lib.iterAt_other _ _ _ _ _ hb]; exact h2, ?_⟩
  obtain ⟨q1, q2 | ⟨g, cap, cur, hv, hB', hg, r⟩⟩ := h3
  · exact ⟨q1, .inl q2⟩
  · have hgF : g ≠ F := fun e => by rw [e, hit] at hg; cases hg
    exact ⟨q1, .inr ⟨g, cap, cur, hv, hB', by rw [Lib.iterAt_other _ _ _ _ _ hgF]; exact hg, r⟩⟩
theorem len_more {L : List RuleB} {x : RuleB} {n : Nat} (h : L.length ≤ n) : (L ++ [x]).length ≤ n + 1 := by rw [List.length_append, List.length_singleton]; omega
theorem DefIs.drew {B b : Nat} {xs : List RuleB} {w : World} (h : DefIs B b xs w) : DefIs B b xs w.drew := h
theorem ba_app' (a b : List UInt8) : ba a ++ ba b = ba (a ++ b) := ((is_ba a).append (is_ba b)).ba
set_option maxRecDepth 100000 in
set_option maxHeartbeats 8000000 in
theorem default_own (w : World) (ht : Tabs w) : Calls Tryz.prog 14 #[] w fun e w' => (∃ g cap ys, e = .returned (.slice (some ⟨g, 0, none⟩) 162 cap) ∧ rulesL ys = Ro.defL ∧ LieR (.slice (some ⟨g, 0, none⟩) 162 cap) ys w' ∧ w.heap.size ≤ g ∧ (∀ j, j < 486 → w'.frozen? ⟨g, j, none⟩ = false)) ∧ Below w.heap.size w w' := by
  have HT := Lib.hid ht
  clear ht
  obtain ⟨B, hB⟩ : ∃ B, w.heap.size = B := ⟨_, rfl⟩
  have HBB := Eqq.mk hB
  have HD0 := Lib.hid (show DefIs B B [] (w.alloc (.cells #[.slice none 0 0] 27)) from ⟨Nat.le_refl _, _, by rw [← hB]; exact (MapKept.heap_alloc w _).1, OwnR.nil _ _ _⟩)
  have HB0 := Lib.hid (show Below B w (w.alloc (.cells #[.slice none 0 0] 27)) from (Below.refl B w).alloc (by omega) _)
  go_enter Tryz.func14, Tryz.ntmps14
  go_wp2_with fail
  try rw [hB]
  clear hB
  with_reducible refine (split_any Ro.rowsB 10 _ ?hs ⟨#[10]⟩ rfl Ro.rows_len.2 26 Ro.rows_len.1 _ (HT.out.keep (by rw [HBB.out]; exact HB0.out))).mono ?_
  case hs => kernel_rfl
  rintro e w2 ⟨rfl, rfl⟩
  have HL2 := Lib.hid (show ((w.alloc (.cells #[.slice none 0 0] 27)).alloc (.cells ((Ro.pieces 10 Ro.rowsB).map fun p => Value.string (ba p)).toArray 9)).heap[B + 1]? = some (.cells ((Ro.pieces 10 Ro.rowsB).map fun p => Value.string (ba p)).toArray 9 (0, 0)) by
    have h := (MapKept.heap_alloc (w.alloc (.cells #[.slice none 0 0] 27)) (.cells ((Ro.pieces 10 Ro.rowsB).map fun p => Value.string (ba p)).toArray 9)).1
    rw [World.size_alloc, HBB.out] at h
    exact h)
  have HD2 := Lib.hid (HD0.out.keep ((Below.refl _ _).alloc (Nat.le_refl _) (.cells ((Ro.pieces 10 Ro.rowsB).map fun p => Value.string (ba p)).toArray 9)))
  have HB2 := Lib.hid (HB0.out.alloc (by simp; have := HBB.out; omega) (.cells ((Ro.pieces 10 Ro.rowsB).map fun p => Value.string (ba p)).toArray 9))
  go_wp2_with fail
  rw [HBB.out]
  obtain ⟨W2, hW2⟩ : ∃ W2, (w.alloc (.cells #[.slice none 0 0] 27)).alloc (.cells ((Ro.pieces 10 Ro.rowsB).map fun p => Value.string (ba p)).toArray 9) = W2 := ⟨_, rfl⟩
  rw [hW2] at HL2 HD2 HB2 ⊢
  clear hW2 HD0 HB0
  go_loopw [16] (fun iv wr => ∃ i : Nat, i ≤ 25 ∧ iv = .int .i64 i ∧ DefIs B B ((Ro.outI i).map Ro.toB) wr ∧ Kept W2 wr ∧ Below B w wr) (fun iv _ => 25 - (intOf iv).toNat)
  case atStart => exact ⟨0, Nat.zero_le _, rfl, HD2.out, Kept.refl _, HB2.out⟩
  case round =>
    obtain ⟨i, hi, rfl, hd, hk, hb⟩ := hrel
    have HDr := Lib.hid hd
    have HKr := Lib.hid hk
    have HBr := Lib.hid hb
    clear hd hk hb
    by_cases hil : i < 25
    · obtain ⟨l, hl⟩ : ∃ l, Ro.defLines[i]? = some l := ⟨_, List.getElem?_eq_getElem (by rw [Ro.defLines_len]; exact hil)⟩
      have hlm := List.mem_of_getElem? hl
      have HOS := Eqq.mk (Ro.outI_succ i l hl)
      have c1 : wr.cell? ⟨B + 1, 1 + i, none⟩ = some (.string (ba l)) := by
        rw [Lib.cell_of_heap (HKr.out.strs HL2.out)]
        have h : (Ro.pieces 10 Ro.rowsB)[1 + i]? = some l := by rw [← List.getElem?_drop]; exact hl
        simp [h]
      obtain ⟨h6, h40⟩ := Ro.def_lines6 l hlm
      have HPS := Lib.hid (Ro.pieces_short l hlm)
      have HCI := Eqq.mk (Ro.cons_is l hlm)
      obtain ⟨s0, hs0⟩ : ∃ s0, ba l = s0 := ⟨_, rfl⟩
      have HS0 := Eqq.mk hs0.symm
      rw [hs0] at c1
      have g1 : (i : Int) < (25 : Int) := by omega
      have g2 : (0 : Int) ≤ (i : Int) := by omega
      obtain ⟨ps, hps⟩ : ∃ ps, Ro.pieces 32 l = ps := ⟨_, rfl⟩
      have HPP := Eqq.mk hps
      rw [hps] at h6 HPS HOS HCI
      clear hl hlm hs0 hps
      go_wp2_with fail
      with_reducible refine (split_any l 32 s0 HS0.out ⟨#[32]⟩ rfl (by omega) 6 (by rw [HPP.out]; exact h6) _ (HT.out.keep (by rw [HBB.out]; exact HBr.out))).mono ?_
      rw [HPP.out]
      rintro e w3 ⟨rfl, rfl⟩
      obtain ⟨C, hC⟩ : ∃ C, wr.heap.size = C := ⟨_, rfl⟩
      have HCC := Eqq.mk hC
      have HBC := Lib.hid (show B ≤ C by have := HBr.out.size; rw [hC] at this; have := HBB.out; omega)
      have HL3 := Lib.hid (show (wr.alloc (.cells (ps.map fun p => Value.string (ba p)).toArray 9)).heap[C]? = some (.cells (ps.map fun p => Value.string (ba p)).toArray 9 (0, 0)) by
        have h := (MapKept.heap_alloc wr (.cells (ps.map fun p => Value.string (ba p)).toArray 9)).1
        rw [hC] at h
        exact h)
      have HBA := Lib.hid ((Below.refl wr.heap.size wr).alloc (Nat.le_refl _) (.cells (ps.map fun p => Value.string (ba p)).toArray 9))
      have HD3 := Lib.hid (HDr.out.keep HBA.out)
      have HB3 := Lib.hid (HBr.out.trans (HBA.out.mono (by have := HBC.out; omega)))
      have HK3 := Lib.hid (HKr.out.trans (Kept.of_below HBA.out))
      obtain ⟨p0, hp0⟩ : ∃ p0, ps[0]? = some p0 := ⟨_, List.getElem?_eq_getElem (by omega)⟩
      have HG0 := Eqq.mk (show ps.getD 0 [] = p0 by rw [List.getD_eq_getElem?_getD, hp0]; rfl)
      have HZ0 := Lib.hid (HPS.out p0 (List.mem_of_getElem? hp0))
      obtain ⟨P0, hP0⟩ : ∃ P0, ba p0 = P0 := ⟨_, rfl⟩
      have HP0 := Eqq.mk hP0
      have HC0 := Lib.hid (fun (W : World) (hW : Kept (wr.alloc (.cells (ps.map fun p => Value.string (ba p)).toArray 9)) W) => (show W.cell? ⟨C, 0, none⟩ = some (.string P0) by
        rw [Lib.cell_of_heap (hW.strs HL3.out)]
        simp [hp0, hP0]))
      have HCJ := Lib.hid (fun (W : World) (hW : Kept (wr.alloc (.cells (ps.map fun p => Value.string (ba p)).toArray 9)) W) (j : Nat) (k : List UInt8) (hk : ps[j]? = some k) => (show W.cell? ⟨C, j, none⟩ = some (.string (ba k)) by
        rw [Lib.cell_of_heap (hW.strs HL3.out)]
        simp [hk]))
      have hpz : P0.size ≤ 40 := by rw [← hP0, ba_size]; exact HZ0.out
      go_wp2_with fail
      try rw [hC]
      clear hC hp0 hP0
      obtain ⟨W3, hW3⟩ : ∃ W3, wr.alloc (.cells (ps.map fun p => Value.string (ba p)).toArray 9) = W3 := ⟨_, rfl⟩
      rw [hW3] at HL3 HD3 HB3 HC0 HCJ HK3 HBA ⊢
      clear hW3
      go_loopw [25] (fun jv wr => ∃ j : Nat, j ≤ 5 ∧ jv = .int .i64 j ∧ DefIs B B ((Ro.outI i ++ Ro.vowJ ps j).map Ro.toB) wr ∧ Kept W3 wr ∧ Below B w wr) (fun jv _ => 5 - (intOf jv).toNat)
      case atStart => exact ⟨0, Nat.zero_le _, rfl, by rw [show Ro.vowJ ps 0 = [] by unfold Ro.vowJ; rw [List.take_zero]; rfl, List.append_nil]; exact HD3.out, Kept.refl _, HB3.out⟩
      case round =>
        obtain ⟨j, hj, rfl, hd, hk, hb⟩ := hrel
        have HD4 := Lib.hid hd
        have HK4 := Lib.hid hk
        have HB4 := Lib.hid hb
        clear hd hk hb
        by_cases hjl : j < 5
        · obtain ⟨k, hk⟩ : ∃ k, ps[j + 1]? = some k := ⟨_, List.getElem?_eq_getElem (by omega)⟩
          have HVS := Eqq.mk (Ro.vowJ_succ ps j k hk)
          have ck := HCJ.out _ HK4.out (j + 1) k hk
          rw [Nat.add_comm j 1] at ck
          have HZK := Lib.hid (HPS.out k (List.mem_of_getElem? hk))
          have g3 : (j : Int) < (5 : Int) := by omega
          have g4 : (0 : Int) ≤ (j : Int) := by omega
          have HIk := Lib.hid (is_ba k)
          obtain ⟨kb, hkb⟩ : ∃ kb, ba k = kb := ⟨_, rfl⟩
          have HKB := Eqq.mk hkb
          rw [hkb] at ck HIk
          clear hk hkb
          by_cases hkd : k = Ro.dash
          · have e1 : (kb.toList == [45]) = true := by rw [HIk.out.list, hkd]; rfl
            have HN := Eqq.mk (show Ro.vowJ ps (j + 1) = Ro.vowJ ps j by rw [HVS.out, if_pos hkd, List.append_nil])
            have hkb2 : kb = ⟨#[45]⟩ := HIk.out.eq (by rw [hkd]; exact Is.mk [45])
            clear hkd
            subst hkb2
            go_wp2_with fail
            go_roundw
            case rel => exact ⟨j + 1, by omega, by go_num, by rw [HN.out]; exact HD4.out, HK4.out, HB4.out⟩
            case measure => simp [intOf]; omega
          · have e1 : (kb.toList == [45]) = false := by rw [HIk.out.list, beq_eq_false_iff_ne]; exact hkd
            have e2 : ¬ kb.toList = [45] := by rw [HIk.out.list]; exact hkd
            have HN := Eqq.mk (show Ro.vowJ ps (j + 1) = Ro.vowJ ps j ++ [(p0 ++ Ro.vowel.getD j [], k, [])] by rw [HVS.out, if_neg hkd, HG0.out])
            obtain ⟨hv1, hv2⟩ := vowel_cut j hjl
            obtain ⟨J, hJ⟩ : ∃ J, j + 1 = J := ⟨_, rfl⟩
            have HJ := Eqq.mk hJ
            obtain ⟨hw1, hw2⟩ := wrap_one9 hJ (by omega)
            rw [hJ] at hv1
            have HPV := Eqq.mk (show P0 ++ ba (Ro.vowel.getD j []) = ba (p0 ++ Ro.vowel.getD j []) by rw [← HP0.out]; exact ba_app' _ _)
            obtain ⟨vb, hvb⟩ : ∃ vb, ba (Ro.vowel.getD j []) = vb := ⟨_, rfl⟩
            rw [hvb] at hv1 hv2 HPV
            have hpv := HPV.out
            obtain ⟨kk, hkk⟩ : ∃ kk, ba (p0 ++ Ro.vowel.getD j []) = kk := ⟨_, rfl⟩
            have HKK := Eqq.mk hkk
            rw [hkk] at hpv HPV
            have i1 : (j : Int) ≤ (J : Int) := by omega
            have i2 : (J : Int) ≤ 5 := by omega
            have i5 : ¬ 9223372036854775807 < P0.size + vb.size := by omega
            have c0 := HC0.out _ HK4.out
            have hlen : ((Ro.outI i ++ Ro.vowJ ps j).map Ro.toB).length ≤ 1000 := by
              rw [List.length_map, List.length_append]
              have := Ro.outI_len i
              have := Ro.vowJ_len ps j
              omega
            have hBw : B ≤ wr.heap.size := by have := HB4.out.size; have := HBB.out; omega
            have hBw2 : B ≤ wr.drew.heap.size := hBw
            clear hkd hvb hkk hJ hv2
            go_wp2_with fail
            go_region_held3 (fun W => W.cell? ⟨C, 0, none⟩ = some (.string P0))
              (first | exact c0 | exact HC0.out _ HK4.out.drew | exact HC0.out _ HK7.out)
              (first
               | (go_at_call 43; (with_reducible refine (add1_any B B _ kk kb ⟨#[]⟩ _ HD4.out.drew hBw2 hlen).mono ?_); rintro e w7 ⟨he, hd7, hb7, hk7⟩; subst he; have HD7 := Lib.hid hd7; have HB7 := Lib.hid (HB4.out.drew.trans hb7); have HK7 := Lib.hid (HK4.out.drew.trans hk7); clear hd7 hb7 hk7)
               | (go_at_call 43; (with_reducible refine (add1_any B B _ kk kb ⟨#[]⟩ _ HD4.out hBw hlen).mono ?_); rintro e w7 ⟨he, hd7, hb7, hk7⟩; subst he; have HD7 := Lib.hid hd7; have HB7 := Lib.hid (HB4.out.trans hb7); have HK7 := Lib.hid (HK4.out.trans hk7); clear hd7 hb7 hk7))
            rename_i hHeld
            clear hHeld
            have HN2 := Lib.hid (show DefIs B B ((Ro.outI i ++ Ro.vowJ ps (j + 1)).map Ro.toB) w7 by
              rw [HN.out, ← List.append_assoc, List.map_append]
              have h := HD7.out
              rw [← HKK.out, ← HKB.out] at h
              exact h)
            clear c0 ck hpv hv1 hw1 hw2 e1 e2
            go_wp2_with fail
            go_roundw
            case rel => exact ⟨j + 1, by omega, by go_num, HN2.out, HK7.out, HB7.out⟩
            case measure => simp [intOf]; omega
        · obtain rfl : j = 5 := by omega
          have c0 := HC0.out _ HK4.out
          have HD5 := Lib.hid (show DefIs B B ((Ro.outI i ++ Ro.vowRules p0 0 (ps.drop 1)).map Ro.toB) wr by
            have h := HD4.out
            rw [Ro.vowJ_all ps h6, HG0.out] at h
            exact h)
          have HLR := Eqq.mk (show Ro.lineRules ps = Ro.vowRules p0 0 (ps.drop 1) ++ (if Ro.isCons p0 = true then Ro.yRules p0 (ps.getD 2 []) else []) by unfold Ro.lineRules; rw [HG0.out])
          have hci := HCI.out
          rw [HG0.out] at hci
          have HKW := Lib.hid (HK3.out.trans HK4.out)
          have HIP := Lib.hid (show Is P0 p0 by rw [← HP0.out]; exact is_ba p0)
          have hpl := HIP.out.size
          by_cases h1 : p0.length = 1
          · have s1 : P0.size = 1 := by omega
            rw [decide_eq_true h1, Bool.true_and] at hci
            obtain ⟨m, hm⟩ := (HT.out.keep (show Below w.heap.size w wr by rw [HBB.out]; exact HB4.out)).mx
            have HM := Lib.hid hm
            clear hm h1
            go_wp2_with fail
            with_reducible refine (Tryz.strings_Contains _ P0 m _ ?hs HM.out).mono ?_
            case hs => decide
            rw [HIP.out.data]
            rintro e w8 ⟨rfl, rfl⟩
            rw [show Lib.contains ({ data := #[107, 115, 116, 110, 104, 109, 114, 103, 122, 100, 98, 112] } : ByteArray).data.toList p0 = Ro.isCons p0 from hci]
            have HKw8 := Lib.hid HK4.out
            have HBw8 := Lib.hid HB4.out
            obtain ⟨D, hD⟩ : ∃ D, Ro.isCons p0 = D := ⟨_, rfl⟩
            have HDD := Eqq.mk hD
            rw [hD]
            clear hD hci
            cases D
            · have HN := Lib.hid (show DefIs B B ((Ro.outI (i + 1)).map Ro.toB) w8 by
                rw [HOS.out, HLR.out, HDD.out, if_neg (by simp), List.append_nil]
                exact HD5.out)
              go_wp2_with fail
              go_roundw
              case rel => exact ⟨i + 1, by omega, by go_num, HN.out, HKW.out, HB4.out⟩
              case measure => simp [intOf]; omega
            · obtain ⟨p2, hp2⟩ : ∃ p2, ps[2]? = some p2 := ⟨_, List.getElem?_eq_getElem (by omega)⟩
              have HG2 := Eqq.mk (show ps.getD 2 [] = p2 by rw [List.getD_eq_getElem?_getD, hp2]; rfl)
              have HZ2 := Lib.hid (HPS.out p2 (List.mem_of_getElem? hp2))
              obtain ⟨P2, hP2⟩ : ∃ P2, ba p2 = P2 := ⟨_, rfl⟩
              have HP2 := Eqq.mk hP2
              have HC2 := Lib.hid (fun (W : World) (hW : Kept W3 W) => (show W.cell? ⟨C, 2, none⟩ = some (.string P2) by have h := HCJ.out W hW 2 p2 hp2; rw [hP2] at h; exact h))
              have hpz2 : P2.size ≤ 40 := by rw [← hP2, ba_size]; exact HZ2.out
              clear hp2 hP2
              have hvl := Ro.vow_len p0 0 (ps.drop 1)
              rw [List.length_drop, h6] at hvl
              have hol := Ro.outI_len i
              obtain ⟨L0, hL0⟩ : ∃ L0, (Ro.outI i ++ Ro.vowRules p0 0 (ps.drop 1)).map Ro.toB = L0 := ⟨_, rfl⟩
              have hl0 : L0.length ≤ 300 := by rw [← hL0, List.length_map, List.length_append]; omega
              have HDw8 := Lib.hid HD5.out
              have HL0 := Eqq.mk hL0
              rw [hL0] at HDw8
              have hq1 : ¬ 9223372036854775807 < P0.size + 2 := by omega
              have hq2 : ¬ 9223372036854775807 < P2.size + 3 := by omega
              clear hL0 hvl hol s1 hpl
              have hka14 := ba_app' p0 [121, 97]
              rw [HP0.out, show ba [121, 97] = ⟨#[121, 97]⟩ from rfl] at hka14
              have hkb14 := ba_app' p2 [227, 130, 131]
              rw [HP2.out, show ba [227, 130, 131] = ⟨#[227, 130, 131]⟩ from rfl] at hkb14
              obtain ⟨ka14, hk1⟩ : ∃ x, ba (p0 ++ [121, 97]) = x := ⟨_, rfl⟩
              obtain ⟨kb14, hk2⟩ : ∃ x, ba (p2 ++ [227, 130, 131]) = x := ⟨_, rfl⟩
              have HA14 := Eqq.mk hk1
              have HK14k := Eqq.mk hk2
              rw [hk1] at hka14
              rw [hk2] at hkb14
              clear hk1 hk2
              have c0 := HC0.out _ HKw8.out
              have c2 := HC2.out _ HKw8.out
              have hBw : B ≤ w8.heap.size := by have := HBw8.out.size; have := HBB.out; omega
              have hBw2 : B ≤ w8.drew.heap.size := hBw
              have hlen8 : (L0).length ≤ 1000 := by omega
              go_wp2_with fail
              go_region_held3 (fun W => W.cell? ⟨C, 0, none⟩ = some (.string P0) ∧ W.cell? ⟨C, 2, none⟩ = some (.string P2))
                (first | exact ⟨c0, c2⟩ | exact ⟨HC0.out _ HKw8.out.drew, HC2.out _ HKw8.out.drew⟩ | exact ⟨HC0.out _ HKw9.out, HC2.out _ HKw9.out⟩)
                (first
                 | (go_at_call 43; (with_reducible refine (add1_any B B _ ka14 kb14 ⟨#[]⟩ _ HDw8.out.drew hBw2 hlen8).mono ?_); rintro e w9 ⟨he, hd7, hb7, hk7⟩; subst he; have HDw9 := Lib.hid hd7; have HBw9 := Lib.hid (HBw8.out.drew.trans hb7); have HKw9 := Lib.hid (HKw8.out.drew.trans hk7); clear hd7 hb7 hk7)
                 | (go_at_call 43; (with_reducible refine (add1_any B B _ ka14 kb14 ⟨#[]⟩ _ HDw8.out hBw hlen8).mono ?_); rintro e w9 ⟨he, hd7, hb7, hk7⟩; subst he; have HDw9 := Lib.hid hd7; have HBw9 := Lib.hid (HBw8.out.trans hb7); have HKw9 := Lib.hid (HKw8.out.trans hk7); clear hd7 hb7 hk7))
              rename_i hHeld
              clear hHeld c0 c2 hka14 hkb14 hBw hBw2 hlen8
              have hka15 := ba_app' p0 [121, 117]
              rw [HP0.out, show ba [121, 117] = ⟨#[121, 117]⟩ from rfl] at hka15
              have hkb15 := ba_app' p2 [227, 130, 133]
              rw [HP2.out, show ba [227, 130, 133] = ⟨#[227, 130, 133]⟩ from rfl] at hkb15
              obtain ⟨ka15, hk1⟩ : ∃ x, ba (p0 ++ [121, 117]) = x := ⟨_, rfl⟩
              obtain ⟨kb15, hk2⟩ : ∃ x, ba (p2 ++ [227, 130, 133]) = x := ⟨_, rfl⟩
              have HA15 := Eqq.mk hk1
              have HK15k := Eqq.mk hk2
              rw [hk1] at hka15
              rw [hk2] at hkb15
              clear hk1 hk2
              have c0 := HC0.out _ HKw9.out
              have c2 := HC2.out _ HKw9.out
              have hBw : B ≤ w9.heap.size := by have := HBw9.out.size; have := HBB.out; omega
              have hBw2 : B ≤ w9.drew.heap.size := hBw
              have hlen9 : (L0 ++ [(ka14, kb14, (⟨#[]⟩ : ByteArray))]).length ≤ 1000 := by simp only [List.length_append, List.length_singleton]; omega
              go_wp2_with fail
              go_region_held3 (fun W => W.cell? ⟨C, 0, none⟩ = some (.string P0) ∧ W.cell? ⟨C, 2, none⟩ = some (.string P2))
                (first | exact ⟨c0, c2⟩ | exact ⟨HC0.out _ HKw9.out.drew, HC2.out _ HKw9.out.drew⟩ | exact ⟨HC0.out _ HKw10.out, HC2.out _ HKw10.out⟩)
                (first
                 | (go_at_call 43; (with_reducible refine (add1_any B B _ ka15 kb15 ⟨#[]⟩ _ HDw9.out.drew hBw2 hlen9).mono ?_); rintro e w10 ⟨he, hd7, hb7, hk7⟩; subst he; have HDw10 := Lib.hid hd7; have HBw10 := Lib.hid (HBw9.out.drew.trans hb7); have HKw10 := Lib.hid (HKw9.out.drew.trans hk7); clear hd7 hb7 hk7)
                 | (go_at_call 43; (with_reducible refine (add1_any B B _ ka15 kb15 ⟨#[]⟩ _ HDw9.out hBw hlen9).mono ?_); rintro e w10 ⟨he, hd7, hb7, hk7⟩; subst he; have HDw10 := Lib.hid hd7; have HBw10 := Lib.hid (HBw9.out.trans hb7); have HKw10 := Lib.hid (HKw9.out.trans hk7); clear hd7 hb7 hk7))
              rename_i hHeld
              clear hHeld c0 c2 hka15 hkb15 hBw hBw2 hlen9
              have hka16 := ba_app' p0 [121, 111]
              rw [HP0.out, show ba [121, 111] = ⟨#[121, 111]⟩ from rfl] at hka16
              have hkb16 := ba_app' p2 [227, 130, 135]
              rw [HP2.out, show ba [227, 130, 135] = ⟨#[227, 130, 135]⟩ from rfl] at hkb16
              obtain ⟨ka16, hk1⟩ : ∃ x, ba (p0 ++ [121, 111]) = x := ⟨_, rfl⟩
              obtain ⟨kb16, hk2⟩ : ∃ x, ba (p2 ++ [227, 130, 135]) = x := ⟨_, rfl⟩
              have HA16 := Eqq.mk hk1
              have HK16k := Eqq.mk hk2
              rw [hk1] at hka16
              rw [hk2] at hkb16
              clear hk1 hk2
              have c0 := HC0.out _ HKw10.out
              have c2 := HC2.out _ HKw10.out
              have hBw : B ≤ w10.heap.size := by have := HBw10.out.size; have := HBB.out; omega
              have hBw2 : B ≤ w10.drew.heap.size := hBw
              have hlen10 : ((L0 ++ [(ka14, kb14, (⟨#[]⟩ : ByteArray))]) ++ [(ka15, kb15, (⟨#[]⟩ : ByteArray))]).length ≤ 1000 := by simp only [List.length_append, List.length_singleton]; omega
              go_wp2_with fail
              go_region_held3 (fun W => W.cell? ⟨C, 0, none⟩ = some (.string P0) ∧ W.cell? ⟨C, 2, none⟩ = some (.string P2))
                (first | exact ⟨c0, c2⟩ | exact ⟨HC0.out _ HKw10.out.drew, HC2.out _ HKw10.out.drew⟩ | exact ⟨HC0.out _ HKw11.out, HC2.out _ HKw11.out⟩)
                (first
                 | (go_at_call 43; (with_reducible refine (add1_any B B _ ka16 kb16 ⟨#[]⟩ _ HDw10.out.drew hBw2 hlen10).mono ?_); rintro e w11 ⟨he, hd7, hb7, hk7⟩; subst he; have HDw11 := Lib.hid hd7; have HBw11 := Lib.hid (HBw10.out.drew.trans hb7); have HKw11 := Lib.hid (HKw10.out.drew.trans hk7); clear hd7 hb7 hk7)
                 | (go_at_call 43; (with_reducible refine (add1_any B B _ ka16 kb16 ⟨#[]⟩ _ HDw10.out hBw hlen10).mono ?_); rintro e w11 ⟨he, hd7, hb7, hk7⟩; subst he; have HDw11 := Lib.hid hd7; have HBw11 := Lib.hid (HBw10.out.trans hb7); have HKw11 := Lib.hid (HKw10.out.trans hk7); clear hd7 hb7 hk7))
              rename_i hHeld
              clear hHeld c0 c2 hka16 hkb16 hBw hBw2 hlen10
              have HN := Lib.hid (show DefIs B B ((Ro.outI (i + 1)).map Ro.toB) w11 by
                rw [HOS.out, HLR.out, HDD.out, if_pos rfl, HG2.out, ← List.append_assoc, List.map_append, HL0.out]
                have h := HDw11.out
                rw [← HA14.out, ← HK14k.out, ← HA15.out, ← HK15k.out, ← HA16.out, ← HK16k.out, List.append_assoc, List.append_assoc] at h
                exact h)
              go_wp2_with fail
              go_roundw
              case rel => exact ⟨i + 1, by omega, by go_num, HN.out, HK3.out.trans HKw11.out, HBw11.out⟩
              case measure => simp [intOf]; omega
          · have s1 : ¬ P0.size = 1 := by omega
            have s2 : ¬ (P0.size : Int) = 1 := by omega
            have s3 : ((P0.size : Int) == 1) = false := by rw [beq_eq_false_iff_ne]; exact s2
            rw [decide_eq_false h1, Bool.false_and] at hci
            have HN := Lib.hid (show DefIs B B ((Ro.outI (i + 1)).map Ro.toB) wr by
              rw [HOS.out, HLR.out, ← hci, if_neg (by simp), List.append_nil]
              exact HD5.out)
            clear hci h1
            go_wp2_with fail
            go_roundw
            case rel => exact ⟨i + 1, by omega, by go_num, HN.out, HKW.out, HB4.out⟩
            case measure => simp [intOf]; omega
    · obtain rfl : i = 25 := by omega
      have HDa := Lib.hid (show DefIs B B (Ro.tableSeq.map Ro.toB) wr by have h := HDr.out; rw [Ro.outI_all] at h; exact h)
      have hBle : ∀ W, Below B w W → B ≤ W.heap.size := fun W h => by have := h.size; have := HBB.out; omega
      obtain ⟨E, hE⟩ : ∃ E, wr.heap.size = E := ⟨_, rfl⟩
      have HEE := Eqq.mk hE
      have HL5 := Lib.hid (show (wr.alloc (.cells #[.string ⟨#[110]⟩, .string ⟨#[110, 110]⟩, .string ⟨#[110, 39]⟩] 9)).heap[E]? = some (.cells #[.string ⟨#[110]⟩, .string ⟨#[110, 110]⟩, .string ⟨#[110, 39]⟩] 9 (0, 0)) by
        have h := (MapKept.heap_alloc wr (.cells #[.string ⟨#[110]⟩, .string ⟨#[110, 110]⟩, .string ⟨#[110, 39]⟩] 9)).1
        rw [hE] at h
        exact h)
      have hba := (Below.refl wr.heap.size wr).alloc (Nat.le_refl _) (.cells #[.string ⟨#[110]⟩, .string ⟨#[110, 110]⟩, .string ⟨#[110, 39]⟩] 9)
      have HD5 := Lib.hid (HDa.out.keep hba)
      have HB5 := Lib.hid (HBr.out.trans (hba.mono (hBle _ HBr.out)))
      clear hba
      go_wp2_with fail
      try rw [hE]
      clear hE
      obtain ⟨W5, hW5⟩ : ∃ W5, wr.alloc (.cells #[.string ⟨#[110]⟩, .string ⟨#[110, 110]⟩, .string ⟨#[110, 39]⟩] 9) = W5 := ⟨_, rfl⟩
      rw [hW5] at HL5 HD5 HB5 ⊢
      clear hW5
      rw [show ((25 : Nat) : Int) = 25 from rfl]
      go_loopw [88] (fun jv wr => ∃ j : Nat, j ≤ 3 ∧ jv = .int .i64 j ∧ DefIs B B ((Ro.tableSeq ++ Ro.tailSeq.take j).map Ro.toB) wr ∧ Kept W5 wr ∧ Below B w wr) (fun jv _ => 3 - (intOf jv).toNat)
      case atStart => exact ⟨0, Nat.zero_le _, rfl, by rw [List.take_zero, List.append_nil]; exact HD5.out, Kept.refl _, HB5.out⟩
      case round =>
        obtain ⟨j, hj, rfl, hd, hk, hb⟩ := hrel
        have HDw1 := Lib.hid hd
        have HKw1 := Lib.hid hk
        have HBw1 := Lib.hid hb
        clear hd hk hb
        by_cases hjl : j < 3
        · obtain ⟨x, c1, hx⟩ : ∃ x, wr.cell? ⟨E, j, none⟩ = some (.string x) ∧ (Ro.tailSeq.take (j + 1)).map Ro.toB = (Ro.tailSeq.take j).map Ro.toB ++ [(x, ⟨#[227, 130, 147]⟩, ⟨#[]⟩)] := by
            rw [Lib.cell_of_heap (HKw1.out.strs HL5.out)]
            rcases (show j = 0 ∨ j = 1 ∨ j = 2 by omega) with rfl | rfl | rfl
            · exact ⟨⟨#[110]⟩, rfl, rfl⟩
            · exact ⟨⟨#[110, 110]⟩, rfl, rfl⟩
            · exact ⟨⟨#[110, 39]⟩, rfl, rfl⟩
          have HX := Eqq.mk hx
          have g3 : (j : Int) < (3 : Int) := by omega
          have g4 : (0 : Int) ≤ (j : Int) := by omega
          have hlen1 : ((Ro.tableSeq ++ Ro.tailSeq.take j).map Ro.toB).length ≤ 1000 := Nat.le_trans (tail_len j) (by omega)
          clear hx
          go_wp2_with fail
          with_reducible refine (add1_any B B _ x ⟨#[227, 130, 147]⟩ ⟨#[]⟩ _ HDw1.out (hBle _ HBw1.out) (Nat.le_trans hlen1 (by omega))).mono ?_
          rintro e w2 ⟨rfl, hd7, hb7, hk7⟩
          have HN := Lib.hid (show DefIs B B ((Ro.tableSeq ++ Ro.tailSeq.take (j + 1)).map Ro.toB) w2 by
            rw [List.map_append, HX.out, ← List.append_assoc, ← List.map_append]
            exact hd7)
          have HKw2 := Lib.hid (HKw1.out.trans hk7)
          have HBw2 := Lib.hid (HBw1.out.trans hb7)
          clear hd7 hb7 hk7
          go_wp2_with fail
          go_roundw
          case rel => exact ⟨j + 1, by omega, by go_num, HN.out, HKw2.out, HBw2.out⟩
          case measure => simp [intOf]; omega
        · obtain rfl : j = 3 := by omega
          obtain ⟨L0, hL0⟩ : ∃ L0, (Ro.tableSeq ++ Ro.tailSeq.take 3).map Ro.toB = L0 := ⟨_, rfl⟩
          have HL0 := Eqq.mk hL0
          have hlen1 : L0.length ≤ 990 := by rw [← hL0]; exact Nat.le_trans (tail_len 3) (by omega)
          rw [hL0] at HDw1
          clear hL0
          go_wp2_with fail
          with_reducible refine (add1_any B B _ ⟨#[45]⟩ ⟨#[227, 131, 188]⟩ ⟨#[]⟩ _ HDw1.out (hBle _ HBw1.out) (Nat.le_trans hlen1 (by omega))).mono ?_
          rintro e w2 ⟨rfl, hd7, hb7, hk7⟩
          have HDw2 := Lib.hid hd7
          have HBw2 := Lib.hid (HBw1.out.trans hb7)
          have hlen2 := len_more hlen1 (x := (⟨#[45]⟩, ⟨#[227, 131, 188]⟩, ⟨#[]⟩))
          clear hd7 hb7 hk7
          go_wp2_with fail
          with_reducible refine (add1_any B B _ ⟨#[44]⟩ ⟨#[227, 128, 129]⟩ ⟨#[]⟩ _ HDw2.out (hBle _ HBw2.out) (Nat.le_trans hlen2 (by omega))).mono ?_
          rintro e w3 ⟨rfl, hd7, hb7, hk7⟩
          have HDw3 := Lib.hid hd7
          have HBw3 := Lib.hid (HBw2.out.trans hb7)
          have hlen3 := len_more hlen2 (x := (⟨#[44]⟩, ⟨#[227, 128, 129]⟩, ⟨#[]⟩))
          clear hd7 hb7 hk7
          go_wp2_with fail
          with_reducible refine (add1_any B B _ ⟨#[46]⟩ ⟨#[227, 128, 130]⟩ ⟨#[]⟩ _ HDw3.out (hBle _ HBw3.out) (Nat.le_trans hlen3 (by omega))).mono ?_
          rintro e w4 ⟨rfl, hd7, hb7, hk7⟩
          have HDw4 := Lib.hid hd7
          have HBw4 := Lib.hid (HBw3.out.trans hb7)
          have hlen4 := len_more hlen3 (x := (⟨#[46]⟩, ⟨#[227, 128, 130]⟩, ⟨#[]⟩))
          clear hd7 hb7 hk7
          go_wp2_with fail
          with_reducible refine (add1_any B B _ ⟨#[116, 99]⟩ ⟨#[227, 129, 163]⟩ ⟨#[99]⟩ _ HDw4.out (hBle _ HBw4.out) (Nat.le_trans hlen4 (by omega))).mono ?_
          rintro e w5 ⟨rfl, hd7, hb7, hk7⟩
          have HDw5 := Lib.hid hd7
          have HBw5 := Lib.hid (HBw4.out.trans hb7)
          have hlen5 := len_more hlen4 (x := (⟨#[116, 99]⟩, ⟨#[227, 129, 163]⟩, ⟨#[99]⟩))
          clear hd7 hb7 hk7
          have HD6 := Lib.hid (show DefIs B B ((Ro.tableSeq ++ Ro.tailSeq).map Ro.toB) w5 by
            have h := HDw5.out
            rw [← HL0.out, List.append_assoc, List.append_assoc, List.append_assoc] at h
            rw [List.map_append] at h ⊢
            rw [List.append_assoc] at h
            exact h)
          go_wp2_with fail
          obtain ⟨F, hF⟩ : ∃ F, w5.heap.size = F := ⟨_, rfl⟩
          have HFF := Eqq.mk hF
          have HI0 := Lib.hid (show (w5.iter dblB 0).heap[F]? = some (.stringIter dblB 0) by rw [← hF]; exact (MapKept.heap_alloc w5 _).1)
          have hba := (Below.refl w5.heap.size w5).alloc (Nat.le_refl _) (.stringIter dblB 0)
          have HD7 := Lib.hid (show DefIs B B ((Ro.tableSeq ++ Ro.tailSeq).map Ro.toB) (w5.iter dblB 0) from HD6.out.keep hba)
          have HB7 := Lib.hid (show Below B w (w5.iter dblB 0) from HBw5.out.trans (hba.mono (hBle _ HBw5.out)))
          have hBF : B ≤ F := by rw [← hF]; exact hBle _ HBw5.out
          clear hba
          try rw [hF]
          clear hF
          rw [show w5.iter { data := #[98, 99, 100, 102, 103, 104, 106, 107, 109, 112, 114, 115, 116, 118, 119, 121, 122] } 0 = w5.iter dblB 0 from rfl]
          obtain ⟨W7, hW7⟩ : ∃ W7, w5.iter dblB 0 = W7 := ⟨_, rfl⟩
          rw [hW7] at HI0 HD7 HB7 ⊢
          clear hW7
          go_loopw [11] (fun cv wr => ∃ j : Nat, j ≤ 17 ∧ wr.heap[F]? = some (.stringIter dblB j) ∧ DefIs B B ((Ro.tableSeq ++ Ro.tailSeq ++ Ro.doubleSeq.take j).map Ro.toB) wr ∧ Below B w wr) (fun _ wr => 17 - wr.iterPos F)
          case atStart => exact ⟨0, Nat.zero_le _, HI0.out, by rw [List.take_zero, List.append_nil]; exact HD7.out, HB7.out⟩
          case round =>
            obtain ⟨j, hj, hit, hd, hb⟩ := hrel
            by_cases hjl : j < 17
            · obtain ⟨hdc, henc⟩ := dbl_at j hjl
              obtain ⟨c, hc⟩ : ∃ c, Ro.doubles.getD j 0 = c := ⟨_, rfl⟩
              have hseq := dbl_seq j hjl
              rw [hc] at hdc henc hseq
              have HSQ := Eqq.mk hseq
              have hnx : ∀ ty, (Instr.next (.pointer (some ⟨F, 0, none⟩)) true ty).run Tryz.prog wr = _ := fun ty => Lib.run_next_any_at wr F dblB j ty hit (by show j < 17; exact hjl)
              rw [hdc] at hnx
              dsimp only at hnx
              have HDi := Lib.hid (hd.iterAt hit (j + 1))
              have HIi := Lib.hid (Lib.iterAt_heap wr F dblB j (j + 1) hit)
              have HBi := Lib.hid (Lib.below_iterAt hb hBF dblB (j + 1))
              have HPOS := Lib.hid (iterPos_of9 hit)
              obtain ⟨w1, hw1⟩ : ∃ w1, wr.iterAt F dblB (j + 1) = w1 := ⟨_, rfl⟩
              rw [hw1] at hnx HDi HIi HBi
              have htt := ba_app' [c] [c]
              have htz := ba_size [c]
              obtain ⟨t, ht⟩ : ∃ t, ba [c] = t := ⟨_, rfl⟩
              have HTE := Eqq.mk ht
              obtain ⟨t2, ht2⟩ : ∃ t2, ba ([c] ++ [c]) = t2 := ⟨_, rfl⟩
              have HTE2 := Eqq.mk ht2
              rw [ht] at henc htt htz
              rw [ht2] at htt
              have ht9 : ¬ 9223372036854775807 < t.size + t.size := by rw [htz]; simp
              have hlen9 : ((Ro.tableSeq ++ Ro.tailSeq ++ Ro.doubleSeq.take j).map Ro.toB).length ≤ 1000 := dbl_len j
              clear hit hd hb hdc hc hseq hw1 ht ht2 htz
              have hBw := hBle _ HBi.out
              go_wp2_with fail
              clear hnx henc htt ht9
              with_reducible refine (add1_any B B _ t2 ⟨#[227, 129, 163]⟩ t _ HDi.out hBw hlen9).mono ?_
              rintro e w2 ⟨rfl, hd7, hb7, hk7⟩
              have HN := Lib.hid (show DefIs B B ((Ro.tableSeq ++ Ro.tailSeq ++ Ro.doubleSeq.take (j + 1)).map Ro.toB) w2 by
                rw [HSQ.out, ← List.append_assoc, List.map_append]
                rw [← HTE2.out, ← HTE.out] at hd7
                exact hd7)
              have HI2 := Lib.hid (hk7.iter HIi.out)
              have HB2' := Lib.hid (HBi.out.trans hb7)
              have HP2 := Lib.hid (iterPos_of9 HI2.out)
              clear hd7 hb7 hk7
              go_wp2_with fail
              go_roundw
              case rel => exact ⟨j + 1, by omega, HI2.out, HN.out, HB2'.out⟩
              case measure =>
                rw [HP2.out, HPOS.out]
                omega
            · obtain rfl : j = 17 := by omega
              have hnx : ∀ ty, (Instr.next (.pointer (some ⟨F, 0, none⟩)) true ty).run Tryz.prog wr = _ := fun ty => Lib.run_next_end_at wr F dblB 17 ty hit (by decide)
              obtain ⟨xs, hxs⟩ : ∃ xs, (Ro.tableSeq ++ Ro.tailSeq ++ Ro.doubleSeq.take 17).map Ro.toB = xs := ⟨_, rfl⟩
              have hpm : (rulesL xs).Perm Ro.defL := by
                rw [← hxs, Ro.rulesL_toB, show Ro.doubleSeq.take 17 = Ro.doubleSeq from rfl, List.append_assoc]
                exact List.isPerm_iff.1 Ro.def_perm
              rw [hxs] at hd
              have hxl : xs.length = 162 := by
                have := hpm.length_eq
                unfold rulesL at this
                rw [List.length_map, Ro.def_len] at this
                exact this
              obtain ⟨_, v, hv, hown⟩ := hd
              obtain ⟨ao, cap, rfl⟩ := hown.frame
              obtain ⟨g, rfl, hBg, _⟩ := OwnR.at (i := 0) hown (by omega)
              have hcap : xs.length ≤ cap := by
                obtain ⟨ao', cap', he, hc', _⟩ := hown.lie
                injection he with _ _ he
                rw [he]; exact hc'
              have c0 : wr.cell? ⟨B, 0, none⟩ = some (.slice (some ⟨g, 0, none⟩) xs.length cap) := by rw [Lib.cell_of_heap hv]; rfl
              have HC0 := Lib.hid c0
              have hne : B ≠ g := fun e => by
                obtain ⟨_, ⟨h9, _⟩ | ⟨g', cap', cur, h9, _, hg', _⟩⟩ := hown
                · cases h9
                · injection h9 with h9
                  injection h9 with h9
                  injection h9 with h9
                  rw [← h9, ← e, hv] at hg'
                  injection hg' with hg'
                  injection hg' with _ hg'
                  exact absurd hg' (by decide)
              have HOW := Lib.hid hown
              have HPM := Lib.hid hpm
              have HBe := Lib.hid hb
              have hBw := hBle _ hb
              have hBlt : B < wr.heap.size := heap_lt hv
              have HXL := Eqq.mk hxl
              clear hit hv hown hpm hxs hb hxl
              go_wp2_with fail
              clear hnx c0
              with_reducible refine (sort_own B g cap xs wr HOW.out hcap hBw HPM.out).mono ?_
              rintro e w9 ⟨rfl, ⟨ys, hys, hyl, hlie⟩, hb9, hk9, hg9, hf9⟩
              have c9 : w9.cell? ⟨B, 0, none⟩ = some (.slice (some ⟨g, 0, none⟩) xs.length cap) := by
                have h := HC0.out
                unfold World.cell? at h ⊢
                dsimp only at h ⊢
                rw [hk9 B hBlt hne]
                exact h
              rw [HXL.out] at hlie hf9
              have HF := Lib.hid (show (∃ g' cap' ys, (Ending.returned (.slice (some ⟨g, 0, none⟩) xs.length cap)) = Ending.returned (.slice (some ⟨g', 0, none⟩) 162 cap') ∧ rulesL ys = Ro.defL ∧ LieR (.slice (some ⟨g', 0, none⟩) 162 cap') ys w9 ∧ w.heap.size ≤ g' ∧ (∀ j, j < 486 → w9.frozen? ⟨g', j, none⟩ = false)) ∧ Below w.heap.size w w9 from ⟨⟨g, cap, ys, by rw [HXL.out], hys, hlie, by rw [HBB.out]; exact hg9, hf9⟩, by rw [HBB.out]; exact HBe.out.trans hb9⟩)
              clear hys hlie hb9 hk9 hg9 hf9 hyl
              go_wp2_with fail
              go_ret
              exact HF.out
theorem default_any (w : World) (ht : Tabs w) : Calls Tryz.prog 14 #[] w fun e w' => (∃ v ys, e = .returned v ∧ rulesL ys = Ro.defL ∧ LieR v ys w') ∧ Below w.heap.size w w' :=
  (default_own w ht).mono fun _ _ ⟨⟨_, _, ys, h1, h2, h3, _⟩, hb⟩ => ⟨⟨_, ys, h1, h2, h3⟩, hb⟩
end Go.Proofs.YtgdcffahhpeibaaGreatDoor
