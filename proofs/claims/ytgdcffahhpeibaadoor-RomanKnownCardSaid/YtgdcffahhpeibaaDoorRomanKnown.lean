/-
  the examples of the chapter, and the limits
-/
import Derived.Test.YtgdcffahhpeibaaDoorRoKnown0
import Derived.Carry
import Derived.Laws.AppendOwnNone
namespace Go.Proofs.YtgdcffahhpeibaaDoor.romanKnown
open Go.ChangeShapes Go.WideShapes Go.ChangeAt Go.RowKit
open Go.ChangeMaps (open_string)
set_option linter.unusedVariables false

set_option maxRecDepth 100000 in
set_option maxHeartbeats 16000000 in
theorem walk (w : World) (ht : Tabs w) :
    Calls Tryd.prog 5 #[] w fun e w' => e = .returned (.bool true) ∧ Below w.heap.size w w' := by
  have HB := Lib.hid (Below.refl w.heap.size w)
  have HT := Lib.hid ht
  clear ht
  obtain ⟨G0, hG0⟩ : ∃ G, w.heap.size = G := ⟨_, rfl⟩
  obtain ⟨W1, hW1⟩ : ∃ W1, w.alloc (.cells #[.string ⟨#[107, 97]⟩, .string ⟨#[107, 97, 9, 227, 129, 139, 9]⟩, .string ⟨#[107, 97, 32]⟩, .string ⟨#[75, 65, 9, 227, 129, 139]⟩, .string ⟨#[107, 121, 97, 97, 97, 9, 227, 129, 139]⟩, .string ⟨#[107, 97, 9, 227, 130, 171]⟩, .string ⟨#[107, 9]⟩, .string ⟨#[107, 9, 9, 107]⟩, .string ⟨#[107, 97, 9, 227, 129, 139, 9, 107, 9, 107]⟩, .string ⟨#[9, 227, 129, 139]⟩, .string ⟨#[107, 97, 9, 227, 129, 139, 227, 129, 139, 227, 129, 139, 227, 129, 139, 227, 129, 139]⟩, .string ⟨#[107, 97, 9, 255]⟩, .string ⟨#[107, 97, 9, 227, 129, 139, 13]⟩] 9) = W1 := ⟨_, rfl⟩
  have HC0 := Lib.hid (show W1.heap[G0]? = some (.cells bad0 9 (0, 0)) from by rw [← hW1, ← hG0]; exact (MapKept.heap_alloc w (.cells bad0 9)).1)
  have HBA := Lib.hid (show Below w.heap.size w W1 from by rw [← hW1]; exact (Below.refl w.heap.size w).alloc (Nat.le_refl _) (.cells bad0 9))
  have hb := (Below.refl w.heap.size w).alloc (Nat.le_refl _) (.cells bad0 9)
  have HT := Lib.hid (show Tabs W1 from by rw [← hW1]; exact HT.out.keep hb)
  clear hb
  go_enter Tryd.func5, Tryd.ntmps5
  go_wp2_with fail
  try rw [hW1]
  try rw [hG0]
  clear hW1
  have HG0 := Eqq.mk hG0
  clear hG0
  go_loopw [2] (fun iv wr => ∃ i : Nat, i ≤ 13 ∧ iv = .int .i64 i ∧ Below W1.heap.size W1 wr) (fun iv _ => 13 - (intOf iv).toNat)
  case atStart => exact ⟨0, Nat.zero_le _, rfl, Below.refl _ _⟩
  case round =>
    obtain ⟨i, hi, rfl, hb⟩ := hrel
    have HBr := Lib.hid hb
    have HT := Lib.hid (HT.out.keep hb)
    by_cases hil : i < 13
    · obtain ⟨b, hbm, hbc⟩ := bad0_at i hil
      have c0 : wr.cell? ⟨G0, i, none⟩ = some (.string (ba b)) := below_cellU (by rw [Lib.cell_of_heap HC0.out]; exact hbc) hb (Nat.le_refl _)
      have HBP := Eqq.mk (Ro.bad_parse b hbm)
      have hbz : (ba b).size ≤ 100 := by rw [ba_size]; exact Ro.bad_short b hbm
      obtain ⟨s, hs⟩ : ∃ s, ba b = s := ⟨_, rfl⟩
      have HIS := Lib.hid (show Is s b by rw [← hs]; exact is_ba b)
      rw [hs] at c0 hbz
      have g1 : (i : Int) < (13 : Int) := by omega
      have g2 : (0 : Int) ≤ (i : Int) := by omega
      clear hs hbm hbc hb
      go_wp2_with fail
      with_reducible refine (parse_any s b _ HIS.out (by omega) HT.out).mono ?_
      rw [HBP.out]
      rintro e w2 ⟨⟨v, xs, rfl, hx, ho⟩, hb⟩
      obtain rfl := rulesL_none hx
      obtain ⟨ao, cap, hv⟩ := ho.frame
      have hv' : v = .slice ao 0 cap := hv
      subst hv'
      have HB2 := Lib.hid (HBr.out.trans (hb.mono HBr.out.size))
      clear hx ho hv hb
      go_wp2_with fail
      go_roundw
      case rel => exact ⟨i + 1, by omega, by go_num, HB2.out⟩
      case measure => simp [intOf]; omega
    · obtain rfl : i = 13 := by omega
      have HB := Lib.hid (HBA.out.trans (hb.mono HBA.out.size))
      clear hb HC0 HBr
      go_wp2_with fail
      with_reducible refine (parse_any ⟨#[97, 9, 227, 129, 130, 10, 10, 97, 9, 227, 129, 132]⟩ [97, 9, 227, 129, 130, 10, 10, 97, 9, 227, 129, 132] _ (Is.mk _) (by decide) HT.out).mono ?_
      rw [Ro.ex1_parse]
      rintro e w3 ⟨⟨v3, xs3, rfl, hx, ho⟩, hb⟩
      have HB := Lib.hid (HB.out.trans (hb.mono HB.out.size))
      have HT := Lib.hid (HT.out.keep hb)
      clear hx ho hb
      go_wp2_with fail
      with_reducible refine (parse_any ⟨#[107, 107, 9, 9, 107, 10, 35, 32, 255, 10, 10, 35]⟩ [107, 107, 9, 9, 107, 10, 35, 32, 255, 10, 10, 35] _ (Is.mk _) (by decide) HT.out).mono ?_
      rw [Ro.ex2_parse]
      rintro e w4 ⟨⟨v4, xs4, rfl, hx, ho⟩, hb⟩
      obtain rfl : xs4 = ex2R := rulesL_inj (hx.trans ex2_rules.symm)
      have HB := Lib.hid (HB.out.trans (hb.mono HB.out.size))
      have HT := Lib.hid (HT.out.keep hb)
      have HX := Lib.hid ho.lie
      clear hx ho hb
      go_wp2_with fail
      with_reducible refine (parse_any ⟨#[]⟩ [] _ (Is.mk _) (by decide) HT.out).mono ?_
      rw [Ro.ex3_parse]
      rintro e w5 ⟨⟨v5, xs5, rfl, hx, ho⟩, hb⟩
      obtain rfl := rulesL_none hx
      obtain ⟨ao5, cap5, hv⟩ := ho.frame
      have hv' : v5 = .slice ao5 0 cap5 := hv
      subst hv'
      have HB := Lib.hid (HB.out.trans (hb.mono HB.out.size))
      have HT := Lib.hid (HT.out.keep hb)
      have HX := Lib.hid (HX.out.keep hb)
      have HZ5 := Lib.hid (show w.heap.size ≤ w5.heap.size from HB.out.size)
      have HX5 := Lib.hid HX.out
      have HT5 := Lib.hid HT.out
      have HB5 := Lib.hid (Below.refl w5.heap.size w5)
      clear hx ho hb hv
      go_wp2_with fail
      go_loopw [15, 16, 17] (fun tv lv iv wr => ∃ (i : Nat) (T : ByteArray), i ≤ 500 ∧ iv = .int .i64 i ∧ tv = .string T ∧ Is T (Ro.text (Ro.kL i)) ∧ OwnR 39 w5.heap.size lv (kL5 i) wr ∧ Below w5.heap.size w5 wr) (fun _ _ iv _ => 500 - (intOf iv).toNat)
      case atStart => exact ⟨0, ⟨#[]⟩, Nat.zero_le _, rfl, rfl, rfl, OwnR.nil _ _ _, Below.refl _ _⟩
      case round =>
        obtain ⟨k, T, hk, rfl, rfl, hit, ho, hb⟩ := hrel
        have HIT := Lib.hid hit
        have HO := Lib.hid ho
        have HBr := Lib.hid hb
        have htz : T.size ≤ 3500 := by rw [hit.size, Ro.kText_len]; omega
        have HB := Lib.hid (HB.out.trans (hb.mono HB.out.size))
        have HT := Lib.hid (HT.out.keep hb)
        have HX := Lib.hid (HX.out.keep hb)
        have HB5 := Lib.hid (HB5.out.trans (hb.mono HB5.out.size))
        have HKL := Eqq.mk (kL5_len k)
        clear hit ho hb
        by_cases hkl : k < 500
        · obtain ⟨nb, hnb⟩ : ∃ nb, ba (Ro.numB k) = nb := ⟨_, rfl⟩
          have HNB := Eqq.mk hnb
          have hnz : nb.size ≤ 2 := by rw [← hnb]; exact Nat.le_refl 2
          have HNA := Lib.hid (fun (W : World) => (show Calls Tryd.prog 15 #[.int .i64 (k : Int)] W fun e w' => e = .returned (.string nb) ∧ Below W.heap.size W w' from by rw [← hnb]; exact number_any k (by omega) W))
          have hks : kL5 (k + 1) = kL5 k ++ [(nb, ⟨#[227, 130, 147]⟩, ⟨#[]⟩)] := by rw [kL5_succ, ← hnb]; rfl
          have HKS := Eqq.mk hks
          have g1 : (k : Int) < (500 : Int) := by omega
          have g2 : (0 : Int) ≤ (k : Int) := by omega
          have i5 : ¬ 9223372036854775807 < T.size + nb.size := by omega
          have i6 : ¬ 9223372036854775807 < T.size + nb.size + 5 := by omega
          have i7 : ¬ 9223372036854775807 < (T ++ nb).size + 5 := by rw [ByteArray.size_append]; omega
          have HTN := Lib.hid (show Is (T ++ nb ++ ⟨#[9, 227, 130, 147, 10]⟩) (Ro.text (Ro.kL (k + 1))) by
            rw [Ro.kText_succ, ← List.append_assoc]
            exact (HIT.out.append (by rw [← hnb]; exact is_ba _)).append (Is.mk [9, 227, 130, 147, 10]))
          clear hnb hks
          go_wp2_with fail
          with_reducible refine (HNA.out _).mono ?_
          rintro e w6 ⟨rfl, hb⟩
          have HB6 := Lib.hid (HBr.out.trans (hb.mono HBr.out.size))
          have HO6 := Lib.hid (HO.out.keep hb)
          clear hb
          go_wp2_with fail
          with_reducible refine (HNA.out _).mono ?_
          rintro e w7 ⟨rfl, hb⟩
          have HB7 := Lib.hid (HB6.out.trans (hb.mono HB6.out.size))
          have HO7 := Lib.hid (HO6.out.keep hb)
          clear hb
          have hkl5 : (kL5 k).length ≤ 1000000 := by rw [HKL.out]; omega
          go_wp2_with (at_builtin; refine wpList_append_rule Tryd.underlying25 infogiven_any _ rfl _ _ rfl w5.heap.size _ _ rfl (OwnR.alloc HO7.out _) (nb, ⟨#[227, 130, 147]⟩, ⟨#[]⟩) _ rfl (box3_0 _ _ _ _ _) (box3_1 _ _ _ _ _) (box3_2 _ _ _ _ _) hkl5 (by have := HB7.out.size; simp; omega) ?_)
          intro v8 w8 ho' hg'
          have HO8 := Lib.hid (show OwnR 39 w5.heap.size v8 (kL5 (k + 1)) w8 by rw [HKS.out]; exact ho')
          have HB8 := Lib.hid ((HB7.out.alloc HB7.out.size _).grown hg' (by have := HB7.out.size; simp; omega) (fun j hj => (World.ownsRow.lt HO7.out j hj).1))
          clear ho' hg'
          go_wp2_with fail
          go_roundw
          case rel => exact ⟨k + 1, _, by omega, by go_num, rfl, HTN.out, HO8.out, HB8.out⟩
          case measure => simp [intOf]; omega
        · obtain rfl : k = 500 := by omega
          obtain ⟨L5, hL5⟩ : ∃ L, kL5 500 = L := ⟨_, rfl⟩
          have hll : L5.length = 500 := by rw [← hL5]; exact kL5_len 500
          have HLL := Eqq.mk hll
          have HSL := Lib.hid (show Short3 L5 by rw [← hL5]; exact kL5_short 500)
          have HCK := Eqq.mk (show Ro.check (rulesL L5) = 0 by rw [← hL5, kL5_rules]; exact Ro.k_check)
          have HCM := Eqq.mk (show Ro.check (rulesL (L5 ++ [(⟨#[]⟩, ⟨#[]⟩, ⟨#[]⟩)])) = 2 by rw [← hL5]; exact k_more)
          rw [hL5] at HO
          obtain ⟨TL, hTL⟩ : ∃ TL, Ro.text (Ro.kL 500) = TL := ⟨_, rfl⟩
          have HPA := Eqq.mk (show Ro.parse TL = (rulesL L5, 0, 0) by rw [← hTL, ← hL5, kL5_rules]; exact Ro.k_parse)
          have HPB := Eqq.mk (show Ro.parse (TL ++ [122, 122, 9, 227, 130, 147]) = ([], 501, 50) by rw [← hTL]; exact Ro.k_full)
          rw [hTL] at HIT
          have HIZ := Lib.hid (show Is (T ++ ⟨#[122, 122, 9, 227, 130, 147]⟩) (TL ++ [122, 122, 9, 227, 130, 147]) from HIT.out.append (Is.mk [122, 122, 9, 227, 130, 147]))
          have hzz : (T ++ (⟨#[122, 122, 9, 227, 130, 147]⟩ : ByteArray)).size < 4294967281 := by rw [ByteArray.size_append]; show T.size + 6 < _; omega
          have HZZ := Lib.hid hzz
          have i6 : ¬ 9223372036854775807 < T.size + 6 := by omega
          clear hL5 hTL hzz hll hkl
          try rw [show ((500 : Nat) : Int) = 500 from rfl]
          go_wp2_with fail
          with_reducible refine (parse_any T TL _ HIT.out (by omega) HT.out).mono ?_
          rw [HPA.out]
          rintro e w6 ⟨⟨v6, xs6, rfl, hx, ho⟩, hb⟩
          obtain rfl : xs6 = L5 := rulesL_inj hx
          obtain ⟨ao6, cap6, hv⟩ := ho.frame
          rw [HLL.out] at hv
          subst hv
          have HO := Lib.hid (HO.out.keep hb)
          have HB := Lib.hid (HB.out.trans (hb.mono HB.out.size))
          have HT := Lib.hid (HT.out.keep hb)
          have HX := Lib.hid (HX.out.keep hb)
          have HB5 := Lib.hid (HB5.out.trans (hb.mono HB5.out.size))
          clear hx ho hb
          go_wp2_with fail
          with_reducible refine (parse_any _ (TL ++ [122, 122, 9, 227, 130, 147]) _ HIZ.out HZZ.out HT.out).mono ?_
          rw [HPB.out]
          rintro e w7 ⟨⟨v7, xs7, rfl, hx, ho⟩, hb⟩
          have HO := Lib.hid (HO.out.keep hb)
          have HB := Lib.hid (HB.out.trans (hb.mono HB.out.size))
          have HT := Lib.hid (HT.out.keep hb)
          have HX := Lib.hid (HX.out.keep hb)
          have HB5 := Lib.hid (HB5.out.trans (hb.mono HB5.out.size))
          clear hx ho hb
          obtain ⟨N, hN⟩ : ∃ N : Nat, N = 1048577 := ⟨_, rfl⟩
          have HN := Eqq.mk hN
          have hN1 : N ≤ 1048577 := by omega
          have hN2 : 1048577 ≤ N := by omega
          have hN3 : (1048577 : Int) = (N : Int) := by omega
          have HN3 := Lib.hid hN3
          have hN4 : N ≤ maxLen := by unfold maxLen; omega
          have HN4 := Lib.hid hN4
          obtain ⟨i0, hi0, hz0, hz1, hz2⟩ := info_parts infou8
          have HI0 := Lib.hid hi0
          have HZ0 := Lib.hid hz0
          have HZ1 := Lib.hid hz1
          have HZ2 := Lib.hid (show i0.bytes * N ≤ 281474976710656 by rw [hz2]; omega)
          clear hN hN3 hN4 hi0 hz0 hz1 hz2
          go_wp2_with (refine wpList_make_full _ rfl _ _ 41 rfl _ 5 i0 (.int .u8 0) 1 Tryd.underlying41 HI0.out HZ0.out HZ1.out .i64 .i64 1048577 1048577 N rfl rfl HN3.out HN3.out HZ2.out HN4.out (Nat.le_refl _) ?_)
          intro w8 hown hgrow
          have hb := (Below.refl w7.heap.size w7).grown hgrow (Nat.le_refl _) (fun k hk => by cases hk)
          have HLo := Lib.hid (LongR.of HN.out hown)
          have HBm := Lib.hid hb
          clear hown hgrow hb
          go_wp2_with fail
          go_loopw [25] (fun iv wr => ∃ i : Nat, i ≤ N ∧ iv = .int .i64 i ∧ LongR w7.heap.size i wr ∧ Below w7.heap.size w7 wr) (fun iv _ => N - (intOf iv).toNat)
          case atStart => exact ⟨0, Nat.zero_le _, rfl, HLo.out, HBm.out⟩
          case round =>
            obtain ⟨j, hj, rfl, hlo, hb⟩ := hrel
            have HLo := Lib.hid hlo
            have HBr := Lib.hid hb
            clear hb
            by_cases hjl : j < N
            · obtain ⟨hf, ⟨u, hu⟩, _⟩ := hlo j (by omega)
              have HLn := Lib.hid (hlo.set (by omega))
              have HBn := Lib.hid (HBr.out.setCell (p := ⟨w7.heap.size, j, none⟩) (Nat.le_refl _) (.int .u8 35))
              have g1 : (j : Int) < (N : Int) := by omega
              have g2 : (0 : Int) ≤ (j : Int) := by omega
              clear hlo
              go_wp2_with fail
              go_roundw
              case rel => exact ⟨j + 1, by omega, by go_num, HLn.out, HBn.out⟩
              case measure => simp [intOf]; omega
            · obtain rfl : j = N := by omega
              have hb := HBr.out
              have HO := Lib.hid (HO.out.keep hb)
              have HB := Lib.hid (HB.out.trans (hb.mono HB.out.size))
              have HT := Lib.hid (HT.out.keep hb)
              have HX := Lib.hid (HX.out.keep hb)
              have HB5 := Lib.hid (HB5.out.trans (hb.mono HB5.out.size))
              obtain ⟨S, hS⟩ : ∃ S, ba (List.replicate j 35) = S := ⟨_, rfl⟩
              have HS := Lib.hid (show Is S (List.replicate j 35) by rw [← hS]; exact is_ba _)
              have hsz : S.size < 4294967281 := by rw [HS.out.size, List.length_replicate]; omega
              have HSZ := Lib.hid hsz
              have hcv := hlo.conv j (Nat.le_refl _) hN1 S HS.out j
              have HPH := Eqq.mk (show Ro.parse (List.replicate j 35) = ([], 0, 2) by rw [Ro.parse_hash j (by omega), if_pos (by omega)])
              clear hS hsz hlo hb
              go_wp2_with fail
              with_reducible refine (parse_any S _ _ HS.out HSZ.out HT.out).mono ?_
              rw [HPH.out]
              rintro e w9 ⟨⟨v9, xs9, rfl, hx, ho⟩, hb⟩
              have HLo := Lib.hid (HLo.out.keep hb)
              have HO := Lib.hid (HO.out.keep hb)
              have HB := Lib.hid (HB.out.trans (hb.mono HB.out.size))
              have HT := Lib.hid (HT.out.keep hb)
              have HX := Lib.hid (HX.out.keep hb)
              have HB5 := Lib.hid (HB5.out.trans (hb.mono HB5.out.size))
              clear hx ho hb hcv
              obtain ⟨M, hM⟩ : ∃ M : Nat, M = 1048576 := ⟨_, rfl⟩
              have hMj : M ≤ j := by omega
              obtain ⟨S2, hS2⟩ : ∃ S, ba (List.replicate M 35) = S := ⟨_, rfl⟩
              have HS2 := Lib.hid (show Is S2 (List.replicate M 35) by rw [← hS2]; exact is_ba _)
              have HSZ2 := Lib.hid (show S2.size < 4294967281 by rw [HS2.out.size, List.length_replicate]; omega)
              have hcv := HLo.out.conv M hMj hN1 S2 HS2.out j
              rw [hM] at hcv
              have HPH2 := Eqq.mk (show Ro.parse (List.replicate M 35) = ([], 0, 0) by rw [Ro.parse_hash M (by omega), if_neg (by omega)])
              have m1 : (1048576 : Int) ≤ (j : Int) := by omega
              have m2 : ¬ j = 1048576 := by omega
              clear hS2 hM
              go_wp2_with fail
              with_reducible refine (parse_any S2 _ _ HS2.out HSZ2.out HT.out).mono ?_
              rw [HPH2.out]
              rintro e w10 ⟨⟨v10, xs10, rfl, hx, ho⟩, hb⟩
              have HO := Lib.hid (HO.out.keep hb)
              have HB := Lib.hid (HB.out.trans (hb.mono HB.out.size))
              have HT := Lib.hid (HT.out.keep hb)
              have HX := Lib.hid (HX.out.keep hb)
              have HB5 := Lib.hid (HB5.out.trans (hb.mono HB5.out.size))
              clear hx ho hb hcv m1 m2 hMj hN1 hN2
              have HLi := Lib.hid HO.out.lie
              have hll5 : xs6.length ≤ 1000000000000 := by rw [HLL.out]; omega
              go_wp2_with fail
              with_reducible refine (check_any _ xs6 _ HLi.out hll5 HSL.out HT.out).mono ?_
              rw [HCK.out]
              rintro e w11 ⟨rfl, hb⟩
              have HO := Lib.hid (HO.out.keep hb)
              have HB := Lib.hid (HB.out.trans (hb.mono HB.out.size))
              have HT := Lib.hid (HT.out.keep hb)
              have HX := Lib.hid (HX.out.keep hb)
              have HB5 := Lib.hid (HB5.out.trans (hb.mono HB5.out.size))
              clear hb
              have hl6 : xs6.length ≤ 1000000 := by rw [HLL.out]; omega
              have hBz : w5.heap.size ≤ w11.heap.size := HB5.out.size
              have HBz := Lib.hid hBz
              clear hBz
              go_wp2_with (at_builtin; refine wpList_append_want w11 (by rfl) _ _ rfl w5.heap.size _ xs6 rfl HO.out rfl hl6 HBz.out ?_)
              intro v12 w12 hown hb
              have HL12 := Lib.hid hown.lie
              have HB12 := Lib.hid (HB.out.trans (hb.mono HZ5.out))
              have HX := Lib.hid (HX5.out.keep (HB5.out.trans hb))
              have HT := Lib.hid (HT5.out.keep (HB5.out.trans hb))
              have HB := HB12
              clear HB5
              have hl7 : (xs6 ++ [((⟨#[]⟩ : ByteArray), (⟨#[]⟩ : ByteArray), (⟨#[]⟩ : ByteArray))]).length ≤ 1000000000000 := by rw [List.length_append, HLL.out]; decide
              clear hown hb
              go_wp2_with fail
              with_reducible refine (check_any v12 _ _ HL12.out hl7 (short_more HSL.out) HT.out).mono ?_
              rw [HCM.out]
              rintro e w13 ⟨rfl, hb⟩
              have HB := Lib.hid (HB.out.trans (hb.mono HB.out.size))
              have HT := Lib.hid (HT.out.keep hb)
              have HX := Lib.hid (HX.out.keep hb)
              clear hb
              go_wp2_with fail
              with_reducible refine (default_any w13 HT.out).mono ?_
              rintro e w14 ⟨⟨v14, ys, rfl, hd, hl⟩, hb⟩
              have HDD := Eqq.mk hd
              have HLD := Lib.hid hl
              have hyl := def_long hd
              have hyl2 : ys.length ≤ 1000000000000 := by omega
              have HB := Lib.hid (HB.out.trans (hb.mono HB.out.size))
              have HT := Lib.hid (HT.out.keep hb)
              have HX := Lib.hid (HX.out.keep hb)
              clear hb hd hl hyl
              go_wp2_with fail
              with_reducible refine (find_any ⟨#[120, 116, 115, 117]⟩ [120, 116, 115, 117] v14 ys w14 (Is.mk _) HLD.out hyl2).mono ?_
              rw [def_xtsu HDD.out]
              rintro e w15 ⟨rfl, hb⟩
              have HB := Lib.hid (HB.out.trans (hb.mono HB.out.size))
              have HT := Lib.hid (HT.out.keep hb)
              have HX := Lib.hid (HX.out.keep hb)
              have HLD := Lib.hid (HLD.out.keep hb)
              clear hb
              have hb := (Below.refl w15.heap.size w15).alloc (Nat.le_refl _) (.cells #[.string ⟨#[120, 116, 115, 117]⟩, .string ⟨#[227, 129, 163]⟩, .string ⟨#[]⟩] 39)
              have HRO := Lib.hid (box3_1 w15 (.string ⟨#[120, 116, 115, 117]⟩) (.string ⟨#[227, 129, 163]⟩) (.string ⟨#[]⟩) 39)
              have HB := Lib.hid (HB.out.trans (hb.mono HB.out.size))
              have HT := Lib.hid (HT.out.keep hb)
              have HX := Lib.hid (HX.out.keep hb)
              have HLD := Lib.hid (HLD.out.keep hb)
              clear hb
              go_wp2_with fail
              with_reducible refine (find_any ⟨#[]⟩ [] v14 ys _ (Is.mk _) HLD.out hyl2).mono ?_
              rw [def_none HDD.out]
              rintro e w17 ⟨rfl, hb⟩
              have HB := Lib.hid (HB.out.trans (hb.mono HB.out.size))
              have HT := Lib.hid (HT.out.keep hb)
              have HX := Lib.hid (HX.out.keep hb)
              have HLD := Lib.hid (HLD.out.keep hb)
              have HRO := Lib.hid (below_cellU HRO.out hb (Nat.le_refl _))
              clear hb
              have hb := ((Below.refl w17.heap.size w17).alloc (Nat.le_refl _) (.cells #[.string ⟨#[]⟩, .string ⟨#[]⟩, .string ⟨#[]⟩] 39)).alloc (by simp) (.cells #[.string ⟨#[107, 107]⟩, .string ⟨#[]⟩, .string ⟨#[107]⟩] 44)
              have hl2 : LieR (.slice (some ⟨(w17.alloc (.cells #[.string ⟨#[]⟩, .string ⟨#[]⟩, .string ⟨#[]⟩] 39)).heap.size, 0, none⟩) 1 1) ex2R ((w17.alloc (.cells #[.string ⟨#[]⟩, .string ⟨#[]⟩, .string ⟨#[]⟩] 39)).alloc (.cells #[.string ⟨#[107, 107]⟩, .string ⟨#[]⟩, .string ⟨#[107]⟩] 44)) := lies_cells (w17.alloc (.cells #[.string ⟨#[]⟩, .string ⟨#[]⟩, .string ⟨#[]⟩] 39)) ex2R 44 1 rfl
              rw [World.size_alloc] at hl2
              have HL2 := Lib.hid hl2
              have HB := Lib.hid (HB.out.trans (hb.mono HB.out.size))
              have HT := Lib.hid (HT.out.keep hb)
              have HX := Lib.hid (HX.out.keep hb)
              have HLD := Lib.hid (HLD.out.keep hb)
              have HRO := Lib.hid (below_cellU HRO.out hb (Nat.le_refl _))
              clear hb hl2
              go_wp2_with fail
              with_reducible refine (same_any v4 _ ex2R ex2R _ HX.out HL2.out (by decide) (by decide)).mono ?_
              rw [decide_eq_true rfl]
              rintro e w20 ⟨rfl, hb⟩
              have HB := Lib.hid (HB.out.trans (hb.mono HB.out.size))
              have HT := Lib.hid (HT.out.keep hb)
              have HLD := Lib.hid (HLD.out.keep hb)
              have HRO := Lib.hid (below_cellU HRO.out hb (Nat.le_refl _))
              clear hb
              have c20 := HRO.out
              go_wp2_with fail
              with_reducible refine (longer_any ⟨#[110]⟩ [110] v14 ys _ (Is.mk _) HLD.out hyl2).mono ?_
              rw [HDD.out, def_longer.1]
              rintro e w21 ⟨rfl, hb⟩
              clear c20
              have HB := Lib.hid (HB.out.trans (hb.mono HB.out.size))
              have HT := Lib.hid (HT.out.keep hb)
              have HLD := Lib.hid (HLD.out.keep hb)
              clear hb
              go_wp2_with fail
              with_reducible refine (longer_any ⟨#[]⟩ [] v14 ys _ (Is.mk _) HLD.out hyl2).mono ?_
              rw [HDD.out, def_longer.2.1]
              rintro e w22 ⟨rfl, hb⟩
              have HB := Lib.hid (HB.out.trans (hb.mono HB.out.size))
              have HT := Lib.hid (HT.out.keep hb)
              have HLD := Lib.hid (HLD.out.keep hb)
              clear hb
              go_wp2_with fail
              with_reducible refine (longer_any ⟨#[110, 110]⟩ [110, 110] v14 ys _ (Is.mk _) HLD.out hyl2).mono ?_
              rw [HDD.out, def_longer.2.2]
              rintro e w23 ⟨rfl, hb⟩
              have HB := Lib.hid (HB.out.trans (hb.mono HB.out.size))
              have HT := Lib.hid (HT.out.keep hb)
              have HLD := Lib.hid (HLD.out.keep hb)
              clear hb
              have hs0 : Short3 ([] : List RuleB) := by intro r hr; cases hr
              go_wp2_with fail
              with_reducible refine (check_any (.slice none 0 0) [] _ (LieR.nil _) (Nat.zero_le _) hs0 HT.out).mono ?_
              rw [show Ro.check (rulesL []) = 0 from rfl]
              rintro e w24 ⟨rfl, hb⟩
              have HB := Lib.hid (HB.out.trans (hb.mono HB.out.size))
              have HT := Lib.hid (HT.out.keep hb)
              have HLD := Lib.hid (HLD.out.keep hb)
              clear hb
              go_wp2_with fail
              with_reducible refine (works_any _ HT.out).mono ?_
              rintro e w25 ⟨rfl, hb⟩
              have HB := Lib.hid (HB.out.trans (hb.mono HB.out.size))
              have HT := Lib.hid (HT.out.keep hb)
              have HLD := Lib.hid (HLD.out.keep hb)
              clear hb
              go_wp2_with fail
              go_ret
              exact ⟨rfl, HB.out⟩

theorem laidOut : laidOutB Tryd.prog = true := by kernel_rfl
set_option maxRecDepth 100000 in
theorem contract (H : Type) (enc : TypeId × Value → H) (W : World) (base : Nat) (args : Array Value) (ds gs : List (DataW H)) (before : List MemPlace)
    (hval : ∀ (j : Nat) t v, Tryd.f5.params[j]? = some t → args[j]? = some v → Value.okWide Tryd.prog W .any base t v)
    (hW : DataW.Whole enc Tryd.prog Tryd.f5.params.toList Rows.romanKnownSpec.vars false W args.toList ds gs before) (hL : laidMetH Tryd.prog Rows.romanKnownRow.laid W) (hS : W.ShapedOpen Tryd.prog)
    (hR : (DataW.weightsEach Tryd.prog (Tryd.f5.params.toList ++ (OpenSpec.ofChange Rows.romanKnownSpec).bare.plain.varTypes Tryd.prog) (ds ++ gs)).all (· ≤ reachBytes) = true) :
    Calls Tryd.prog 5 args W fun e W' => ∃ v, e = .returned v ∧ Rows.romanKnownSpec.post enc Tryd.prog Tryd.f5 false true false false W args v W' := by
  have hT : Tabs W := rtabs_of_laid hL hS
  have hW' := hW
  obtain ⟨p, q, hA0, hV, rfl, hfz, hnd⟩ := hW
  have hA : DataW.TrodAll enc Tryd.prog W 0 (fun _ => true) true Tryd.f5.params.toList args.toList ds p := hA0
  rw [Tryd.params5] at hA hval hR
  obtain ⟨hargs, rfl, rfl⟩ := trodAll_nil hA
  obtain rfl : args = #[] := by cases args; simp_all
  obtain ⟨rfl, rfl⟩ := trodVars_none hV
  clear hA0
  simp only [List.append_nil] at hW' hR
  refine (walk W hT).mono fun e W' ⟨he, bel⟩ => ?_
  subst he
  exact ⟨_, rfl, _, _, _, [], _, [], hW', trodAll_mk1 (shut_bool Tryd.underlying4 _), trodAll_mk0, rfl, bel.frame _, fun h => by cases h⟩

theorem reads (os : Os) {H : Type} (enc : TypeId × Value → H) : ∃ places, DataW.whole enc Tryd.prog ((laidWorldR os).forCall (fun _ _ => 0) ⟨#[], #[], []⟩).memory Tryd.f5.params.toList Rows.romanKnownSpec.vars false #[].toList 8 = some ([], [], places) :=
  ⟨[], by kernel_rfl⟩

set_option maxRecDepth 100000 in
theorem lifted (os : Os) (started : os.Started) (H : Type) (enc : TypeId × Value → H) (F : Stop.Interp) :
    ReturnsInHanded {} Tryd.checked os 5 .any ((OpenSpec.ofChange Rows.romanKnownSpec).preRow enc Tryd.prog Tryd.f5 Rows.romanKnownRow.domain false Rows.romanKnownRow.laid) (((OpenSpec.ofChange Rows.romanKnownSpec).at F).post enc Tryd.prog Tryd.f5 false true false false) := by
  obtain ⟨places, hx⟩ := reads os enc
  refine returnsInHanded_of_row (C := Tryd.checked) (s := (OpenSpec.ofChange Rows.romanKnownSpec)) own started (by kernel_rfl) Tryd.func5
    (witness_row_at (enc := enc) (C := Tryd.checked) false (laidWorldR os) #[] rfl (by kernel_rfl) (by kernel_rfl) (by kernel_rfl)
      (OpenSpec.preRow_of_cond 8 hx (by kernel_rfl) (fun k hk => by cases hk) (by kernel_rfl) (laid_metR os _))) ?_
  intro W base args ds gs before hval hW _ hcond hR hL hS _
  exact contract H enc W base args ds gs before hval hW hL hS hR

theorem said : Rows.RomanKnownSaid :=
  OpenClaim.holds_of_cond 5 Tryd.f5 rfl rfl rfl rfl rfl rfl rfl ⟨rfl, rfl, rfl, rfl, rfl⟩ rfl rfl rfl rfl rfl (by kernel_rfl) Tryd.func5 (by kernel_rfl)
    (of_decide_eq_true (by kernel_rfl)) (by unfold Func.isWrapper; first | (rw [if_pos (by decide +kernel)]; kernel_rfl) | (rw [if_neg (by decide +kernel)]; exact ⟨rfl, rfl⟩))
    (fun os started H enc _ F => by rw [OpenClaim.pre_eq_preRow]; exact lifted os started H enc F)

theorem plain (f : FuncId) (fn : Func) (hf : Tryd.pinned.checked.prog.funcNamed "henkan/henkanlaw05.RomanKnown" = some f) (hfn : Tryd.pinned.checked.prog.funcs[f]? = some fn) :
    false = Tryd.pinned.checked.prog.looks [] ∧ ∀ (j : Nat) t, fn.params[j]? = some t → Tryd.pinned.checked.prog.wantsStandIn t = false := by
  obtain rfl : f = 5 := Option.some.inj ((show Tryd.prog.funcNamed "henkan/henkanlaw05.RomanKnown" = some 5 by kernel_rfl).symm.trans hf) |>.symm
  obtain rfl : fn = Tryd.f5 := (Option.some.inj (Tryd.func5.symm.trans hfn)).symm
  refine ⟨by kernel_rfl, fun j t ht => ?_⟩
  rw [Tryd.params5] at ht
  simp at ht

/-- the card -/
theorem proved : Rows.RomanKnownCardSaid :=
  Claim7.holds_tied_plain_at .later [] _ _ _ _ said (fun _ h => by cases h) (by kernel_rfl) (fun _ h => by cases h) romanKnown_row_tie rfl ⟨rfl, rfl⟩ (by kernel_rfl) rfl plain (by kernel_rfl)
#print axioms proved
end Go.Proofs.YtgdcffahhpeibaaDoor.romanKnown
