/-
  Which rules are allowed: roman.Rule.allowed and henkanref05.Allowed by their contracts. No condition but the strings' own bound.
-/
import Derived.Test.YtgdcffahhpeibaaGreatDoorRoKana
namespace Go.Proofs.YtgdcffahhpeibaaGreatDoor
open Go.RowKit
set_option maxRecDepth 100000 in
set_option maxHeartbeats 4000000 in
theorem allowed_any (r : RuleB) (w : World) (hk : r.1.size ≤ 9223372036854775807) (ho : r.2.1.size ≤ 17592186044416) (hn : r.2.2.size ≤ 9223372036854775807) (ht : Tabs w) :
    Calls Tryz.prog 74 #[ruleV r] w fun e w' => e = .returned (.bool (Ro.allowed (ruleL r))) ∧ Below w.heap.size w w' := by
  obtain ⟨k, o, n⟩ := r
  have HB0 := Lib.hid ((Below.refl w.heap.size w).alloc (Nat.le_refl _) (.cells #[.string k, .string o, .string n] 87))
  have HK0 := Lib.hid (box3_0 w (.string k) (.string o) (.string n) 87)
  have HK1 := Lib.hid (box3_1 w (.string k) (.string o) (.string n) 87)
  have HK2 := Lib.hid (box3_2 w (.string k) (.string o) (.string n) 87)
  have HTW := Lib.hid (ht.keep HB0.out)
  clear ht
  dsimp only [ruleV, ruleL] at hk ho hn ⊢
  have hks := (Is.of k).size
  have hns := (Is.of n).size
  have hkl := (Is.of k).list
  have hol := (Is.of o).list
  have hnl := (Is.of n).list
  have HIK := Lib.hid (Is.of k)
  have HIO := Lib.hid (Is.of o)
  have HIN := Lib.hid (Is.of n)
  obtain ⟨kl, hke⟩ : ∃ kl, k.data.toList = kl := ⟨_, rfl⟩
  obtain ⟨ol, hoe⟩ : ∃ ol, o.data.toList = ol := ⟨_, rfl⟩
  obtain ⟨nl, hne⟩ : ∃ nl, n.data.toList = nl := ⟨_, rfl⟩
  rw [hke] at hks hkl HIK ⊢
  rw [hoe] at hol HIO ⊢
  rw [hne] at hns hnl HIN ⊢
  obtain ⟨R, hR⟩ : ∃ R, Ro.allowed (kl, ol, nl) = R := ⟨_, rfl⟩
  rw [hR]
  have hR2 := hR
  unfold Ro.allowed at hR2
  dsimp only at hR2
  clear hke hoe hne hR
  by_cases c1 : kl = []
  · have HR := Eqq.mk (show R = false by rw [← hR2, c1]; rfl)
    have e1 : k.toList.isEmpty = true := by rw [hkl, c1]; rfl
    have f1 : (!k.toList.isEmpty) = false := by rw [hkl, c1]; rfl
    have z1 : k.size < 1 := by rw [hks, c1]; simp
    rw [c1] at hks hkl
    clear hR2 hks hns hkl hol hnl c1
    go_enter Tryz.func74, Tryz.ntmps74
    go_wp2_with fail
    go_ret
    exact ⟨by rw [HR.out]; rfl, HB0.out⟩
  have e1 : k.toList.isEmpty = false := by rw [hkl]; cases kl with | nil => exact absurd rfl c1 | cons a b => rfl
  have f1 : (!k.toList.isEmpty) = true := by rw [e1]; rfl
  have z1 : 1 ≤ k.size := by rw [hks]; exact List.length_pos_iff.2 c1
  have i1 : (!kl.isEmpty) = true := by cases kl with | nil => exact absurd rfl c1 | cons a b => rfl
  rw [i1, Bool.true_and] at hR2
  clear i1 c1
  by_cases c2 : Ro.keyed kl 4 = false
  · have HR := Eqq.mk (show R = false by rw [← hR2, c2]; rfl)
    have H2 := Eqq.mk c2
    clear hR2 hks hns hkl hol hnl c2
    go_enter Tryz.func74, Tryz.ntmps74
    go_wp2_with fail
    with_reducible refine (iskeys_any k kl 4 4 rfl _ HIK.out hk).mono ?_
    rw [H2.out]
    rintro e w2 ⟨rfl, hb⟩
    have HB2 := Lib.hid (hb)
    clear hb
    have d20 : w2.cell? ⟨w.heap.size, 0, none⟩ = some (.string k) := below_cellU HK0.out HB2.out (Nat.le_refl _)
    have d21 : w2.cell? ⟨w.heap.size, 1, none⟩ = some (.string o) := below_cellU HK1.out HB2.out (Nat.le_refl _)
    have d22 : w2.cell? ⟨w.heap.size, 2, none⟩ = some (.string n) := below_cellU HK2.out HB2.out (Nat.le_refl _)
    go_wp2_with fail
    go_ret
    exact ⟨by rw [HR.out]; rfl, HB0.out.trans (HB2.out.mono HB0.out.size)⟩
  rw [Bool.not_eq_false] at c2
  rw [c2, Bool.true_and] at hR2
  have H2 := Eqq.mk c2
  clear c2
  by_cases c3 : Ro.kana ol = false
  · have HR := Eqq.mk (show R = false by rw [← hR2, c3]; rfl)
    have H3 := Eqq.mk c3
    clear hR2 hks hns hkl hol hnl c3
    go_enter Tryz.func74, Tryz.ntmps74
    go_wp2_with fail
    with_reducible refine (iskeys_any k kl 4 4 rfl _ HIK.out hk).mono ?_
    rw [H2.out]
    rintro e w2 ⟨rfl, hb⟩
    have HB2 := Lib.hid (hb)
    clear hb
    have d20 : w2.cell? ⟨w.heap.size, 0, none⟩ = some (.string k) := below_cellU HK0.out HB2.out (Nat.le_refl _)
    have d21 : w2.cell? ⟨w.heap.size, 1, none⟩ = some (.string o) := below_cellU HK1.out HB2.out (Nat.le_refl _)
    have d22 : w2.cell? ⟨w.heap.size, 2, none⟩ = some (.string n) := below_cellU HK2.out HB2.out (Nat.le_refl _)
    go_wp2_with fail
    with_reducible refine (iskana_any o ol _ HIO.out ho (HTW.out.keep HB2.out)).mono ?_
    rw [H3.out]
    rintro e w3 ⟨rfl, hb⟩
    have HB3 := Lib.hid (HB2.out.trans (hb.mono HB2.out.size))
    clear hb
    have d30 : w3.cell? ⟨w.heap.size, 0, none⟩ = some (.string k) := below_cellU HK0.out HB3.out (Nat.le_refl _)
    have d31 : w3.cell? ⟨w.heap.size, 1, none⟩ = some (.string o) := below_cellU HK1.out HB3.out (Nat.le_refl _)
    have d32 : w3.cell? ⟨w.heap.size, 2, none⟩ = some (.string n) := below_cellU HK2.out HB3.out (Nat.le_refl _)
    go_wp2_with fail
    go_ret
    exact ⟨by rw [HR.out]; rfl, HB0.out.trans (HB3.out.mono HB0.out.size)⟩
  rw [Bool.not_eq_false] at c3
  rw [c3, Bool.true_and] at hR2
  have H3 := Eqq.mk c3
  clear c3
  by_cases c4 : Ro.keyed nl 3 = false
  · have HR := Eqq.mk (show R = false by rw [← hR2, c4]; rfl)
    have H4 := Eqq.mk c4
    clear hR2 hks hns hkl hol hnl c4
    go_enter Tryz.func74, Tryz.ntmps74
    go_wp2_with fail
    with_reducible refine (iskeys_any k kl 4 4 rfl _ HIK.out hk).mono ?_
    rw [H2.out]
    rintro e w2 ⟨rfl, hb⟩
    have HB2 := Lib.hid (hb)
    clear hb
    have d20 : w2.cell? ⟨w.heap.size, 0, none⟩ = some (.string k) := below_cellU HK0.out HB2.out (Nat.le_refl _)
    have d21 : w2.cell? ⟨w.heap.size, 1, none⟩ = some (.string o) := below_cellU HK1.out HB2.out (Nat.le_refl _)
    have d22 : w2.cell? ⟨w.heap.size, 2, none⟩ = some (.string n) := below_cellU HK2.out HB2.out (Nat.le_refl _)
    go_wp2_with fail
    with_reducible refine (iskana_any o ol _ HIO.out ho (HTW.out.keep HB2.out)).mono ?_
    rw [H3.out]
    rintro e w3 ⟨rfl, hb⟩
    have HB3 := Lib.hid (HB2.out.trans (hb.mono HB2.out.size))
    clear hb
    have d30 : w3.cell? ⟨w.heap.size, 0, none⟩ = some (.string k) := below_cellU HK0.out HB3.out (Nat.le_refl _)
    have d31 : w3.cell? ⟨w.heap.size, 1, none⟩ = some (.string o) := below_cellU HK1.out HB3.out (Nat.le_refl _)
    have d32 : w3.cell? ⟨w.heap.size, 2, none⟩ = some (.string n) := below_cellU HK2.out HB3.out (Nat.le_refl _)
    go_wp2_with fail
    with_reducible refine (iskeys_any n nl 3 3 rfl _ HIN.out hn).mono ?_
    rw [H4.out]
    rintro e w4 ⟨rfl, hb⟩
    have HB4 := Lib.hid (HB3.out.trans (hb.mono HB3.out.size))
    clear hb
    have d40 : w4.cell? ⟨w.heap.size, 0, none⟩ = some (.string k) := below_cellU HK0.out HB4.out (Nat.le_refl _)
    have d41 : w4.cell? ⟨w.heap.size, 1, none⟩ = some (.string o) := below_cellU HK1.out HB4.out (Nat.le_refl _)
    have d42 : w4.cell? ⟨w.heap.size, 2, none⟩ = some (.string n) := below_cellU HK2.out HB4.out (Nat.le_refl _)
    go_wp2_with fail
    go_ret
    exact ⟨by rw [HR.out]; rfl, HB0.out.trans (HB4.out.mono HB0.out.size)⟩
  rw [Bool.not_eq_false] at c4
  rw [c4, Bool.true_and] at hR2
  have H4 := Eqq.mk c4
  clear c4
  have hsum : o.size + n.size ≤ 9223372036854775807 := by have := (Ro.keyed_byte H4.out).1; omega
  by_cases c5 : nl.length < kl.length
  · rw [decide_eq_true c5, Bool.true_and] at hR2
    have z5 : n.size < k.size := by omega
    have d5 : decide (n.size < k.size) = true := decide_eq_true z5
    by_cases c6 : ol ++ nl = []
    · have HR := Eqq.mk (show R = false by rw [← hR2, c6]; rfl)
      have e6 : (o ++ n).toList.isEmpty = true := by rw [(HIO.out.append HIN.out).list, c6]; rfl
      have f6 : (!(o ++ n).toList.isEmpty) = false := by rw [e6]; rfl
      clear hR2 hks hns hkl hol hnl c5 c6
      go_enter Tryz.func74, Tryz.ntmps74
      go_wp2_with fail
      with_reducible refine (iskeys_any k kl 4 4 rfl _ HIK.out hk).mono ?_
      rw [H2.out]
      rintro e w2 ⟨rfl, hb⟩
      have HB2 := Lib.hid (hb)
      clear hb
      have d20 : w2.cell? ⟨w.heap.size, 0, none⟩ = some (.string k) := below_cellU HK0.out HB2.out (Nat.le_refl _)
      have d21 : w2.cell? ⟨w.heap.size, 1, none⟩ = some (.string o) := below_cellU HK1.out HB2.out (Nat.le_refl _)
      have d22 : w2.cell? ⟨w.heap.size, 2, none⟩ = some (.string n) := below_cellU HK2.out HB2.out (Nat.le_refl _)
      go_wp2_with fail
      with_reducible refine (iskana_any o ol _ HIO.out ho (HTW.out.keep HB2.out)).mono ?_
      rw [H3.out]
      rintro e w3 ⟨rfl, hb⟩
      have HB3 := Lib.hid (HB2.out.trans (hb.mono HB2.out.size))
      clear hb
      have d30 : w3.cell? ⟨w.heap.size, 0, none⟩ = some (.string k) := below_cellU HK0.out HB3.out (Nat.le_refl _)
      have d31 : w3.cell? ⟨w.heap.size, 1, none⟩ = some (.string o) := below_cellU HK1.out HB3.out (Nat.le_refl _)
      have d32 : w3.cell? ⟨w.heap.size, 2, none⟩ = some (.string n) := below_cellU HK2.out HB3.out (Nat.le_refl _)
      go_wp2_with fail
      with_reducible refine (iskeys_any n nl 3 3 rfl _ HIN.out hn).mono ?_
      rw [H4.out]
      rintro e w4 ⟨rfl, hb⟩
      have HB4 := Lib.hid (HB3.out.trans (hb.mono HB3.out.size))
      clear hb
      have d40 : w4.cell? ⟨w.heap.size, 0, none⟩ = some (.string k) := below_cellU HK0.out HB4.out (Nat.le_refl _)
      have d41 : w4.cell? ⟨w.heap.size, 1, none⟩ = some (.string o) := below_cellU HK1.out HB4.out (Nat.le_refl _)
      have d42 : w4.cell? ⟨w.heap.size, 2, none⟩ = some (.string n) := below_cellU HK2.out HB4.out (Nat.le_refl _)
      go_wp2_with fail
      go_ret
      exact ⟨by rw [HR.out]; rfl, HB0.out.trans (HB4.out.mono HB0.out.size)⟩
    · have HR := Eqq.mk (show R = true by rw [← hR2]; cases h : ol ++ nl with | nil => exact absurd h c6 | cons a b => rfl)
      have e6 : (o ++ n).toList.isEmpty = false := by rw [(HIO.out.append HIN.out).list]; cases h : ol ++ nl with | nil => exact absurd h c6 | cons a b => rfl
      have f6 : (!(o ++ n).toList.isEmpty) = true := by rw [e6]; rfl
      clear hR2 hks hns hkl hol hnl c5 c6
      go_enter Tryz.func74, Tryz.ntmps74
      go_wp2_with fail
      with_reducible refine (iskeys_any k kl 4 4 rfl _ HIK.out hk).mono ?_
      rw [H2.out]
      rintro e w2 ⟨rfl, hb⟩
      have HB2 := Lib.hid (hb)
      clear hb
      have d20 : w2.cell? ⟨w.heap.size, 0, none⟩ = some (.string k) := below_cellU HK0.out HB2.out (Nat.le_refl _)
      have d21 : w2.cell? ⟨w.heap.size, 1, none⟩ = some (.string o) := below_cellU HK1.out HB2.out (Nat.le_refl _)
      have d22 : w2.cell? ⟨w.heap.size, 2, none⟩ = some (.string n) := below_cellU HK2.out HB2.out (Nat.le_refl _)
      go_wp2_with fail
      with_reducible refine (iskana_any o ol _ HIO.out ho (HTW.out.keep HB2.out)).mono ?_
      rw [H3.out]
      rintro e w3 ⟨rfl, hb⟩
      have HB3 := Lib.hid (HB2.out.trans (hb.mono HB2.out.size))
      clear hb
      have d30 : w3.cell? ⟨w.heap.size, 0, none⟩ = some (.string k) := below_cellU HK0.out HB3.out (Nat.le_refl _)
      have d31 : w3.cell? ⟨w.heap.size, 1, none⟩ = some (.string o) := below_cellU HK1.out HB3.out (Nat.le_refl _)
      have d32 : w3.cell? ⟨w.heap.size, 2, none⟩ = some (.string n) := below_cellU HK2.out HB3.out (Nat.le_refl _)
      go_wp2_with fail
      with_reducible refine (iskeys_any n nl 3 3 rfl _ HIN.out hn).mono ?_
      rw [H4.out]
      rintro e w4 ⟨rfl, hb⟩
      have HB4 := Lib.hid (HB3.out.trans (hb.mono HB3.out.size))
      clear hb
      have d40 : w4.cell? ⟨w.heap.size, 0, none⟩ = some (.string k) := below_cellU HK0.out HB4.out (Nat.le_refl _)
      have d41 : w4.cell? ⟨w.heap.size, 1, none⟩ = some (.string o) := below_cellU HK1.out HB4.out (Nat.le_refl _)
      have d42 : w4.cell? ⟨w.heap.size, 2, none⟩ = some (.string n) := below_cellU HK2.out HB4.out (Nat.le_refl _)
      go_wp2_with fail
      go_ret
      exact ⟨by rw [HR.out]; rfl, HB0.out.trans (HB4.out.mono HB0.out.size)⟩
  · have z5 : k.size ≤ n.size := by omega
    have d5 : decide (n.size < k.size) = false := decide_eq_false (by omega)
    rw [decide_eq_false c5, Bool.false_and] at hR2
    have HR := Eqq.mk hR2.symm
    clear hR2 hks hns hkl hol hnl c5
    go_enter Tryz.func74, Tryz.ntmps74
    go_wp2_with fail
    with_reducible refine (iskeys_any k kl 4 4 rfl _ HIK.out hk).mono ?_
    rw [H2.out]
    rintro e w2 ⟨rfl, hb⟩
    have HB2 := Lib.hid (hb)
    clear hb
    have d20 : w2.cell? ⟨w.heap.size, 0, none⟩ = some (.string k) := below_cellU HK0.out HB2.out (Nat.le_refl _)
    have d21 : w2.cell? ⟨w.heap.size, 1, none⟩ = some (.string o) := below_cellU HK1.out HB2.out (Nat.le_refl _)
    have d22 : w2.cell? ⟨w.heap.size, 2, none⟩ = some (.string n) := below_cellU HK2.out HB2.out (Nat.le_refl _)
    go_wp2_with fail
    with_reducible refine (iskana_any o ol _ HIO.out ho (HTW.out.keep HB2.out)).mono ?_
    rw [H3.out]
    rintro e w3 ⟨rfl, hb⟩
    have HB3 := Lib.hid (HB2.out.trans (hb.mono HB2.out.size))
    clear hb
    have d30 : w3.cell? ⟨w.heap.size, 0, none⟩ = some (.string k) := below_cellU HK0.out HB3.out (Nat.le_refl _)
    have d31 : w3.cell? ⟨w.heap.size, 1, none⟩ = some (.string o) := below_cellU HK1.out HB3.out (Nat.le_refl _)
    have d32 : w3.cell? ⟨w.heap.size, 2, none⟩ = some (.string n) := below_cellU HK2.out HB3.out (Nat.le_refl _)
    go_wp2_with fail
    with_reducible refine (iskeys_any n nl 3 3 rfl _ HIN.out hn).mono ?_
    rw [H4.out]
    rintro e w4 ⟨rfl, hb⟩
    have HB4 := Lib.hid (HB3.out.trans (hb.mono HB3.out.size))
    clear hb
    have d40 : w4.cell? ⟨w.heap.size, 0, none⟩ = some (.string k) := below_cellU HK0.out HB4.out (Nat.le_refl _)
    have d41 : w4.cell? ⟨w.heap.size, 1, none⟩ = some (.string o) := below_cellU HK1.out HB4.out (Nat.le_refl _)
    have d42 : w4.cell? ⟨w.heap.size, 2, none⟩ = some (.string n) := below_cellU HK2.out HB4.out (Nat.le_refl _)
    go_wp2_with fail
    go_ret
    exact ⟨by rw [HR.out]; rfl, HB0.out.trans (HB4.out.mono HB0.out.size)⟩
end Go.Proofs.YtgdcffahhpeibaaGreatDoor
