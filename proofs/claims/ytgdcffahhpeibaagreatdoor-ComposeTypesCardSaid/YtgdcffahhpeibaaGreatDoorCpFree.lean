/-
  auto.New upon rules of any length, and such rules opened: the contracts behind it without a bound of their own. No condition.
-/
import Derived.Test.YtgdcffahhpeibaaGreatDoorCpMore
import Derived.Laws.IdiomStrings
import Derived.Deep.Slices
import Derived.Carry
import Derived.ChangeSame
namespace Go.Proofs.YtgdcffahhpeibaaGreatDoor
namespace Free
open Go.ChangeShapes Go.WideShapes Go.ChangeAt Go.RowKit Go.Deep
set_option linter.unusedVariables false
theorem run_runes_of_string {P : Program} (w : World) (src dst e : TypeId) (s : ByteArray) (hs : P.underlying src = some .string) (hd : P.underlying dst = some (.slice e)) (he : P.underlying e = some (.int .i32)) :
    (convert src dst (.string s)).run P w = .ok (.slice (some ⟨w.heap.size, 0, none⟩) (Conv.runesFrom s s.size 0 #[]).size (grownCap w (Conv.runesFrom s s.size 0 #[]).size 0 e))
      (w.drew.alloc (.cells (Conv.runesFrom s s.size 0 #[] ++ Array.replicate (grownCap w (Conv.runesFrom s s.size 0 #[]).size 0 e - (Conv.runesFrom s s.size 0 #[]).size) (.int .i32 0)) e)) := by
  simp [convert, run_underlying hs, run_underlying hd, run_underlying he, Conv.stringToRunes, Question.forced, newRow, grownCap]
set_option maxRecDepth 100000 in
set_option maxHeartbeats 2000000 in
theorem urunes_any (s : ByteArray) (l : List UInt8) (w : World) (h : Is s l) (hs : s.size ≤ 9223372036854775807) (ht : Tabs w) :
    Calls Tryz.prog 121 #[.string s] w (URunes l w) := by
  have HI := Lib.hid h
  have HT := Lib.hid ht
  have HRL := Lib.hid (UT.runes_len l.length l (Nat.le_refl _))
  have HSZ := Eqq.mk h.size
  have HRF := Eqq.mk (show Conv.runesFrom s s.size 0 #[] = ((UT.runes l).map fun (c : Nat) => Value.int .i32 (c : Int)).toArray by rw [runesFrom_eq s s.size 0 #[] (by omega), List.drop_zero, h.data]; simp)
  clear h ht
  go_enter Tryz.func121, Tryz.ntmps121
  go_wp2_with fail
  with_reducible refine (Tryz.utf8_ValidString s _ hs HT.out.utf).mono ?_
  rw [HI.out.data]
  rintro e w2 ⟨rfl, hb⟩
  have HB := Lib.hid hb
  clear hb
  cases hv : Lib.validD l
  · have HV := Eqq.mk hv
    clear hv
    go_wp2_with fail
    go_ret2
    exact ⟨HB.out, .inl ⟨HV.out, rfl⟩⟩
  · have HV := Eqq.mk hv
    clear hv
    obtain ⟨n, hn⟩ : ∃ n, (UT.runes l).length = n := ⟨_, rfl⟩
    have hrs : (Conv.runesFrom s s.size 0 #[]).size = n := by rw [HRF.out, List.size_toArray, List.length_map, hn]
    have hcv := Free.run_runes_of_string (P := Tryz.prog) w2 9 77 21 s Tryz.underlying9 Tryz.underlying77 Tryz.underlying21
    rw [hrs] at hcv
    obtain ⟨cap, hcap⟩ : ∃ cap, grownCap w2 n 0 21 = cap := ⟨_, rfl⟩
    rw [hcap, HRF.out] at hcv
    obtain ⟨C, hC⟩ : ∃ C, ((UT.runes l).map fun (c : Nat) => Value.int .i32 (c : Int)).toArray ++ Array.replicate (cap - n) (Value.int .i32 0) = C := ⟨_, rfl⟩
    rw [hC] at hcv
    have HC := Eqq.mk hC
    have HN := Eqq.mk hn
    have hw3 : ((w2.alloc (.cells C 21)).drew).heap[w2.heap.size]? = some (.cells C 21 (0, 0)) := (MapKept.heap_alloc w2 _).1
    have HL := Lib.hid (show RLie (.slice (some ⟨w2.heap.size, 0, none⟩) n cap) (UT.runes l) ((w2.alloc (.cells C 21)).drew) by
      have := runesRow ((w2.alloc (.cells C 21)).drew) (UT.runes l) n cap C HC.out.symm HN.out (by simpa using hw3)
      simpa using this)
    clear hC hn hrs hcap hw3
    go_wp2_with fail
    go_ret2
    exact ⟨HB.out.trans ((((Below.refl _ _).alloc (Nat.le_refl _) _).drew).mono (by have := HB.out.size; omega)) , .inr ⟨HV.out, _, HL.out, rfl⟩⟩
set_option maxRecDepth 100000 in
set_option maxHeartbeats 4000000 in
theorem iskana_any (s : ByteArray) (l : List UInt8) (w : World) (h : Is s l) (hs : s.size ≤ 9223372036854775807) (ht : Tabs w) :
    Calls Tryz.prog 98 #[.string s] w fun e w' => e = .returned (.bool (Ro.kana l)) ∧ Below w.heap.size w w' := by
  have HI := Lib.hid h
  have HT := Lib.hid ht
  have HRL := Lib.hid (UT.runes_len l.length l (Nat.le_refl _))
  have HSZ := Eqq.mk h.size
  clear h ht
  go_enter Tryz.func98, Tryz.ntmps98
  go_wp2_with fail
  with_reducible refine (Free.urunes_any s l _ HI.out hs HT.out).mono ?_
  rintro e w1 ⟨hb, ⟨hv, rfl⟩ | ⟨hv, v, hx, rfl⟩⟩
  · have HR := Eqq.mk (show Ro.kana l = false by unfold Ro.kana; rw [hv]; rfl)
    have HB := Lib.hid hb
    clear hv hb
    go_wp2_with fail
    go_ret
    exact ⟨by rw [HR.out]; rfl, HB.out⟩
  · have HV := Eqq.mk hv
    have HB := Lib.hid hb
    have HX := Lib.hid hx
    obtain ⟨ao, cap, rfl, _⟩ := hx
    obtain ⟨n, hn⟩ : ∃ n, (UT.runes l).length = n := ⟨_, rfl⟩
    have HN := Eqq.mk hn
    rw [hn]
    have HX2 := Lib.hid (show RLie (.slice ao n cap) (UT.runes l) w1 by have := HX.out; rw [hn] at this; exact this)
    clear hv hb hn
    by_cases h4 : n ≤ 4
    · have hd : decide ((n : Int) ≤ 4) = true := decide_eq_true (by omega)
      obtain ⟨A, hA⟩ : ∃ A, (UT.runes l).all Ro.isKa = A := ⟨_, rfl⟩
      have HR := Eqq.mk (show Ro.kana l = A by unfold Ro.kana; rw [HV.out, HN.out, hA, decide_eq_true h4]; rfl)
      have HA := Eqq.mk hA
      clear hA
      go_wp2_with fail
      with_reducible refine (contains_ka _ (UT.runes l) _ HX2.out (by rw [HN.out]; omega) (runes_ch l)).mono ?_
      rw [HA.out]
      rintro e w2 ⟨rfl, q, rfl⟩
      cases A
      · go_wp2_with fail
        go_ret
        exact ⟨by rw [HR.out]; rfl, bel_dn HB.out q⟩
      · go_wp2_with fail
        go_ret
        exact ⟨by rw [HR.out]; rfl, bel_dn HB.out q⟩
    · have h5 : 4 < n := by omega
      have hd : decide ((n : Int) ≤ 4) = false := decide_eq_false (by omega)
      have HR := Eqq.mk (show Ro.kana l = false by unfold Ro.kana; rw [HV.out, HN.out, decide_eq_false h4]; rfl)
      clear h4
      go_wp2_with fail
      go_ret
      exact ⟨by rw [HR.out]; rfl, HB.out⟩
set_option maxRecDepth 100000 in
set_option maxHeartbeats 4000000 in
theorem allowed_any (r : RuleB) (w : World) (hk : r.1.size ≤ 9223372036854775807) (ho : r.2.1.size ≤ 9223372036854775807) (hn : r.2.2.size ≤ 9223372036854775807) (ht : Tabs w) :
    Calls Tryz.prog 74 #[ruleV r] w fun e w' => e = .returned (.bool (Ro.allowed (ruleL r))) ∧ Below w.heap.size w w' := by
  obtain ⟨k, o, n⟩ := r
  have HB0 := Lib.hid ((Below.refl w.heap.size w).alloc (Nat.le_refl _) (.cells #[.string k, .string o, .string n] 87))
  have HK0 := Lib.hid (box3_0 w (.string k) (.string o) (.string n) 87)
  have HK1 := Lib.hid (box3_1 w (.string k) (.string o) (.string n) 87)
  have HK2 := Lib.hid (box3_2 w (.string k) (.string o) (.string n) 87)
  have HTW := Lib.hid (ht.keep HB0.out)
  clear ht
  dsimp only [ruleV, ruleL] at hk ho hn ⊢
  have hks := (Is.of k).size
  have hns := (Is.of n).size
  have hkl := (Is.of k).list
  have hol := (Is.of o).list
  have hnl := (Is.of n).list
  have HIK := Lib.hid (Is.of k)
  have HIO := Lib.hid (Is.of o)
  have HIN := Lib.hid (Is.of n)
  obtain ⟨kl, hke⟩ : ∃ kl, k.data.toList = kl := ⟨_, rfl⟩
  obtain ⟨ol, hoe⟩ : ∃ ol, o.data.toList = ol := ⟨_, rfl⟩
  obtain ⟨nl, hne⟩ : ∃ nl, n.data.toList = nl := ⟨_, rfl⟩
  rw [hke] at hks hkl HIK ⊢
  rw [hoe] at hol HIO ⊢
  rw [hne] at hns hnl HIN ⊢
  obtain ⟨R, hR⟩ : ∃ R, Ro.allowed (kl, ol, nl) = R := ⟨_, rfl⟩
  rw [hR]
  have hR2 := hR
  unfold Ro.allowed at hR2
  dsimp only at hR2
  clear hke hoe hne hR
  by_cases c1 : kl = []
  · have HR := Eqq.mk (show R = false by rw [← hR2, c1]; rfl)
    have e1 : k.toList.isEmpty = true := by rw [hkl, c1]; rfl
    have f1 : (!k.toList.isEmpty) = false := by rw [hkl, c1]; rfl
    have z1 : k.size < 1 := by rw [hks, c1]; simp
    rw [c1] at hks hkl
    clear hR2 hks hns hkl hol hnl c1
    go_enter Tryz.func74, Tryz.ntmps74
    go_wp2_with fail
    go_ret
    exact ⟨by rw [HR.out]; rfl, HB0.out⟩
  have e1 : k.toList.isEmpty = false := by rw [hkl]; cases kl with | nil => exact absurd rfl c1 | cons a b => rfl
  have f1 : (!k.toList.isEmpty) = true := by rw [e1]; rfl
  have z1 : 1 ≤ k.size := by rw [hks]; exact List.length_pos_iff.2 c1
  have i1 : (!kl.isEmpty) = true := by cases kl with | nil => exact absurd rfl c1 | cons a b => rfl
  rw [i1, Bool.true_and] at hR2
  clear i1 c1
  by_cases c2 : Ro.keyed kl 4 = false
  · have HR := Eqq.mk (show R = false by rw [← hR2, c2]; rfl)
    have H2 := Eqq.mk c2
    clear hR2 hks hns hkl hol hnl c2
    go_enter Tryz.func74, Tryz.ntmps74
    go_wp2_with fail
    with_reducible refine (iskeys_any k kl 4 4 rfl _ HIK.out hk).mono ?_
    rw [H2.out]
    rintro e w2 ⟨rfl, hb⟩
    have HB2 := Lib.hid (hb)
    clear hb
    have d20 : w2.cell? ⟨w.heap.size, 0, none⟩ = some (.string k) := below_cellU HK0.out HB2.out (Nat.le_refl _)
    have d21 : w2.cell? ⟨w.heap.size, 1, none⟩ = some (.string o) := below_cellU HK1.out HB2.out (Nat.le_refl _)
    have d22 : w2.cell? ⟨w.heap.size, 2, none⟩ = some (.string n) := below_cellU HK2.out HB2.out (Nat.le_refl _)
    go_wp2_with fail
    go_ret
    exact ⟨by rw [HR.out]; rfl, HB0.out.trans (HB2.out.mono HB0.out.size)⟩
  rw [Bool.not_eq_false] at c2
  rw [c2, Bool.true_and] at hR2
  have H2 := Eqq.mk c2
  clear c2
  by_cases c3 : Ro.kana ol = false
  · have HR := Eqq.mk (show R = false by rw [← hR2, c3]; rfl)
    have H3 := Eqq.mk c3
    clear hR2 hks hns hkl hol hnl c3
    go_enter Tryz.func74, Tryz.ntmps74
    go_wp2_with fail
    with_reducible refine (iskeys_any k kl 4 4 rfl _ HIK.out hk).mono ?_
    rw [H2.out]
    rintro e w2 ⟨rfl, hb⟩
    have HB2 := Lib.hid (hb)
    clear hb
    have d20 : w2.cell? ⟨w.heap.size, 0, none⟩ = some (.string k) := below_cellU HK0.out HB2.out (Nat.le_refl _)
    have d21 : w2.cell? ⟨w.heap.size, 1, none⟩ = some (.string o) := below_cellU HK1.out HB2.out (Nat.le_refl _)
    have d22 : w2.cell? ⟨w.heap.size, 2, none⟩ = some (.string n) := below_cellU HK2.out HB2.out (Nat.le_refl _)
    go_wp2_with fail
    with_reducible refine (Free.iskana_any o ol _ HIO.out ho (HTW.out.keep HB2.out)).mono ?_
    rw [H3.out]
    rintro e w3 ⟨rfl, hb⟩
    have HB3 := Lib.hid (HB2.out.trans (hb.mono HB2.out.size))
    clear hb
    have d30 : w3.cell? ⟨w.heap.size, 0, none⟩ = some (.string k) := below_cellU HK0.out HB3.out (Nat.le_refl _)
    have d31 : w3.cell? ⟨w.heap.size, 1, none⟩ = some (.string o) := below_cellU HK1.out HB3.out (Nat.le_refl _)
    have d32 : w3.cell? ⟨w.heap.size, 2, none⟩ = some (.string n) := below_cellU HK2.out HB3.out (Nat.le_refl _)
    go_wp2_with fail
    go_ret
    exact ⟨by rw [HR.out]; rfl, HB0.out.trans (HB3.out.mono HB0.out.size)⟩
  rw [Bool.not_eq_false] at c3
  rw [c3, Bool.true_and] at hR2
  have H3 := Eqq.mk c3
  clear c3
  by_cases c4 : Ro.keyed nl 3 = false
  · have HR := Eqq.mk (show R = false by rw [← hR2, c4]; rfl)
    have H4 := Eqq.mk c4
    clear hR2 hks hns hkl hol hnl c4
    go_enter Tryz.func74, Tryz.ntmps74
    go_wp2_with fail
    with_reducible refine (iskeys_any k kl 4 4 rfl _ HIK.out hk).mono ?_
    rw [H2.out]
    rintro e w2 ⟨rfl, hb⟩
    have HB2 := Lib.hid (hb)
    clear hb
    have d20 : w2.cell? ⟨w.heap.size, 0, none⟩ = some (.string k) := below_cellU HK0.out HB2.out (Nat.le_refl _)
    have d21 : w2.cell? ⟨w.heap.size, 1, none⟩ = some (.string o) := below_cellU HK1.out HB2.out (Nat.le_refl _)
    have d22 : w2.cell? ⟨w.heap.size, 2, none⟩ = some (.string n) := below_cellU HK2.out HB2.out (Nat.le_refl _)
    go_wp2_with fail
    with_reducible refine (Free.iskana_any o ol _ HIO.out ho (HTW.out.keep HB2.out)).mono ?_
    rw [H3.out]
    rintro e w3 ⟨rfl, hb⟩
    have HB3 := Lib.hid (HB2.out.trans (hb.mono HB2.out.size))
    clear hb
    have d30 : w3.cell? ⟨w.heap.size, 0, none⟩ = some (.string k) := below_cellU HK0.out HB3.out (Nat.le_refl _)
    have d31 : w3.cell? ⟨w.heap.size, 1, none⟩ = some (.string o) := below_cellU HK1.out HB3.out (Nat.le_refl _)
    have d32 : w3.cell? ⟨w.heap.size, 2, none⟩ = some (.string n) := below_cellU HK2.out HB3.out (Nat.le_refl _)
    go_wp2_with fail
    with_reducible refine (iskeys_any n nl 3 3 rfl _ HIN.out hn).mono ?_
    rw [H4.out]
    rintro e w4 ⟨rfl, hb⟩
    have HB4 := Lib.hid (HB3.out.trans (hb.mono HB3.out.size))
    clear hb
    have d40 : w4.cell? ⟨w.heap.size, 0, none⟩ = some (.string k) := below_cellU HK0.out HB4.out (Nat.le_refl _)
    have d41 : w4.cell? ⟨w.heap.size, 1, none⟩ = some (.string o) := below_cellU HK1.out HB4.out (Nat.le_refl _)
    have d42 : w4.cell? ⟨w.heap.size, 2, none⟩ = some (.string n) := below_cellU HK2.out HB4.out (Nat.le_refl _)
    go_wp2_with fail
    go_ret
    exact ⟨by rw [HR.out]; rfl, HB0.out.trans (HB4.out.mono HB0.out.size)⟩
  rw [Bool.not_eq_false] at c4
  rw [c4, Bool.true_and] at hR2
  have H4 := Eqq.mk c4
  clear c4
  have hsum : o.size + n.size ≤ 9223372036854775807 := by have h1 := (Ro.keyed_byte H4.out).1; have h2 := (Ro.kana_parts H3.out).2.2.2.2; have h3 := HIO.out.size; omega
  by_cases c5 : nl.length < kl.length
  · rw [decide_eq_true c5, Bool.true_and] at hR2
    have z5 : n.size < k.size := by omega
    have d5 : decide (n.size < k.size) = true := decide_eq_true z5
    by_cases c6 : ol ++ nl = []
    · have HR := Eqq.mk (show R = false by rw [← hR2, c6]; rfl)
      have e6 : (o ++ n).toList.isEmpty = true := by rw [(HIO.out.append HIN.out).list, c6]; rfl
      have f6 : (!(o ++ n).toList.isEmpty) = false := by rw [e6]; rfl
      clear hR2 hks hns hkl hol hnl c5 c6
      go_enter Tryz.func74, Tryz.ntmps74
      go_wp2_with fail
      with_reducible refine (iskeys_any k kl 4 4 rfl _ HIK.out hk).mono ?_
      rw [H2.out]
      rintro e w2 ⟨rfl, hb⟩
      have HB2 := Lib.hid (hb)
      clear hb
      have d20 : w2.cell? ⟨w.heap.size, 0, none⟩ = some (.string k) := below_cellU HK0.out HB2.out (Nat.le_refl _)
      have d21 : w2.cell? ⟨w.heap.size, 1, none⟩ = some (.string o) := below_cellU HK1.out HB2.out (Nat.le_refl _)
      have d22 : w2.cell? ⟨w.heap.size, 2, none⟩ = some (.string n) := below_cellU HK2.out HB2.out (Nat.le_refl _)
      go_wp2_with fail
      with_reducible refine (Free.iskana_any o ol _ HIO.out ho (HTW.out.keep HB2.out)).mono ?_
      rw [H3.out]
      rintro e w3 ⟨rfl, hb⟩
      have HB3 := Lib.hid (HB2.out.trans (hb.mono HB2.out.size))
      clear hb
      have d30 : w3.cell? ⟨w.heap.size, 0, none⟩ = some (.string k) := below_cellU HK0.out HB3.out (Nat.le_refl _)
      have d31 : w3.cell? ⟨w.heap.size, 1, none⟩ = some (.string o) := below_cellU HK1.out HB3.out (Nat.le_refl _)
      have d32 : w3.cell? ⟨w.heap.size, 2, none⟩ = some (.string n) := below_cellU HK2.out HB3.out (Nat.le_refl _)
      go_wp2_with fail
      with_reducible refine (iskeys_any n nl 3 3 rfl _ HIN.out hn).mono ?_
      rw [H4.out]
      rintro e w4 ⟨rfl, hb⟩
      have HB4 := Lib.hid (HB3.out.trans (hb.mono HB3.out.size))
      clear hb
      have d40 : w4.cell? ⟨w.heap.size, 0, none⟩ = some (.string k) := below_cellU HK0.out HB4.out (Nat.le_refl _)
      have d41 : w4.cell? ⟨w.heap.size, 1, none⟩ = some (.string o) := below_cellU HK1.out HB4.out (Nat.le_refl _)
      have d42 : w4.cell? ⟨w.heap.size, 2, none⟩ = some (.string n) := below_cellU HK2.out HB4.out (Nat.le_refl _)
      go_wp2_with fail
      go_ret
      exact ⟨by rw [HR.out]; rfl, HB0.out.trans (HB4.out.mono HB0.out.size)⟩
    · have HR := Eqq.mk (show R = true by rw [← hR2]; cases h : ol ++ nl with | nil => exact absurd h c6 | cons a b => rfl)
      have e6 : (o ++ n).toList.isEmpty = false := by rw [(HIO.out.append HIN.out).list]; cases h : ol ++ nl with | nil => exact absurd h c6 | cons a b => rfl
      have f6 : (!(o ++ n).toList.isEmpty) = true := by rw [e6]; rfl
      clear hR2 hks hns hkl hol hnl c5 c6
      go_enter Tryz.func74, Tryz.ntmps74
      go_wp2_with fail
      with_reducible refine (iskeys_any k kl 4 4 rfl _ HIK.out hk).mono ?_
      rw [H2.out]
      rintro e w2 ⟨rfl, hb⟩
      have HB2 := Lib.hid (hb)
      clear hb
      have d20 : w2.cell? ⟨w.heap.size, 0, none⟩ = some (.string k) := below_cellU HK0.out HB2.out (Nat.le_refl _)
      have d21 : w2.cell? ⟨w.heap.size, 1, none⟩ = some (.string o) := below_cellU HK1.out HB2.out (Nat.le_refl _)
      have d22 : w2.cell? ⟨w.heap.size, 2, none⟩ = some (.string n) := below_cellU HK2.out HB2.out (Nat.le_refl _)
      go_wp2_with fail
      with_reducible refine (Free.iskana_any o ol _ HIO.out ho (HTW.out.keep HB2.out)).mono ?_
      rw [H3.out]
      rintro e w3 ⟨rfl, hb⟩
      have HB3 := Lib.hid (HB2.out.trans (hb.mono HB2.out.size))
      clear hb
      have d30 : w3.cell? ⟨w.heap.size, 0, none⟩ = some (.string k) := below_cellU HK0.out HB3.out (Nat.le_refl _)
      have d31 : w3.cell? ⟨w.heap.size, 1, none⟩ = some (.string o) := below_cellU HK1.out HB3.out (Nat.le_refl _)
      have d32 : w3.cell? ⟨w.heap.size, 2, none⟩ = some (.string n) := below_cellU HK2.out HB3.out (Nat.le_refl _)
      go_wp2_with fail
      with_reducible refine (iskeys_any n nl 3 3 rfl _ HIN.out hn).mono ?_
      rw [H4.out]
      rintro e w4 ⟨rfl, hb⟩
      have HB4 := Lib.hid (HB3.out.trans (hb.mono HB3.out.size))
      clear hb
      have d40 : w4.cell? ⟨w.heap.size, 0, none⟩ = some (.string k) := below_cellU HK0.out HB4.out (Nat.le_refl _)
      have d41 : w4.cell? ⟨w.heap.size, 1, none⟩ = some (.string o) := below_cellU HK1.out HB4.out (Nat.le_refl _)
      have d42 : w4.cell? ⟨w.heap.size, 2, none⟩ = some (.string n) := below_cellU HK2.out HB4.out (Nat.le_refl _)
      go_wp2_with fail
      go_ret
      exact ⟨by rw [HR.out]; rfl, HB0.out.trans (HB4.out.mono HB0.out.size)⟩
  · have z5 : k.size ≤ n.size := by omega
    have d5 : decide (n.size < k.size) = false := decide_eq_false (by omega)
    rw [decide_eq_false c5, Bool.false_and] at hR2
    have HR := Eqq.mk hR2.symm
    clear hR2 hks hns hkl hol hnl c5
    go_enter Tryz.func74, Tryz.ntmps74
    go_wp2_with fail
    with_reducible refine (iskeys_any k kl 4 4 rfl _ HIK.out hk).mono ?_
    rw [H2.out]
    rintro e w2 ⟨rfl, hb⟩
    have HB2 := Lib.hid (hb)
    clear hb
    have d20 : w2.cell? ⟨w.heap.size, 0, none⟩ = some (.string k) := below_cellU HK0.out HB2.out (Nat.le_refl _)
    have d21 : w2.cell? ⟨w.heap.size, 1, none⟩ = some (.string o) := below_cellU HK1.out HB2.out (Nat.le_refl _)
    have d22 : w2.cell? ⟨w.heap.size, 2, none⟩ = some (.string n) := below_cellU HK2.out HB2.out (Nat.le_refl _)
    go_wp2_with fail
    with_reducible refine (Free.iskana_any o ol _ HIO.out ho (HTW.out.keep HB2.out)).mono ?_
    rw [H3.out]
    rintro e w3 ⟨rfl, hb⟩
    have HB3 := Lib.hid (HB2.out.trans (hb.mono HB2.out.size))
    clear hb
    have d30 : w3.cell? ⟨w.heap.size, 0, none⟩ = some (.string k) := below_cellU HK0.out HB3.out (Nat.le_refl _)
    have d31 : w3.cell? ⟨w.heap.size, 1, none⟩ = some (.string o) := below_cellU HK1.out HB3.out (Nat.le_refl _)
    have d32 : w3.cell? ⟨w.heap.size, 2, none⟩ = some (.string n) := below_cellU HK2.out HB3.out (Nat.le_refl _)
    go_wp2_with fail
    with_reducible refine (iskeys_any n nl 3 3 rfl _ HIN.out hn).mono ?_
    rw [H4.out]
    rintro e w4 ⟨rfl, hb⟩
    have HB4 := Lib.hid (HB3.out.trans (hb.mono HB3.out.size))
    clear hb
    have d40 : w4.cell? ⟨w.heap.size, 0, none⟩ = some (.string k) := below_cellU HK0.out HB4.out (Nat.le_refl _)
    have d41 : w4.cell? ⟨w.heap.size, 1, none⟩ = some (.string o) := below_cellU HK1.out HB4.out (Nat.le_refl _)
    have d42 : w4.cell? ⟨w.heap.size, 2, none⟩ = some (.string n) := below_cellU HK2.out HB4.out (Nat.le_refl _)
    go_wp2_with fail
    go_ret
    exact ⟨by rw [HR.out]; rfl, HB0.out.trans (HB4.out.mono HB0.out.size)⟩
def Short3 (xs : List RuleB) : Prop := ∀ r ∈ xs, r.1.size ≤ 9223372036854775807 ∧ r.2.1.size ≤ 9223372036854775807 ∧ r.2.2.size ≤ 9223372036854775807
theorem maxLen_of {s : ByteArray} (h : s.size ≤ 9223372036854775807) : s.size ≤ maxLen := by unfold maxLen; omega
set_option maxRecDepth 100000 in
set_option maxHeartbeats 4000000 in
theorem check_any (v : Value) (xs : List RuleB) (w : World) (h : LieR v xs w) (hn : xs.length ≤ 9223372036854775807) (hz : Free.Short3 xs) (ht : Tabs w) :
    Calls Tryz.prog 42 #[v] w fun e w' => e = .returned (.int .i64 (Ro.check (rulesL xs))) ∧ Below w.heap.size w w' := by
  have HL := Lib.hid h
  have HT := Lib.hid ht
  have HZ := Lib.hid hz
  obtain ⟨ao, cap, rfl, hcap, hx⟩ := h
  obtain ⟨n, hn2⟩ : ∃ n, xs.length = n := ⟨_, rfl⟩
  have HN := Eqq.mk hn2
  have hrl : (rulesL xs).length = n := by unfold rulesL; rw [List.length_map, hn2]
  rw [hn2] at hn ⊢
  have HX := Lib.hid hx
  by_cases h5 : 500 < n
  · have HR := Eqq.mk (show ((Ro.check (rulesL xs) : Nat) : Int) = 2 by unfold Ro.check; rw [hrl, if_pos h5]; rfl)
    have hd : decide ((500 : Int) < (n : Int)) = true := decide_eq_true (by omega)
    clear hx hn2 hcap ht hz hrl h5
    go_enter Tryz.func42, Tryz.ntmps42
    go_wp2_with fail
    go_ret
    exact ⟨by rw [HR.out]; rfl, Below.refl _ _⟩
  · have hd : decide ((500 : Int) < (n : Int)) = false := decide_eq_false (by omega)
    have HCK := Eqq.mk (show Ro.check (rulesL xs) = if Ro.good (rulesL xs) = true then 0 else 50 by unfold Ro.check; rw [hrl, if_neg h5])
    have hmm := @run_makeMap Tryz.prog
    have hm0 : MapIs Tryz.prog 9 w.heap.size 0 (seenF (keysL (xs.take 0))) (w.alloc (.map #[] 0)) := by
      rw [List.take_zero, show keysL [] = [] from rfl, seenF_nil]
      exact MapIs.made _ _ _
    have HM0 := Lib.hid hm0
    have hn5 : n ≤ 500 := by omega
    clear hx hn2 hcap ht hz hrl h5 hm0
    go_enter Tryz.func42, Tryz.ntmps42
    go_wp2_with fail
    clear hmm
    go_loopw [12] (fun iv wr => ∃ k : Nat, k ≤ n ∧ iv = .int .i64 k ∧ MapIs Tryz.prog 9 w.heap.size k (seenF (keysL (xs.take k))) wr ∧ Eqq (Ro.good (rulesL (xs.take k))) true ∧ Below w.heap.size w wr) (fun iv _ => n - (intOf iv).toNat)
    case atStart => exact ⟨0, Nat.zero_le _, rfl, HM0.out, ⟨rfl⟩, (Below.refl _ _).alloc (Nat.le_refl _) _⟩
    case round =>
      obtain ⟨k, hk, rfl, hm, HG, hb⟩ := hrel
      have HM := Lib.hid hm
      have HB := Lib.hid hb
      clear hm hb
      by_cases hlt : k < n
      · have hkl : k < xs.length := by rw [HN.out]; exact hlt
        obtain ⟨r, hr⟩ : ∃ r, xs[k]? = some r := ⟨_, List.getElem?_eq_getElem hkl⟩
        obtain ⟨g, o, rfl, d1, d2, d3⟩ := HX.out k r hr
        have c1 := below_cellU d1 HB.out (Nat.le_refl _)
        have c2 := below_cellU d2 HB.out (Nat.le_refl _)
        have c3 := below_cellU d3 HB.out (Nat.le_refl _)
        obtain ⟨z1, z2, z3⟩ := HZ.out r (List.mem_of_getElem? hr)
        have HKT := Eqq.mk (keysL_take xs k r hr)
        have HGT := Lib.hid (good_take xs k r hr)
        have HGB := Lib.hid (good_bad xs k r hr)
        have HSG := Lib.hid (seenF_get (keysL (xs.take k)) r.1)
        obtain ⟨r1, r2, r3⟩ := r
        dsimp only at c1 c2 c3 z1 z2 z3 HKT HSG
        obtain ⟨ks, hks⟩ : ∃ ks, keysL (xs.take k) = ks := ⟨_, rfl⟩
        rw [hks] at HM HKT HSG HGT HGB
        have HB1 := Lib.hid (HB.out.alloc HB.out.size (.cells #[.string r1, .string r2, .string r3] 87))
        have hwr : w.heap.size < wr.heap.size := HM.out.lt
        clear hr d1 d2 d3 hks
        obtain ⟨b, hb⟩ : ∃ b, ks.contains r1.data.toList = b := ⟨_, rfl⟩
        have HBB := Eqq.mk hb
        have hlk := (HM.out.alloc (.cells #[.string r1, .string r2, .string r3] 87)).look keyStr Tryz.underlying82 (zeroBool _) (WideMaps.keyOf_string_mk Tryz.underlying9 (Free.maxLen_of z1))
        rw [HSG.out, HBB.out] at hlk
        clear hb
        cases b
        · obtain ⟨A, hA⟩ : ∃ A, Ro.allowed (ruleL (r1, r2, r3)) = A := ⟨_, rfl⟩
          have HAA := Eqq.mk hA
          clear hA
          go_wp2_with fail
          with_reducible refine (Free.allowed_any (r1, r2, r3) _ (by dsimp only; omega) z2 (by dsimp only; omega) (HT.out.keep HB1.out)).mono ?_
          rw [HAA.out]
          rintro e w2 ⟨rfl, hb2⟩
          have HB2 := Lib.hid (HB1.out.trans (hb2.mono HB1.out.size))
          have c0 : w2.cell? ⟨wr.heap.size, 0, none⟩ = some (.string r1) := below_cellU (box3_0 wr _ _ _ _) hb2 (Nat.le_refl _)
          have HM2 := Lib.hid ((HM.out.alloc (.cells #[.string r1, .string r2, .string r3] 87)).keep hb2)
          clear hb2 hlk
          cases A
          · have HR := Eqq.mk (show ((Ro.check (rulesL xs) : Nat) : Int) = 50 by rw [HCK.out, HGB.out (.inl HAA.out), if_neg (by simp)]; rfl)
            go_wp2_with fail
            go_ret
            exact ⟨by rw [HR.out]; rfl, HB2.out⟩
          · have HG2 := Eqq.mk (HGT.out HG.out HAA.out HBB.out)
            have hk5 : k ≤ 500 := by omega
            go_wp2_with (at_mapUpdate; refine wpList_put_is _ rfl _ _ _ 82 rfl 9 4 keyStr Tryz.underlying82 w.heap.size k (seenF ks) (seenF (ks ++ [r1.data.toList])) rfl HM2.out (by unfold maxLen; omega) (.string r1) (.bool true) (.string r1.data.toList) rfl rfl (WideMaps.keyOf_string_mk Tryz.underlying9 (Free.maxLen_of z1)) (seenF_put ks r1) (fun x hx => seenF_other ks r1 x hx) ?_)
            intro w3 hm3 hg3
            have HM3 := Lib.hid hm3
            have HB3 := Lib.hid (HB2.out.grown hg3 HB2.out.size (fun j hj => by injection hj with hj; subst hj; exact Nat.le_refl _))
            clear hm3 hg3
            go_wp2_with fail
            go_roundw
            case rel => exact ⟨k + 1, by omega, by go_num, by rw [HKT.out]; exact HM3.out, HG2, HB3.out⟩
            case measure => simp [intOf]; omega
        · have HR := Eqq.mk (show ((Ro.check (rulesL xs) : Nat) : Int) = 50 by rw [HCK.out, HGB.out (.inr HBB.out), if_neg (by simp)]; rfl)
          go_wp2_with fail
          go_ret
          exact ⟨by rw [HR.out]; rfl, HB1.out⟩
      · obtain rfl : k = n := by omega
        have HR := Eqq.mk (show ((Ro.check (rulesL xs) : Nat) : Int) = 0 by
          have := HG.out
          rw [← HN.out, List.take_length] at this
          rw [HCK.out, if_pos this]; rfl)
        go_wp2_with fail
        go_ret
        exact ⟨by rw [HR.out]; rfl, HB.out⟩
theorem short_good {xs : List RuleB} (hc : Ro.check (rulesL xs) = 0) : xs.length ≤ 500 ∧ _root_.Go.Proofs.YtgdcffahhpeibaaGreatDoor.Short3 xs := by
  obtain ⟨h5, hgd⟩ := (Ro.check_zero _).1 hc
  have hal := ((Ro.good_iff _).1 hgd).1
  refine ⟨by unfold rulesL at h5; rwa [List.length_map] at h5, fun r hr => ?_⟩
  have h1 := Ro.ruleLine_len (hal (ruleL r) (List.mem_map.2 ⟨r, hr, rfl⟩))
  obtain ⟨r1, r2, r3⟩ := r
  unfold Ro.ruleLine ruleL at h1
  dsimp only at h1 ⊢
  simp only [List.length_append, List.length_cons, List.length_nil] at h1
  have hq1 := (Is.of r1).size
  have hq2 := (Is.of r2).size
  have hq3 := (Is.of r3).size
  refine ⟨by omega, by omega, ?_⟩
  by_cases h : r3.data.toList = []
  · rw [hq3, h]; simp
  · rw [if_neg h] at h1
    simp only [List.length_append, List.length_cons, List.length_nil] at h1
    omega
set_option maxRecDepth 100000 in
set_option maxHeartbeats 4000000 in
theorem new_any (v : Value) (xs : List RuleB) (w : World) (h : LieR v xs w) (hn : xs.length ≤ 9223372036854775807) (hz : Free.Short3 xs) (ht : Tabs w) :
    Calls Tryz.prog 13 #[v] w fun e w' => NewV xs e w' ∧ Below w.heap.size w w' := by
  by_cases hc : Ro.check (rulesL xs) = 0
  · obtain ⟨h5, hs⟩ := short_good hc
    exact _root_.Go.Proofs.YtgdcffahhpeibaaGreatDoor.new_any v xs w h (by omega) hs ht
  · have HL := Lib.hid h
    have HT := Lib.hid ht
    have HZ := Lib.hid hz
    have HN := Lib.hid hn
    clear h ht hz hn
    obtain ⟨n, hn2⟩ : ∃ n, Ro.check (rulesL xs) = n := ⟨_, rfl⟩
    have HC := Eqq.mk hn2
    rw [hn2] at hc
    have hd : ¬ ((n : Int) = 0) := by omega
    have hd2 : ((n : Int) == 0) = false := by rw [beq_eq_false_iff_ne]; exact hd
    clear hn2
    go_enter Tryz.func13, Tryz.ntmps13
    go_wp2_with fail
    with_reducible refine (Free.check_any v xs _ HL.out HN.out HZ.out HT.out).mono ?_
    rw [HC.out]
    rintro e w1 ⟨rfl, hb⟩
    have HB1 := Lib.hid hb
    clear hb
    go_wp2_with fail
    go_ret2
    exact ⟨.inl ⟨by rw [HC.out]; exact hc, by rw [HC.out]; first | rfl | trivial⟩, HB1.out⟩
theorem cellsRule : Tryz.prog.cellsOf 87 = 3 := by kernel_rfl
theorem cellsStr : Tryz.prog.cellsOf 9 = 1 := by kernel_rfl
theorem one_string {H : Type} {enc : TypeId × Value → H} {w : World} {base : Nat} {spare : Nat → Bool} {held : Bool} {n : Nat} {x : Value} {y : Option (DataW H × List MemPlace)} (hy : y.isSome = true) (h : DataW.trod enc Tryz.prog w base spare held n 9 [x] = y) : ∃ s, x = .string s ∧ s.size ≤ maxLen := by
  obtain ⟨z, rfl⟩ := Option.isSome_iff_exists.1 hy
  obtain ⟨s, h1, _, h2⟩ := DataW.trod_string Tryz.underlying9 h
  injection h1 with h1
  exact ⟨s, h1, h2⟩
set_option maxRecDepth 100000 in
theorem open_rule {H : Type} {enc : TypeId × Value → H} {w : World} {base fuel : Nat} {spare : Nat → Bool} {held : Bool} {cs : List Value} {x : DataW H × List MemPlace} (h : DataW.trod enc Tryz.prog w base spare held fuel 87 cs = some x) :
    ∃ r : RuleB, cs = ruleC r ∧ r.1.size ≤ maxLen ∧ r.2.1.size ≤ maxLen ∧ r.2.2.size ≤ maxLen := by
  obtain ⟨ys, n, _, _, hlen, hyl, hf⟩ := DataW.trod_struct Tryz.underlying87 h
  rw [cellsRule] at hlen
  have hyl3 : ys.length = 3 := hyl
  obtain ⟨a, b, c, rfl⟩ : ∃ a b c, cs = [a, b, c] := by
    match cs, hlen with
    | [a, b, c], _ => exact ⟨a, b, c, rfl⟩
  clear hlen
  have h0 := hf 0 _ rfl
  have h1 := hf 1 _ rfl
  have h2 := hf 2 _ rfl
  have hs : ∀ j, j < 3 → (ys[j]?).isSome = true := fun j hj => by rw [List.getElem?_eq_getElem (by omega)]; rfl
  change DataW.trod _ _ _ _ _ _ n 9 ((([a, b, c] : List Value).drop 0).take (Tryz.prog.cellsOf 9)) = ys[0]? at h0
  change DataW.trod _ _ _ _ _ _ n 9 ((([a, b, c] : List Value).drop 1).take (Tryz.prog.cellsOf 9)) = ys[1]? at h1
  change DataW.trod _ _ _ _ _ _ n 9 ((([a, b, c] : List Value).drop 2).take (Tryz.prog.cellsOf 9)) = ys[2]? at h2
  rw [cellsStr] at h0 h1 h2
  obtain ⟨s0, rfl, m0⟩ := one_string (hs 0 (by omega)) h0
  obtain ⟨s1, rfl, m1⟩ := one_string (hs 1 (by omega)) h1
  obtain ⟨s2, rfl, m2⟩ := one_string (hs 2 (by omega)) h2
  exact ⟨(s0, s1, s2), rfl, m0, m1, m2⟩
theorem listed {α : Type} (P : Nat → α → Prop) : ∀ n, (∀ i, i < n → ∃ r, P i r) → ∃ xs : List α, xs.length = n ∧ ∀ (k : Nat) r, xs[k]? = some r → P k r
  | 0, _ => ⟨[], rfl, fun k r h => by simp at h⟩
  | n + 1, h => by
    obtain ⟨xs, h1, h2⟩ := listed P n (fun i hi => h i (by omega))
    obtain ⟨r, hr⟩ := h n (by omega)
    refine ⟨xs ++ [r], by simp [h1], fun k x hx => ?_⟩
    rw [List.getElem?_append] at hx
    split at hx
    · exact h2 k x hx
    · rename_i hk
      have : k - xs.length = 0 := by
        rcases Nat.eq_zero_or_pos (k - xs.length) with h' | h'
        · exact h'
        · rw [List.getElem?_eq_none (by simp; omega)] at hx; cases hx
      rw [this] at hx
      injection hx with hx
      obtain rfl : k = n := by omega
      rw [← hx]; exact hr
set_option maxRecDepth 100000 in
theorem open_rules {H : Type} {enc : TypeId × Value → H} {W : World} {base : Nat} {v : Value} {d : DataW H} {p : List MemPlace} (hval : Value.okWide Tryz.prog W .any base 27 v) (h : DataW.Trod enc Tryz.prog W 0 (fun _ => true) true 27 v d p) :
    ∃ xs, LieR v xs W ∧ xs.length ≤ 9223372036854775807 ∧ ∀ r ∈ xs, r.1.size ≤ 9223372036854775807 ∧ r.2.1.size ≤ 9223372036854775807 ∧ r.2.2.size ≤ 9223372036854775807 := by
  obtain ⟨a1, len, cap, rfl⟩ := okWide_slice Tryz.underlying27 hval
  obtain ⟨fuel, hf⟩ := h
  rcases open_slice Tryz.underlying27 hf with ⟨hcs, _⟩ | ⟨a, len', cap', m, n, D, Pl, hcs, _, hl, hm, hmm, _, hi⟩
  · simp [Value.cells] at hcs
    obtain ⟨rfl, rfl, rfl⟩ := hcs
    exact ⟨[], LieR.nil W, by simp, fun r hr => by simp at hr⟩
  · simp [Value.cells] at hcs
    obtain ⟨rfl, rfl, rfl⟩ := hcs
    rw [if_pos rfl] at hmm
    obtain ⟨xs, hx1, hx2⟩ := listed (fun i (r : RuleB) => (∃ g o, a = ⟨g, o, none⟩ ∧ W.cell? ⟨g, o + i * 3, none⟩ = some (.string r.1) ∧ W.cell? ⟨g, o + i * 3 + 1, none⟩ = some (.string r.2.1) ∧ W.cell? ⟨g, o + i * 3 + 2, none⟩ = some (.string r.2.2)) ∧ r.1.size ≤ maxLen ∧ r.2.1.size ≤ maxLen ∧ r.2.2.size ≤ maxLen) len (fun i him => by
      obtain ⟨cs', hc, ht'⟩ := hi i (by omega)
      rw [cellsRule] at hc
      obtain ⟨r, rfl, z1, z2, z3⟩ := open_rule ht'
      obtain ⟨_, _, hat⟩ := World.cells?_some hc
      refine ⟨r, ?_, z1, z2, z3⟩
      have q0 := hat 0 (by omega)
      have q1 := hat 1 (by omega)
      have q2 := hat 2 (by omega)
      rw [Go.Deep.add_add] at q0 q1 q2
      obtain ⟨g, o, sp⟩ := a
      have hsp : sp = none := by
        obtain ⟨cs0, hc0, ht0⟩ := hi 0 (by omega)
        rw [cellsRule] at hc0
        obtain ⟨r0, rfl, _⟩ := open_rule ht0
        obtain ⟨_, _, hat0⟩ := World.cells?_some hc0
        have p0 := hat0 0 (by omega)
        have he : ((⟨g, o, sp⟩ : Addr).add (0 * 3)).add 0 = ⟨g, o, sp⟩ := rfl
        rw [he] at p0
        exact Go.Proofs.cell_spot (b := g) (o := o) p0
      subst hsp
      have ha : ∀ j, (⟨g, o, none⟩ : Addr).add j = ⟨g, o + j, none⟩ := by
        intro j
        unfold Addr.add
        split
        · rename_i e; rw [e]; rfl
        · rfl
      rw [ha] at q0 q1 q2
      exact ⟨g, o, rfl, q0, by rw [← Nat.add_assoc] at q1; exact q1, by rw [← Nat.add_assoc] at q2; exact q2⟩)
    refine ⟨xs, ⟨some a, cap, by rw [hx1], by omega, fun k r hk => ?_⟩, by unfold maxLen at hm; omega, fun r hr => ?_⟩
    · obtain ⟨⟨g, o, rfl, e1, e2, e3⟩, _⟩ := hx2 k r hk
      exact ⟨g, o, rfl, e1, e2, e3⟩
    · obtain ⟨k, hk⟩ := List.getElem?_of_mem hr
      exact (hx2 k r hk).2
end Free
end Go.Proofs.YtgdcffahhpeibaaGreatDoor
