/-
  whether rules are allowed does not depend on their order; a part of an allowed list is allowed
-/
import Derived.Test.YtbdekjfimojkbaaDoorRoTurn
import Derived.Carry
import Derived.Laws.AppendOwnNone
namespace Go.Proofs.YtbdekjfimojkbaaDoor.romanOrders
open Go.ChangeShapes Go.WideShapes Go.ChangeAt Go.RowKit
open Go.ChangeMaps (open_string)
set_option linter.unusedVariables false

theorem check_part {xs ys : List RuleB} (h : Ro.check (rulesL xs) = 0) (hs : ys.Sublist xs) : Ro.check (rulesL ys) = 0 := Ro.check_sub (hs.map ruleL) h
set_option maxRecDepth 100000 in
set_option maxHeartbeats 8000000 in
theorem walk (w : World) (v : Value) (xs : List RuleB) (hl : LieR v xs w) (hn : xs.length ≤ 9223372036854775807) (hz : ∀ r ∈ xs, r.1.size ≤ 9223372036854775807 ∧ r.2.1.size ≤ 9223372036854775807 ∧ r.2.2.size ≤ 9223372036854775807) (hv : v = .slice none 0 0 ∨ ∃ a n c, v = .slice (some a) n c) (a : Int) (ha : (Lit.int .u8 a).wf = true) (ht : Tabs w) :
    Calls Tryd.prog 7 #[v, .int .u8 a] w fun e w' => e = .returned (.bool true) ∧ Below w.heap.size w w' := by
  have hab : 0 ≤ a ∧ a ≤ 255 := by simpa [Lit.wf, IntKind.min, IntKind.max, IntKind.signed, IntKind.bits] using ha
  obtain ⟨ha0, ha1⟩ := hab
  have HT := Lib.hid ht
  have HLV := Lib.hid hl
  have HZ := Lib.hid hz
  have HV := Lib.hid hv
  clear ht hl hz hv ha
  obtain ⟨ao, cap, hvv, hcap, _⟩ := HLV.out
  obtain ⟨n, hnn⟩ : ∃ n, xs.length = n := ⟨_, rfl⟩
  have HN := Eqq.mk hnn
  subst hvv
  rw [hnn] at hn hcap HLV HV ⊢
  clear hnn
  go_enter Tryd.func7, Tryd.ntmps7
  go_wp2_with fail
  with_reducible refine (few_all _ xs _ HLV.out (by rw [HN.out]; exact hn) HZ.out).mono ?_
  rintro e w0 ⟨⟨b, rfl, hb⟩, rfl⟩
  cases b
  · clear hb
    go_wp2_with fail
    go_ret
    exact ⟨rfl, Below.refl _ _⟩
  obtain ⟨h200, hf3⟩ := hb rfl
  have hxl : xs.length ≤ 200 := h200
  rw [HN.out] at h200
  have HSH := Lib.hid hf3
  clear hb hf3
  obtain ⟨k, hk1, hk2⟩ : ∃ k : Nat, a.tmod ((n : Int) + 1) = (k : Int) ∧ k ≤ n := by
    refine ⟨(a.tmod ((n : Int) + 1)).toNat, ?_, ?_⟩
    · rw [Int.toNat_of_nonneg (Int.tmod_nonneg _ ha0)]
    · have := Int.tmod_lt_of_pos a (show (0 : Int) < (n : Int) + 1 by omega)
      have := Int.tmod_nonneg ((n : Int) + 1) ha0
      omega
  have hn1 : ¬ ((n : Int) + 1 = 0) := by omega
  have k0 : (0 : Int) ≤ (k : Int) := by omega
  have k1 : (k : Int) ≤ (n : Int) := by omega
  have k2 : (k : Int) ≤ (cap : Int) := by omega
  have k3 : (n : Int) ≤ (cap : Int) := by omega
  have HBA := Lib.hid ((Below.refl w.heap.size w).drew.alloc (Nat.le_refl _) (.cells #[] 51))
  have HBB := Lib.hid (((Below.refl w.heap.size w).alloc (Nat.le_refl _) (.cells #[] 51)).drew)
  obtain ⟨C, hCe⟩ : ∃ C, Ro.check (rulesL xs) = C := ⟨_, rfl⟩
  have HCC := Eqq.mk hCe
  have HCT := Eqq.mk (show Ro.check (rulesL (xs.drop k ++ xs.take k)) = C by
    rw [← hCe, ← Ro.check_rot (rulesL xs) k]
    unfold rulesL
    rw [List.map_append, List.map_drop, List.map_take])
  have HC3 := Lib.hid (show C = 0 ∨ C = 50 by
    rw [← hCe]
    unfold Ro.check
    rw [if_neg (by unfold rulesL; rw [List.length_map]; omega)]
    split
    · exact .inl rfl
    · exact .inr rfl)
  have HTL := Eqq.mk (show (xs.drop k ++ xs.take k).length = n by rw [List.length_append, List.length_drop, List.length_take, HN.out]; omega)
  have HSH1 := Lib.hid (show Short3 (xs.take k) from fun r hr => HSH.out.short r (List.mem_of_mem_take hr))
  have HSH2 := Lib.hid (show Short3 (xs.drop k) from fun r hr => HSH.out.short r (List.mem_of_mem_drop hr))
  have HSHT := Lib.hid (show Short3 (xs.drop k ++ xs.take k) from fun r hr => by
    rcases List.mem_append.1 hr with h | h
    · exact HSH2.out r h
    · exact HSH1.out r h)
  clear hCe
  by_cases hpos : 0 < n
  · obtain ⟨g, o, rfl⟩ : ∃ g o, ao = some ⟨g, o, none⟩ := by
      obtain ⟨ao', cap', hv', _, hx⟩ := HLV.out
      obtain ⟨g, o, he, _⟩ := hx 0 (xs[0]'(by rw [HN.out]; exact hpos)) (List.getElem?_eq_getElem _)
      injection hv' with hv'
      exact ⟨g, o, hv'.trans he⟩
    have HSD := Lib.hid (fun (W : World) (hW : Below w.heap.size w W) => (src_drop (k := k) (c := cap - k) HLV.out HN.out).below hW (Nat.le_refl _))
    have HST := Lib.hid (fun (W : World) (hW : Below w.heap.size w W) => (src_take (k := k) HLV.out HN.out hk2).below hW (Nat.le_refl _))
    have HLT := Lib.hid (fun (W : World) (hW : Below w.heap.size w W) => (lie_take (k := k) HLV.out HN.out hk2).below hW (Nat.le_refl _))
    by_cases hck : cap = k
    · have hnk : n = k := by omega
      subst hck
      subst hnk
      have HSD := Lib.hid (fun (W : World) (_ : Below w.heap.size w W) => (show SrcR (.slice (some ⟨g, o, none⟩) 0 0) (xs.drop n) W from .inr ⟨_, _, by rw [List.length_drop, HN.out, Nat.sub_self], fun j u hu => by rw [List.drop_eq_nil_of_le (by rw [HN.out]; exact Nat.le_refl _)] at hu; simp [cellsR] at hu⟩))
      have HLD := Lib.hid (fun (W : World) (_ : Below w.heap.size w W) => (show LieR (.slice (some ⟨g, o, none⟩) 0 0) (xs.drop n) W by
        rw [List.drop_eq_nil_of_le (by rw [HN.out]; exact Nat.le_refl _)]
        exact ⟨_, _, rfl, Nat.le_refl _, fun k r h => by simp at h⟩))
      clear hk2
      go_wp2_with fail
      go_region_held3 (fun W => Below w.heap.size w W)
        (first | exact Below.refl _ _ | exact (Below.refl _ _).drew | exact HBA.out | exact HBB.out | exact HB2.out | exact HB3.out | go_keep)
        (first
         | (refine step_append_rules Tryd.underlying26 infotaken_any _ rfl _ _ (by rfl) w.heap.size _ [] (by rfl) (OwnR.empty 51 w.heap.size w.drew (Nat.le_refl _)) _ (xs.drop n) (by rfl) (HSD.out _ HBA.out) (by rw [List.length_nil, List.length_drop]; omega) (by simp) ?_
            intro v3 w3 ho3 hk3 hs3
            have HB2 := Lib.hid (hk3 _ HBA.out)
            have HO2 := Lib.hid ho3
            clear ho3 hk3)
         | (refine step_append_rules Tryd.underlying26 infotaken_any _ rfl _ _ (by rfl) w.heap.size _ _ (by rfl) HO2.out _ (xs.take n) (by rfl) (HST.out _ HB2.out) (by simp; omega) (by have := HB2.out.size; omega) ?_
            intro v4 w4 ho4 hk4 hs4
            have HB3 := Lib.hid (hk4 _ HB2.out)
            have HO3 := Lib.hid ho4
            clear ho4 hk4))
      have HBW := Lib.hid HB3.out
      have HOW := Lib.hid HO3.out
      rw [List.nil_append] at HOW
      go_wp2_with fail
      with_reducible refine (given_any _ xs _ (HLV.out.keep HBW.out) (by omega)).mono ?_
      rintro e w5 ⟨v5, rfl, ho, hb⟩
      have HB5 := Lib.hid (HBW.out.trans (hb.mono HBW.out.size))
      have HL5 := Lib.hid ho.lie
      have HT5 := Lib.hid (HOW.out.lie.keep hb)
      clear ho hb
      go_wp2_with fail
      with_reducible refine (check_any v5 xs _ HL5.out (by omega) HSH.out.short (HT.out.keep HB5.out)).mono ?_
      rw [HCC.out]
      rintro e w6 ⟨rfl, hb⟩
      have HB6 := Lib.hid (HB5.out.trans (hb.mono HB5.out.size))
      have HT6 := Lib.hid (HT5.out.keep hb)
      clear hb
      go_wp2_with fail
      with_reducible refine (given_any v4 (xs.drop n ++ xs.take n) _ HT6.out (by rw [HTL.out]; omega)).mono ?_
      rintro e w7 ⟨v7, rfl, ho, hb⟩
      have HB7 := Lib.hid (HB6.out.trans (hb.mono HB6.out.size))
      have HL7 := Lib.hid ho.lie
      clear ho hb
      go_wp2_with fail
      with_reducible refine (check_any v7 (xs.drop n ++ xs.take n) _ HL7.out (by rw [HTL.out]; omega) HSHT.out (HT.out.keep HB7.out)).mono ?_
      rw [HCT.out]
      rintro e w8 ⟨rfl, hb⟩
      have HB8 := Lib.hid (HB7.out.trans (hb.mono HB7.out.size))
      clear hb
      rcases HC3.out with hC | hC
      · have HC0 := Eqq.mk hC
        subst hC
        have HC1 := Eqq.mk (check_part (xs := xs) (ys := xs.take n) HCC.out (List.take_sublist _ _))
        have HC2 := Eqq.mk (check_part (xs := xs) (ys := xs.drop n) HCC.out (List.drop_sublist _ _))
        go_wp2_with fail
        with_reducible refine (given_any _ (xs.take n) _ (HLT.out _ HB8.out) (by rw [List.length_take]; omega)).mono ?_
        rintro e w9 ⟨v9, rfl, ho, hb⟩
        have HB9 := Lib.hid (HB8.out.trans (hb.mono HB8.out.size))
        have HL9 := Lib.hid ho.lie
        clear ho hb
        go_wp2_with fail
        with_reducible refine (check_any v9 (xs.take n) _ HL9.out (by rw [List.length_take]; omega) HSH1.out (HT.out.keep HB9.out)).mono ?_
        rw [HC1.out]
        rintro e w10 ⟨rfl, hb⟩
        have HB10 := Lib.hid (HB9.out.trans (hb.mono HB9.out.size))
        clear hb
        go_wp2_with fail
        with_reducible refine (given_any _ (xs.drop n) _ (HLD.out _ HB10.out) (by rw [List.length_drop]; omega)).mono ?_
        rintro e w11 ⟨v11, rfl, ho, hb⟩
        have HB11 := Lib.hid (HB10.out.trans (hb.mono HB10.out.size))
        have HL11 := Lib.hid ho.lie
        clear ho hb
        go_wp2_with fail
        with_reducible refine (check_any v11 (xs.drop n) _ HL11.out (by rw [List.length_drop]; omega) HSH2.out (HT.out.keep HB11.out)).mono ?_
        rw [HC2.out]
        rintro e w12 ⟨rfl, hb⟩
        have HB12 := Lib.hid (HB11.out.trans (hb.mono HB11.out.size))
        clear hb
        go_wp2_with fail
        with_reducible refine (works_any _ (HT.out.keep HB12.out)).mono ?_
        rintro e w13 ⟨rfl, hb⟩
        have HB13 := Lib.hid (HB12.out.trans (hb.mono HB12.out.size))
        clear hb
        go_wp2_with fail
        go_ret
        exact ⟨rfl, HB13.out⟩
      · subst hC
        go_wp2_with fail
        with_reducible refine (works_any _ (HT.out.keep HB8.out)).mono ?_
        rintro e w13 ⟨rfl, hb⟩
        have HB13 := Lib.hid (HB8.out.trans (hb.mono HB8.out.size))
        clear hb
        go_wp2_with fail
        go_ret
        exact ⟨rfl, HB13.out⟩
    · have HLD := Lib.hid (fun (W : World) (hW : Below w.heap.size w W) => (lie_drop (k := k) HLV.out HN.out hk2).below hW (Nat.le_refl _))
      go_wp2_with fail
      go_region_held3 (fun W => Below w.heap.size w W)
        (first | exact Below.refl _ _ | exact (Below.refl _ _).drew | exact HBA.out | exact HBB.out | exact HB2.out | exact HB3.out | go_keep)
        (first
         | (refine step_append_rules Tryd.underlying26 infotaken_any _ rfl _ _ (by rfl) w.heap.size _ [] (by rfl) (OwnR.empty 51 w.heap.size w.drew (Nat.le_refl _)) _ (xs.drop k) (by rfl) (HSD.out _ HBA.out) (by rw [List.length_nil, List.length_drop]; omega) (by simp) ?_
            intro v3 w3 ho3 hk3 hs3
            have HB2 := Lib.hid (hk3 _ HBA.out)
            have HO2 := Lib.hid ho3
            clear ho3 hk3)
         | (refine step_append_rules Tryd.underlying26 infotaken_any _ rfl _ _ (by rfl) w.heap.size _ _ (by rfl) HO2.out _ (xs.take k) (by rfl) (HST.out _ HB2.out) (by simp; omega) (by have := HB2.out.size; omega) ?_
            intro v4 w4 ho4 hk4 hs4
            have HB3 := Lib.hid (hk4 _ HB2.out)
            have HO3 := Lib.hid ho4
            clear ho4 hk4))
      have HBW := Lib.hid HB3.out
      have HOW := Lib.hid HO3.out
      rw [List.nil_append] at HOW
      go_wp2_with fail
      with_reducible refine (given_any _ xs _ (HLV.out.keep HBW.out) (by omega)).mono ?_
      rintro e w5 ⟨v5, rfl, ho, hb⟩
      have HB5 := Lib.hid (HBW.out.trans (hb.mono HBW.out.size))
      have HL5 := Lib.hid ho.lie
      have HT5 := Lib.hid (HOW.out.lie.keep hb)
      clear ho hb
      go_wp2_with fail
      with_reducible refine (check_any v5 xs _ HL5.out (by omega) HSH.out.short (HT.out.keep HB5.out)).mono ?_
      rw [HCC.out]
      rintro e w6 ⟨rfl, hb⟩
      have HB6 := Lib.hid (HB5.out.trans (hb.mono HB5.out.size))
      have HT6 := Lib.hid (HT5.out.keep hb)
      clear hb
      go_wp2_with fail
      with_reducible refine (given_any v4 (xs.drop k ++ xs.take k) _ HT6.out (by rw [HTL.out]; omega)).mono ?_
      rintro e w7 ⟨v7, rfl, ho, hb⟩
      have HB7 := Lib.hid (HB6.out.trans (hb.mono HB6.out.size))
      have HL7 := Lib.hid ho.lie
      clear ho hb
      go_wp2_with fail
      with_reducible refine (check_any v7 (xs.drop k ++ xs.take k) _ HL7.out (by rw [HTL.out]; omega) HSHT.out (HT.out.keep HB7.out)).mono ?_
      rw [HCT.out]
      rintro e w8 ⟨rfl, hb⟩
      have HB8 := Lib.hid (HB7.out.trans (hb.mono HB7.out.size))
      clear hb
      rcases HC3.out with hC | hC
      · have HC0 := Eqq.mk hC
        subst hC
        have HC1 := Eqq.mk (check_part (xs := xs) (ys := xs.take k) HCC.out (List.take_sublist _ _))
        have HC2 := Eqq.mk (check_part (xs := xs) (ys := xs.drop k) HCC.out (List.drop_sublist _ _))
        go_wp2_with fail
        with_reducible refine (given_any _ (xs.take k) _ (HLT.out _ HB8.out) (by rw [List.length_take]; omega)).mono ?_
        rintro e w9 ⟨v9, rfl, ho, hb⟩
        have HB9 := Lib.hid (HB8.out.trans (hb.mono HB8.out.size))
        have HL9 := Lib.hid ho.lie
        clear ho hb
        go_wp2_with fail
        with_reducible refine (check_any v9 (xs.take k) _ HL9.out (by rw [List.length_take]; omega) HSH1.out (HT.out.keep HB9.out)).mono ?_
        rw [HC1.out]
        rintro e w10 ⟨rfl, hb⟩
        have HB10 := Lib.hid (HB9.out.trans (hb.mono HB9.out.size))
        clear hb
        go_wp2_with fail
        with_reducible refine (given_any _ (xs.drop k) _ (HLD.out _ HB10.out) (by rw [List.length_drop]; omega)).mono ?_
        rintro e w11 ⟨v11, rfl, ho, hb⟩
        have HB11 := Lib.hid (HB10.out.trans (hb.mono HB10.out.size))
        have HL11 := Lib.hid ho.lie
        clear ho hb
        go_wp2_with fail
        with_reducible refine (check_any v11 (xs.drop k) _ HL11.out (by rw [List.length_drop]; omega) HSH2.out (HT.out.keep HB11.out)).mono ?_
        rw [HC2.out]
        rintro e w12 ⟨rfl, hb⟩
        have HB12 := Lib.hid (HB11.out.trans (hb.mono HB11.out.size))
        clear hb
        go_wp2_with fail
        with_reducible refine (works_any _ (HT.out.keep HB12.out)).mono ?_
        rintro e w13 ⟨rfl, hb⟩
        have HB13 := Lib.hid (HB12.out.trans (hb.mono HB12.out.size))
        clear hb
        go_wp2_with fail
        go_ret
        exact ⟨rfl, HB13.out⟩
      · subst hC
        go_wp2_with fail
        with_reducible refine (works_any _ (HT.out.keep HB8.out)).mono ?_
        rintro e w13 ⟨rfl, hb⟩
        have HB13 := Lib.hid (HB8.out.trans (hb.mono HB8.out.size))
        clear hb
        go_wp2_with fail
        go_ret
        exact ⟨rfl, HB13.out⟩
  · obtain rfl : n = 0 := by omega
    obtain rfl : k = 0 := by omega
    have hx0 : xs = [] := List.eq_nil_of_length_eq_zero HN.out
    have hd0 : xs.drop 0 = [] := by rw [hx0]; rfl
    have ht0 : xs.take 0 = [] := rfl
    have HD0 := Eqq.mk hd0
    have HT0 := Eqq.mk ht0
    clear hx0 hd0 ht0 hpos
    rcases HV.out with hv | ⟨a', n', c', hv⟩
    · injection hv with hv1 hv2 hv3
      subst hv1
      subst hv3
      have HSD := Lib.hid (fun (W : World) (_ : Below w.heap.size w W) => (show SrcR (.slice none 0 0) (xs.drop 0) W from .inl ⟨rfl, HD0.out⟩))
      have HST := Lib.hid (fun (W : World) (_ : Below w.heap.size w W) => (show SrcR (.slice none 0 0) (xs.take 0) W from .inl ⟨rfl, HT0.out⟩))
      have HLD := Lib.hid (fun (W : World) (_ : Below w.heap.size w W) => (show LieR (.slice none 0 0) (xs.drop 0) W by rw [HD0.out]; exact LieR.nil W))
      have HLT := Lib.hid (fun (W : World) (_ : Below w.heap.size w W) => (show LieR (.slice none 0 0) (xs.take 0) W by rw [HT0.out]; exact LieR.nil W))
      go_wp2_with fail
      go_region_held3 (fun W => Below w.heap.size w W)
        (first | exact Below.refl _ _ | exact (Below.refl _ _).drew | exact HBA.out | exact HBB.out | exact HB2.out | exact HB3.out | go_keep)
        (first
         | (refine step_append_rules Tryd.underlying26 infotaken_any _ rfl _ _ (by rfl) w.heap.size _ [] (by rfl) (OwnR.empty 51 w.heap.size w.drew (Nat.le_refl _)) _ (xs.drop 0) (by rfl) (HSD.out _ HBA.out) (by rw [List.length_nil, List.length_drop]; omega) (by simp) ?_
            intro v3 w3 ho3 hk3 hs3
            have HB2 := Lib.hid (hk3 _ HBA.out)
            have HO2 := Lib.hid ho3
            clear ho3 hk3)
         | (refine step_append_rules Tryd.underlying26 infotaken_any _ rfl _ _ (by rfl) w.heap.size _ _ (by rfl) HO2.out _ (xs.take 0) (by rfl) (HST.out _ HB2.out) (by simp; omega) (by have := HB2.out.size; omega) ?_
            intro v4 w4 ho4 hk4 hs4
            have HB3 := Lib.hid (hk4 _ HB2.out)
            have HO3 := Lib.hid ho4
            clear ho4 hk4))
      have HBW := Lib.hid HB3.out
      have HOW := Lib.hid HO3.out
      rw [List.nil_append] at HOW
      go_wp2_with fail
      with_reducible refine (given_any _ xs _ (HLV.out.keep HBW.out) (by omega)).mono ?_
      rintro e w5 ⟨v5, rfl, ho, hb⟩
      have HB5 := Lib.hid (HBW.out.trans (hb.mono HBW.out.size))
      have HL5 := Lib.hid ho.lie
      have HT5 := Lib.hid (HOW.out.lie.keep hb)
      clear ho hb
      go_wp2_with fail
      with_reducible refine (check_any v5 xs _ HL5.out (by omega) HSH.out.short (HT.out.keep HB5.out)).mono ?_
      rw [HCC.out]
      rintro e w6 ⟨rfl, hb⟩
      have HB6 := Lib.hid (HB5.out.trans (hb.mono HB5.out.size))
      have HT6 := Lib.hid (HT5.out.keep hb)
      clear hb
      go_wp2_with fail
      with_reducible refine (given_any v4 (xs.drop 0 ++ xs.take 0) _ HT6.out (by rw [HTL.out]; omega)).mono ?_
      rintro e w7 ⟨v7, rfl, ho, hb⟩
      have HB7 := Lib.hid (HB6.out.trans (hb.mono HB6.out.size))
      have HL7 := Lib.hid ho.lie
      clear ho hb
      go_wp2_with fail
      with_reducible refine (check_any v7 (xs.drop 0 ++ xs.take 0) _ HL7.out (by rw [HTL.out]; omega) HSHT.out (HT.out.keep HB7.out)).mono ?_
      rw [HCT.out]
      rintro e w8 ⟨rfl, hb⟩
      have HB8 := Lib.hid (HB7.out.trans (hb.mono HB7.out.size))
      clear hb
      rcases HC3.out with hC | hC
      · have HC0 := Eqq.mk hC
        subst hC
        have HC1 := Eqq.mk (check_part (xs := xs) (ys := xs.take 0) HCC.out (List.take_sublist _ _))
        have HC2 := Eqq.mk (check_part (xs := xs) (ys := xs.drop 0) HCC.out (List.drop_sublist _ _))
        go_wp2_with fail
        with_reducible refine (given_any _ (xs.take 0) _ (HLT.out _ HB8.out) (by rw [List.length_take]; omega)).mono ?_
        rintro e w9 ⟨v9, rfl, ho, hb⟩
        have HB9 := Lib.hid (HB8.out.trans (hb.mono HB8.out.size))
        have HL9 := Lib.hid ho.lie
        clear ho hb
        go_wp2_with fail
        with_reducible refine (check_any v9 (xs.take 0) _ HL9.out (by rw [List.length_take]; omega) HSH1.out (HT.out.keep HB9.out)).mono ?_
        rw [HC1.out]
        rintro e w10 ⟨rfl, hb⟩
        have HB10 := Lib.hid (HB9.out.trans (hb.mono HB9.out.size))
        clear hb
        go_wp2_with fail
        with_reducible refine (given_any _ (xs.drop 0) _ (HLD.out _ HB10.out) (by rw [List.length_drop]; omega)).mono ?_
        rintro e w11 ⟨v11, rfl, ho, hb⟩
        have HB11 := Lib.hid (HB10.out.trans (hb.mono HB10.out.size))
        have HL11 := Lib.hid ho.lie
        clear ho hb
        go_wp2_with fail
        with_reducible refine (check_any v11 (xs.drop 0) _ HL11.out (by rw [List.length_drop]; omega) HSH2.out (HT.out.keep HB11.out)).mono ?_
        rw [HC2.out]
        rintro e w12 ⟨rfl, hb⟩
        have HB12 := Lib.hid (HB11.out.trans (hb.mono HB11.out.size))
        clear hb
        go_wp2_with fail
        with_reducible refine (works_any _ (HT.out.keep HB12.out)).mono ?_
        rintro e w13 ⟨rfl, hb⟩
        have HB13 := Lib.hid (HB12.out.trans (hb.mono HB12.out.size))
        clear hb
        go_wp2_with fail
        go_ret
        exact ⟨rfl, HB13.out⟩
      · subst hC
        go_wp2_with fail
        with_reducible refine (works_any _ (HT.out.keep HB8.out)).mono ?_
        rintro e w13 ⟨rfl, hb⟩
        have HB13 := Lib.hid (HB8.out.trans (hb.mono HB8.out.size))
        clear hb
        go_wp2_with fail
        go_ret
        exact ⟨rfl, HB13.out⟩
    · injection hv with hv1 hv2 hv3
      subst hv1
      clear hv2 hv3
      obtain ⟨g, o, sp⟩ := a'
      have HE := Lib.hid (fun (W : World) (c : Nat) => (show SrcR (.slice (some ⟨g, o, sp⟩) 0 c) [] W from .inr ⟨_, _, rfl, fun j u hu => by simp [cellsR] at hu⟩))
      have HL := Lib.hid (fun (W : World) (c : Nat) => (show LieR (.slice (some ⟨g, o, sp⟩) 0 c) [] W from ⟨_, _, rfl, Nat.zero_le _, fun k r h => by simp at h⟩))
      have HSD := Lib.hid (fun (W : World) (_ : Below w.heap.size w W) => (show SrcR (.slice (some ⟨g, o, sp⟩) 0 cap) (xs.drop 0) W by rw [HD0.out]; exact HE.out W cap))
      have HST := Lib.hid (fun (W : World) (_ : Below w.heap.size w W) => (show SrcR (.slice (some ⟨g, o, sp⟩) 0 cap) (xs.take 0) W by rw [HT0.out]; exact HE.out W cap))
      have HLD := Lib.hid (fun (W : World) (_ : Below w.heap.size w W) => (show LieR (.slice (some ⟨g, o, sp⟩) 0 cap) (xs.drop 0) W by rw [HD0.out]; exact HL.out W cap))
      have HLT := Lib.hid (fun (W : World) (_ : Below w.heap.size w W) => (show LieR (.slice (some ⟨g, o, sp⟩) 0 cap) (xs.take 0) W by rw [HT0.out]; exact HL.out W cap))
      go_wp2_with fail
      go_region_held3 (fun W => Below w.heap.size w W)
        (first | exact Below.refl _ _ | exact (Below.refl _ _).drew | exact HBA.out | exact HBB.out | exact HB2.out | exact HB3.out | go_keep)
        (first
         | (refine step_append_rules Tryd.underlying26 infotaken_any _ rfl _ _ (by rfl) w.heap.size _ [] (by rfl) (OwnR.empty 51 w.heap.size w.drew (Nat.le_refl _)) _ (xs.drop 0) (by rfl) (HSD.out _ HBA.out) (by rw [List.length_nil, List.length_drop]; omega) (by simp) ?_
            intro v3 w3 ho3 hk3 hs3
            have HB2 := Lib.hid (hk3 _ HBA.out)
            have HO2 := Lib.hid ho3
            clear ho3 hk3)
         | (refine step_append_rules Tryd.underlying26 infotaken_any _ rfl _ _ (by rfl) w.heap.size _ _ (by rfl) HO2.out _ (xs.take 0) (by rfl) (HST.out _ HB2.out) (by simp; omega) (by have := HB2.out.size; omega) ?_
            intro v4 w4 ho4 hk4 hs4
            have HB3 := Lib.hid (hk4 _ HB2.out)
            have HO3 := Lib.hid ho4
            clear ho4 hk4))
      have HBW := Lib.hid HB3.out
      have HOW := Lib.hid HO3.out
      rw [List.nil_append] at HOW
      go_wp2_with fail
      with_reducible refine (given_any _ xs _ (HLV.out.keep HBW.out) (by omega)).mono ?_
      rintro e w5 ⟨v5, rfl, ho, hb⟩
      have HB5 := Lib.hid (HBW.out.trans (hb.mono HBW.out.size))
      have HL5 := Lib.hid ho.lie
      have HT5 := Lib.hid (HOW.out.lie.keep hb)
      clear ho hb
      go_wp2_with fail
      with_reducible refine (check_any v5 xs _ HL5.out (by omega) HSH.out.short (HT.out.keep HB5.out)).mono ?_
      rw [HCC.out]
      rintro e w6 ⟨rfl, hb⟩
      have HB6 := Lib.hid (HB5.out.trans (hb.mono HB5.out.size))
      have HT6 := Lib.hid (HT5.out.keep hb)
      clear hb
      go_wp2_with fail
      with_reducible refine (given_any v4 (xs.drop 0 ++ xs.take 0) _ HT6.out (by rw [HTL.out]; omega)).mono ?_
      rintro e w7 ⟨v7, rfl, ho, hb⟩
      have HB7 := Lib.hid (HB6.out.trans (hb.mono HB6.out.size))
      have HL7 := Lib.hid ho.lie
      clear ho hb
      go_wp2_with fail
      with_reducible refine (check_any v7 (xs.drop 0 ++ xs.take 0) _ HL7.out (by rw [HTL.out]; omega) HSHT.out (HT.out.keep HB7.out)).mono ?_
      rw [HCT.out]
      rintro e w8 ⟨rfl, hb⟩
      have HB8 := Lib.hid (HB7.out.trans (hb.mono HB7.out.size))
      clear hb
      rcases HC3.out with hC | hC
      · have HC0 := Eqq.mk hC
        subst hC
        have HC1 := Eqq.mk (check_part (xs := xs) (ys := xs.take 0) HCC.out (List.take_sublist _ _))
        have HC2 := Eqq.mk (check_part (xs := xs) (ys := xs.drop 0) HCC.out (List.drop_sublist _ _))
        go_wp2_with fail
        with_reducible refine (given_any _ (xs.take 0) _ (HLT.out _ HB8.out) (by rw [List.length_take]; omega)).mono ?_
        rintro e w9 ⟨v9, rfl, ho, hb⟩
        have HB9 := Lib.hid (HB8.out.trans (hb.mono HB8.out.size))
        have HL9 := Lib.hid ho.lie
        clear ho hb
        go_wp2_with fail
        with_reducible refine (check_any v9 (xs.take 0) _ HL9.out (by rw [List.length_take]; omega) HSH1.out (HT.out.keep HB9.out)).mono ?_
        rw [HC1.out]
        rintro e w10 ⟨rfl, hb⟩
        have HB10 := Lib.hid (HB9.out.trans (hb.mono HB9.out.size))
        clear hb
        go_wp2_with fail
        with_reducible refine (given_any _ (xs.drop 0) _ (HLD.out _ HB10.out) (by rw [List.length_drop]; omega)).mono ?_
        rintro e w11 ⟨v11, rfl, ho, hb⟩
        have HB11 := Lib.hid (HB10.out.trans (hb.mono HB10.out.size))
        have HL11 := Lib.hid ho.lie
        clear ho hb
        go_wp2_with fail
        with_reducible refine (check_any v11 (xs.drop 0) _ HL11.out (by rw [List.length_drop]; omega) HSH2.out (HT.out.keep HB11.out)).mono ?_
        rw [HC2.out]
        rintro e w12 ⟨rfl, hb⟩
        have HB12 := Lib.hid (HB11.out.trans (hb.mono HB11.out.size))
        clear hb
        go_wp2_with fail
        with_reducible refine (works_any _ (HT.out.keep HB12.out)).mono ?_
        rintro e w13 ⟨rfl, hb⟩
        have HB13 := Lib.hid (HB12.out.trans (hb.mono HB12.out.size))
        clear hb
        go_wp2_with fail
        go_ret
        exact ⟨rfl, HB13.out⟩
      · subst hC
        go_wp2_with fail
        with_reducible refine (works_any _ (HT.out.keep HB8.out)).mono ?_
        rintro e w13 ⟨rfl, hb⟩
        have HB13 := Lib.hid (HB8.out.trans (hb.mono HB8.out.size))
        clear hb
        go_wp2_with fail
        go_ret
        exact ⟨rfl, HB13.out⟩

theorem laidOut : laidOutB Tryd.prog = true := by kernel_rfl
set_option maxRecDepth 100000 in
theorem contract (H : Type) (enc : TypeId × Value → H) (W : World) (base : Nat) (args : Array Value) (ds gs : List (DataW H)) (before : List MemPlace)
    (hval : ∀ (j : Nat) t v, Tryd.f7.params[j]? = some t → args[j]? = some v → Value.okWide Tryd.prog W .any base t v)
    (hW : DataW.Whole enc Tryd.prog Tryd.f7.params.toList Rows.romanOrdersSpec.vars false W args.toList ds gs before) (hL : laidMetH Tryd.prog Rows.romanOrdersRow.laid W) (hS : W.ShapedOpen Tryd.prog)
    (hR : (DataW.weightsEach Tryd.prog (Tryd.f7.params.toList ++ (OpenSpec.ofChange Rows.romanOrdersSpec).bare.plain.varTypes Tryd.prog) (ds ++ gs)).all (· ≤ reachBytes) = true) :
    Calls Tryd.prog 7 args W fun e W' => ∃ v, e = .returned v ∧ Rows.romanOrdersSpec.post enc Tryd.prog Tryd.f7 false true false false W args v W' := by
  have hT : Tabs W := rtabs_of_laid hL hS
  have hW' := hW
  obtain ⟨p, q, hA0, hV, rfl, hfz, hnd⟩ := hW
  have hA : DataW.TrodAll enc Tryd.prog W 0 (fun _ => true) true Tryd.f7.params.toList args.toList ds p := hA0
  rw [Tryd.params7] at hA hval hR
  obtain ⟨v0, vs0, d0, ds0, p0, q0, hargs, rfl, rfl, h0, r0⟩ := trodAll_cons hA
  obtain ⟨v1, vs1, d1, ds1, p1, q1, rfl, rfl, rfl, h1, r1⟩ := trodAll_cons r0
  obtain ⟨rfl, rfl, rfl⟩ := trodAll_nil r1
  obtain rfl : args = #[v0, v1] := by cases args; simp_all
  obtain ⟨rfl, rfl⟩ := trodVars_none hV
  clear hA0
  simp only [List.append_nil] at hW' hR
  have k0 := h0
  have l0 : ∀ x ∈ p0, x.block < W.heap.size := fun x hx => by simpa using hW'.lt x (by simp [hx])
  have k1 := h1
  have l1 : ∀ x ∈ p1, x.block < W.heap.size := fun x hx => by simpa using hW'.lt x (by simp [hx])
  have sh0 := open_shape (hval 0 26 v0 rfl rfl) h0
  obtain ⟨xs0, hl0, hn0, hz0⟩ := open_rules (hval 0 26 v0 rfl rfl) h0
  obtain ⟨a1, rfl, rfl, rfl, w1⟩ := open_int Tryd.underlying5 (hval 1 5 v1 rfl rfl) h1
  refine (walk W v0 xs0 hl0 hn0 hz0 sh0 a1 w1 hT).mono fun e W' ⟨he, bel⟩ => ?_
  subst he
  exact ⟨_, rfl, _, _, _, [], _, [], hW', trodAll_mk1 (shut_bool Tryd.underlying4 _), (trodAll_cons_mk (Below.trod laidOut (by kernel_rfl) (of_decide_eq_true (by kernel_rfl)) k0 bel l0) (trodAll_cons_mk (Below.trod laidOut (by kernel_rfl) (of_decide_eq_true (by kernel_rfl)) k1 bel l1) trodAll_mk0)), rfl, bel.frame _, fun h => by cases h⟩

theorem reads (os : Os) {H : Type} (enc : TypeId × Value → H) : ∃ places, DataW.whole enc Tryd.prog ((laidWorldR os).forCall (fun _ _ => 0) ⟨#[], #[.slice none 0 0, .int .u8 0], []⟩).memory Tryd.f7.params.toList Rows.romanOrdersSpec.vars false #[.slice none 0 0, .int .u8 0].toList 8 = some ([.nil, .lit (.int .u8 0)], [], places) :=
  ⟨[], by kernel_rfl⟩

set_option maxRecDepth 100000 in
theorem lifted (os : Os) (started : os.Started) (H : Type) (enc : TypeId × Value → H) (F : Stop.Interp) :
    ReturnsInHanded {} Tryd.checked os 7 .any ((OpenSpec.ofChange Rows.romanOrdersSpec).preRow enc Tryd.prog Tryd.f7 Rows.romanOrdersRow.domain false Rows.romanOrdersRow.laid) (((OpenSpec.ofChange Rows.romanOrdersSpec).at F).post enc Tryd.prog Tryd.f7 false true false false) := by
  obtain ⟨places, hx⟩ := reads os enc
  refine returnsInHanded_of_row (C := Tryd.checked) (s := (OpenSpec.ofChange Rows.romanOrdersSpec)) own started (by kernel_rfl) Tryd.func7
    (witness_row_at (enc := enc) (C := Tryd.checked) false (laidWorldR os) #[.slice none 0 0, .int .u8 0] rfl (by kernel_rfl) (by kernel_rfl) (by kernel_rfl)
      (OpenSpec.preRow_of_cond 8 hx (by kernel_rfl) (fun k hk => by cases hk) (by kernel_rfl) (laid_metR os _))) ?_
  intro W base args ds gs before hval hW _ hcond hR hL hS _
  exact contract H enc W base args ds gs before hval hW hL hS hR

theorem said : Rows.RomanOrdersSaid :=
  OpenClaim.holds_of_cond 7 Tryd.f7 rfl rfl rfl rfl rfl rfl rfl ⟨rfl, rfl, rfl, rfl, rfl⟩ rfl rfl rfl rfl rfl (by kernel_rfl) Tryd.func7 (by kernel_rfl)
    (of_decide_eq_true (by kernel_rfl)) (by unfold Func.isWrapper; first | (rw [if_pos (by decide +kernel)]; kernel_rfl) | (rw [if_neg (by decide +kernel)]; exact ⟨rfl, rfl⟩))
    (fun os started H enc _ F => by rw [OpenClaim.pre_eq_preRow]; exact lifted os started H enc F)

theorem plain (f : FuncId) (fn : Func) (hf : Tryd.pinned.checked.prog.funcNamed "henkan/henkanlaw05.RomanOrders" = some f) (hfn : Tryd.pinned.checked.prog.funcs[f]? = some fn) :
    false = Tryd.pinned.checked.prog.looks [] ∧ ∀ (j : Nat) t, fn.params[j]? = some t → Tryd.pinned.checked.prog.wantsStandIn t = false := by
  obtain rfl : f = 7 := Option.some.inj ((show Tryd.prog.funcNamed "henkan/henkanlaw05.RomanOrders" = some 7 by kernel_rfl).symm.trans hf) |>.symm
  obtain rfl : fn = Tryd.f7 := (Option.some.inj (Tryd.func7.symm.trans hfn)).symm
  refine ⟨by kernel_rfl, fun j t ht => ?_⟩
  rw [Tryd.params7] at ht
  have hm := Array.mem_of_getElem? ht
  simp only [List.mem_toArray, List.mem_cons, List.not_mem_nil, or_false] at hm
  rcases hm with rfl | rfl
  · exact (show Tryd.prog.wantsStandIn 26 = false by kernel_rfl)
  · exact (show Tryd.prog.wantsStandIn 5 = false by kernel_rfl)

/-- the card -/
theorem proved : Rows.RomanOrdersCardSaid :=
  Claim7.holds_tied_plain_at .later [] _ _ _ _ said (fun _ h => by cases h) (by kernel_rfl) (fun _ h => by cases h) romanOrders_row_tie rfl ⟨rfl, rfl⟩ (by kernel_rfl) rfl plain (by kernel_rfl)
#print axioms proved
end Go.Proofs.YtbdekjfimojkbaaDoor.romanOrders
