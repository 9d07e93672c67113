/-
  a skipped line more changes nothing but the numbers of the lines after it; the beginning of a text that is accepted has so many of its rules
-/
import Derived.Deep.DeepCutAuto
import Derived.Deep.RegionHeld3
import Derived.Test.YtgdcffahhpeibaaDoorRoLinesMath
import Derived.Carry
import Derived.Laws.AppendOwnNone
namespace Go.Proofs.YtgdcffahhpeibaaDoor.romanLines
open Go.ChangeShapes Go.WideShapes Go.ChangeAt Go.RowKit
open Go.ChangeMaps (open_string)
set_option linter.unusedVariables false

set_option maxRecDepth 100000 in
set_option maxHeartbeats 8000000 in
theorem walk (w : World) (s : ByteArray) (_ : s.size ≤ maxLen) (a : Int) (ha : (Lit.int .u16 a).wf = true) (em : Bool) (ht : Tabs w) :
    Calls Tryd.prog 3 #[.string s, .int .u16 a, .bool em] w fun e w' => e = .returned (.bool true) ∧ Below w.heap.size w w' := by
  have hab : 0 ≤ a ∧ a ≤ 65535 := by simpa [Lit.wf, IntKind.min, IntKind.max, IntKind.signed, IntKind.bits] using ha
  obtain ⟨ha0, ha1⟩ := hab
  have HT := Lib.hid ht
  have HIS := Lib.hid (Is.of s)
  obtain ⟨sl, hsl⟩ : ∃ sl, s.data.toList = sl := ⟨_, rfl⟩
  rw [hsl] at HIS
  clear ht hsl ha
  by_cases h100 : 5000 < s.size
  · have d1 : decide (5000 < s.size) = true := decide_eq_true h100
    go_enter Tryd.func3, Tryd.ntmps3
    go_wp2_with fail
    go_ret
    exact ⟨rfl, Below.refl _ _⟩
  have d1 : decide (5000 < s.size) = false := decide_eq_false h100
  go_enter Tryd.func3, Tryd.ntmps3
  go_wp2_with fail
  with_reducible refine (lines_any s sl _ HIS.out (by omega)).mono ?_
  rintro e w1 ⟨⟨lv, ps, rfl, hps, hst⟩, hb⟩
  have HB1 := Lib.hid hb
  have HPS := Eqq.mk hps
  obtain ⟨n, hn⟩ : ∃ n, ps.length = n := ⟨_, rfl⟩
  obtain ⟨gl, lcap, rfl, hlc, hcell⟩ := hst.spot (by rintro rfl; exact Ro.pieces_ne 10 sl (by rw [← hps]; rfl))
  have hn0 : 0 < n := by
    rw [← hn]
    exact List.length_pos_iff.2 (by rintro rfl; exact Ro.pieces_ne 10 sl (by rw [← hps]; rfl))
  have hn5 : n ≤ 5001 := by
    have h1 := Ro.pieces_len 10 sl
    rw [← hps, List.length_map, hn] at h1
    have := HIS.out.size
    omega
  rw [hn] at hlc ⊢
  have HN := Eqq.mk hn
  have HPC := Lib.hid hcell
  clear hps hst hb hn hcell
  obtain ⟨k, hk1, hk2⟩ : ∃ k : Nat, a.tmod (n : Int) = (k : Int) ∧ k < n := by
    refine ⟨(a.tmod (n : Int)).toNat, ?_, ?_⟩
    · rw [Int.toNat_of_nonneg (Int.tmod_nonneg _ ha0)]
    · have := Int.tmod_lt_of_pos a (show (0 : Int) < (n : Int) by omega)
      have := Int.tmod_nonneg (n : Int) ha0
      omega
  have hn1 : ¬ ((n : Int) = 0) := by omega
  have k0 : (0 : Int) ≤ (k : Int) := by omega
  have k1 : (k : Int) ≤ (n : Int) := by omega
  have k2 : (k : Int) ≤ (lcap : Int) := by omega
  have k3 : (n : Int) ≤ (lcap : Int) := by omega
  have k4 : ¬ lcap = k := by omega
  have HST := Lib.hid (fun (W : World) (hW : Below w1.heap.size w1 W) => (srcS_take (cap := lcap) HPC.out (show k ≤ ps.length by rw [HN.out]; omega)).below hW (Nat.le_refl _))
  have HSD := Lib.hid (fun (W : World) (hW : Below w1.heap.size w1 W) => (srcS_drop (k := k) (c := lcap - k) HPC.out HN.out).below hW (Nat.le_refl _))
  have HTP := Eqq.mk (show (ps.take k).length = k by rw [List.length_take, HN.out]; omega)
  have HDP := Eqq.mk (show (ps.drop k).length = n - k by rw [List.length_drop, HN.out])
  cases em
  · go_upto_region 8 with fail
    go_cut [10] (fun mv wx => Strs w1.heap.size mv (ps.take k ++ [(⟨#[35, 32, 227, 129, 139]⟩ : ByteArray)] ++ ps.drop k) wx ∧ Below w1.heap.size w1 wx)
    case first =>
      have HKA := Lib.hid ((Below.refl w1.heap.size w1).drew.alloc (Nat.le_refl _) (.cells #[] 9))
      have HKB := Lib.hid (HKA.out.alloc HKA.out.size (.cells #[.string ⟨#[35, 32, 227, 129, 139]⟩] 9))
      have HKC0 := Lib.hid ((Below.refl w1.heap.size w1).drew.alloc (Nat.le_refl _) (.cells #[.string ⟨#[35, 32, 227, 129, 139]⟩] 9))
      have HKC := Lib.hid (HKC0.out.alloc HKC0.out.size (.cells #[] 9))
      have HOC := Lib.hid (show Strs w1.heap.size (.slice (some ⟨w1.heap.size + 1, 0, none⟩) 0 0) [] ((w1.drew.alloc (.cells #[.string ⟨#[35, 32, 227, 129, 139]⟩] 9)).alloc (.cells #[] 9)) by
        have h := Strs.empty w1.heap.size (w1.drew.alloc (.cells #[.string ⟨#[35, 32, 227, 129, 139]⟩] 9)) HKC0.out.size
        rw [World.size_alloc] at h
        exact h)
      go_region_held3 (fun W => Below w1.heap.size w1 W)
        (first | exact Below.refl _ _ | exact (Below.refl _ _).drew | exact HKA.out | exact HKB.out | exact HKC0.out | exact HKC.out | exact HK2.out | exact HK2.out.alloc HK2.out.size _ | exact HK3.out | exact HK4.out | go_keep)
        (first
         | (refine step_append_strs _ rfl _ _ (by rfl) w1.heap.size _ [] (by rfl) (Strs.empty w1.heap.size w1.drew (Nat.le_refl _)) _ (ps.take k) (by rfl) (HST.out _ HKA.out) (by (repeat rw [List.length_append]); (repeat rw [List.length_cons]); (repeat rw [List.length_nil]); (repeat rw [HTP.out]); (repeat rw [HDP.out]); omega) HKA.out.size ?_
            intro v2 w2 ho hk hc hs
            have HK2 := Lib.hid (hk _ HKA.out)
            have HO2 := Lib.hid ho
            clear ho hk hc)
         | (refine step_append_strs _ rfl _ _ (by rfl) w1.heap.size _ [] (by rfl) (World.ownsRow.alloc (Strs.empty w1.heap.size w1.drew (Nat.le_refl _)) _) _ (ps.take k) (by rfl) (HST.out _ HKB.out) (by (repeat rw [List.length_append]); (repeat rw [List.length_cons]); (repeat rw [List.length_nil]); (repeat rw [HTP.out]); (repeat rw [HDP.out]); omega) HKB.out.size ?_
            intro v2 w2 ho hk hc hs
            have HK2 := Lib.hid (hk _ HKB.out)
            have HO2 := Lib.hid ho
            have HEC := Lib.hid (hc (w1.heap.size + 1) 0 (.string ⟨#[35, 32, 227, 129, 139]⟩) (by have h := cell_one_new (w1.drew.alloc (.cells #[] 9)) (.string ⟨#[35, 32, 227, 129, 139]⟩) 9 0 _ rfl; rw [World.size_alloc] at h; exact h) (by simp [Value.ownBlock]))
            clear ho hk hc)
         | (refine step_append_strs _ rfl _ _ (by rfl) w1.heap.size _ [] (by rfl) HOC.out _ (ps.take k) (by rfl) (HST.out _ HKC.out) (by (repeat rw [List.length_append]); (repeat rw [List.length_cons]); (repeat rw [List.length_nil]); (repeat rw [HTP.out]); (repeat rw [HDP.out]); omega) HKC.out.size ?_
            intro v2 w2 ho hk hc hs
            have HK2 := Lib.hid (hk _ HKC.out)
            have HO2 := Lib.hid ho
            have HEC := Lib.hid (hc w1.heap.size 0 (.string ⟨#[35, 32, 227, 129, 139]⟩) (below_cellU (cell_one_new w1.drew (.string ⟨#[35, 32, 227, 129, 139]⟩) 9 0 _ rfl) ((Below.refl _ _).alloc (Nat.le_refl _) _) (Nat.le_refl _)) (by simp [Value.ownBlock]))
            clear ho hk hc)
         | (refine step_append_strs _ rfl _ _ (by rfl) w1.heap.size _ _ (by rfl) (World.ownsRow.alloc HO2.out _) _ [⟨#[35, 32, 227, 129, 139]⟩] (by rfl) (SrcS.one (cell_one_new _ _ _ 0 _ rfl)) (by (repeat rw [List.length_append]); (repeat rw [List.length_cons]); (repeat rw [List.length_nil]); (repeat rw [HTP.out]); (repeat rw [HDP.out]); omega) (by have := HK2.out.size; simp; omega) ?_
            intro v3 w3 ho hk hc hs
            have HK3 := Lib.hid (hk _ (HK2.out.alloc HK2.out.size _))
            have HO3 := Lib.hid ho
            clear ho hk hc)
         | (refine step_append_strs _ rfl _ _ (by rfl) w1.heap.size _ _ (by rfl) HO2.out _ [⟨#[35, 32, 227, 129, 139]⟩] (by rfl) (SrcS.one HEC.out) (by (repeat rw [List.length_append]); (repeat rw [List.length_cons]); (repeat rw [List.length_nil]); (repeat rw [HTP.out]); (repeat rw [HDP.out]); omega) HK2.out.size ?_
            intro v3 w3 ho hk hc hs
            have HK3 := Lib.hid (hk _ HK2.out)
            have HO3 := Lib.hid ho
            clear ho hk hc)
         | (refine step_append_strs _ rfl _ _ (by rfl) w1.heap.size _ _ (by rfl) HO3.out _ (ps.drop k) (by rfl) (HSD.out _ HK3.out) (by (repeat rw [List.length_append]); (repeat rw [List.length_cons]); (repeat rw [List.length_nil]); (repeat rw [HTP.out]); (repeat rw [HDP.out]); omega) HK3.out.size ?_
            intro v4 w4 ho hk hc hs
            have HK4 := Lib.hid (hk _ HK3.out)
            have HO4 := Lib.hid ho
            clear ho hk hc))
      all_goals
        (go_wp2_with fail
         go_meet
         case rel => exact ⟨by have h := HO4.out; rw [List.nil_append] at h; exact h, HK4.out⟩)
    case rest =>
      obtain ⟨hst4, hbk4⟩ := hcut
      have HBW := Lib.hid (HB1.out.trans (hbk4.mono HB1.out.size))
      have HK4 := Lib.hid hbk4
      have HLM := Lib.hid hst4.lieS
      clear hst4 hbk4
      obtain ⟨⟨RA, RN, RE⟩, hR⟩ : ∃ r, Ro.parse sl = r := ⟨_, rfl⟩
      have HR := Eqq.mk hR
      have HMR := Eqq.mk (show Ro.parse (Ro.joined ((ps.take k ++ [(⟨#[35, 32, 227, 129, 139]⟩ : ByteArray)] ++ ps.drop k).map (·.data.toList))) = (RA, (if k < RN then RN + 1 else RN), RE) by
        have h := Ro.parse_more sl k ((⟨#[35, 32, 227, 129, 139]⟩ : ByteArray).data.toList) (by decide) (by decide) (by rw [← HIS.out.size]; omega) (by decide) (by rw [← HPS.out, List.length_map, HN.out]; omega)
        rw [← HPS.out, hR] at h
        rw [List.map_append, List.map_append, List.map_take, List.map_drop]
        exact h)
      have HML := Lib.hid (show (Ro.joined ((ps.take k ++ [(⟨#[35, 32, 227, 129, 139]⟩ : ByteArray)] ++ ps.drop k).map (·.data.toList))).length ≤ 20000 by
        have h1 := Ro.joined_total ((ps.take k ++ [(⟨#[35, 32, 227, 129, 139]⟩ : ByteArray)] ++ ps.drop k).map (·.data.toList))
        have h2 := Ro.total_more (Ro.pieces 10 sl) k ((⟨#[35, 32, 227, 129, 139]⟩ : ByteArray).data.toList)
        rw [← HPS.out, Ro.total_pieces' HPS.out] at h2
        rw [List.map_append, List.map_append, List.map_take, List.map_drop] at h1 ⊢
        have h3 : ((⟨#[35, 32, 227, 129, 139]⟩ : ByteArray).data.toList).length ≤ 100 := by decide
        have := HIS.out.size
        have h4 : [(⟨#[35, 32, 227, 129, 139]⟩ : ByteArray)].map (·.data.toList) = [(⟨#[35, 32, 227, 129, 139]⟩ : ByteArray).data.toList] := rfl
        rw [h4] at h1 ⊢
        omega)
      clear hR
      go_wp2_with fail
      with_reducible refine (parse_any s sl _ HIS.out (by omega) (HT.out.keep HBW.out)).mono ?_
      rw [HR.out]
      rintro e w5 ⟨⟨va, xs, rfl, hx, ho⟩, hb⟩
      have HX := Eqq.mk hx
      have HB5 := Lib.hid (HBW.out.trans (hb.mono HBW.out.size))
      have HL5 := Lib.hid ho.lie
      have HO5 := Lib.hid ho
      have HC5 := Lib.hid (HK4.out.trans (hb.mono HK4.out.size))
      have HM5 := Lib.hid (HLM.out.keep hb)
      clear hx ho hb
      have hnum := Ro.parse_num sl
      rw [HR.out] at hnum
      obtain ⟨hRN, hRA⟩ := hnum
      have hslz := HIS.out.size
      have hxl : xs.length ≤ 500 := by rw [← HX.out] at hRA; unfold rulesL at hRA; rwa [List.length_map] at hRA
      have hml : (ps.take k ++ [(⟨#[35, 32, 227, 129, 139]⟩ : ByteArray)] ++ ps.drop k).length ≤ 1000000 := by simp only [List.length_append, List.length_cons, List.length_nil, HTP.out, HDP.out]; omega
      go_wp2_with fail
      with_reducible refine (joined_any _ _ _ HM5.out HML.out hml).mono ?_
      rintro e w6 ⟨⟨t, hts, rfl⟩, rfl⟩
      have HIT := Lib.hid hts
      have htz : t.size < 4294967281 := by rw [Is.size hts]; have := HML.out; omega
      clear hts
      go_wp2_with fail
      with_reducible refine (parse_any t _ _ HIT.out htz (HT.out.keep HB5.out)).mono ?_
      rw [HMR.out]
      obtain ⟨M, hM⟩ : ∃ M, (if k < RN then RN + 1 else RN) = M := ⟨_, rfl⟩
      have HM := Eqq.mk hM
      rw [hM]
      clear hM
      rintro e w7 ⟨⟨vb, ys, rfl, hy, ho⟩, hb⟩
      obtain rfl : ys = xs := rulesL_inj (hy.trans HX.out.symm)
      have HB7 := Lib.hid (HB5.out.trans (hb.mono HB5.out.size))
      have HL7 := Lib.hid (HL5.out.keep hb)
      have HC7 := Lib.hid (HC5.out.trans (hb.mono HC5.out.size))
      have HLB := Lib.hid ho.lie
      clear hy ho hb
      have HVA := Lib.hid HO5.out.frame
      obtain ⟨a5, c5, hva⟩ := HVA.out
      obtain ⟨n5, hn5⟩ : ∃ n5, ys.length = n5 := ⟨_, rfl⟩
      rw [hn5] at hva
      subst hva
      have HN5 := Eqq.mk hn5
      have hn5z : n5 ≤ 500 := by omega
      clear hn5
      go_upto_if 58 with fail
      go_cut [12] (fun nv wx => nv = .int .i64 (M : Int) ∧ wx = w7)
      case first =>
        by_cases hkn : k < RN
        · have hMM : M = RN + 1 := by rw [← HM.out, if_pos hkn]
          have h1 : (k : Int) < (RN : Int) := by omega
          have h2 : decide (k < RN) = true := decide_eq_true hkn
          have h3 : decide ((k : Int) < (RN : Int)) = true := decide_eq_true h1
          subst hMM
          go_wp2_with fail
          go_meet
          case rel => exact ⟨by go_num, rfl⟩
        · have hMM : M = RN := by rw [← HM.out, if_neg hkn]
          have h1 : ¬ (k : Int) < (RN : Int) := by omega
          have h2 : decide (k < RN) = false := decide_eq_false hkn
          have h3 : decide ((k : Int) < (RN : Int)) = false := decide_eq_false h1
          subst hMM
          go_wp2_with fail
          go_meet
          case rel => exact ⟨rfl, rfl⟩
      case rest =>
        obtain ⟨rfl, rfl⟩ := hcut
        have hyl : ys.length ≤ 1000000 := by rw [HN5.out]; omega
        have hyl2 : ys.length ≤ 1000000000000 := by rw [HN5.out]; omega
        go_wp2_with fail
        with_reducible refine (taken_any vb ys _ HLB.out hyl).mono ?_
        rintro e w8 ⟨vt, rfl, ho, hb⟩
        have HB8 := Lib.hid (HB7.out.trans (hb.mono HB7.out.size))
        have HL8 := Lib.hid (HL7.out.keep hb)
        have HLT := Lib.hid ho.lie
        have HC8 := Lib.hid (HC7.out.trans (hb.mono HC7.out.size))
        clear ho hb
        go_wp2_with fail
        with_reducible refine (same_any _ vt ys ys _ HL8.out HLT.out hyl hyl2).mono ?_
        rw [decide_eq_true rfl]
        rintro e w9 ⟨rfl, hb⟩
        have HB9 := Lib.hid (HB8.out.trans (hb.mono HB8.out.size))
        have HL9 := Lib.hid (HL8.out.keep hb)
        have HC9 := Lib.hid (HC8.out.trans (hb.mono HC8.out.size))
        clear hb
        have HLK := Lib.hid (show LieS (.slice (some ⟨gl, 0, none⟩) k lcap) (ps.take k) w9 from ⟨_, lcap, by rw [HTP.out], fun j x hx => ⟨gl, 0, rfl, by
          rw [List.getElem?_take] at hx
          split at hx
          · rw [Nat.zero_add]; exact below_cellU (HPC.out j x hx) HC9.out (Nat.le_refl _)
          · cases hx⟩⟩)
        have HJP := Eqq.mk (show (ps.take k).map (·.data.toList) = (Ro.pieces 10 sl).take k by rw [← HPS.out, List.map_take])
        have HJZ := Lib.hid (show (Ro.joined ((ps.take k).map (·.data.toList))).length ≤ 20000 by
          rw [HJP.out]
          have h1 := Ro.joined_total ((Ro.pieces 10 sl).take k)
          have h2 := Ro.total_take (Ro.pieces 10 sl) k
          have h3 := Ro.total_pieces 10 sl
          have := HIS.out.size
          omega)
        have hkl : (ps.take k).length ≤ 1000000 := by rw [HTP.out]; omega
        go_wp2_with fail
        with_reducible refine (joined_any _ (ps.take k) _ HLK.out HJZ.out hkl).mono ?_
        rintro e w10 ⟨⟨t2, hts, rfl⟩, rfl⟩
        rw [HJP.out] at hts
        have HIT2 := Lib.hid hts
        have htz2 : t2.size < 4294967281 := by rw [Is.size hts]; have := HJZ.out; rw [HJP.out] at this; omega
        have HTZ2 := Lib.hid htz2
        have HPG := Lib.hid (Ro.part_good sl k (by have := HIS.out.size; omega))
        have hpn := Ro.parse_num (Ro.joined ((Ro.pieces 10 sl).take k))
        rw [HR.out] at HPG
        obtain ⟨⟨RA2, RN2, RE2⟩, hR2⟩ : ∃ r, Ro.parse (Ro.joined ((Ro.pieces 10 sl).take k)) = r := ⟨_, rfl⟩
        rw [hR2] at HPG hpn
        have HR2 := Eqq.mk hR2
        clear hts hR2 htz2
        go_wp2_with fail
        with_reducible refine (parse_any t2 _ _ HIT2.out HTZ2.out (HT.out.keep HB9.out)).mono ?_
        rw [HR2.out]
        rintro e w11 ⟨⟨vc, zs, rfl, hz, ho⟩, hb⟩
        have hz : rulesL zs = RA2 := hz
        have HZS := Eqq.mk hz
        have HB11 := Lib.hid (HB9.out.trans (hb.mono HB9.out.size))
        have HL11 := Lib.hid (HL9.out.keep hb)
        have HLC := Lib.hid ho.lie
        obtain ⟨a6, c6, hvc⟩ := ho.frame
        obtain ⟨n6, hn6⟩ : ∃ n6, zs.length = n6 := ⟨_, rfl⟩
        rw [hn6] at hvc
        subst hvc
        have HN6 := Eqq.mk hn6
        have hzl : n6 ≤ 500 := by
          have h := hpn.2
          rw [← hz] at h
          unfold rulesL at h
          rw [List.length_map, hn6] at h
          exact h
        clear hz ho hb hn6 hpn
        by_cases hre : RE = 0
        · subst hre
          obtain ⟨hre2, more, hmore⟩ := HPG.out rfl
          try dsimp only at hre2 hmore
          subst hre2
          have HYZ := Eqq.mk (show ys.take n6 = zs by
            refine rulesL_inj ?_
            have h1 : rulesL ys = rulesL zs ++ more := by rw [HX.out, HZS.out]; exact hmore
            have h2 : rulesL (ys.take n6) = (rulesL ys).take n6 := by unfold rulesL; rw [List.map_take]
            rw [h2, h1, List.take_append_of_le_length (by unfold rulesL; rw [List.length_map, HN6.out]; exact Nat.le_refl _)]
            exact List.take_of_length_le (by unfold rulesL; rw [List.length_map, HN6.out]; exact Nat.le_refl _))
          have hnn : n6 ≤ n5 := by
            have h := congrArg List.length HYZ.out
            rw [List.length_take, HN5.out, HN6.out] at h
            omega
          have HLS := Lib.hid (show LieR (.slice a5 n6 c5) zs w11 from by
            obtain ⟨ao9, cap9, he, hc9, hx9⟩ := HL11.out
            injection he with he1 he2 he3
            rw [← HYZ.out]
            subst he1; subst he3
            exact LieR.take hx9 HN5.out (by rw [← HN5.out]; exact hc9) n6 hnn)
          have hcap5 : n5 ≤ c5 := by
            obtain ⟨ao9, cap9, he, hc9, _⟩ := HL11.out
            injection he with _ he2 he3
            rw [HN5.out] at hc9
            rw [he3]; exact hc9
          have d0 : (0 : Int) ≤ (n6 : Int) := by omega
          have d1 : (n6 : Int) ≤ (n5 : Int) := by omega
          have d2 : (n6 : Int) ≤ (c5 : Int) := by omega
          have d3 : decide (n6 ≤ n5) = true := decide_eq_true hnn
          have d4 : decide ((n6 : Int) ≤ (n5 : Int)) = true := decide_eq_true d1
          have d5 : n6 ≤ c5 := by omega
          have hzl1 : zs.length ≤ 1000000 := by rw [HN6.out]; omega
          have hzl2 : zs.length ≤ 1000000000000 := by rw [HN6.out]; omega
          clear hmore
          have HTK := Lib.hid (fun (W : World) (hW : Below w11.heap.size w11 W) => taken_any (.slice a6 n6 c6) zs W (HLC.out.keep hW) hzl1)
          have HSM := Lib.hid (fun (W : World) (hW : Below w11.heap.size w11 W) (u : Value) (hu : LieR u zs W) => same_any (.slice a5 n6 c5) u zs zs W (HLS.out.keep hW) hu hzl1 hzl2)
          have HWK := Lib.hid (fun (W : World) (hW : Below w11.heap.size w11 W) => works_any W (HT.out.keep (HB11.out.trans (hW.mono HB11.out.size))))
          go_upto_region 18 with fail
          go_region_held3 (fun W => Below w11.heap.size w11 W)
            (first | exact Below.refl _ _ | exact (Below.refl _ _).drew | exact HBt.out | exact HBs.out | exact HBv.out | exact HBt.out.drew | exact HBs.out.drew)
            (first
             | (go_at_call 10; (first | (with_reducible refine (HTK.out _ (Below.refl _ _).drew).mono ?_) | (with_reducible refine (HTK.out _ (Below.refl _ _)).mono ?_)); rintro e w12 ⟨vu, he, ho, hb⟩; subst he; (try have hb := Below.trans (Below.refl _ _).drew hb); have HBt := Lib.hid (show Below w11.heap.size w11 w12 from hb); have HLU := Lib.hid ho.lie; clear ho hb)
             | (go_at_call 9; (first | (with_reducible refine (HSM.out _ HBt.out _ HLU.out).mono ?_) | (with_reducible refine (HSM.out _ HBt.out.drew _ HLU.out).mono ?_)); rintro e w13 ⟨he, hb⟩; have he : e = Ending.returned (.bool true) := (by rw [he]; simp); subst he; have HBs := Lib.hid (HBt.out.trans (hb.mono HBt.out.size)); clear hb)
             | (go_at_call 11; (first | (with_reducible refine (HWK.out _ HBs.out).mono ?_) | (with_reducible refine (HWK.out _ HBs.out.drew).mono ?_)); rintro e w14 ⟨he, hb⟩; subst he; have HBv := Lib.hid (HBs.out.trans (hb.mono HBs.out.size)); clear hb))
          all_goals
            (go_wp2_with fail
             go_ret
             exact ⟨rfl, HB11.out.trans (HBv.out.mono HB11.out.size)⟩)
        · have hre2 : ((RE : Int) == 0) = false := by rw [beq_eq_false_iff_ne]; omega
          have hre3 : ¬ (RE : Int) = 0 := by omega
          go_wp2_with fail
          with_reducible refine (works_any _ (HT.out.keep HB11.out)).mono ?_
          rintro e w12 ⟨rfl, hb⟩
          have HB12 := Lib.hid (HB11.out.trans (hb.mono HB11.out.size))
          clear hb
          go_wp2_with fail
          go_ret
          exact ⟨rfl, HB12.out⟩
  · go_upto_region 8 with fail
    go_cut [10] (fun mv wx => Strs w1.heap.size mv (ps.take k ++ [(⟨#[]⟩ : ByteArray)] ++ ps.drop k) wx ∧ Below w1.heap.size w1 wx)
    case first =>
      have HKA := Lib.hid ((Below.refl w1.heap.size w1).drew.alloc (Nat.le_refl _) (.cells #[] 9))
      have HKB := Lib.hid (HKA.out.alloc HKA.out.size (.cells #[.string ⟨#[]⟩] 9))
      have HKC0 := Lib.hid ((Below.refl w1.heap.size w1).drew.alloc (Nat.le_refl _) (.cells #[.string ⟨#[]⟩] 9))
      have HKC := Lib.hid (HKC0.out.alloc HKC0.out.size (.cells #[] 9))
      have HOC := Lib.hid (show Strs w1.heap.size (.slice (some ⟨w1.heap.size + 1, 0, none⟩) 0 0) [] ((w1.drew.alloc (.cells #[.string ⟨#[]⟩] 9)).alloc (.cells #[] 9)) by
        have h := Strs.empty w1.heap.size (w1.drew.alloc (.cells #[.string ⟨#[]⟩] 9)) HKC0.out.size
        rw [World.size_alloc] at h
        exact h)
      go_region_held3 (fun W => Below w1.heap.size w1 W)
        (first | exact Below.refl _ _ | exact (Below.refl _ _).drew | exact HKA.out | exact HKB.out | exact HKC0.out | exact HKC.out | exact HK2.out | exact HK2.out.alloc HK2.out.size _ | exact HK3.out | exact HK4.out | go_keep)
        (first
         | (refine step_append_strs _ rfl _ _ (by rfl) w1.heap.size _ [] (by rfl) (Strs.empty w1.heap.size w1.drew (Nat.le_refl _)) _ (ps.take k) (by rfl) (HST.out _ HKA.out) (by (repeat rw [List.length_append]); (repeat rw [List.length_cons]); (repeat rw [List.length_nil]); (repeat rw [HTP.out]); (repeat rw [HDP.out]); omega) HKA.out.size ?_
            intro v2 w2 ho hk hc hs
            have HK2 := Lib.hid (hk _ HKA.out)
            have HO2 := Lib.hid ho
            clear ho hk hc)
         | (refine step_append_strs _ rfl _ _ (by rfl) w1.heap.size _ [] (by rfl) (World.ownsRow.alloc (Strs.empty w1.heap.size w1.drew (Nat.le_refl _)) _) _ (ps.take k) (by rfl) (HST.out _ HKB.out) (by (repeat rw [List.length_append]); (repeat rw [List.length_cons]); (repeat rw [List.length_nil]); (repeat rw [HTP.out]); (repeat rw [HDP.out]); omega) HKB.out.size ?_
            intro v2 w2 ho hk hc hs
            have HK2 := Lib.hid (hk _ HKB.out)
            have HO2 := Lib.hid ho
            have HEC := Lib.hid (hc (w1.heap.size + 1) 0 (.string ⟨#[]⟩) (by have h := cell_one_new (w1.drew.alloc (.cells #[] 9)) (.string ⟨#[]⟩) 9 0 _ rfl; rw [World.size_alloc] at h; exact h) (by simp [Value.ownBlock]))
            clear ho hk hc)
         | (refine step_append_strs _ rfl _ _ (by rfl) w1.heap.size _ [] (by rfl) HOC.out _ (ps.take k) (by rfl) (HST.out _ HKC.out) (by (repeat rw [List.length_append]); (repeat rw [List.length_cons]); (repeat rw [List.length_nil]); (repeat rw [HTP.out]); (repeat rw [HDP.out]); omega) HKC.out.size ?_
            intro v2 w2 ho hk hc hs
            have HK2 := Lib.hid (hk _ HKC.out)
            have HO2 := Lib.hid ho
            have HEC := Lib.hid (hc w1.heap.size 0 (.string ⟨#[]⟩) (below_cellU (cell_one_new w1.drew (.string ⟨#[]⟩) 9 0 _ rfl) ((Below.refl _ _).alloc (Nat.le_refl _) _) (Nat.le_refl _)) (by simp [Value.ownBlock]))
            clear ho hk hc)
         | (refine step_append_strs _ rfl _ _ (by rfl) w1.heap.size _ _ (by rfl) (World.ownsRow.alloc HO2.out _) _ [⟨#[]⟩] (by rfl) (SrcS.one (cell_one_new _ _ _ 0 _ rfl)) (by (repeat rw [List.length_append]); (repeat rw [List.length_cons]); (repeat rw [List.length_nil]); (repeat rw [HTP.out]); (repeat rw [HDP.out]); omega) (by have := HK2.out.size; simp; omega) ?_
            intro v3 w3 ho hk hc hs
            have HK3 := Lib.hid (hk _ (HK2.out.alloc HK2.out.size _))
            have HO3 := Lib.hid ho
            clear ho hk hc)
         | (refine step_append_strs _ rfl _ _ (by rfl) w1.heap.size _ _ (by rfl) HO2.out _ [⟨#[]⟩] (by rfl) (SrcS.one HEC.out) (by (repeat rw [List.length_append]); (repeat rw [List.length_cons]); (repeat rw [List.length_nil]); (repeat rw [HTP.out]); (repeat rw [HDP.out]); omega) HK2.out.size ?_
            intro v3 w3 ho hk hc hs
            have HK3 := Lib.hid (hk _ HK2.out)
            have HO3 := Lib.hid ho
            clear ho hk hc)
         | (refine step_append_strs _ rfl _ _ (by rfl) w1.heap.size _ _ (by rfl) HO3.out _ (ps.drop k) (by rfl) (HSD.out _ HK3.out) (by (repeat rw [List.length_append]); (repeat rw [List.length_cons]); (repeat rw [List.length_nil]); (repeat rw [HTP.out]); (repeat rw [HDP.out]); omega) HK3.out.size ?_
            intro v4 w4 ho hk hc hs
            have HK4 := Lib.hid (hk _ HK3.out)
            have HO4 := Lib.hid ho
            clear ho hk hc))
      all_goals
        (go_wp2_with fail
         go_meet
         case rel => exact ⟨by have h := HO4.out; rw [List.nil_append] at h; exact h, HK4.out⟩)
    case rest =>
      obtain ⟨hst4, hbk4⟩ := hcut
      have HBW := Lib.hid (HB1.out.trans (hbk4.mono HB1.out.size))
      have HK4 := Lib.hid hbk4
      have HLM := Lib.hid hst4.lieS
      clear hst4 hbk4
      obtain ⟨⟨RA, RN, RE⟩, hR⟩ : ∃ r, Ro.parse sl = r := ⟨_, rfl⟩
      have HR := Eqq.mk hR
      have HMR := Eqq.mk (show Ro.parse (Ro.joined ((ps.take k ++ [(⟨#[]⟩ : ByteArray)] ++ ps.drop k).map (·.data.toList))) = (RA, (if k < RN then RN + 1 else RN), RE) by
        have h := Ro.parse_more sl k ((⟨#[]⟩ : ByteArray).data.toList) (by decide) (by decide) (by rw [← HIS.out.size]; omega) (by decide) (by rw [← HPS.out, List.length_map, HN.out]; omega)
        rw [← HPS.out, hR] at h
        rw [List.map_append, List.map_append, List.map_take, List.map_drop]
        exact h)
      have HML := Lib.hid (show (Ro.joined ((ps.take k ++ [(⟨#[]⟩ : ByteArray)] ++ ps.drop k).map (·.data.toList))).length ≤ 20000 by
        have h1 := Ro.joined_total ((ps.take k ++ [(⟨#[]⟩ : ByteArray)] ++ ps.drop k).map (·.data.toList))
        have h2 := Ro.total_more (Ro.pieces 10 sl) k ((⟨#[]⟩ : ByteArray).data.toList)
        rw [← HPS.out, Ro.total_pieces' HPS.out] at h2
        rw [List.map_append, List.map_append, List.map_take, List.map_drop] at h1 ⊢
        have h3 : ((⟨#[]⟩ : ByteArray).data.toList).length ≤ 100 := by decide
        have := HIS.out.size
        have h4 : [(⟨#[]⟩ : ByteArray)].map (·.data.toList) = [(⟨#[]⟩ : ByteArray).data.toList] := rfl
        rw [h4] at h1 ⊢
        omega)
      clear hR
      go_wp2_with fail
      with_reducible refine (parse_any s sl _ HIS.out (by omega) (HT.out.keep HBW.out)).mono ?_
      rw [HR.out]
      rintro e w5 ⟨⟨va, xs, rfl, hx, ho⟩, hb⟩
      have HX := Eqq.mk hx
      have HB5 := Lib.hid (HBW.out.trans (hb.mono HBW.out.size))
      have HL5 := Lib.hid ho.lie
      have HO5 := Lib.hid ho
      have HC5 := Lib.hid (HK4.out.trans (hb.mono HK4.out.size))
      have HM5 := Lib.hid (HLM.out.keep hb)
      clear hx ho hb
      have hnum := Ro.parse_num sl
      rw [HR.out] at hnum
      obtain ⟨hRN, hRA⟩ := hnum
      have hslz := HIS.out.size
      have hxl : xs.length ≤ 500 := by rw [← HX.out] at hRA; unfold rulesL at hRA; rwa [List.length_map] at hRA
      have hml : (ps.take k ++ [(⟨#[]⟩ : ByteArray)] ++ ps.drop k).length ≤ 1000000 := by simp only [List.length_append, List.length_cons, List.length_nil, HTP.out, HDP.out]; omega
      go_wp2_with fail
      with_reducible refine (joined_any _ _ _ HM5.out HML.out hml).mono ?_
      rintro e w6 ⟨⟨t, hts, rfl⟩, rfl⟩
      have HIT := Lib.hid hts
      have htz : t.size < 4294967281 := by rw [Is.size hts]; have := HML.out; omega
      clear hts
      go_wp2_with fail
      with_reducible refine (parse_any t _ _ HIT.out htz (HT.out.keep HB5.out)).mono ?_
      rw [HMR.out]
      obtain ⟨M, hM⟩ : ∃ M, (if k < RN then RN + 1 else RN) = M := ⟨_, rfl⟩
      have HM := Eqq.mk hM
      rw [hM]
      clear hM
      rintro e w7 ⟨⟨vb, ys, rfl, hy, ho⟩, hb⟩
      obtain rfl : ys = xs := rulesL_inj (hy.trans HX.out.symm)
      have HB7 := Lib.hid (HB5.out.trans (hb.mono HB5.out.size))
      have HL7 := Lib.hid (HL5.out.keep hb)
      have HC7 := Lib.hid (HC5.out.trans (hb.mono HC5.out.size))
      have HLB := Lib.hid ho.lie
      clear hy ho hb
      have HVA := Lib.hid HO5.out.frame
      obtain ⟨a5, c5, hva⟩ := HVA.out
      obtain ⟨n5, hn5⟩ : ∃ n5, ys.length = n5 := ⟨_, rfl⟩
      rw [hn5] at hva
      subst hva
      have HN5 := Eqq.mk hn5
      have hn5z : n5 ≤ 500 := by omega
      clear hn5
      go_upto_if 58 with fail
      go_cut [12] (fun nv wx => nv = .int .i64 (M : Int) ∧ wx = w7)
      case first =>
        by_cases hkn : k < RN
        · have hMM : M = RN + 1 := by rw [← HM.out, if_pos hkn]
          have h1 : (k : Int) < (RN : Int) := by omega
          have h2 : decide (k < RN) = true := decide_eq_true hkn
          have h3 : decide ((k : Int) < (RN : Int)) = true := decide_eq_true h1
          subst hMM
          go_wp2_with fail
          go_meet
          case rel => exact ⟨by go_num, rfl⟩
        · have hMM : M = RN := by rw [← HM.out, if_neg hkn]
          have h1 : ¬ (k : Int) < (RN : Int) := by omega
          have h2 : decide (k < RN) = false := decide_eq_false hkn
          have h3 : decide ((k : Int) < (RN : Int)) = false := decide_eq_false h1
          subst hMM
          go_wp2_with fail
          go_meet
          case rel => exact ⟨rfl, rfl⟩
      case rest =>
        obtain ⟨rfl, rfl⟩ := hcut
        have hyl : ys.length ≤ 1000000 := by rw [HN5.out]; omega
        have hyl2 : ys.length ≤ 1000000000000 := by rw [HN5.out]; omega
        go_wp2_with fail
        with_reducible refine (taken_any vb ys _ HLB.out hyl).mono ?_
        rintro e w8 ⟨vt, rfl, ho, hb⟩
        have HB8 := Lib.hid (HB7.out.trans (hb.mono HB7.out.size))
        have HL8 := Lib.hid (HL7.out.keep hb)
        have HLT := Lib.hid ho.lie
        have HC8 := Lib.hid (HC7.out.trans (hb.mono HC7.out.size))
        clear ho hb
        go_wp2_with fail
        with_reducible refine (same_any _ vt ys ys _ HL8.out HLT.out hyl hyl2).mono ?_
        rw [decide_eq_true rfl]
        rintro e w9 ⟨rfl, hb⟩
        have HB9 := Lib.hid (HB8.out.trans (hb.mono HB8.out.size))
        have HL9 := Lib.hid (HL8.out.keep hb)
        have HC9 := Lib.hid (HC8.out.trans (hb.mono HC8.out.size))
        clear hb
        have HLK := Lib.hid (show LieS (.slice (some ⟨gl, 0, none⟩) k lcap) (ps.take k) w9 from ⟨_, lcap, by rw [HTP.out], fun j x hx => ⟨gl, 0, rfl, by
          rw [List.getElem?_take] at hx
          split at hx
          · rw [Nat.zero_add]; exact below_cellU (HPC.out j x hx) HC9.out (Nat.le_refl _)
          · cases hx⟩⟩)
        have HJP := Eqq.mk (show (ps.take k).map (·.data.toList) = (Ro.pieces 10 sl).take k by rw [← HPS.out, List.map_take])
        have HJZ := Lib.hid (show (Ro.joined ((ps.take k).map (·.data.toList))).length ≤ 20000 by
          rw [HJP.out]
          have h1 := Ro.joined_total ((Ro.pieces 10 sl).take k)
          have h2 := Ro.total_take (Ro.pieces 10 sl) k
          have h3 := Ro.total_pieces 10 sl
          have := HIS.out.size
          omega)
        have hkl : (ps.take k).length ≤ 1000000 := by rw [HTP.out]; omega
        go_wp2_with fail
        with_reducible refine (joined_any _ (ps.take k) _ HLK.out HJZ.out hkl).mono ?_
        rintro e w10 ⟨⟨t2, hts, rfl⟩, rfl⟩
        rw [HJP.out] at hts
        have HIT2 := Lib.hid hts
        have htz2 : t2.size < 4294967281 := by rw [Is.size hts]; have := HJZ.out; rw [HJP.out] at this; omega
        have HTZ2 := Lib.hid htz2
        have HPG := Lib.hid (Ro.part_good sl k (by have := HIS.out.size; omega))
        have hpn := Ro.parse_num (Ro.joined ((Ro.pieces 10 sl).take k))
        rw [HR.out] at HPG
        obtain ⟨⟨RA2, RN2, RE2⟩, hR2⟩ : ∃ r, Ro.parse (Ro.joined ((Ro.pieces 10 sl).take k)) = r := ⟨_, rfl⟩
        rw [hR2] at HPG hpn
        have HR2 := Eqq.mk hR2
        clear hts hR2 htz2
        go_wp2_with fail
        with_reducible refine (parse_any t2 _ _ HIT2.out HTZ2.out (HT.out.keep HB9.out)).mono ?_
        rw [HR2.out]
        rintro e w11 ⟨⟨vc, zs, rfl, hz, ho⟩, hb⟩
        have hz : rulesL zs = RA2 := hz
        have HZS := Eqq.mk hz
        have HB11 := Lib.hid (HB9.out.trans (hb.mono HB9.out.size))
        have HL11 := Lib.hid (HL9.out.keep hb)
        have HLC := Lib.hid ho.lie
        obtain ⟨a6, c6, hvc⟩ := ho.frame
        obtain ⟨n6, hn6⟩ : ∃ n6, zs.length = n6 := ⟨_, rfl⟩
        rw [hn6] at hvc
        subst hvc
        have HN6 := Eqq.mk hn6
        have hzl : n6 ≤ 500 := by
          have h := hpn.2
          rw [← hz] at h
          unfold rulesL at h
          rw [List.length_map, hn6] at h
          exact h
        clear hz ho hb hn6 hpn
        by_cases hre : RE = 0
        · subst hre
          obtain ⟨hre2, more, hmore⟩ := HPG.out rfl
          try dsimp only at hre2 hmore
          subst hre2
          have HYZ := Eqq.mk (show ys.take n6 = zs by
            refine rulesL_inj ?_
            have h1 : rulesL ys = rulesL zs ++ more := by rw [HX.out, HZS.out]; exact hmore
            have h2 : rulesL (ys.take n6) = (rulesL ys).take n6 := by unfold rulesL; rw [List.map_take]
            rw [h2, h1, List.take_append_of_le_length (by unfold rulesL; rw [List.length_map, HN6.out]; exact Nat.le_refl _)]
            exact List.take_of_length_le (by unfold rulesL; rw [List.length_map, HN6.out]; exact Nat.le_refl _))
          have hnn : n6 ≤ n5 := by
            have h := congrArg List.length HYZ.out
            rw [List.length_take, HN5.out, HN6.out] at h
            omega
          have HLS := Lib.hid (show LieR (.slice a5 n6 c5) zs w11 from by
            obtain ⟨ao9, cap9, he, hc9, hx9⟩ := HL11.out
            injection he with he1 he2 he3
            rw [← HYZ.out]
            subst he1; subst he3
            exact LieR.take hx9 HN5.out (by rw [← HN5.out]; exact hc9) n6 hnn)
          have hcap5 : n5 ≤ c5 := by
            obtain ⟨ao9, cap9, he, hc9, _⟩ := HL11.out
            injection he with _ he2 he3
            rw [HN5.out] at hc9
            rw [he3]; exact hc9
          have d0 : (0 : Int) ≤ (n6 : Int) := by omega
          have d1 : (n6 : Int) ≤ (n5 : Int) := by omega
          have d2 : (n6 : Int) ≤ (c5 : Int) := by omega
          have d3 : decide (n6 ≤ n5) = true := decide_eq_true hnn
          have d4 : decide ((n6 : Int) ≤ (n5 : Int)) = true := decide_eq_true d1
          have d5 : n6 ≤ c5 := by omega
          have hzl1 : zs.length ≤ 1000000 := by rw [HN6.out]; omega
          have hzl2 : zs.length ≤ 1000000000000 := by rw [HN6.out]; omega
          clear hmore
          have HTK := Lib.hid (fun (W : World) (hW : Below w11.heap.size w11 W) => taken_any (.slice a6 n6 c6) zs W (HLC.out.keep hW) hzl1)
          have HSM := Lib.hid (fun (W : World) (hW : Below w11.heap.size w11 W) (u : Value) (hu : LieR u zs W) => same_any (.slice a5 n6 c5) u zs zs W (HLS.out.keep hW) hu hzl1 hzl2)
          have HWK := Lib.hid (fun (W : World) (hW : Below w11.heap.size w11 W) => works_any W (HT.out.keep (HB11.out.trans (hW.mono HB11.out.size))))
          go_upto_region 18 with fail
          go_region_held3 (fun W => Below w11.heap.size w11 W)
            (first | exact Below.refl _ _ | exact (Below.refl _ _).drew | exact HBt.out | exact HBs.out | exact HBv.out | exact HBt.out.drew | exact HBs.out.drew)
            (first
             | (go_at_call 10; (first | (with_reducible refine (HTK.out _ (Below.refl _ _).drew).mono ?_) | (with_reducible refine (HTK.out _ (Below.refl _ _)).mono ?_)); rintro e w12 ⟨vu, he, ho, hb⟩; subst he; (try have hb := Below.trans (Below.refl _ _).drew hb); have HBt := Lib.hid (show Below w11.heap.size w11 w12 from hb); have HLU := Lib.hid ho.lie; clear ho hb)
             | (go_at_call 9; (first | (with_reducible refine (HSM.out _ HBt.out _ HLU.out).mono ?_) | (with_reducible refine (HSM.out _ HBt.out.drew _ HLU.out).mono ?_)); rintro e w13 ⟨he, hb⟩; have he : e = Ending.returned (.bool true) := (by rw [he]; simp); subst he; have HBs := Lib.hid (HBt.out.trans (hb.mono HBt.out.size)); clear hb)
             | (go_at_call 11; (first | (with_reducible refine (HWK.out _ HBs.out).mono ?_) | (with_reducible refine (HWK.out _ HBs.out.drew).mono ?_)); rintro e w14 ⟨he, hb⟩; subst he; have HBv := Lib.hid (HBs.out.trans (hb.mono HBs.out.size)); clear hb))
          all_goals
            (go_wp2_with fail
             go_ret
             exact ⟨rfl, HB11.out.trans (HBv.out.mono HB11.out.size)⟩)
        · have hre2 : ((RE : Int) == 0) = false := by rw [beq_eq_false_iff_ne]; omega
          have hre3 : ¬ (RE : Int) = 0 := by omega
          go_wp2_with fail
          with_reducible refine (works_any _ (HT.out.keep HB11.out)).mono ?_
          rintro e w12 ⟨rfl, hb⟩
          have HB12 := Lib.hid (HB11.out.trans (hb.mono HB11.out.size))
          clear hb
          go_wp2_with fail
          go_ret
          exact ⟨rfl, HB12.out⟩

theorem laidOut : laidOutB Tryd.prog = true := by kernel_rfl
set_option maxRecDepth 100000 in
theorem contract (H : Type) (enc : TypeId × Value → H) (W : World) (base : Nat) (args : Array Value) (ds gs : List (DataW H)) (before : List MemPlace)
    (hval : ∀ (j : Nat) t v, Tryd.f3.params[j]? = some t → args[j]? = some v → Value.okWide Tryd.prog W .any base t v)
    (hW : DataW.Whole enc Tryd.prog Tryd.f3.params.toList Rows.romanLinesSpec.vars false W args.toList ds gs before) (hL : laidMetH Tryd.prog Rows.romanLinesRow.laid W) (hS : W.ShapedOpen Tryd.prog)
    (hR : (DataW.weightsEach Tryd.prog (Tryd.f3.params.toList ++ (OpenSpec.ofChange Rows.romanLinesSpec).bare.plain.varTypes Tryd.prog) (ds ++ gs)).all (· ≤ reachBytes) = true) :
    Calls Tryd.prog 3 args W fun e W' => ∃ v, e = .returned v ∧ Rows.romanLinesSpec.post enc Tryd.prog Tryd.f3 false true false false W args v W' := by
  have hT : Tabs W := rtabs_of_laid hL hS
  have hW' := hW
  obtain ⟨p, q, hA0, hV, rfl, hfz, hnd⟩ := hW
  have hA : DataW.TrodAll enc Tryd.prog W 0 (fun _ => true) true Tryd.f3.params.toList args.toList ds p := hA0
  rw [Tryd.params3] at hA hval hR
  obtain ⟨v0, vs0, d0, ds0, p0, q0, hargs, rfl, rfl, h0, r0⟩ := trodAll_cons hA
  obtain ⟨v1, vs1, d1, ds1, p1, q1, rfl, rfl, rfl, h1, r1⟩ := trodAll_cons r0
  obtain ⟨v2, vs2, d2, ds2, p2, q2, rfl, rfl, rfl, h2, r2⟩ := trodAll_cons r1
  obtain ⟨rfl, rfl, rfl⟩ := trodAll_nil r2
  obtain rfl : args = #[v0, v1, v2] := by cases args; simp_all
  obtain ⟨rfl, rfl⟩ := trodVars_none hV
  clear hA0
  simp only [List.append_nil] at hW' hR
  have k0 := h0
  have l0 : ∀ x ∈ p0, x.block < W.heap.size := fun x hx => by simpa using hW'.lt x (by simp [hx])
  have k1 := h1
  have l1 : ∀ x ∈ p1, x.block < W.heap.size := fun x hx => by simpa using hW'.lt x (by simp [hx])
  have k2 := h2
  have l2 : ∀ x ∈ p2, x.block < W.heap.size := fun x hx => by simpa using hW'.lt x (by simp [hx])
  obtain ⟨s0, rfl, rfl, rfl, m0⟩ := open_string Tryd.underlying9 (hval 0 9 v0 rfl rfl) h0
  obtain ⟨a1, rfl, rfl, rfl, w1⟩ := open_int Tryd.underlying22 (hval 1 22 v1 rfl rfl) h1
  obtain ⟨b2, rfl, rfl, rfl⟩ := open_bool Tryd.underlying4 (hval 2 4 v2 rfl rfl) h2
  refine (walk W s0 m0 a1 w1 b2 hT).mono fun e W' ⟨he, bel⟩ => ?_
  subst he
  exact ⟨_, rfl, _, _, _, [], _, [], hW', trodAll_mk1 (shut_bool Tryd.underlying4 _), (trodAll_cons_mk (Below.trod laidOut (by kernel_rfl) (of_decide_eq_true (by kernel_rfl)) k0 bel l0) (trodAll_cons_mk (Below.trod laidOut (by kernel_rfl) (of_decide_eq_true (by kernel_rfl)) k1 bel l1) (trodAll_cons_mk (Below.trod laidOut (by kernel_rfl) (of_decide_eq_true (by kernel_rfl)) k2 bel l2) trodAll_mk0))), rfl, bel.frame _, fun h => by cases h⟩

theorem reads (os : Os) {H : Type} (enc : TypeId × Value → H) : ∃ places, DataW.whole enc Tryd.prog ((laidWorldR os).forCall (fun _ _ => 0) ⟨#[], #[.string ⟨#[]⟩, .int .u16 0, .bool false], []⟩).memory Tryd.f3.params.toList Rows.romanLinesSpec.vars false #[.string ⟨#[]⟩, .int .u16 0, .bool false].toList 8 = some ([.lit (.string []), .lit (.int .u16 0), .lit (.bool false)], [], places) :=
  ⟨[], by kernel_rfl⟩

set_option maxRecDepth 100000 in
theorem lifted (os : Os) (started : os.Started) (H : Type) (enc : TypeId × Value → H) (F : Stop.Interp) :
    ReturnsInHanded {} Tryd.checked os 3 .any ((OpenSpec.ofChange Rows.romanLinesSpec).preRow enc Tryd.prog Tryd.f3 Rows.romanLinesRow.domain false Rows.romanLinesRow.laid) (((OpenSpec.ofChange Rows.romanLinesSpec).at F).post enc Tryd.prog Tryd.f3 false true false false) := by
  obtain ⟨places, hx⟩ := reads os enc
  refine returnsInHanded_of_row (C := Tryd.checked) (s := (OpenSpec.ofChange Rows.romanLinesSpec)) own started (by kernel_rfl) Tryd.func3
    (witness_row_at (enc := enc) (C := Tryd.checked) false (laidWorldR os) #[.string ⟨#[]⟩, .int .u16 0, .bool false] rfl (by kernel_rfl) (by kernel_rfl) (by kernel_rfl)
      (OpenSpec.preRow_of_cond 8 hx (by kernel_rfl) (fun k hk => by cases hk) (by kernel_rfl) (laid_metR os _))) ?_
  intro W base args ds gs before hval hW _ hcond hR hL hS _
  exact contract H enc W base args ds gs before hval hW hL hS hR

theorem said : Rows.RomanLinesSaid :=
  OpenClaim.holds_of_cond 3 Tryd.f3 rfl rfl rfl rfl rfl rfl rfl ⟨rfl, rfl, rfl, rfl, rfl⟩ rfl rfl rfl rfl rfl (by kernel_rfl) Tryd.func3 (by kernel_rfl)
    (of_decide_eq_true (by kernel_rfl)) (by unfold Func.isWrapper; first | (rw [if_pos (by decide +kernel)]; kernel_rfl) | (rw [if_neg (by decide +kernel)]; exact ⟨rfl, rfl⟩))
    (fun os started H enc _ F => by rw [OpenClaim.pre_eq_preRow]; exact lifted os started H enc F)

theorem plain (f : FuncId) (fn : Func) (hf : Tryd.pinned.checked.prog.funcNamed "henkan/henkanlaw05.RomanLines" = some f) (hfn : Tryd.pinned.checked.prog.funcs[f]? = some fn) :
    false = Tryd.pinned.checked.prog.looks [] ∧ ∀ (j : Nat) t, fn.params[j]? = some t → Tryd.pinned.checked.prog.wantsStandIn t = false := by
  obtain rfl : f = 3 := Option.some.inj ((show Tryd.prog.funcNamed "henkan/henkanlaw05.RomanLines" = some 3 by kernel_rfl).symm.trans hf) |>.symm
  obtain rfl : fn = Tryd.f3 := (Option.some.inj (Tryd.func3.symm.trans hfn)).symm
  refine ⟨by kernel_rfl, fun j t ht => ?_⟩
  rw [Tryd.params3] at ht
  have hm := Array.mem_of_getElem? ht
  simp only [List.mem_toArray, List.mem_cons, List.not_mem_nil, or_false] at hm
  rcases hm with rfl | rfl | rfl
  · exact (show Tryd.prog.wantsStandIn 9 = false by kernel_rfl)
  · exact (show Tryd.prog.wantsStandIn 22 = false by kernel_rfl)
  · exact (show Tryd.prog.wantsStandIn 4 = false by kernel_rfl)

/-- the card -/
theorem proved : Rows.RomanLinesCardSaid :=
  Claim7.holds_tied_plain_at .later [] _ _ _ _ said (fun _ h => by cases h) (by kernel_rfl) (fun _ h => by cases h) romanLines_row_tie rfl ⟨rfl, rfl⟩ (by kernel_rfl) rfl plain (by kernel_rfl)
#print axioms proved
end Go.Proofs.YtgdcffahhpeibaaDoor.romanLines
