/-
  Texts merged (the edits of the document; Flush; typed): CpRIns, CpREdit, CpRPut, CpFlush, CpRFlush, CpWTyped.
-/
import Derived.Test.YtgdcffahhpeibaaGreatDoorCpC
import Derived.Laws.Cover4
namespace Go.Proofs.YtgdcffahhpeibaaGreatDoor
open Go.RowKit
theorem runes_cells {B : Nat} {v : Value} {rs : List Nat} {w : World} (h : RunesAt B v rs w) : ∃ ao cap, v = .slice ao rs.length cap ∧ rs.length ≤ cap ∧ ∀ (i c : Nat), rs[i]? = some c → ∃ g, ao = some ⟨g, 0, none⟩ ∧ B ≤ g ∧ w.cell? ⟨g, i, none⟩ = some (.int .i32 (c : Int)) := by
  by_cases h0 : rs = []
  · subst h0
    obtain ⟨h1, ⟨rfl, hn⟩ | ⟨g, cap, cur, rfl, hB, hg, hc, hm, hs, ht⟩⟩ := h
    · exact ⟨none, 0, rfl, Nat.le_refl _, fun i c hi => by simp at hi⟩
    · exact ⟨_, cap, rfl, Nat.zero_le _, fun i c hi => by simp at hi⟩
  · obtain ⟨g, cap, hv, hB, _, hc, hx, _, _⟩ := Own1.at h (by unfold runeC; intro e; exact h0 (List.map_eq_nil_iff.1 e))
    have hl : (runeC rs).length = rs.length := by unfold runeC; rw [List.length_map]
    rw [hl] at hv hc
    exact ⟨_, cap, hv, hc, fun i c hi => ⟨g, rfl, hB, hx i _ (by unfold runeC; rw [List.getElem?_map, hi]; rfl)⟩⟩
theorem runesBytes_one (c : Nat) (hc : UT.isCh c = true) : runesBytes [(c : Int)] = ba (Lib.encodeRune (c : Int)) := by
  unfold runesBytes
  simp only [List.foldl_cons, List.foldl_nil]
  rw [encode_ba hc]
  exact ByteArray.empty_append
theorem conv_rune {w : World} {g i cap : Nat} {c : Nat} (hc : UT.isCh c = true) (h : w.cell? ⟨g, i, none⟩ = some (.int .i32 (c : Int))) :
    (convert 77 9 (.slice (some ⟨g, i, none⟩) 1 cap)).run Tryz.prog w = .ok (.string (ba (Lib.encodeRune (c : Int)))) w := by
  have := run_convert_runes (P := Tryz.prog) w 77 9 21 ⟨g, i, none⟩ 1 cap [(c : Int)] (by simp) Tryz.underlying77 Tryz.underlying21 Tryz.underlying9 (fun j hj => by
    have : j = 0 := by simp at hj; omega
    subst this
    exact h)
  rw [show [(c : Int)].take 1 = [(c : Int)] from rfl, runesBytes_one c hc] at this
  exact this
set_option maxRecDepth 100000 in
set_option maxHeartbeats 16000000 in
theorem rinsert_any (v : Value) (xs : List Cp.Item) (k : Nat) (p : ByteArray) (rb ob : ByteArray) (rl ol : List UInt8) (w : World) (h : LieG itemE v xs w) (hr : Is rb rl) (ho : Is ob ol) (hvd : Lib.validD ol = true) (hk : k ≤ xs.length) (hn : xs.length ≤ 64) (hoz : ob.size ≤ 2000000) (m : Nat) (hm : (UT.runes ol).length = m) :
    Calls Tryz.prog 66 #[bufV v k p, .string rb, .string ob] w fun e w' => ((64 < xs.length + m ∧ e = .returned (.tuple #[bufV (.slice none 0 0) 0 ⟨#[]⟩, .bool false])) ∨ (xs.length + m ≤ 64 ∧ ∃ v', e = .returned (.tuple #[bufV v' ((k + m : Nat) : Int) p, .bool true]) ∧ OwnG itemE 111 w.heap.size v' (xs.take k ++ (Cp.mkItems rl (UT.runes ol) ++ xs.drop k)) w')) ∧ Below w.heap.size w w' := by
  obtain rfl := hr.ba
  have HO := Lib.hid ho
  have HVD := Eqq.mk hvd
  have HMM := Eqq.mk hm
  have hmz : m ≤ 2000000 := by have := UT.runes_len ol.length ol (Nat.le_refl _); have := ho.size; omega
  have HCH := Lib.hid (Cp.runes_ch ol)
  obtain ⟨ao, cap, rfl, hcap, hno, hsp, _⟩ := id h
  obtain ⟨n, hnn⟩ : ∃ n, xs.length = n := ⟨_, rfl⟩
  have HN := Eqq.mk hnn
  rw [hnn] at hcap hk hn h ⊢
  cases ao with
  | none =>
    obtain hc0 : cap = 0 := hno rfl
    obtain rfl : n = 0 := by omega
    obtain rfl : k = 0 := by omega
    subst hc0
    have z9 : ((0 : Nat) : Int) = 0 := rfl
    rw [z9]
    have HX0 := Eqq.mk (show xs = [] from List.eq_nil_of_length_eq_zero HN.out)
    have HTA := Lib.hid (show SrcG itemE (.slice none 0 0) (xs.take 0) w from by rw [List.take_zero]; exact .inl ⟨rfl, rfl⟩)
    have HDA := Lib.hid (show SrcG itemE (.slice none 0 0) (xs.drop 0) w from by rw [HX0.out]; exact .inl ⟨rfl, rfl⟩)
    clear z9 hno hsp hcap hk hn hnn
    obtain ⟨S, hS⟩ : ∃ S, w.heap.size = S := ⟨_, rfl⟩
    have HS := Eqq.mk hS
    have hw0 := Rows2.new 42 (.slice none 0 0) 0 p w hS
    obtain ⟨W0, hW0⟩ : ∃ W0, (w.alloc (.cells #[.slice none 0 0, .int .i64 0, .string p] 42)).alloc (.cells #[.slice none 0 0, .int .i64 0, .string ⟨#[]⟩] 42) = W0 := ⟨_, rfl⟩
    rw [hW0] at hw0
    have HW0 := Lib.hid hw0
    have HW := Eqq.mk hW0
    clear hw0 hW0 h ho hm hvd
    go_enter Tryz.func66, Tryz.ntmps66
    go_wp2_with fail
    try rw [hS]
    rw [HW.out]
    with_reducible refine (runes_any ob ol W0 HO.out (by omega)).mono ?_
    rintro e w1 ⟨hb, hru⟩
    rcases hru with ⟨hbad, _⟩ | ⟨_, v1, hr1, rfl⟩
    · rw [HVD.out] at hbad; cases hbad
    obtain ⟨ar, capr, hvr, hcr, hrc⟩ := runes_cells hr1
    rw [HMM.out] at hvr hcr
    subst hvr
    have HRC := Lib.hid hrc
    have HW1 := Lib.hid (HW0.out.keep hb)
    have HB1 := Lib.hid (HW1.out.b)
    obtain ⟨N, hN⟩ : ∃ N, w1.heap.size = N := ⟨_, rfl⟩
    have HNN := Eqq.mk hN
    have hSN : S + 1 + 1 ≤ N := by rw [← hN]; exact HW1.out.sz
    have HTK := Lib.hid (HTA.out.below (show Below S w w1 from HW1.out.b) (by omega))
    have HDR := Lib.hid (HDA.out.below (show Below S w w1 from HW1.out.b) (by omega))
    have HBN := Lib.hid (fun (W : World) (hW : Below N w1 W) => HW1.out.go (hW.mono hSN))
    obtain ⟨⟨c0, c1, c2⟩, _⟩ := three_cells HW1.out.r0
    obtain ⟨⟨m0, m1, m2⟩, g0, g1, g2⟩ := three_cells HW1.out.r1
    clear hb hr1 hrc hN
    by_cases hfu : 64 < 0 + m
    · have HFU := Lib.hid hfu
      have d0 : (64 : Int) < (m : Int) := by omega
      have d9 : (m : Int) ≤ 3000000 := by omega
      have HE := Lib.hid (HW1.out.out (.slice none 0 0) 0 ⟨#[]⟩)
      clear hfu
      go_wp2_with fail
      (try simp only [Exit.inBlock, Exit.then])
      refine bodyPost_ret (results_row_tmp rfl _ _ (S + 1) 42 #[.slice none 0 0, .int .i64 0, .string ⟨#[]⟩] (0, 0) _ (.bool false) (by rfl) (by rfl) HE.out.1 Tryz.underlying42 (by rfl) (by kernel_rfl)) rfl ?_
      rw [HS.out]
      exact ⟨.inl ⟨HFU.out, rfl⟩, HE.out.2⟩
    have HFU := Lib.hid (show 0 + m ≤ 64 by omega)
    have d0 : ¬ (64 : Int) < (m : Int) := by omega
    have d1 : (m : Int) ≤ 64 := by omega
    have hlt : (xs.take 0).length ≤ 64 := by rw [List.length_take, HN.out]; omega
    have hm64 : m ≤ 64 := by omega
    have HBW := Lib.hid (Below.refl N w1)
    clear hfu
    go_wp2_with (at_builtin; refine wpList_append_g item8App _ rfl _ _ rfl N _ [] rfl (OwnG.nil _ _ _) _ (xs.take 0) rfl HTK.out (by unfold maxLen; simp only [List.length_nil]; omega) (by show (0 + _) * 32 ≤ _; omega) (by rw [HNN.out]; exact Nat.le_refl _) ?_)
    intro v2 w2 ho2 hg2
    have ho2' : OwnG itemE 111 N v2 (xs.take 0) w2 := ho2
    have HO2 := Lib.hid ho2'
    have HB2 := Lib.hid ((Below.refl N w1).grown hg2 (by rw [HNN.out]; exact Nat.le_refl _) (fun k hk => by cases hk))
    clear ho2 ho2' hg2 c0 c1 c2 m0 m1 m2 g0 g1 g2
    go_wp2_with fail
    go_loopw [1, 10, 11] (fun rv lv iv W => ∃ (i : Nat) (rl' : List UInt8) (zs : List Cp.Item), i ≤ m ∧ zs.length = i ∧ iv = .int .i64 i ∧ rv = .string (ba rl') ∧ OwnG itemE 111 N lv (xs.take 0 ++ zs) W ∧ Eqq (Cp.mkItems rl (UT.runes ol)) (zs ++ Cp.mkItems rl' ((UT.runes ol).drop i)) ∧ Below N w1 W) (fun _ _ iv _ => m - (intOf iv).toNat)
    case atStart => exact ⟨0, rl, [], Nat.zero_le _, rfl, rfl, rfl, by rw [List.append_nil]; exact HO2.out, ⟨rfl⟩, HB2.out⟩
    case round =>
      obtain ⟨i, rl', zs, hi, hzs, rfl, rfl, ho, HEQ, hb⟩ := hrel
      have HOW := Lib.hid ho
      have HBI := Lib.hid hb
      have hsz9 : N ≤ wr.heap.size := by have := hb.size; rw [HNN.out] at this; exact this
      by_cases hlt2 : i < m
      · obtain ⟨c, hc⟩ : ∃ c, (UT.runes ol)[i]? = some c := ⟨_, List.getElem?_eq_getElem (by rw [HMM.out]; exact hlt2)⟩
        obtain ⟨gr, rfl, hgr, hcc⟩ := HRC.out i c hc
        have hch := HCH.out c (List.mem_of_getElem? hc)
        have hcw : wr.cell? ⟨gr, i, none⟩ = some (.int .i32 (c : Int)) := below_cellU hcc hb (Nat.le_of_eq HNN.out)
        have hcv : ∀ q, (convert 77 9 (.slice (some ⟨gr, i, none⟩) 1 q)).run Tryz.prog wr = _ := fun q => conv_rune hch hcw
        obtain ⟨eb, heb⟩ : ∃ eb, ba (Lib.encodeRune (c : Int)) = eb := ⟨_, rfl⟩
        have HEB := Eqq.mk heb
        rw [heb] at hcv
        obtain ⟨rb9, hrb⟩ : ∃ rb9, ba rl' = rb9 := ⟨_, rfl⟩
        have HRB := Eqq.mk hrb
        rw [hrb]
        have hdr : (UT.runes ol).drop i = c :: (UT.runes ol).drop (i + 1) := by
          have hil : i < (UT.runes ol).length := by rw [HMM.out]; exact hlt2
          rw [List.getElem?_eq_getElem hil] at hc
          injection hc with hc
          rw [← hc]; exact List.drop_eq_getElem_cons hil
        have HEN := Eqq.mk (show Cp.mkItems rl (UT.runes ol) = (zs ++ [(rl', Lib.encodeRune (c : Int))]) ++ Cp.mkItems [] ((UT.runes ol).drop (i + 1)) by rw [HEQ.out, hdr, mk_cons, List.append_assoc]; rfl)
        have HZS := Eqq.mk hzs
        have hal : (xs.take 0 ++ zs).length ≤ 128 := by rw [List.length_append]; omega
        have q1 : (i : Int) < (m : Int) := by omega
        have q2 : (0 : Int) ≤ (i : Int) := by omega
        have q3 : (i : Int) + 1 ≤ (m : Int) := by omega
        have q4 : (i : Int) + 1 ≤ (capr : Int) := by omega
        have q5 : ¬ capr = i := by omega
        have q6 : ¬ (capr : Int) = (i : Int) := by omega
        have HOA := Lib.hid (ho.alloc (.cells #[.string rb9, .string eb] 111))
        have HBJ := Lib.hid ((hb.alloc hsz9 (.cells #[.string rb9, .string eb] 111)))
        clear hc hcc hch hcw heb hrb hdr hzs ho hb
        try clear hcap
        go_wp2_with (at_builtin; refine wpList_append_g item8App _ rfl _ _ rfl N _ _ rfl HOA.out _ [(rl', Lib.encodeRune (c : Int))] rfl (SrcG.one (fun jj u hu => by
                have hu' : ([.string (ba rl'), .string (ba (Lib.encodeRune (c : Int)))] : List Value)[jj]? = some u := hu
                rw [HRB.out, HEB.out] at hu'
                exact new_cells wr [.string rb9, .string eb] _ jj u hu')) (by unfold maxLen; simp only [List.length_singleton]; omega) (by show (_ + 1) * 32 ≤ _; omega) (by rw [World.size_alloc]; omega) ?_)
        intro v3 w3 ho3 hg3
        have HO3 := Lib.hid ho3
        have HB3 := Lib.hid (HBJ.out.grown hg3 (by rw [World.size_alloc]; omega) (fun k hk => (HOA.out.block_lt k hk).1))
        clear ho3 hg3
        go_wp2_with fail
        go_roundw
        case rel => exact ⟨i + 1, [], zs ++ [(rl', Lib.encodeRune (c : Int))], by omega, by rw [List.length_append, HZS.out]; rfl, by go_num, rfl, by first | exact HO3.out | (rw [← List.append_assoc]; exact HO3.out), HEN, HB3.out⟩
        case measure => simp [intOf]; omega
      · obtain rfl : i = m := by omega
        have HEN := Eqq.mk (show Cp.mkItems rl (UT.runes ol) = zs by rw [HEQ.out, List.drop_eq_nil_of_le (by rw [HMM.out]; exact Nat.le_refl _)]; exact List.append_nil zs)
        have hal : (xs.take 0 ++ zs).length ≤ 128 := by rw [List.length_append]; omega
        have hdl : (xs.drop 0).length ≤ 64 := by rw [List.length_drop, HN.out]; omega
        have HWW := Lib.hid (HBN.out _ hb)
        have HDW := Lib.hid (HDR.out.below hb (Nat.le_of_eq HNN.out))
        obtain ⟨⟨c0, c1, c2⟩, _⟩ := three_cells HWW.out.r0
        clear ho hb hzs
        go_wp2_with (at_builtin; refine wpList_append_g item8App _ rfl _ _ rfl N _ _ rfl HOW.out _ (xs.drop 0) rfl HDW.out (by unfold maxLen; omega) (by show (_ + _) * 32 ≤ _; omega) hsz9 ?_)
        intro v3 w3 ho3 hg3
        have ho3' : OwnG itemE 111 N v3 (xs.take 0 ++ zs ++ xs.drop 0) w3 := by first | exact ho3 | (rw [List.append_assoc]; exact ho3)
        have HB3 := Lib.hid (HBI.out.grown hg3 hsz9 (fun k hk => (HOW.out.block_lt k hk).1))
        have HW3 := Lib.hid (HBN.out _ HB3.out)
        obtain ⟨n3, hn3⟩ : ∃ n3, (xs.take 0 ++ zs ++ xs.drop 0).length = n3 := ⟨_, rfl⟩
        obtain ⟨a3, q3, hvf⟩ := ho3'.frame
        rw [hn3] at hvf
        subst hvf
        obtain ⟨⟨c0, c1, c2⟩, _⟩ := three_cells HW3.out.r0
        obtain ⟨⟨m0, m1, m2⟩, g0, g1, g2⟩ := three_cells HW3.out.r1
        have HE := Lib.hid (HW3.out.out (.slice a3 n3 q3) (i : Int) p)
        have HOE := Lib.hid (three_own8 ho3' (show S + 1 < N by omega) (.slice a3 n3 q3) (.int .i64 (i : Int)) (.string p))
        clear ho3 ho3' hg3
        go_wp2_with fail
        (try simp only [Exit.inBlock, Exit.then])
        refine bodyPost_ret (results_row_tmp rfl _ _ (S + 1) 42 #[.slice a3 n3 q3, .int .i64 (i : Int), .string p] (0, 0) _ (.bool true) (by rfl) (by rfl) HE.out.1 Tryz.underlying42 (by rfl) (by kernel_rfl)) rfl ?_
        rw [HS.out, HEN.out, ← List.append_assoc]
        exact ⟨.inr ⟨HFU.out, _, by rw [Nat.zero_add], HOE.out.lower (by omega)⟩, HE.out.2⟩
  | some ad =>
    obtain ⟨g, o, rfl⟩ := hsp ad rfl
    by_cases hkc : cap = k
    · have HTA := Lib.hid (h.take hk).src
      have HDA := Lib.hid (lie_full h hk hkc).src
      have hck2 : k = cap := hkc.symm
      clear hkc hno hsp hnn
      subst hck2
      obtain ⟨S, hS⟩ : ∃ S, w.heap.size = S := ⟨_, rfl⟩
      have HS := Eqq.mk hS
      have hw0 := Rows2.new 42 (.slice (some ⟨g, o, none⟩) n k) k p w hS
      obtain ⟨W0, hW0⟩ : ∃ W0, (w.alloc (.cells #[.slice (some ⟨g, o, none⟩) n k, .int .i64 k, .string p] 42)).alloc (.cells #[.slice none 0 0, .int .i64 0, .string ⟨#[]⟩] 42) = W0 := ⟨_, rfl⟩
      rw [hW0] at hw0
      have HW0 := Lib.hid hw0
      have HW := Eqq.mk hW0
      clear hw0 hW0 h ho hm hvd
      go_enter Tryz.func66, Tryz.ntmps66
      go_wp2_with fail
      try rw [hS]
      rw [HW.out]
      with_reducible refine (runes_any ob ol W0 HO.out (by omega)).mono ?_
      rintro e w1 ⟨hb, hru⟩
      rcases hru with ⟨hbad, _⟩ | ⟨_, v1, hr1, rfl⟩
      · rw [HVD.out] at hbad; cases hbad
      obtain ⟨ar, capr, hvr, hcr, hrc⟩ := runes_cells hr1
      rw [HMM.out] at hvr hcr
      subst hvr
      have HRC := Lib.hid hrc
      have HW1 := Lib.hid (HW0.out.keep hb)
      have HB1 := Lib.hid (HW1.out.b)
      obtain ⟨N, hN⟩ : ∃ N, w1.heap.size = N := ⟨_, rfl⟩
      have HNN := Eqq.mk hN
      have hSN : S + 1 + 1 ≤ N := by rw [← hN]; exact HW1.out.sz
      have HTK := Lib.hid (HTA.out.below (show Below S w w1 from HW1.out.b) (by omega))
      have HDR := Lib.hid (HDA.out.below (show Below S w w1 from HW1.out.b) (by omega))
      have HBN := Lib.hid (fun (W : World) (hW : Below N w1 W) => HW1.out.go (hW.mono hSN))
      obtain ⟨⟨c0, c1, c2⟩, _⟩ := three_cells HW1.out.r0
      obtain ⟨⟨m0, m1, m2⟩, g0, g1, g2⟩ := three_cells HW1.out.r1
      clear hb hr1 hrc hN
      by_cases hfu : 64 < n + m
      · have HFU := Lib.hid hfu
        have d0 : (64 : Int) < (n : Int) + (m : Int) := by omega
        have d9 : (n : Int) + (m : Int) ≤ 3000000 := by omega
        have HE := Lib.hid (HW1.out.out (.slice none 0 0) 0 ⟨#[]⟩)
        clear hfu
        go_wp2_with fail
        (try simp only [Exit.inBlock, Exit.then])
        refine bodyPost_ret (results_row_tmp rfl _ _ (S + 1) 42 #[.slice none 0 0, .int .i64 0, .string ⟨#[]⟩] (0, 0) _ (.bool false) (by rfl) (by rfl) HE.out.1 Tryz.underlying42 (by rfl) (by kernel_rfl)) rfl ?_
        rw [HS.out]
        exact ⟨.inl ⟨HFU.out, rfl⟩, HE.out.2⟩
      have HFU := Lib.hid (show n + m ≤ 64 by omega)
      have d0 : ¬ (64 : Int) < (n : Int) + (m : Int) := by omega
      have d1 : (n : Int) + (m : Int) ≤ 64 := by omega
      have i1 : (k : Int) ≤ (n : Int) := by omega
      have i2 : (0 : Int) ≤ (k : Int) := by omega
      have i5 : (k : Int) + (m : Int) ≤ 64 := by omega
      have hlt : (xs.take k).length ≤ 64 := by rw [List.length_take, HN.out]; omega
      have hm64 : m ≤ 64 := by omega
      have HBW := Lib.hid (Below.refl N w1)
      clear hfu
      go_wp2_with (at_builtin; refine wpList_append_g item8App _ rfl _ _ rfl N _ [] rfl (OwnG.nil _ _ _) _ (xs.take k) rfl HTK.out (by unfold maxLen; simp only [List.length_nil]; omega) (by show (0 + _) * 32 ≤ _; omega) (by rw [HNN.out]; exact Nat.le_refl _) ?_)
      intro v2 w2 ho2 hg2
      have ho2' : OwnG itemE 111 N v2 (xs.take k) w2 := ho2
      have HO2 := Lib.hid ho2'
      have HB2 := Lib.hid ((Below.refl N w1).grown hg2 (by rw [HNN.out]; exact Nat.le_refl _) (fun k hk => by cases hk))
      clear ho2 ho2' hg2 c0 c1 c2 m0 m1 m2 g0 g1 g2
      go_wp2_with fail
      go_loopw [1, 10, 11] (fun rv lv iv W => ∃ (i : Nat) (rl' : List UInt8) (zs : List Cp.Item), i ≤ m ∧ zs.length = i ∧ iv = .int .i64 i ∧ rv = .string (ba rl') ∧ OwnG itemE 111 N lv (xs.take k ++ zs) W ∧ Eqq (Cp.mkItems rl (UT.runes ol)) (zs ++ Cp.mkItems rl' ((UT.runes ol).drop i)) ∧ Below N w1 W) (fun _ _ iv _ => m - (intOf iv).toNat)
      case atStart => exact ⟨0, rl, [], Nat.zero_le _, rfl, rfl, rfl, by rw [List.append_nil]; exact HO2.out, ⟨rfl⟩, HB2.out⟩
      case round =>
        obtain ⟨i, rl', zs, hi, hzs, rfl, rfl, ho, HEQ, hb⟩ := hrel
        have HOW := Lib.hid ho
        have HBI := Lib.hid hb
        have hsz9 : N ≤ wr.heap.size := by have := hb.size; rw [HNN.out] at this; exact this
        by_cases hlt2 : i < m
        · obtain ⟨c, hc⟩ : ∃ c, (UT.runes ol)[i]? = some c := ⟨_, List.getElem?_eq_getElem (by rw [HMM.out]; exact hlt2)⟩
          obtain ⟨gr, rfl, hgr, hcc⟩ := HRC.out i c hc
          have hch := HCH.out c (List.mem_of_getElem? hc)
          have hcw : wr.cell? ⟨gr, i, none⟩ = some (.int .i32 (c : Int)) := below_cellU hcc hb (Nat.le_of_eq HNN.out)
          have hcv : ∀ q, (convert 77 9 (.slice (some ⟨gr, i, none⟩) 1 q)).run Tryz.prog wr = _ := fun q => conv_rune hch hcw
          obtain ⟨eb, heb⟩ : ∃ eb, ba (Lib.encodeRune (c : Int)) = eb := ⟨_, rfl⟩
          have HEB := Eqq.mk heb
          rw [heb] at hcv
          obtain ⟨rb9, hrb⟩ : ∃ rb9, ba rl' = rb9 := ⟨_, rfl⟩
          have HRB := Eqq.mk hrb
          rw [hrb]
          have hdr : (UT.runes ol).drop i = c :: (UT.runes ol).drop (i + 1) := by
            have hil : i < (UT.runes ol).length := by rw [HMM.out]; exact hlt2
            rw [List.getElem?_eq_getElem hil] at hc
            injection hc with hc
            rw [← hc]; exact List.drop_eq_getElem_cons hil
          have HEN := Eqq.mk (show Cp.mkItems rl (UT.runes ol) = (zs ++ [(rl', Lib.encodeRune (c : Int))]) ++ Cp.mkItems [] ((UT.runes ol).drop (i + 1)) by rw [HEQ.out, hdr, mk_cons, List.append_assoc]; rfl)
          have HZS := Eqq.mk hzs
          have hal : (xs.take k ++ zs).length ≤ 128 := by rw [List.length_append]; omega
          have q1 : (i : Int) < (m : Int) := by omega
          have q2 : (0 : Int) ≤ (i : Int) := by omega
          have q3 : (i : Int) + 1 ≤ (m : Int) := by omega
          have q4 : (i : Int) + 1 ≤ (capr : Int) := by omega
          have q5 : ¬ capr = i := by omega
          have q6 : ¬ (capr : Int) = (i : Int) := by omega
          have HOA := Lib.hid (ho.alloc (.cells #[.string rb9, .string eb] 111))
          have HBJ := Lib.hid ((hb.alloc hsz9 (.cells #[.string rb9, .string eb] 111)))
          clear hc hcc hch hcw heb hrb hdr hzs ho hb
          try clear hcap
          go_wp2_with (at_builtin; refine wpList_append_g item8App _ rfl _ _ rfl N _ _ rfl HOA.out _ [(rl', Lib.encodeRune (c : Int))] rfl (SrcG.one (fun jj u hu => by
                  have hu' : ([.string (ba rl'), .string (ba (Lib.encodeRune (c : Int)))] : List Value)[jj]? = some u := hu
                  rw [HRB.out, HEB.out] at hu'
                  exact new_cells wr [.string rb9, .string eb] _ jj u hu')) (by unfold maxLen; simp only [List.length_singleton]; omega) (by show (_ + 1) * 32 ≤ _; omega) (by rw [World.size_alloc]; omega) ?_)
          intro v3 w3 ho3 hg3
          have HO3 := Lib.hid ho3
          have HB3 := Lib.hid (HBJ.out.grown hg3 (by rw [World.size_alloc]; omega) (fun k hk => (HOA.out.block_lt k hk).1))
          clear ho3 hg3
          go_wp2_with fail
          go_roundw
          case rel => exact ⟨i + 1, [], zs ++ [(rl', Lib.encodeRune (c : Int))], by omega, by rw [List.length_append, HZS.out]; rfl, by go_num, rfl, by first | exact HO3.out | (rw [← List.append_assoc]; exact HO3.out), HEN, HB3.out⟩
          case measure => simp [intOf]; omega
        · obtain rfl : i = m := by omega
          have HEN := Eqq.mk (show Cp.mkItems rl (UT.runes ol) = zs by rw [HEQ.out, List.drop_eq_nil_of_le (by rw [HMM.out]; exact Nat.le_refl _)]; exact List.append_nil zs)
          have hal : (xs.take k ++ zs).length ≤ 128 := by rw [List.length_append]; omega
          have hdl : (xs.drop k).length ≤ 64 := by rw [List.length_drop, HN.out]; omega
          have HWW := Lib.hid (HBN.out _ hb)
          have HDW := Lib.hid (HDR.out.below hb (Nat.le_of_eq HNN.out))
          obtain ⟨⟨c0, c1, c2⟩, _⟩ := three_cells HWW.out.r0
          clear ho hb hzs
          go_wp2_with (at_builtin; refine wpList_append_g item8App _ rfl _ _ rfl N _ _ rfl HOW.out _ (xs.drop k) rfl HDW.out (by unfold maxLen; omega) (by show (_ + _) * 32 ≤ _; omega) hsz9 ?_)
          intro v3 w3 ho3 hg3
          have ho3' : OwnG itemE 111 N v3 (xs.take k ++ zs ++ xs.drop k) w3 := by first | exact ho3 | (rw [List.append_assoc]; exact ho3)
          have HB3 := Lib.hid (HBI.out.grown hg3 hsz9 (fun k hk => (HOW.out.block_lt k hk).1))
          have HW3 := Lib.hid (HBN.out _ HB3.out)
          obtain ⟨n3, hn3⟩ : ∃ n3, (xs.take k ++ zs ++ xs.drop k).length = n3 := ⟨_, rfl⟩
          obtain ⟨a3, q3, hvf⟩ := ho3'.frame
          rw [hn3] at hvf
          subst hvf
          obtain ⟨⟨c0, c1, c2⟩, _⟩ := three_cells HW3.out.r0
          obtain ⟨⟨m0, m1, m2⟩, g0, g1, g2⟩ := three_cells HW3.out.r1
          have HE := Lib.hid (HW3.out.out (.slice a3 n3 q3) ((k : Int) + (i : Int)) p)
          have HOE := Lib.hid (three_own8 ho3' (show S + 1 < N by omega) (.slice a3 n3 q3) (.int .i64 ((k : Int) + (i : Int))) (.string p))
          clear ho3 ho3' hg3
          go_wp2_with fail
          (try simp only [Exit.inBlock, Exit.then])
          refine bodyPost_ret (results_row_tmp rfl _ _ (S + 1) 42 #[.slice a3 n3 q3, .int .i64 ((k : Int) + (i : Int)), .string p] (0, 0) _ (.bool true) (by rfl) (by rfl) HE.out.1 Tryz.underlying42 (by rfl) (by kernel_rfl)) rfl ?_
          rw [HS.out, HEN.out, ← List.append_assoc]
          exact ⟨.inr ⟨HFU.out, _, by rw [show ((k + i : Nat) : Int) = (k : Int) + (i : Int) by omega], HOE.out.lower (by omega)⟩, HE.out.2⟩
    · have HTA := Lib.hid (h.take hk).src
      have HDA := Lib.hid (h.drop hk).src
      have e1 : ¬ (cap : Int) - (k : Int) = 0 := by omega
      clear hkc hno hsp hnn
      obtain ⟨S, hS⟩ : ∃ S, w.heap.size = S := ⟨_, rfl⟩
      have HS := Eqq.mk hS
      have hw0 := Rows2.new 42 (.slice (some ⟨g, o, none⟩) n cap) k p w hS
      obtain ⟨W0, hW0⟩ : ∃ W0, (w.alloc (.cells #[.slice (some ⟨g, o, none⟩) n cap, .int .i64 k, .string p] 42)).alloc (.cells #[.slice none 0 0, .int .i64 0, .string ⟨#[]⟩] 42) = W0 := ⟨_, rfl⟩
      rw [hW0] at hw0
      have HW0 := Lib.hid hw0
      have HW := Eqq.mk hW0
      clear hw0 hW0 h ho hm hvd
      go_enter Tryz.func66, Tryz.ntmps66
      go_wp2_with fail
      try rw [hS]
      rw [HW.out]
      with_reducible refine (runes_any ob ol W0 HO.out (by omega)).mono ?_
      rintro e w1 ⟨hb, hru⟩
      rcases hru with ⟨hbad, _⟩ | ⟨_, v1, hr1, rfl⟩
      · rw [HVD.out] at hbad; cases hbad
      obtain ⟨ar, capr, hvr, hcr, hrc⟩ := runes_cells hr1
      rw [HMM.out] at hvr hcr
      subst hvr
      have HRC := Lib.hid hrc
      have HW1 := Lib.hid (HW0.out.keep hb)
      have HB1 := Lib.hid (HW1.out.b)
      obtain ⟨N, hN⟩ : ∃ N, w1.heap.size = N := ⟨_, rfl⟩
      have HNN := Eqq.mk hN
      have hSN : S + 1 + 1 ≤ N := by rw [← hN]; exact HW1.out.sz
      have HTK := Lib.hid (HTA.out.below (show Below S w w1 from HW1.out.b) (by omega))
      have HDR := Lib.hid (HDA.out.below (show Below S w w1 from HW1.out.b) (by omega))
      have HBN := Lib.hid (fun (W : World) (hW : Below N w1 W) => HW1.out.go (hW.mono hSN))
      obtain ⟨⟨c0, c1, c2⟩, _⟩ := three_cells HW1.out.r0
      obtain ⟨⟨m0, m1, m2⟩, g0, g1, g2⟩ := three_cells HW1.out.r1
      clear hb hr1 hrc hN
      by_cases hfu : 64 < n + m
      · have HFU := Lib.hid hfu
        have d0 : (64 : Int) < (n : Int) + (m : Int) := by omega
        have d9 : (n : Int) + (m : Int) ≤ 3000000 := by omega
        have HE := Lib.hid (HW1.out.out (.slice none 0 0) 0 ⟨#[]⟩)
        clear hfu
        go_wp2_with fail
        (try simp only [Exit.inBlock, Exit.then])
        refine bodyPost_ret (results_row_tmp rfl _ _ (S + 1) 42 #[.slice none 0 0, .int .i64 0, .string ⟨#[]⟩] (0, 0) _ (.bool false) (by rfl) (by rfl) HE.out.1 Tryz.underlying42 (by rfl) (by kernel_rfl)) rfl ?_
        rw [HS.out]
        exact ⟨.inl ⟨HFU.out, rfl⟩, HE.out.2⟩
      have HFU := Lib.hid (show n + m ≤ 64 by omega)
      have d0 : ¬ (64 : Int) < (n : Int) + (m : Int) := by omega
      have d1 : (n : Int) + (m : Int) ≤ 64 := by omega
      have i1 : (k : Int) ≤ (n : Int) := by omega
      have i2 : (0 : Int) ≤ (k : Int) := by omega
      have i5 : (k : Int) + (m : Int) ≤ 64 := by omega
      have i3 : (k : Int) ≤ (cap : Int) := by omega
      have hlt : (xs.take k).length ≤ 64 := by rw [List.length_take, HN.out]; omega
      have hm64 : m ≤ 64 := by omega
      have HBW := Lib.hid (Below.refl N w1)
      clear hfu
      go_wp2_with (at_builtin; refine wpList_append_g item8App _ rfl _ _ rfl N _ [] rfl (OwnG.nil _ _ _) _ (xs.take k) rfl HTK.out (by unfold maxLen; simp only [List.length_nil]; omega) (by show (0 + _) * 32 ≤ _; omega) (by rw [HNN.out]; exact Nat.le_refl _) ?_)
      intro v2 w2 ho2 hg2
      have ho2' : OwnG itemE 111 N v2 (xs.take k) w2 := ho2
      have HO2 := Lib.hid ho2'
      have HB2 := Lib.hid ((Below.refl N w1).grown hg2 (by rw [HNN.out]; exact Nat.le_refl _) (fun k hk => by cases hk))
      clear ho2 ho2' hg2 c0 c1 c2 m0 m1 m2 g0 g1 g2
      go_wp2_with fail
      go_loopw [1, 10, 11] (fun rv lv iv W => ∃ (i : Nat) (rl' : List UInt8) (zs : List Cp.Item), i ≤ m ∧ zs.length = i ∧ iv = .int .i64 i ∧ rv = .string (ba rl') ∧ OwnG itemE 111 N lv (xs.take k ++ zs) W ∧ Eqq (Cp.mkItems rl (UT.runes ol)) (zs ++ Cp.mkItems rl' ((UT.runes ol).drop i)) ∧ Below N w1 W) (fun _ _ iv _ => m - (intOf iv).toNat)
      case atStart => exact ⟨0, rl, [], Nat.zero_le _, rfl, rfl, rfl, by rw [List.append_nil]; exact HO2.out, ⟨rfl⟩, HB2.out⟩
      case round =>
        obtain ⟨i, rl', zs, hi, hzs, rfl, rfl, ho, HEQ, hb⟩ := hrel
        have HOW := Lib.hid ho
        have HBI := Lib.hid hb
        have hsz9 : N ≤ wr.heap.size := by have := hb.size; rw [HNN.out] at this; exact this
        by_cases hlt2 : i < m
        · obtain ⟨c, hc⟩ : ∃ c, (UT.runes ol)[i]? = some c := ⟨_, List.getElem?_eq_getElem (by rw [HMM.out]; exact hlt2)⟩
          obtain ⟨gr, rfl, hgr, hcc⟩ := HRC.out i c hc
          have hch := HCH.out c (List.mem_of_getElem? hc)
          have hcw : wr.cell? ⟨gr, i, none⟩ = some (.int .i32 (c : Int)) := below_cellU hcc hb (Nat.le_of_eq HNN.out)
          have hcv : ∀ q, (convert 77 9 (.slice (some ⟨gr, i, none⟩) 1 q)).run Tryz.prog wr = _ := fun q => conv_rune hch hcw
          obtain ⟨eb, heb⟩ : ∃ eb, ba (Lib.encodeRune (c : Int)) = eb := ⟨_, rfl⟩
          have HEB := Eqq.mk heb
          rw [heb] at hcv
          obtain ⟨rb9, hrb⟩ : ∃ rb9, ba rl' = rb9 := ⟨_, rfl⟩
          have HRB := Eqq.mk hrb
          rw [hrb]
          have hdr : (UT.runes ol).drop i = c :: (UT.runes ol).drop (i + 1) := by
            have hil : i < (UT.runes ol).length := by rw [HMM.out]; exact hlt2
            rw [List.getElem?_eq_getElem hil] at hc
            injection hc with hc
            rw [← hc]; exact List.drop_eq_getElem_cons hil
          have HEN := Eqq.mk (show Cp.mkItems rl (UT.runes ol) = (zs ++ [(rl', Lib.encodeRune (c : Int))]) ++ Cp.mkItems [] ((UT.runes ol).drop (i + 1)) by rw [HEQ.out, hdr, mk_cons, List.append_assoc]; rfl)
          have HZS := Eqq.mk hzs
          have hal : (xs.take k ++ zs).length ≤ 128 := by rw [List.length_append]; omega
          have q1 : (i : Int) < (m : Int) := by omega
          have q2 : (0 : Int) ≤ (i : Int) := by omega
          have q3 : (i : Int) + 1 ≤ (m : Int) := by omega
          have q4 : (i : Int) + 1 ≤ (capr : Int) := by omega
          have q5 : ¬ capr = i := by omega
          have q6 : ¬ (capr : Int) = (i : Int) := by omega
          have HOA := Lib.hid (ho.alloc (.cells #[.string rb9, .string eb] 111))
          have HBJ := Lib.hid ((hb.alloc hsz9 (.cells #[.string rb9, .string eb] 111)))
          clear hc hcc hch hcw heb hrb hdr hzs ho hb
          try clear hcap
          go_wp2_with (at_builtin; refine wpList_append_g item8App _ rfl _ _ rfl N _ _ rfl HOA.out _ [(rl', Lib.encodeRune (c : Int))] rfl (SrcG.one (fun jj u hu => by
                  have hu' : ([.string (ba rl'), .string (ba (Lib.encodeRune (c : Int)))] : List Value)[jj]? = some u := hu
                  rw [HRB.out, HEB.out] at hu'
                  exact new_cells wr [.string rb9, .string eb] _ jj u hu')) (by unfold maxLen; simp only [List.length_singleton]; omega) (by show (_ + 1) * 32 ≤ _; omega) (by rw [World.size_alloc]; omega) ?_)
          intro v3 w3 ho3 hg3
          have HO3 := Lib.hid ho3
          have HB3 := Lib.hid (HBJ.out.grown hg3 (by rw [World.size_alloc]; omega) (fun k hk => (HOA.out.block_lt k hk).1))
          clear ho3 hg3
          go_wp2_with fail
          go_roundw
          case rel => exact ⟨i + 1, [], zs ++ [(rl', Lib.encodeRune (c : Int))], by omega, by rw [List.length_append, HZS.out]; rfl, by go_num, rfl, by first | exact HO3.out | (rw [← List.append_assoc]; exact HO3.out), HEN, HB3.out⟩
          case measure => simp [intOf]; omega
        · obtain rfl : i = m := by omega
          have HEN := Eqq.mk (show Cp.mkItems rl (UT.runes ol) = zs by rw [HEQ.out, List.drop_eq_nil_of_le (by rw [HMM.out]; exact Nat.le_refl _)]; exact List.append_nil zs)
          have hal : (xs.take k ++ zs).length ≤ 128 := by rw [List.length_append]; omega
          have hdl : (xs.drop k).length ≤ 64 := by rw [List.length_drop, HN.out]; omega
          have HWW := Lib.hid (HBN.out _ hb)
          have HDW := Lib.hid (HDR.out.below hb (Nat.le_of_eq HNN.out))
          obtain ⟨⟨c0, c1, c2⟩, _⟩ := three_cells HWW.out.r0
          clear ho hb hzs
          go_wp2_with (at_builtin; refine wpList_append_g item8App _ rfl _ _ rfl N _ _ rfl HOW.out _ (xs.drop k) rfl HDW.out (by unfold maxLen; omega) (by show (_ + _) * 32 ≤ _; omega) hsz9 ?_)
          intro v3 w3 ho3 hg3
          have ho3' : OwnG itemE 111 N v3 (xs.take k ++ zs ++ xs.drop k) w3 := by first | exact ho3 | (rw [List.append_assoc]; exact ho3)
          have HB3 := Lib.hid (HBI.out.grown hg3 hsz9 (fun k hk => (HOW.out.block_lt k hk).1))
          have HW3 := Lib.hid (HBN.out _ HB3.out)
          obtain ⟨n3, hn3⟩ : ∃ n3, (xs.take k ++ zs ++ xs.drop k).length = n3 := ⟨_, rfl⟩
          obtain ⟨a3, q3, hvf⟩ := ho3'.frame
          rw [hn3] at hvf
          subst hvf
          obtain ⟨⟨c0, c1, c2⟩, _⟩ := three_cells HW3.out.r0
          obtain ⟨⟨m0, m1, m2⟩, g0, g1, g2⟩ := three_cells HW3.out.r1
          have HE := Lib.hid (HW3.out.out (.slice a3 n3 q3) ((k : Int) + (i : Int)) p)
          have HOE := Lib.hid (three_own8 ho3' (show S + 1 < N by omega) (.slice a3 n3 q3) (.int .i64 ((k : Int) + (i : Int))) (.string p))
          clear ho3 ho3' hg3
          go_wp2_with fail
          (try simp only [Exit.inBlock, Exit.then])
          refine bodyPost_ret (results_row_tmp rfl _ _ (S + 1) 42 #[.slice a3 n3 q3, .int .i64 ((k : Int) + (i : Int)), .string p] (0, 0) _ (.bool true) (by rfl) (by rfl) HE.out.1 Tryz.underlying42 (by rfl) (by kernel_rfl)) rfl ?_
          rw [HS.out, HEN.out, ← List.append_assoc]
          exact ⟨.inr ⟨HFU.out, _, by rw [show ((k + i : Nat) : Int) = (k : Int) + (i : Int) by omega], HOE.out.lower (by omega)⟩, HE.out.2⟩
end Go.Proofs.YtgdcffahhpeibaaGreatDoor
namespace Go.Proofs.YtgdcffahhpeibaaGreatDoor
open Go.RowKit
/-- a buffer that a function of the document hands back -/
def RefR (b : Cp.Buf) (e : Ending) (w : World) : Prop := ∃ v, e = .returned (bufV v b.caret (ba b.pend)) ∧ LieG itemE v b.items w
set_option maxRecDepth 100000 in
set_option maxHeartbeats 16000000 in
theorem rdelete_any (v : Value) (xs : List Cp.Item) (c : Int) (p : ByteArray) (pl : List UInt8) (w : World) (h : LieG itemE v xs w) (hp : Is p pl) (hf : Fits xs pl) :
    Calls Tryz.prog 39 #[bufV v c p] w fun e w' => RefR (Cp.del ⟨xs, c, pl⟩) e w' ∧ Below w.heap.size w w' := by
  have HP := Lib.hid hp
  have HF := Lib.hid hf
  have HPB := Eqq.mk hp.ba
  obtain ⟨ao, cap, rfl, hcap, hno, hsp, _⟩ := id h
  obtain ⟨n, hnn⟩ : ∃ n, xs.length = n := ⟨_, rfl⟩
  have HN := Eqq.mk hnn
  rw [hnn] at h ⊢
  obtain ⟨S, hS⟩ : ∃ S, w.heap.size = S := ⟨_, rfl⟩
  have HS := Eqq.mk hS
  have hw0 := Rows2.new 42 (.slice ao n cap) c p w hS
  obtain ⟨W0, hW0⟩ : ∃ W0, (w.alloc (.cells #[.slice ao n cap, .int .i64 c, .string p] 42)).alloc (.cells #[.slice none 0 0, .int .i64 0, .string ⟨#[]⟩] 42) = W0 := ⟨_, rfl⟩
  rw [hW0] at hw0
  have HW0 := Lib.hid hw0
  have HW := Eqq.mk hW0
  have HLW := Lib.hid h
  have HL0 := Lib.hid (h.below hw0.b (by omega))
  obtain ⟨⟨c0, c1, c2⟩, _⟩ := three_cells hw0.r0
  clear h hw0 hW0 hp hf hcap hno hsp hnn
  go_enter Tryz.func39, Tryz.ntmps39
  go_wp2_with fail
  try rw [hS]
  rw [HW.out]
  with_reducible refine (rvalid_any _ xs c p pl W0 HL0.out HP.out HF.out).mono ?_
  rintro e w1 ⟨rfl, hb⟩
  have HW1 := Lib.hid (HW0.out.keep hb)
  have HL1 := Lib.hid (HL0.out.keep hb)
  clear hb c0 c1 c2
  obtain ⟨⟨c0, c1, c2⟩, f0, f1, f2⟩ := three_cells HW1.out.r0
  obtain ⟨⟨m0, m1, m2⟩, g0, g1, g2⟩ := three_cells HW1.out.r1
  obtain ⟨V, hV⟩ : ∃ V, Cp.valid ⟨xs, c, pl⟩ = V := ⟨_, rfl⟩
  have HV := Eqq.mk hV
  rw [hV]
  clear hV
  cases V
  · have HD := Eqq.mk (show Cp.del ⟨xs, c, pl⟩ = ⟨xs, c, pl⟩ by unfold Cp.del; rw [if_neg (by rw [HV.out]; simp)])
    have HE := Lib.hid (HW1.out.out (.slice ao n cap) (c) (p))
    have HLE := Lib.hid (HLW.out.below HE.out.2 (Nat.le_of_eq HS.out))
    go_wp2_with fail
    (try simp only [Exit.inBlock, Exit.then])
    refine bodyPost_ret (results_cell_row rfl _ _ (S + 1) 42 #[.slice ao n cap, .int .i64 (c), .string (p)] (0, 0) _ (by rfl) HE.out.1 Tryz.underlying42 (by rfl) (by kernel_rfl)) rfl ?_
    rw [HD.out, HS.out]
    exact ⟨⟨_, by rw [HPB.out], HLE.out⟩, HE.out.2⟩
  · obtain ⟨h64, ⟨k, rfl, hk⟩, h8, _, _⟩ := valid_parts HV.out
    rw [HN.out] at h64 hk
    by_cases hlt : k = n
    · subst hlt
      have HD := Eqq.mk (show Cp.del ⟨xs, (k : Int), pl⟩ = ⟨xs, (k : Int), pl⟩ by unfold Cp.del; rw [if_neg (by rintro ⟨_, h⟩; have h1 : (k : Int) < (xs.length : Int) := h; have h2 := HN.out; omega)])
      have HE := Lib.hid (HW1.out.out (.slice ao k cap) (k) (p))
      have HLE := Lib.hid (HLW.out.below HE.out.2 (Nat.le_of_eq HS.out))
      go_wp2_with fail
      (try simp only [Exit.inBlock, Exit.then])
      refine bodyPost_ret (results_cell_row rfl _ _ (S + 1) 42 #[.slice ao k cap, .int .i64 (k), .string (p)] (0, 0) _ (by rfl) HE.out.1 Tryz.underlying42 (by rfl) (by kernel_rfl)) rfl ?_
      rw [HD.out, HS.out]
      exact ⟨⟨_, by rw [HPB.out], HLE.out⟩, HE.out.2⟩
    · have HLT := Lib.hid (show k < xs.length by rw [HN.out]; omega)
      have H64 := Lib.hid (show xs.length ≤ 64 by rw [HN.out]; exact h64)
      have e1 : ¬ (k : Int) = (n : Int) := by omega
      have e2 : ¬ k = n := hlt
      have e3 : ((k : Int) == (n : Int)) = false := by rw [beq_eq_false_iff_ne]; exact e1
      have HD := Eqq.mk (show Cp.del ⟨xs, (k : Int), pl⟩ = ⟨xs.take k ++ xs.drop (k + 1), (k : Int), pl⟩ by unfold Cp.del; rw [if_pos ⟨HV.out, by show (k : Int) < (xs.length : Int); have := HLT.out; omega⟩]; rfl)
      clear hlt
      go_wp2_with fail
      with_reducible refine (rwithout_any _ xs _ (k : Int) p k w1 HL1.out HLT.out H64.out).mono ?_
      rintro e w2 ⟨⟨v5, rfl, ho⟩, hb⟩
      have HW2 := Lib.hid (HW1.out.keep hb)
      obtain ⟨n5, hn5⟩ : ∃ n5, (xs.take k ++ xs.drop (k + 1)).length = n5 := ⟨_, rfl⟩
      obtain ⟨a5, q5, hvf⟩ := ho.frame
      rw [hn5] at hvf
      subst hvf
      have HO := Lib.hid (three_own8 ho (show S + 1 < w1.heap.size from HW1.out.sz) (.slice a5 n5 q5) (.int .i64 k) (.string p))
      clear ho hb c0 c1 c2 m0 m1 m2 f0 f1 f2 g0 g1 g2
      obtain ⟨⟨m0, m1, m2⟩, g0, g1, g2⟩ := three_cells HW2.out.r1
      have HE := Lib.hid (HW2.out.out (.slice a5 n5 q5) (k) (p))
      have HLE := Lib.hid (HO.out.lie)
      go_wp2_with fail
      (try simp only [Exit.inBlock, Exit.then])
      refine bodyPost_ret (results_cell_row rfl _ _ (S + 1) 42 #[.slice a5 n5 q5, .int .i64 (k), .string (p)] (0, 0) _ (by rfl) HE.out.1 Tryz.underlying42 (by rfl) (by kernel_rfl)) rfl ?_
      rw [HD.out, HS.out]
      exact ⟨⟨_, by rw [HPB.out], HLE.out⟩, HE.out.2⟩
set_option maxRecDepth 100000 in
set_option maxHeartbeats 16000000 in
theorem rback_any (v : Value) (xs : List Cp.Item) (c : Int) (p : ByteArray) (pl : List UInt8) (w : World) (h : LieG itemE v xs w) (hp : Is p pl) (hf : Fits xs pl) :
    Calls Tryz.prog 37 #[bufV v c p] w fun e w' => RefR (Cp.back ⟨xs, c, pl⟩) e w' ∧ Below w.heap.size w w' := by
  have HP := Lib.hid hp
  have HF := Lib.hid hf
  have HPB := Eqq.mk hp.ba
  obtain ⟨ao, cap, rfl, hcap, hno, hsp, _⟩ := id h
  obtain ⟨n, hnn⟩ : ∃ n, xs.length = n := ⟨_, rfl⟩
  have HN := Eqq.mk hnn
  rw [hnn] at h ⊢
  obtain ⟨S, hS⟩ : ∃ S, w.heap.size = S := ⟨_, rfl⟩
  have HS := Eqq.mk hS
  have hw0 := Rows2.new 42 (.slice ao n cap) c p w hS
  obtain ⟨W0, hW0⟩ : ∃ W0, (w.alloc (.cells #[.slice ao n cap, .int .i64 c, .string p] 42)).alloc (.cells #[.slice none 0 0, .int .i64 0, .string ⟨#[]⟩] 42) = W0 := ⟨_, rfl⟩
  rw [hW0] at hw0
  have HW0 := Lib.hid hw0
  have HW := Eqq.mk hW0
  have HLW := Lib.hid h
  have HL0 := Lib.hid (h.below hw0.b (by omega))
  obtain ⟨⟨c0, c1, c2⟩, _⟩ := three_cells hw0.r0
  clear h hw0 hW0 hp hf hcap hno hsp hnn
  go_enter Tryz.func37, Tryz.ntmps37
  go_wp2_with fail
  try rw [hS]
  rw [HW.out]
  with_reducible refine (rvalid_any _ xs c p pl W0 HL0.out HP.out HF.out).mono ?_
  rintro e w1 ⟨rfl, hb⟩
  have HW1 := Lib.hid (HW0.out.keep hb)
  have HL1 := Lib.hid (HL0.out.keep hb)
  clear hb c0 c1 c2
  obtain ⟨⟨c0, c1, c2⟩, f0, f1, f2⟩ := three_cells HW1.out.r0
  obtain ⟨⟨m0, m1, m2⟩, g0, g1, g2⟩ := three_cells HW1.out.r1
  obtain ⟨V, hV⟩ : ∃ V, Cp.valid ⟨xs, c, pl⟩ = V := ⟨_, rfl⟩
  have HV := Eqq.mk hV
  rw [hV]
  clear hV
  cases V
  · have HD := Eqq.mk (show Cp.back ⟨xs, c, pl⟩ = ⟨xs, c, pl⟩ by unfold Cp.back; rw [if_neg (by rw [HV.out]; simp)])
    have HE := Lib.hid (HW1.out.out (.slice ao n cap) (c) (p))
    have HLE := Lib.hid (HLW.out.below HE.out.2 (Nat.le_of_eq HS.out))
    go_wp2_with fail
    (try simp only [Exit.inBlock, Exit.then])
    refine bodyPost_ret (results_cell_row rfl _ _ (S + 1) 42 #[.slice ao n cap, .int .i64 (c), .string (p)] (0, 0) _ (by rfl) HE.out.1 Tryz.underlying42 (by rfl) (by kernel_rfl)) rfl ?_
    rw [HD.out, HS.out]
    exact ⟨⟨_, by rw [HPB.out], HLE.out⟩, HE.out.2⟩
  · obtain ⟨h64, ⟨k, rfl, hk⟩, h8, _, _⟩ := valid_parts HV.out
    rw [HN.out] at h64 hk
    by_cases hpe : pl = []
    · subst hpe
      obtain rfl : p = ⟨#[]⟩ := HP.out.eq (Is.mk [])
      by_cases hk0 : k = 0
      · subst hk0
        have z9 : ((0 : Nat) : Int) = 0 := rfl
        rw [z9] at HW1 c1
        have HD := Eqq.mk (show Cp.back ⟨xs, ((0 : Nat) : Int), []⟩ = ⟨xs, 0, []⟩ by unfold Cp.back; rw [if_pos HV.out, if_pos rfl, if_neg (show ¬ (0 : Int) < ((0 : Nat) : Int) by omega)]; rfl)
        have HE := Lib.hid (HW1.out.out (.slice ao n cap) (0) (⟨#[]⟩))
        have HLE := Lib.hid (HLW.out.below HE.out.2 (Nat.le_of_eq HS.out))
        go_wp2_with fail
        (try simp only [Exit.inBlock, Exit.then])
        refine bodyPost_ret (results_cell_row rfl _ _ (S + 1) 42 #[.slice ao n cap, .int .i64 (0), .string (⟨#[]⟩)] (0, 0) _ (by rfl) HE.out.1 Tryz.underlying42 (by rfl) (by kernel_rfl)) rfl ?_
        rw [HD.out, HS.out]
        exact ⟨⟨_, by rw [HPB.out], HLE.out⟩, HE.out.2⟩
      obtain ⟨j, rfl⟩ : ∃ j, k = j + 1 := ⟨k - 1, by omega⟩
      have HD := Eqq.mk (show Cp.back ⟨xs, ((j + 1 : Nat) : Int), []⟩ = ⟨xs.take j ++ xs.drop (j + 1), (j : Int), []⟩ by unfold Cp.back; rw [if_pos HV.out, if_pos rfl, if_pos (show (0 : Int) < ((j + 1 : Nat) : Int) by omega), show ((Cp.Buf.mk xs ((j + 1 : Nat) : Int) []).caret - 1) = (j : Int) by show ((j + 1 : Nat) : Int) - 1 = _; omega]; rfl)
      have HLT := Lib.hid (show j < xs.length by rw [HN.out]; omega)
      have H64 := Lib.hid (show xs.length ≤ 64 by rw [HN.out]; exact h64)
      obtain ⟨K, hK⟩ : ∃ K : Int, ((j + 1 : Nat) : Int) = K := ⟨_, rfl⟩
      have d1 : K - 1 = (j : Int) := by omega
      have d2 : ¬ K = 0 := by omega
      have d3 : (K == 0) = false := by rw [beq_eq_false_iff_ne]; exact d2
      have d4 : K ≤ 64 := by omega
      have d5 : 0 ≤ K := by omega
      rw [hK] at HW1 c1
      clear hk0 hk h8 h64
      rw [hK]
      clear hK
      go_wp2_with fail
      with_reducible refine (rwithout_any _ xs _ (j : Int) ⟨#[]⟩ j w1 HL1.out HLT.out H64.out).mono ?_
      rintro e w2 ⟨⟨v5, rfl, ho⟩, hb⟩
      have HW2 := Lib.hid (HW1.out.keep hb)
      obtain ⟨n5, hn5⟩ : ∃ n5, (xs.take j ++ xs.drop (j + 1)).length = n5 := ⟨_, rfl⟩
      obtain ⟨a5, q5, hvf⟩ := ho.frame
      rw [hn5] at hvf
      subst hvf
      have HO := Lib.hid (three_own8 ho (show S + 1 < w1.heap.size from HW1.out.sz) (.slice a5 n5 q5) (.int .i64 j) (.string ⟨#[]⟩))
      clear ho hb c0 c1 c2 m0 m1 m2 f0 f1 f2 g0 g1 g2
      obtain ⟨⟨m0, m1, m2⟩, g0, g1, g2⟩ := three_cells HW2.out.r1
      have HE := Lib.hid (HW2.out.out (.slice a5 n5 q5) (j) (⟨#[]⟩))
      have HLE := Lib.hid (HO.out.lie)
      go_wp2_with fail
      (try simp only [Exit.inBlock, Exit.then])
      refine bodyPost_ret (results_cell_row rfl _ _ (S + 1) 42 #[.slice a5 n5 q5, .int .i64 (j), .string (⟨#[]⟩)] (0, 0) _ (by rfl) HE.out.1 Tryz.underlying42 (by rfl) (by kernel_rfl)) rfl ?_
      rw [HD.out, HS.out]
      exact ⟨⟨_, by rw [HPB.out], HLE.out⟩, HE.out.2⟩
    · obtain ⟨q, hq⟩ : ∃ q, pl.length = q + 1 := ⟨pl.length - 1, by have := List.length_pos_iff.2 hpe; omega⟩
      have hpz : p.size = q + 1 := by rw [HP.out.size, hq]
      have hpn : ¬ p.toList = [] := by rw [HP.out.list]; exact hpe
      have hpb : (p.toList == []) = false := by rw [beq_eq_false_iff_ne]; exact hpn
      obtain ⟨P2, hP2⟩ : ∃ P2, p.extract 0 q = P2 := ⟨_, rfl⟩
      have HP2 := Eqq.mk (show P2 = ba (pl.take q) by rw [← hP2]; exact (HP.out.upto q).ba)
      have HD := Eqq.mk (show Cp.back ⟨xs, (k : Int), pl⟩ = ⟨xs, (k : Int), pl.take q⟩ by
        unfold Cp.back
        rw [if_pos HV.out, if_neg hpe]
        show Cp.Buf.mk xs (k : Int) (pl.take (pl.length - 1)) = _
        rw [hq]
        rfl)
      have hq7 : q ≤ 7 := by omega
      have hw2 := HW1.out.set2 P2
      obtain ⟨w2, hw9⟩ : ∃ w2, w1.setCell ⟨S, 2, none⟩ (.string P2) = w2 := ⟨_, rfl⟩
      rw [hw9] at hw2
      have HW2 := Lib.hid hw2
      clear hw2 m0 m1 m2 g0 g1 g2 hk h64 h8 hpe hq
      obtain ⟨⟨k0, k1, k2⟩, _⟩ := three_cells HW2.out.r0
      obtain ⟨⟨m0, m1, m2⟩, g0, g1, g2⟩ := three_cells HW2.out.r1
      have HE := Lib.hid (HW2.out.out (.slice ao n cap) (k) (P2))
      have HLE := Lib.hid (HLW.out.below HE.out.2 (Nat.le_of_eq HS.out))
      go_wp2_with fail
      (try simp only [Exit.inBlock, Exit.then])
      refine bodyPost_ret (results_cell_row rfl _ _ (S + 1) 42 #[.slice ao n cap, .int .i64 (k), .string (P2)] (0, 0) _ (by rfl) HE.out.1 Tryz.underlying42 (by rfl) (by kernel_rfl)) rfl ?_
      rw [HD.out, HS.out]
      exact ⟨⟨_, by rw [HP2.out], HLE.out⟩, HE.out.2⟩
set_option maxRecDepth 100000 in
set_option maxHeartbeats 16000000 in
theorem rmove_any (v : Value) (xs : List Cp.Item) (c : Int) (p : ByteArray) (pl : List UInt8) (w : World) (h : LieG itemE v xs w) (hp : Is p pl) (hf : Fits xs pl) (z : Int) :
    Calls Tryz.prog 40 #[bufV v c p, .int .i64 z] w fun e w' => RefR (Cp.move ⟨xs, c, pl⟩ z) e w' ∧ Below w.heap.size w w' := by
  have HP := Lib.hid hp
  have HF := Lib.hid hf
  have HPB := Eqq.mk hp.ba
  obtain ⟨ao, cap, rfl, hcap, hno, hsp, _⟩ := id h
  obtain ⟨n, hnn⟩ : ∃ n, xs.length = n := ⟨_, rfl⟩
  have HN := Eqq.mk hnn
  rw [hnn] at h ⊢
  obtain ⟨S, hS⟩ : ∃ S, w.heap.size = S := ⟨_, rfl⟩
  have HS := Eqq.mk hS
  have hw0 := Rows2.new 42 (.slice ao n cap) c p w hS
  obtain ⟨W0, hW0⟩ : ∃ W0, (w.alloc (.cells #[.slice ao n cap, .int .i64 c, .string p] 42)).alloc (.cells #[.slice none 0 0, .int .i64 0, .string ⟨#[]⟩] 42) = W0 := ⟨_, rfl⟩
  rw [hW0] at hw0
  have HW0 := Lib.hid hw0
  have HW := Eqq.mk hW0
  have HLW := Lib.hid h
  have HL0 := Lib.hid (h.below hw0.b (by omega))
  obtain ⟨⟨c0, c1, c2⟩, _⟩ := three_cells hw0.r0
  clear h hw0 hW0 hp hf hcap hno hsp hnn
  go_enter Tryz.func40, Tryz.ntmps40
  go_wp2_with fail
  try rw [hS]
  rw [HW.out]
  with_reducible refine (rvalid_any _ xs c p pl W0 HL0.out HP.out HF.out).mono ?_
  rintro e w1 ⟨rfl, hb⟩
  have HW1 := Lib.hid (HW0.out.keep hb)
  have HL1 := Lib.hid (HL0.out.keep hb)
  clear hb c0 c1 c2
  obtain ⟨⟨c0, c1, c2⟩, f0, f1, f2⟩ := three_cells HW1.out.r0
  obtain ⟨⟨m0, m1, m2⟩, g0, g1, g2⟩ := three_cells HW1.out.r1
  obtain ⟨V, hV⟩ : ∃ V, Cp.valid ⟨xs, c, pl⟩ = V := ⟨_, rfl⟩
  have HV := Eqq.mk hV
  rw [hV]
  clear hV
  cases V
  · have HD := Eqq.mk (show Cp.move ⟨xs, c, pl⟩ z = ⟨xs, c, pl⟩ by unfold Cp.move; rw [if_neg (by rw [HV.out]; simp)])
    have HE := Lib.hid (HW1.out.out (.slice ao n cap) (c) (p))
    have HLE := Lib.hid (HLW.out.below HE.out.2 (Nat.le_of_eq HS.out))
    go_wp2_with fail
    (try simp only [Exit.inBlock, Exit.then])
    refine bodyPost_ret (results_cell_row rfl _ _ (S + 1) 42 #[.slice ao n cap, .int .i64 (c), .string (p)] (0, 0) _ (by rfl) HE.out.1 Tryz.underlying42 (by rfl) (by kernel_rfl)) rfl ?_
    rw [HD.out, HS.out]
    exact ⟨⟨_, by rw [HPB.out], HLE.out⟩, HE.out.2⟩
  · obtain ⟨h64, ⟨k, rfl, hk⟩, h8, _, _⟩ := valid_parts HV.out
    rw [HN.out] at h64 hk
    by_cases hpe : pl = []
    · subst hpe
      obtain rfl : p = ⟨#[]⟩ := HP.out.eq (Is.mk [])
      have HD := Eqq.mk (show Cp.move ⟨xs, (k : Int), []⟩ z = ⟨xs, (max 0 (min ((k : Int) + max (-64) (min z 64)) (n : Int))), []⟩ by
        unfold Cp.move
        rw [if_pos ⟨HV.out, rfl⟩, ← HN.out]
        show Cp.Buf.mk xs (min (max ((k : Int) + min (max z (-64)) 64) 0) (xs.length : Int)) [] = _
        congr 1
        omega)
      have d3 : (n : Int) ≤ 64 := by omega
      have d4 : (k : Int) ≤ 64 := by omega
      have hw2 := HW1.out.set1 (max 0 (min ((k : Int) + max (-64) (min z 64)) (n : Int)))
      obtain ⟨w2, hw9⟩ : ∃ w2, w1.setCell ⟨S, 1, none⟩ (.int .i64 (max 0 (min ((k : Int) + max (-64) (min z 64)) (n : Int)))) = w2 := ⟨_, rfl⟩
      rw [hw9] at hw2
      have HW2 := Lib.hid hw2
      clear hw2 m0 m1 m2 g0 g1 g2 hk h64 h8
      obtain ⟨⟨k0, k1, k2⟩, _⟩ := three_cells HW2.out.r0
      obtain ⟨⟨m0, m1, m2⟩, g0, g1, g2⟩ := three_cells HW2.out.r1
      have HE := Lib.hid (HW2.out.out (.slice ao n cap) ((max 0 (min ((k : Int) + max (-64) (min z 64)) (n : Int)))) (⟨#[]⟩))
      have HLE := Lib.hid (HLW.out.below HE.out.2 (Nat.le_of_eq HS.out))
      go_wp2_with fail
      (try simp only [Exit.inBlock, Exit.then])
      refine bodyPost_ret (results_cell_row rfl _ _ (S + 1) 42 #[.slice ao n cap, .int .i64 ((max 0 (min ((k : Int) + max (-64) (min z 64)) (n : Int)))), .string (⟨#[]⟩)] (0, 0) _ (by rfl) HE.out.1 Tryz.underlying42 (by rfl) (by kernel_rfl)) rfl ?_
      rw [HD.out, HS.out]
      exact ⟨⟨_, by rw [HPB.out], HLE.out⟩, HE.out.2⟩
    · have hpn : ¬ p.toList = [] := by rw [HP.out.list]; exact hpe
      have hpb : (p.toList == []) = false := by rw [beq_eq_false_iff_ne]; exact hpn
      have HPE := Lib.hid hpe
      clear hpe
      have HD := Eqq.mk (show Cp.move ⟨xs, (k : Int), pl⟩ z = ⟨xs, (k : Int), pl⟩ by unfold Cp.move; rw [if_neg (by rintro ⟨_, h⟩; exact HPE.out h)])
      have HE := Lib.hid (HW1.out.out (.slice ao n cap) (k) (p))
      have HLE := Lib.hid (HLW.out.below HE.out.2 (Nat.le_of_eq HS.out))
      go_wp2_with fail
      (try simp only [Exit.inBlock, Exit.then])
      refine bodyPost_ret (results_cell_row rfl _ _ (S + 1) 42 #[.slice ao n cap, .int .i64 (k), .string (p)] (0, 0) _ (by rfl) HE.out.1 Tryz.underlying42 (by rfl) (by kernel_rfl)) rfl ?_
      rw [HD.out, HS.out]
      exact ⟨⟨_, by rw [HPB.out], HLE.out⟩, HE.out.2⟩
end Go.Proofs.YtgdcffahhpeibaaGreatDoor
namespace Go.Proofs.YtgdcffahhpeibaaGreatDoor
open Go.RowKit
set_option maxRecDepth 100000 in
set_option maxHeartbeats 16000000 in
theorem rput_any (v : Value) (xs : List Cp.Item) (c : Int) (p : ByteArray) (pl : List UInt8) (rb ob : ByteArray) (rl ol : List UInt8) (w : World) (h : LieG itemE v xs w) (hp : Is p pl) (hf : Fits xs pl) (hr : Is rb rl) (ho : Is ob ol) (hrz : rb.size ≤ 2000000) (hoz : ob.size ≤ 2000000) :
    Calls Tryz.prog 35 #[bufV v c p, .string rb, .string ob] w fun e w' => PairR 111 w.heap.size (Cp.put ⟨xs, c, pl⟩ rl ol) e w' ∧ Below w.heap.size w w' := by
  have HP := Lib.hid hp
  have HF := Lib.hid hf
  have HR5 := Lib.hid hr
  have HO := Lib.hid ho
  have HPB := Eqq.mk hp.ba
  obtain ⟨S, hS⟩ : ∃ S, w.heap.size = S := ⟨_, rfl⟩
  have HS := Eqq.mk hS
  have hw0 := Rows2.new 42 v c p w hS
  obtain ⟨W0, hW0⟩ : ∃ W0, (w.alloc (.cells #[v, .int .i64 c, .string p] 42)).alloc (.cells #[.slice none 0 0, .int .i64 0, .string ⟨#[]⟩] 42) = W0 := ⟨_, rfl⟩
  rw [hW0] at hw0
  have HW0 := Lib.hid hw0
  have HW := Eqq.mk hW0
  have HL0 := Lib.hid (h.below hw0.b (by omega))
  obtain ⟨⟨c0, c1, c2⟩, _⟩ := three_cells hw0.r0
  obtain ⟨⟨m0, m1, m2⟩, g0, g1, g2⟩ := three_cells hw0.r1
  clear h hp hf hr ho hw0 hW0
  go_enter Tryz.func35, Tryz.ntmps35
  go_wp2_with fail
  try rw [hS]
  rw [HW.out]
  with_reducible refine (rvalid_any v xs c p pl W0 HL0.out HP.out HF.out).mono ?_
  rintro e w1 ⟨rfl, hb⟩
  have HW1 := Lib.hid (HW0.out.keep hb)
  have HL1 := Lib.hid (HL0.out.keep hb)
  clear hb c0 c1 c2 m0 m1 m2 g0 g1 g2
  obtain ⟨⟨c0, c1, c2⟩, _⟩ := three_cells HW1.out.r0
  obtain ⟨⟨m0, m1, m2⟩, g0, g1, g2⟩ := three_cells HW1.out.r1
  obtain ⟨V, hV⟩ : ∃ V, Cp.valid ⟨xs, c, pl⟩ = V := ⟨_, rfl⟩
  have HV := Eqq.mk hV
  rw [hV]
  clear hV
  cases V
  · have HD := Eqq.mk (show Cp.put ⟨xs, c, pl⟩ rl ol = (Cp.zero, 1) by unfold Cp.put; rw [if_neg (by rw [HV.out]; simp)])
    have HE := Lib.hid (HW1.out.out (.slice none 0 0) (0) (⟨#[]⟩))
    go_wp2_with fail
    (try simp only [Exit.inBlock, Exit.then])
    refine bodyPost_ret (results_row_tmp rfl _ _ (S + 1) 42 #[.slice none 0 0, .int .i64 (0), .string (⟨#[]⟩)] (0, 0) _ (.int .i64 1) (by rfl) (by rfl) HE.out.1 Tryz.underlying42 (by rfl) (by kernel_rfl)) rfl ?_
    rw [HD.out]
    try rw [HS.out]
    exact ⟨⟨_, rfl, OwnG.nil _ _ _⟩, HE.out.2⟩
  · obtain ⟨h64, ⟨k, rfl, hk⟩, h8, _, _⟩ := valid_parts HV.out
    go_wp2_with fail
    with_reducible refine (rbytes_any rb rl 32 32 rfl _ HR5.out (by omega)).mono ?_
    rintro e w2 ⟨rfl, hb⟩
    have HW2 := Lib.hid (HW1.out.keep hb)
    have HL2 := Lib.hid (HL1.out.keep hb)
    clear hb c0 c1 c2 m0 m1 m2 g0 g1 g2
    obtain ⟨⟨c0, c1, c2⟩, _⟩ := three_cells HW2.out.r0
    obtain ⟨⟨m0, m1, m2⟩, g0, g1, g2⟩ := three_cells HW2.out.r1
    obtain ⟨D, hD⟩ : ∃ D, Cp.okB 32 rl = D := ⟨_, rfl⟩
    have HDD := Eqq.mk hD
    rw [hD]
    clear hD
    cases D
    · have HD := Eqq.mk (show Cp.put ⟨xs, k, pl⟩ rl ol = (Cp.zero, 1) by unfold Cp.put; rw [if_neg (by rw [HDD.out]; simp)])
      have HE := Lib.hid (HW2.out.out (.slice none 0 0) (0) (⟨#[]⟩))
      go_wp2_with fail
      (try simp only [Exit.inBlock, Exit.then])
      refine bodyPost_ret (results_row_tmp rfl _ _ (S + 1) 42 #[.slice none 0 0, .int .i64 (0), .string (⟨#[]⟩)] (0, 0) _ (.int .i64 1) (by rfl) (by rfl) HE.out.1 Tryz.underlying42 (by rfl) (by kernel_rfl)) rfl ?_
      rw [HD.out]
      try rw [HS.out]
      exact ⟨⟨_, rfl, OwnG.nil _ _ _⟩, HE.out.2⟩
    · obtain ⟨Z, hZ⟩ : ∃ Z, UT.countZ ol = Z := ⟨_, rfl⟩
      have HZ := Eqq.mk hZ
      clear hZ
      go_wp2_with fail
      with_reducible refine (count_any ob ol _ HO.out (by omega)).mono ?_
      rw [show (if Lib.validD ol = true then ((UT.runes ol).length : Int) else -1) = UT.countZ ol from rfl, HZ.out]
      rintro e w3 ⟨rfl, hb⟩
      have HW3 := Lib.hid (HW2.out.keep hb)
      have HL3 := Lib.hid (HL2.out.keep hb)
      clear hb c0 c1 c2 m0 m1 m2 g0 g1 g2
      obtain ⟨⟨c0, c1, c2⟩, _⟩ := three_cells HW3.out.r0
      obtain ⟨⟨m0, m1, m2⟩, g0, g1, g2⟩ := three_cells HW3.out.r1
      by_cases hz : Z < 1
      · have HZ1 := Lib.hid hz
        have dz : decide (Z < 1) = true := decide_eq_true hz
        clear hz
        have HD := Eqq.mk (show Cp.put ⟨xs, k, pl⟩ rl ol = (Cp.zero, 1) by unfold Cp.put; rw [if_neg (by rintro ⟨_, _, h⟩; rw [HZ.out] at h; have := HZ1.out; omega)])
        have HE := Lib.hid (HW3.out.out (.slice none 0 0) (0) (⟨#[]⟩))
        go_wp2_with fail
        (try simp only [Exit.inBlock, Exit.then])
        refine bodyPost_ret (results_row_tmp rfl _ _ (S + 1) 42 #[.slice none 0 0, .int .i64 (0), .string (⟨#[]⟩)] (0, 0) _ (.int .i64 1) (by rfl) (by rfl) HE.out.1 Tryz.underlying42 (by rfl) (by kernel_rfl)) rfl ?_
        rw [HD.out]
        try rw [HS.out]
        exact ⟨⟨_, rfl, OwnG.nil _ _ _⟩, HE.out.2⟩
      have HC1 := Lib.hid (show 1 ≤ UT.countZ ol by rw [HZ.out]; omega)
      have dz : decide (Z < 1) = false := decide_eq_false hz
      clear hz
      obtain ⟨hone, hvd⟩ := count_pos.1 HC1.out
      have HVD := Lib.hid hvd
      clear hone hvd
      by_cases hqp : pl = []
      · subst hqp
        obtain rfl : p = ⟨#[]⟩ := HP.out.eq (Is.mk [])
        obtain ⟨m, hm⟩ : ∃ m, (UT.runes ol).length = m := ⟨_, rfl⟩
        have HMR := Lib.hid hm
        clear hm
        go_wp2_with fail
        with_reducible refine (rinsert_any v xs k _ rb ob rl ol _ HL3.out HR5.out HO.out HVD.out hk h64 hoz m HMR.out).mono ?_
        rintro e w5 ⟨hr5, hb⟩
        have HW5 := Lib.hid (HW3.out.keep hb)
        clear c0 c1 c2 m0 m1 m2 g0 g1 g2
        rcases hr5 with ⟨hfu, rfl⟩ | ⟨hfu, v6, rfl, ho6⟩
        · have HFU := Lib.hid hfu
          clear hfu hb
          have HD := Eqq.mk (show Cp.put ⟨xs, k, []⟩ rl ol = (Cp.zero, 7) by unfold Cp.put; rw [if_pos ⟨HV.out, HDD.out, HC1.out⟩, if_pos rfl, if_neg (by rw [HMR.out]; have := HFU.out; show ¬ xs.length + m ≤ 64; omega)])
          have HWF := Lib.hid (HW5.out.go ((Below.refl (S + 1 + 1) w5).alloc HW5.out.sz (.cells #[.slice none 0 0, .int .i64 0, .string ⟨#[]⟩] 42)))
          obtain ⟨⟨m0, m1, m2⟩, g0, g1, g2⟩ := three_cells HWF.out.r1
          have HE := Lib.hid (HWF.out.out (.slice none 0 0) (0) (⟨#[]⟩))
          go_wp2_with fail
          (try simp only [Exit.inBlock, Exit.then])
          refine bodyPost_ret (results_row_tmp rfl _ _ (S + 1) 42 #[.slice none 0 0, .int .i64 (0), .string (⟨#[]⟩)] (0, 0) _ (.int .i64 7) (by rfl) (by rfl) HE.out.1 Tryz.underlying42 (by rfl) (by kernel_rfl)) rfl ?_
          rw [HD.out]
          try rw [HS.out]
          exact ⟨⟨_, rfl, OwnG.nil _ _ _⟩, HE.out.2⟩
        · have HFU := Lib.hid hfu
          have HD := Eqq.mk (show Cp.put ⟨xs, k, []⟩ rl ol = (⟨xs.take k ++ (Cp.mkItems rl (UT.runes ol) ++ xs.drop k), (k : Int) + (m : Int), []⟩, 0) by unfold Cp.put; rw [if_pos ⟨HV.out, HDD.out, HC1.out⟩, if_pos rfl, if_pos (by rw [HMR.out]; exact HFU.out)]; unfold Cp.ins; dsimp only; rw [Int.toNat_natCast, mk_len, HMR.out, List.append_assoc])
          rw [Int.natCast_add]
          obtain ⟨a6, c6, hv6⟩ := ho6.frame
          obtain ⟨n6, hn6⟩ : ∃ n6, (xs.take k ++ (Cp.mkItems rl (UT.runes ol) ++ xs.drop k)).length = n6 := ⟨_, rfl⟩
          rw [hn6] at hv6
          subst hv6
          have HOE := Lib.hid (fun (x y z : Value) (o : Obj) => (three_own8 (ho6.alloc o) (show S + 1 < w3.heap.size from HW3.out.sz) x y z))
          have hrow := (MapKept.heap_alloc w5 (.cells #[.slice a6 n6 c6, .int .i64 ((k : Int) + (m : Int)), .string (⟨#[]⟩)] 42)).1
          have hwf := HW5.out.go ((Below.refl (S + 1 + 1) w5).alloc HW5.out.sz (.cells #[.slice a6 n6 c6, .int .i64 ((k : Int) + (m : Int)), .string (⟨#[]⟩)] 42))
          have HSZ5 := Lib.hid (Nat.le_trans HW3.out.sz hb.size)
          clear hfu hb hn6
          have HWF := Lib.hid hwf
          obtain ⟨⟨m0, m1, m2⟩, g0, g1, g2⟩ := three_cells hwf.r1
          obtain ⟨⟨y0, y1, y2⟩, u0, u1, u2⟩ := three_cells hrow
          clear hrow hwf
          have HE := Lib.hid (HWF.out.out (.slice a6 n6 c6) ((k : Int) + (m : Int)) (⟨#[]⟩))
          go_wp2_with fail
          (try simp only [Exit.inBlock, Exit.then])
          refine bodyPost_ret (results_row_tmp rfl _ _ (S + 1) 42 #[.slice a6 n6 c6, .int .i64 ((k : Int) + (m : Int)), .string (⟨#[]⟩)] (0, 0) _ (.int .i64 0) (by rfl) (by rfl) HE.out.1 Tryz.underlying42 (by rfl) (by kernel_rfl)) rfl ?_
          rw [HD.out]
          try rw [HS.out]
          exact ⟨⟨_, by first | rfl | rw [HPB.out], (HOE.out _ _ _ _).lower (by have := HW3.out.sz; omega)⟩, HE.out.2⟩
      have n1p : ¬ p.toList = [] := by rw [HP.out.list]; exact hqp
      have n2p : (p.toList == []) = false := by rw [beq_eq_false_iff_ne]; exact n1p
      have HD := Eqq.mk (show Cp.put ⟨xs, k, pl⟩ rl ol = (Cp.zero, 8) by unfold Cp.put; rw [if_pos ⟨HV.out, HDD.out, HC1.out⟩, if_neg hqp])
      have HE := Lib.hid (HW3.out.out (.slice none 0 0) (0) (⟨#[]⟩))
      go_wp2_with fail
      (try simp only [Exit.inBlock, Exit.then])
      refine bodyPost_ret (results_row_tmp rfl _ _ (S + 1) 42 #[.slice none 0 0, .int .i64 (0), .string (⟨#[]⟩)] (0, 0) _ (.int .i64 8) (by rfl) (by rfl) HE.out.1 Tryz.underlying42 (by rfl) (by kernel_rfl)) rfl ?_
      rw [HD.out]
      try rw [HS.out]
      exact ⟨⟨_, rfl, OwnG.nil _ _ _⟩, HE.out.2⟩
set_option maxRecDepth 100000 in
set_option maxHeartbeats 16000000 in
theorem rkey_any (vr : Value) (rs : List RuleB) (v : Value) (xs : List Cp.Item) (c : Int) (p : ByteArray) (pl : List UInt8) (ch : UInt8) (z : Int) (hz : z = (ch.toNat : Int)) (w : World) (hlr : LieR vr rs w) (hok : Ro.check (rulesL rs) = 0) (hrn : rs.length ≤ 1000000000000) (h : LieG itemE v xs w) (hp : Is p pl) (hf : Fits xs pl) :
    Calls Tryz.prog 27 #[vr, bufV v c p, .int .u8 z] w fun e w' => PairR 111 w.heap.size (Cp.key (rulesL rs) ⟨xs, c, pl⟩ ch) e w' ∧ Below w.heap.size w w' := by
  have HP := Lib.hid hp
  have HF := Lib.hid hf
  have HPB := Eqq.mk hp.ba
  have HOK := Eqq.mk hok
  have HZ := Eqq.mk hz
  have hz0 : 0 ≤ z := by omega
  have hz9 : z ≤ 255 := by have := ch.toNat_lt; omega
  obtain ⟨S, hS⟩ : ∃ S, w.heap.size = S := ⟨_, rfl⟩
  have HS := Eqq.mk hS
  have hw0 := Rows2.new 42 v c p w hS
  obtain ⟨W0, hW0⟩ : ∃ W0, (w.alloc (.cells #[v, .int .i64 c, .string p] 42)).alloc (.cells #[.slice none 0 0, .int .i64 0, .string ⟨#[]⟩] 42) = W0 := ⟨_, rfl⟩
  rw [hW0] at hw0
  have HW0 := Lib.hid hw0
  have HW := Eqq.mk hW0
  have HL0 := Lib.hid (h.below hw0.b (by omega))
  obtain ⟨⟨c0, c1, c2⟩, _⟩ := three_cells hw0.r0
  obtain ⟨⟨m0, m1, m2⟩, g0, g1, g2⟩ := three_cells hw0.r1
  have HLR := Lib.hid (fun (W : World) (hW : Below S w W) => (show LieR vr rs W from hlr.below hW (by omega)))
  clear h hp hf hlr hok hw0 hW0
  go_enter Tryz.func27, Tryz.ntmps27
  go_wp2_with fail
  try rw [hS]
  rw [HW.out]
  with_reducible refine (rvalid_any v xs c p pl W0 HL0.out HP.out HF.out).mono ?_
  rintro e w1 ⟨rfl, hb⟩
  have HW1 := Lib.hid (HW0.out.keep hb)
  have HL1 := Lib.hid (HL0.out.keep hb)
  clear hb c0 c1 c2 m0 m1 m2 g0 g1 g2
  obtain ⟨⟨c0, c1, c2⟩, _⟩ := three_cells HW1.out.r0
  obtain ⟨⟨m0, m1, m2⟩, g0, g1, g2⟩ := three_cells HW1.out.r1
  obtain ⟨V, hV⟩ : ∃ V, Cp.valid ⟨xs, c, pl⟩ = V := ⟨_, rfl⟩
  have HV := Eqq.mk hV
  rw [hV]
  clear hV
  cases V
  · have HD := Eqq.mk (show Cp.key (rulesL rs) ⟨xs, c, pl⟩ ch = (Cp.zero, 1) by unfold Cp.key; rw [if_neg (by rw [HV.out]; simp)])
    have HE := Lib.hid (HW1.out.out (.slice none 0 0) (0) (⟨#[]⟩))
    go_wp2_with fail
    (try simp only [Exit.inBlock, Exit.then])
    refine bodyPost_ret (results_row_tmp rfl _ _ (S + 1) 42 #[.slice none 0 0, .int .i64 (0), .string (⟨#[]⟩)] (0, 0) _ (.int .i64 1) (by rfl) (by rfl) HE.out.1 Tryz.underlying42 (by rfl) (by kernel_rfl)) rfl ?_
    rw [HD.out]
    try rw [HS.out]
    exact ⟨⟨_, rfl, OwnG.nil _ _ _⟩, HE.out.2⟩
  · obtain ⟨h64, ⟨k, rfl, hk⟩, h8, _, _⟩ := valid_parts HV.out
    by_cases h33 : z < 33
    · have d33 : decide (z < 33) = true := decide_eq_true h33
      have hnk := Au.isKey_no (c := ch) (.inl (by omega))
      have HNK := Eqq.mk hnk
      clear hnk
      have HD := Eqq.mk (show Cp.key (rulesL rs) ⟨xs, (k : Int), pl⟩ ch = (Cp.zero, 1) by unfold Cp.key; rw [if_neg (by rw [HNK.out]; simp)])
      have HE := Lib.hid (HW1.out.out (.slice none 0 0) (0) (⟨#[]⟩))
      go_wp2_with fail
      (try simp only [Exit.inBlock, Exit.then])
      refine bodyPost_ret (results_row_tmp rfl _ _ (S + 1) 42 #[.slice none 0 0, .int .i64 (0), .string (⟨#[]⟩)] (0, 0) _ (.int .i64 1) (by rfl) (by rfl) HE.out.1 Tryz.underlying42 (by rfl) (by kernel_rfl)) rfl ?_
      rw [HD.out]
      try rw [HS.out]
      exact ⟨⟨_, rfl, OwnG.nil _ _ _⟩, HE.out.2⟩
    have d33 : decide (z < 33) = false := decide_eq_false h33
    by_cases h126 : 126 < z
    · have d126 : decide (126 < z) = true := decide_eq_true h126
      have hnk := Au.isKey_no (c := ch) (.inr (by omega))
      have HNK := Eqq.mk hnk
      clear hnk
      have HD := Eqq.mk (show Cp.key (rulesL rs) ⟨xs, (k : Int), pl⟩ ch = (Cp.zero, 1) by unfold Cp.key; rw [if_neg (by rw [HNK.out]; simp)])
      have HE := Lib.hid (HW1.out.out (.slice none 0 0) (0) (⟨#[]⟩))
      go_wp2_with fail
      (try simp only [Exit.inBlock, Exit.then])
      refine bodyPost_ret (results_row_tmp rfl _ _ (S + 1) 42 #[.slice none 0 0, .int .i64 (0), .string (⟨#[]⟩)] (0, 0) _ (.int .i64 1) (by rfl) (by rfl) HE.out.1 Tryz.underlying42 (by rfl) (by kernel_rfl)) rfl ?_
      rw [HD.out]
      try rw [HS.out]
      exact ⟨⟨_, rfl, OwnG.nil _ _ _⟩, HE.out.2⟩
    have d126 : decide (126 < z) = false := decide_eq_false h126
    have hik := Au.isKey_yes (c := ch) (by omega) (by omega)
    have HIK := Eqq.mk hik
    have hpz : p.size ≤ 8 := by rw [HP.out.size]; exact h8
    obtain ⟨⟨ol, sl⟩, hst⟩ : ∃ q, Au.step (rulesL rs) pl ch = q := ⟨_, rfl⟩
    have HST := Eqq.mk hst
    obtain ⟨s1, s2, s3⟩ := Cp.step_facts HOK.out pl ch
    rw [hst] at s1 s2 s3
    dsimp only at s1 s2 s3
    have HVD := Eqq.mk s1
    obtain ⟨ob, hob⟩ : ∃ ob, ba ol = ob := ⟨_, rfl⟩
    obtain ⟨sb, hsb⟩ : ∃ sb, ba sl = sb := ⟨_, rfl⟩
    have HO := Lib.hid (show Is ob ol by rw [← hob]; exact is_ba ol)
    have HSL := Lib.hid (show Is sb sl by rw [← hsb]; exact is_ba sl)
    have hoz : ob.size ≤ 2000000 := by rw [HO.out.size]; omega
    have hsz : sb.size ≤ 1000 := by
      have h := Au.feed_len (Au.short_of HOK.out) (Au.keysOf pl) (Au.keysOf [ch])
      rw [show Au.feed (rulesL rs) (Au.keysOf pl) (Au.keysOf [ch]) = (ol, sl) from hst] at h
      have h1 := Au.keysOf_len pl
      have h2 := Au.keysOf_len [ch]
      rw [HSL.out.size]
      simp only [List.length_singleton] at h2
      dsimp only at h
      omega
    have H2V := Eqq.mk (two_v (ol, sl) ob sb hob hsb)
    have HSB := Eqq.mk hsb
    clear hst hob hsb s1 s2 s3 hz
    go_wp2_with fail
    with_reducible refine (rstep_any p pl ch z HZ.out vr rs w1 HP.out (HLR.out _ HW1.out.b) HOK.out hrn (by omega)).mono ?_
    rw [HST.out, H2V.out]
    rintro e w2 ⟨rfl, hb⟩
    have HW2 := Lib.hid (HW1.out.keep hb)
    have HL2 := Lib.hid (HL1.out.keep hb)
    clear hb c0 c1 c2 m0 m1 m2 g0 g1 g2
    obtain ⟨⟨c0, c1, c2⟩, _⟩ := three_cells HW2.out.r0
    obtain ⟨⟨m0, m1, m2⟩, g0, g1, g2⟩ := three_cells HW2.out.r1
    have hcv := conv_one ch z HZ.out (w2.alloc (.cells #[.int .u8 z] 5)) w2.heap.size (cell_one_new w2 (.int .u8 z) 5 0 _ rfl)
    obtain ⟨kb, hkb⟩ : ∃ kb, ba [ch] = kb := ⟨_, rfl⟩
    have hkz : kb.size = 1 := by rw [← hkb, ba_size]; rfl
    rw [hkb] at hcv
    obtain ⟨ab, hab⟩ : ∃ ab, p ++ kb = ab := ⟨_, rfl⟩
    have HAB := Lib.hid (show Is ab (pl ++ [ch]) by rw [← hab, ← hkb]; exact HP.out.append (is_ba [ch]))
    have hbig : ¬ 9223372036854775807 < p.size + kb.size := by omega
    have habz : ab.size ≤ 9 := by rw [← hab, ByteArray.size_append]; omega
    obtain ⟨ul, hul⟩ : ∃ ul, Cp.ends (pl ++ [ch]) sl = ul := ⟨_, rfl⟩
    have HUL := Eqq.mk hul
    obtain ⟨ub, hub⟩ : ∃ ub, ba ul = ub := ⟨_, rfl⟩
    have HUB := Eqq.mk hub
    have HR5 := Lib.hid (show Is ub ul by rw [← hub]; exact is_ba ul)
    have HBK := Lib.hid ((Below.refl w2.heap.size w2).alloc (Nat.le_refl _) (.cells #[.int .u8 z] 5))
    clear hkb hul hub
    go_wp2_with fail
    clear hcv
    with_reducible refine (rends_any ab sb _ _ _ HAB.out HSL.out (by omega) (by omega)).mono ?_
    rw [HUL.out, HUB.out]
    rintro e w3 ⟨rfl, hw3⟩
    have hb : Below w2.heap.size w2 w3 := by rw [hw3]; exact HBK.out
    have HW3 := Lib.hid (HW2.out.keep hb)
    have HL3 := Lib.hid (HL2.out.keep hb)
    try rw [← hw3]
    clear hb hw3 c0 c1 c2 m0 m1 m2 g0 g1 g2
    obtain ⟨⟨c0, c1, c2⟩, _⟩ := three_cells HW3.out.r0
    obtain ⟨⟨m0, m1, m2⟩, g0, g1, g2⟩ := three_cells HW3.out.r1
    by_cases h9 : 8 < sb.size
    · have d9 : decide ((8 : Int) < (sb.size : Int)) = true := decide_eq_true (by omega)
      have H9 := Lib.hid h9
      clear h9
      have HD := Eqq.mk (show Cp.key (rulesL rs) ⟨xs, (k : Int), pl⟩ ch = (Cp.zero, 1) by unfold Cp.key; rw [if_pos ⟨HV.out, HIK.out⟩, if_neg (by dsimp only; rw [HST.out]; have h1 := H9.out; have h2 := HSL.out.size; dsimp only; omega)])
      have HE := Lib.hid (HW3.out.out (.slice none 0 0) (0) (⟨#[]⟩))
      go_wp2_with fail
      (try simp only [Exit.inBlock, Exit.then])
      refine bodyPost_ret (results_row_tmp rfl _ _ (S + 1) 42 #[.slice none 0 0, .int .i64 (0), .string (⟨#[]⟩)] (0, 0) _ (.int .i64 1) (by rfl) (by rfl) HE.out.1 Tryz.underlying42 (by rfl) (by kernel_rfl)) rfl ?_
      rw [HD.out]
      try rw [HS.out]
      exact ⟨⟨_, rfl, OwnG.nil _ _ _⟩, HE.out.2⟩
    · have d9 : decide ((8 : Int) < (sb.size : Int)) = false := decide_eq_false (by omega)
      have H9 := Lib.hid (show sl.length ≤ 8 by have := HSL.out.size; omega)
      clear h9
      obtain ⟨m, hm⟩ : ∃ m, (UT.runes ol).length = m := ⟨_, rfl⟩
      have HMR := Lib.hid hm
      clear hm
      go_wp2_with fail
      with_reducible refine (count_any ob ol _ HO.out (by omega)).mono ?_
      rw [if_pos HVD.out, HMR.out]
      rintro e w4 ⟨rfl, hb⟩
      have HW4 := Lib.hid (HW3.out.keep hb)
      have HL4 := Lib.hid (HL3.out.keep hb)
      clear hb c0 c1 c2 m0 m1 m2 g0 g1 g2
      obtain ⟨⟨c0, c1, c2⟩, _⟩ := three_cells HW4.out.r0
      obtain ⟨⟨m0, m1, m2⟩, g0, g1, g2⟩ := three_cells HW4.out.r1
      go_wp2_with fail
      with_reducible refine (rinsert_any v xs k _ ub ob ul ol _ HL4.out HR5.out HO.out HVD.out hk h64 hoz m HMR.out).mono ?_
      rintro e w5 ⟨hr5, hb⟩
      have HW5 := Lib.hid (HW4.out.keep hb)
      clear c0 c1 c2 m0 m1 m2 g0 g1 g2
      rcases hr5 with ⟨hfu, rfl⟩ | ⟨hfu, v6, rfl, ho6⟩
      · have HFU := Lib.hid hfu
        clear hfu hb
        have HD := Eqq.mk (show Cp.key (rulesL rs) ⟨xs, (k : Int), pl⟩ ch = (Cp.zero, 7) by unfold Cp.key; rw [if_pos ⟨HV.out, HIK.out⟩]; dsimp only; rw [HST.out]; dsimp only; rw [if_pos H9.out, if_neg (by rw [HMR.out]; have := HFU.out; omega)])
        have HWF := Lib.hid (HW5.out.go ((Below.refl (S + 1 + 1) w5).alloc HW5.out.sz (.cells #[.slice none 0 0, .int .i64 0, .string ⟨#[]⟩] 42)))
        obtain ⟨⟨m0, m1, m2⟩, g0, g1, g2⟩ := three_cells HWF.out.r1
        have HE := Lib.hid (HWF.out.out (.slice none 0 0) (0) (⟨#[]⟩))
        go_wp2_with fail
        (try simp only [Exit.inBlock, Exit.then])
        refine bodyPost_ret (results_row_tmp rfl _ _ (S + 1) 42 #[.slice none 0 0, .int .i64 (0), .string (⟨#[]⟩)] (0, 0) _ (.int .i64 7) (by rfl) (by rfl) HE.out.1 Tryz.underlying42 (by rfl) (by kernel_rfl)) rfl ?_
        rw [HD.out]
        try rw [HS.out]
        exact ⟨⟨_, rfl, OwnG.nil _ _ _⟩, HE.out.2⟩
      · have HFU := Lib.hid hfu
        have HD := Eqq.mk (show Cp.key (rulesL rs) ⟨xs, (k : Int), pl⟩ ch = (⟨xs.take k ++ (Cp.mkItems ul (UT.runes ol) ++ xs.drop k), (k : Int) + (m : Int), sl⟩, 0) by unfold Cp.key; rw [if_pos ⟨HV.out, HIK.out⟩]; dsimp only; rw [HST.out]; dsimp only; rw [if_pos H9.out, if_pos (by rw [HMR.out]; exact HFU.out), HUL.out]; unfold Cp.ins; dsimp only; rw [Int.toNat_natCast, mk_len, HMR.out, List.append_assoc])
        rw [Int.natCast_add]
        obtain ⟨a6, c6, hv6⟩ := ho6.frame
        obtain ⟨n6, hn6⟩ : ∃ n6, (xs.take k ++ (Cp.mkItems ul (UT.runes ol) ++ xs.drop k)).length = n6 := ⟨_, rfl⟩
        rw [hn6] at hv6
        subst hv6
        have HOE := Lib.hid (fun (x y z : Value) (o : Obj) => (three_own8 (ho6.alloc o) (show S + 1 < w4.heap.size from HW4.out.sz) x y z))
        have hrow := (MapKept.heap_alloc w5 (.cells #[.slice a6 n6 c6, .int .i64 ((k : Int) + (m : Int)), .string (sb)] 42)).1
        have hwf := HW5.out.go ((Below.refl (S + 1 + 1) w5).alloc HW5.out.sz (.cells #[.slice a6 n6 c6, .int .i64 ((k : Int) + (m : Int)), .string (sb)] 42))
        have HSZ5 := Lib.hid (Nat.le_trans HW4.out.sz hb.size)
        clear hfu hb hn6
        have HWF := Lib.hid hwf
        obtain ⟨⟨m0, m1, m2⟩, g0, g1, g2⟩ := three_cells hwf.r1
        obtain ⟨⟨y0, y1, y2⟩, u0, u1, u2⟩ := three_cells hrow
        clear hrow hwf
        have HE := Lib.hid (HWF.out.out (.slice a6 n6 c6) ((k : Int) + (m : Int)) (sb))
        go_wp2_with fail
        (try simp only [Exit.inBlock, Exit.then])
        refine bodyPost_ret (results_row_tmp rfl _ _ (S + 1) 42 #[.slice a6 n6 c6, .int .i64 ((k : Int) + (m : Int)), .string (sb)] (0, 0) _ (.int .i64 0) (by rfl) (by rfl) HE.out.1 Tryz.underlying42 (by rfl) (by kernel_rfl)) rfl ?_
        rw [HD.out]
        try rw [HS.out]
        exact ⟨⟨_, by rw [HSB.out], (HOE.out _ _ _ _).lower (by have := HW4.out.sz; omega)⟩, HE.out.2⟩
end Go.Proofs.YtgdcffahhpeibaaGreatDoor
namespace Go.Proofs.YtgdcffahhpeibaaGreatDoor
open Go.RowKit
set_option linter.unusedVariables false
namespace Au
theorem flushP_valid {l : List Ro.Rule} (h : Ro.check l = 0) : ∀ (n : Nat) (p : UT.Bs), p.length ≤ n → AllKeys p → Lib.validD (flushP l p) = true
  | n, [], _, _ => rfl
  | 0, c :: p, hn, _ => by simp at hn
  | n + 1, c :: p, hn, hk => by
    have hs := short_of h
    have hne : c :: p ≠ [] := by simp
    obtain ⟨a1, a2, a3⟩ := apply_keys h hne hk
    have al := apply_len hs hne
    obtain ⟨f1, f2, f3⟩ := feed_valid h [] (apply l (c :: p)).2 (fun c hc => by simp at hc) a1
    have fl := feed_len hs [] (apply l (c :: p)).2
    rw [List.length_nil] at fl
    rw [flushP_step hs hne]
    exact (UT.valid_app a2 (UT.valid_app f1 (flushP_valid h n _ (by omega) f3)).1).1
theorem flush_facts {l : List Ro.Rule} (h : Ro.check l = 0) (p : UT.Bs) : Lib.validD (flush l p) = true ∧ (flush l p).length ≤ 16 * p.length := by
  refine ⟨flushP_valid h _ (keysOf p) (Nat.le_refl _) (allKeys_of p), ?_⟩
  have h1 := flushP_len h _ (keysOf p) (Nat.le_refl _) (allKeys_of p)
  have h2 := keysOf_len p
  show (flushP l (keysOf p)).length ≤ _
  omega
end Au
theorem take_min {α : Type} (ys : List α) (m R L : Nat) (hm : ys.length = m) (hL : L = min m R) : ys.take L = ys.take R := by
  subst hL
  rcases Nat.le_total m R with h | h
  · rw [Nat.min_eq_left h, List.take_of_length_le (by omega), List.take_of_length_le (by omega)]
  · rw [Nat.min_eq_right h]
theorem lie_cut {v : Value} {xs : List Cp.Item} {w : World} (h : LieG itemE v xs w) (L : Nat) (hL : L ≤ xs.length) : ∃ a q, v = .slice a xs.length q ∧ LieG itemE (.slice a L q) (xs.take L) w ∧ L ≤ q ∧ xs.length ≤ q ∧ (a = none → L = 0 ∧ q = 0) ∧ ∀ ad, a = some ad → ∃ g o, ad = ⟨g, o, none⟩ := by
  obtain ⟨ao, cap, rfl, hc, hn, hs, hx⟩ := id h
  refine ⟨ao, cap, rfl, ?_, by omega, hc, fun e => by have := hn e; omega, hs⟩
  cases ao with
  | none =>
    have h0 := hn rfl
    obtain rfl : L = 0 := by omega
    subst h0
    rw [List.take_zero]
    exact LieG.nil _
  | some ad =>
    obtain ⟨g, o, rfl⟩ := hs ad rfl
    exact h.take hL
set_option maxRecDepth 100000 in
set_option maxHeartbeats 16000000 in
theorem pkey_nil (v : Value) (xs : List Cp.Item) (c : Int) (p : ByteArray) (pl : List UInt8) (w : World) (h : LieG itemE v xs w) (hp : Is p pl) (hf : Fits xs pl) (ht : Tabs w) (z : Int) :
    Calls Tryz.prog 16 #[.pointer none, bufV v c p, .int .u8 z] w fun e w' => PairR 106 w.heap.size (Cp.zero, 9) e w' ∧ Below w.heap.size w w' := by
  obtain ⟨S, hS⟩ : ∃ S, w.heap.size = S := ⟨_, rfl⟩
  have HS := Eqq.mk hS
  have hw0 := Rows2.new 33 v c p w hS
  obtain ⟨W0, hW0⟩ : ∃ W0, (w.alloc (.cells #[v, .int .i64 c, .string p] 33)).alloc (.cells #[.slice none 0 0, .int .i64 0, .string ⟨#[]⟩] 33) = W0 := ⟨_, rfl⟩
  rw [hW0] at hw0
  have HW0 := Lib.hid hw0
  have HW := Eqq.mk hW0
  have HL0 := Lib.hid (h.below hw0.b (by omega))
  have HT := Lib.hid (fun (W : World) (hW : Below S w W) => ht.keep (show Below w.heap.size w W by rw [hS]; exact hW))
  obtain ⟨⟨c0, c1, c2⟩, _⟩ := three_cells hw0.r0
  obtain ⟨⟨m0, m1, m2⟩, g0, g1, g2⟩ := three_cells hw0.r1
  clear h hp hf ht hw0 hW0 m0 m1 m2 g0 g1 g2 c0 c1 c2
  go_enter Tryz.func16, Tryz.ntmps16
  go_wp2_with fail
  (try simp only [Exit.inBlock, Exit.then])
  try rw [hS]
  rw [HW.out]
  refine bodyPost_ret (results_row_tmp rfl _ _ (S + 1) 33 #[.slice none 0 0, .int .i64 0, .string ⟨#[]⟩] (0, 0) _ (.int .i64 9) (by rfl) (by rfl) HW0.out.r1 Tryz.underlying33 (by rfl) (by kernel_rfl)) rfl ?_
  try rw [HS.out]
  exact ⟨⟨_, rfl, OwnG.nil _ _ _⟩, HW0.out.b⟩
set_option maxRecDepth 100000 in
set_option maxHeartbeats 16000000 in
theorem pflush_nil (v : Value) (xs : List Cp.Item) (c : Int) (p : ByteArray) (pl : List UInt8) (w : World) (h : LieG itemE v xs w) (hp : Is p pl) (hf : Fits xs pl) (ht : Tabs w) :
    Calls Tryz.prog 34 #[.pointer none, bufV v c p] w fun e w' => BufR w.heap.size ⟨xs, c, pl⟩ e w' ∧ Below w.heap.size w w' := by
  have HPB := Eqq.mk hp.ba
  have hn2 := hf.n
  obtain ⟨S, hS⟩ : ∃ S, w.heap.size = S := ⟨_, rfl⟩
  have HS := Eqq.mk hS
  have hw0 := Rows2.new 33 v c p w hS
  obtain ⟨W0, hW0⟩ : ∃ W0, (w.alloc (.cells #[v, .int .i64 c, .string p] 33)).alloc (.cells #[.slice none 0 0, .int .i64 0, .string ⟨#[]⟩] 33) = W0 := ⟨_, rfl⟩
  rw [hW0] at hw0
  have HW0 := Lib.hid hw0
  have HW := Eqq.mk hW0
  have HL0 := Lib.hid (h.below hw0.b (by omega))
  have HT := Lib.hid (fun (W : World) (hW : Below S w W) => ht.keep (show Below w.heap.size w W by rw [hS]; exact hW))
  obtain ⟨⟨c0, c1, c2⟩, _⟩ := three_cells hw0.r0
  obtain ⟨⟨m0, m1, m2⟩, g0, g1, g2⟩ := three_cells hw0.r1
  clear h hp hf ht hw0 hW0
  go_enter Tryz.func34, Tryz.ntmps34
  have HD := Eqq.mk (show Cp.Buf.mk xs c pl = Cp.Buf.mk xs c pl from rfl)
  go_wp2_with fail
  try rw [hS]
  rw [HW.out]
  with_reducible refine (copy8_any v xs (c) p _ HL0.out hn2).mono ?_
  rintro e w8 ⟨⟨v8, rfl, ho⟩, hb⟩
  obtain ⟨a8, q8, hv8⟩ := ho.frame
  have HW8 := Lib.hid (HW0.out.keep hb)
  obtain ⟨n8, hn8⟩ : ∃ n8, xs.length = n8 := ⟨_, rfl⟩
  rw [hn8] at hv8
  subst hv8
  have HO8 := Lib.hid (three_own8 ho (show S + 1 < W0.heap.size from HW0.out.sz) (.slice a8 n8 q8) (.int .i64 (c)) (.string p))
  clear ho hb hn8 c0 c1 c2 m0 m1 m2 g0 g1 g2
  obtain ⟨⟨m0, m1, m2⟩, g0, g1, g2⟩ := three_cells HW8.out.r1
  have HE := Lib.hid (HW8.out.out (.slice a8 n8 q8) (c) (p))
  go_wp2_with fail
  (try simp only [Exit.inBlock, Exit.then])
  refine bodyPost_ret (results_cell_row rfl _ _ (S + 1) 33 #[.slice a8 n8 q8, .int .i64 (c), .string (p)] (0, 0) _ (by rfl) HE.out.1 Tryz.underlying33 (by rfl) (by kernel_rfl)) rfl ?_
  rw [HD.out]
  try rw [HS.out]
  exact ⟨⟨_, by rw [HPB.out], HO8.out.lower (by have := HW0.out.sz; omega)⟩, HE.out.2⟩
set_option maxRecDepth 100000 in
set_option maxHeartbeats 16000000 in
theorem pflush_any (B a : Nat) (rs : List RuleB) (v : Value) (xs : List Cp.Item) (c : Int) (p : ByteArray) (pl : List UInt8) (w : World) (ha : AutoIs B rs a w) (hBw : B ≤ w.heap.size) (h : LieG itemE v xs w) (hp : Is p pl) (hf : Fits xs pl) (ht : Tabs w) :
    Calls Tryz.prog 34 #[.pointer (some ⟨a, 0, none⟩), bufV v c p] w fun e w' => BufR w.heap.size (Cp.flush (rulesL rs) ⟨xs, c, pl⟩) e w' ∧ Below w.heap.size w w' := by
  have HP := Lib.hid hp
  have HF := Lib.hid hf
  have HPB := Eqq.mk hp.ba
  have HOK := Eqq.mk ha.ok
  have hn2 := hf.n
  have HLW := Lib.hid h
  obtain ⟨S, hS⟩ : ∃ S, w.heap.size = S := ⟨_, rfl⟩
  have HS := Eqq.mk hS
  have hw0 := Rows2.new 33 v c p w hS
  obtain ⟨W0, hW0⟩ : ∃ W0, (w.alloc (.cells #[v, .int .i64 c, .string p] 33)).alloc (.cells #[.slice none 0 0, .int .i64 0, .string ⟨#[]⟩] 33) = W0 := ⟨_, rfl⟩
  rw [hW0] at hw0
  have HW0 := Lib.hid hw0
  have HW := Eqq.mk hW0
  have HL0 := Lib.hid (h.below hw0.b (by omega))
  have HT := Lib.hid (fun (W : World) (hW : Below S w W) => ht.keep (show Below w.heap.size w W by rw [hS]; exact hW))
  obtain ⟨⟨c0, c1, c2⟩, _⟩ := three_cells hw0.r0
  obtain ⟨⟨m0, m1, m2⟩, g0, g1, g2⟩ := three_cells hw0.r1
  have HAU := Lib.hid (fun (W : World) (hW : Below S w W) => (show AutoIs S rs a W from (ha.mono (show B ≤ S by omega)).below hW))
  clear h hp hf ht ha hw0 hW0
  go_enter Tryz.func34, Tryz.ntmps34
  go_wp2_with fail
  try rw [hS]
  rw [HW.out]
  with_reducible refine (check8_any v xs c p pl W0 HL0.out HP.out HF.out (HT.out _ HW0.out.b)).mono ?_
  rintro e w1 ⟨rfl, hb⟩
  have HW1 := Lib.hid (HW0.out.keep hb)
  have HL1 := Lib.hid (HL0.out.keep hb)
  clear hb c0 c1 c2 m0 m1 m2 g0 g1 g2
  obtain ⟨⟨c0, c1, c2⟩, _⟩ := three_cells HW1.out.r0
  obtain ⟨⟨m0, m1, m2⟩, g0, g1, g2⟩ := three_cells HW1.out.r1
  obtain ⟨V, hV⟩ : ∃ V, Cp.valid ⟨xs, c, pl⟩ = V := ⟨_, rfl⟩
  have HV := Eqq.mk hV
  rw [hV]
  clear hV
  cases V
  · rw [if_neg (show ¬ (false = true) by simp)]
    have HD := Eqq.mk (show Cp.flush (rulesL rs) ⟨xs, c, pl⟩ = ⟨xs, c, pl⟩ by unfold Cp.flush; rw [if_neg (by rw [HV.out]; simp)])
    go_wp2_with fail
    with_reducible refine (copy8_any v xs (c) p _ HL1.out hn2).mono ?_
    rintro e w8 ⟨⟨v8, rfl, ho⟩, hb⟩
    obtain ⟨a8, q8, hv8⟩ := ho.frame
    have HW8 := Lib.hid (HW1.out.keep hb)
    obtain ⟨n8, hn8⟩ : ∃ n8, xs.length = n8 := ⟨_, rfl⟩
    rw [hn8] at hv8
    subst hv8
    have HO8 := Lib.hid (three_own8 ho (show S + 1 < w1.heap.size from HW1.out.sz) (.slice a8 n8 q8) (.int .i64 (c)) (.string p))
    clear ho hb hn8 c0 c1 c2 m0 m1 m2 g0 g1 g2
    obtain ⟨⟨m0, m1, m2⟩, g0, g1, g2⟩ := three_cells HW8.out.r1
    have HE := Lib.hid (HW8.out.out (.slice a8 n8 q8) (c) (p))
    go_wp2_with fail
    (try simp only [Exit.inBlock, Exit.then])
    refine bodyPost_ret (results_cell_row rfl _ _ (S + 1) 33 #[.slice a8 n8 q8, .int .i64 (c), .string (p)] (0, 0) _ (by rfl) HE.out.1 Tryz.underlying33 (by rfl) (by kernel_rfl)) rfl ?_
    rw [HD.out]
    try rw [HS.out]
    exact ⟨⟨_, by rw [HPB.out], HO8.out.lower (by have := HW1.out.sz; omega)⟩, HE.out.2⟩
  · rw [if_pos rfl]
    obtain ⟨h64, ⟨k, rfl, hk⟩, h8, _, _⟩ := valid_parts HV.out
    by_cases hq : pl = []
    · subst hq
      obtain rfl : p = ⟨#[]⟩ := HP.out.eq (Is.mk [])
      have HD := Eqq.mk (show Cp.flush (rulesL rs) ⟨xs, (k : Int), []⟩ = ⟨xs, (k : Int), []⟩ by unfold Cp.flush; rw [if_neg (by rintro ⟨_, h⟩; exact h rfl)])
      go_wp2_with fail
      with_reducible refine (copy8_any v xs (k) ⟨#[]⟩ _ HL1.out hn2).mono ?_
      rintro e w8 ⟨⟨v8, rfl, ho⟩, hb⟩
      obtain ⟨a8, q8, hv8⟩ := ho.frame
      have HW8 := Lib.hid (HW1.out.keep hb)
      obtain ⟨n8, hn8⟩ : ∃ n8, xs.length = n8 := ⟨_, rfl⟩
      rw [hn8] at hv8
      subst hv8
      have HO8 := Lib.hid (three_own8 ho (show S + 1 < w1.heap.size from HW1.out.sz) (.slice a8 n8 q8) (.int .i64 (k)) (.string ⟨#[]⟩))
      clear ho hb hn8 c0 c1 c2 m0 m1 m2 g0 g1 g2
      obtain ⟨⟨m0, m1, m2⟩, g0, g1, g2⟩ := three_cells HW8.out.r1
      have HE := Lib.hid (HW8.out.out (.slice a8 n8 q8) (k) (⟨#[]⟩))
      go_wp2_with fail
      (try simp only [Exit.inBlock, Exit.then])
      refine bodyPost_ret (results_cell_row rfl _ _ (S + 1) 33 #[.slice a8 n8 q8, .int .i64 (k), .string (⟨#[]⟩)] (0, 0) _ (by rfl) HE.out.1 Tryz.underlying33 (by rfl) (by kernel_rfl)) rfl ?_
      rw [HD.out]
      try rw [HS.out]
      exact ⟨⟨_, by rw [HPB.out], HO8.out.lower (by have := HW1.out.sz; omega)⟩, HE.out.2⟩
    have n1p : ¬ p.toList = [] := by rw [HP.out.list]; exact hq
    have n2p : (p.toList == []) = false := by rw [beq_eq_false_iff_ne]; exact n1p
    have HQ := Lib.hid hq
    have hpz : p.size ≤ 8 := by rw [HP.out.size]; exact h8
    obtain ⟨fl, hfl⟩ : ∃ fl, Au.flush (rulesL rs) pl = fl := ⟨_, rfl⟩
    obtain ⟨s1, s2⟩ := Au.flush_facts HOK.out pl
    rw [hfl] at s1 s2
    have HFL := Eqq.mk hfl
    have HVD := Eqq.mk s1
    obtain ⟨fb, hfb⟩ : ∃ fb, ba fl = fb := ⟨_, rfl⟩
    have HFB := Eqq.mk hfb
    have HO := Lib.hid (show Is fb fl by rw [← hfb]; exact is_ba fl)
    have hoz : fb.size ≤ 2000000 := by rw [HO.out.size]; omega
    clear hq hfl hfb s1 s2
    go_wp2_with fail
    with_reducible refine (flush_any S a rs p pl w1 (HAU.out _ HW1.out.b) (by have := HW1.out.sz; omega) HP.out (by omega)).mono ?_
    rw [HFL.out, HFB.out]
    rintro e w2 ⟨rfl, hb⟩
    have HW2 := Lib.hid (HW1.out.keep hb)
    have HL2 := Lib.hid (HL1.out.keep hb)
    clear hb c0 c1 c2 m0 m1 m2 g0 g1 g2
    obtain ⟨⟨c0, c1, c2⟩, _⟩ := three_cells HW2.out.r0
    obtain ⟨⟨m0, m1, m2⟩, g0, g1, g2⟩ := three_cells HW2.out.r1
    go_wp2_with fail
    with_reducible refine (uvalid8_any fb fl _ HO.out (by omega) (HT.out _ HW2.out.b)).mono ?_
    rw [HVD.out]
    rintro e w3 ⟨rfl, hb⟩
    have HW3 := Lib.hid (HW2.out.keep hb)
    have HL3 := Lib.hid (HL2.out.keep hb)
    clear hb c0 c1 c2 m0 m1 m2 g0 g1 g2
    obtain ⟨⟨c0, c1, c2⟩, _⟩ := three_cells HW3.out.r0
    obtain ⟨⟨m0, m1, m2⟩, g0, g1, g2⟩ := three_cells HW3.out.r1
    obtain ⟨ys, hys⟩ : ∃ ys, Cp.mkItems pl (UT.runes fl) = ys := ⟨_, rfl⟩
    have HYS := Eqq.mk hys
    obtain ⟨m, hm9⟩ : ∃ m, ys.length = m := ⟨_, rfl⟩
    have HM := Eqq.mk hm9
    have hm : m ≤ 2000000 := by have h1 : (UT.runes fl).length = m := by rw [← hm9, ← hys, mk_len]
                                have := UT.runes_len fl.length fl (Nat.le_refl _); have := HO.out.size; omega
    clear hys hm9
    go_wp2_with fail
    with_reducible refine (items_any p fb pl fl _ HP.out HO.out hoz).mono ?_
    rw [HYS.out]
    rintro e w4 ⟨⟨v5, rfl, ho5⟩, hb⟩
    have HW4 := Lib.hid (HW3.out.keep hb)
    have HL4 := Lib.hid (HL3.out.keep hb)
    have HO5 := Lib.hid ho5
    clear ho5 hb c0 c1 c2 m0 m1 m2 g0 g1 g2
    obtain ⟨⟨c0, c1, c2⟩, _⟩ := three_cells HW4.out.r0
    obtain ⟨⟨m0, m1, m2⟩, g0, g1, g2⟩ := three_cells HW4.out.r1
    obtain ⟨ao, cap, rfl, _⟩ := id HL4.out
    have HH64 := Lib.hid h64
    have HHK := Lib.hid hk
    obtain ⟨R, hR⟩ : ∃ R, xs.length + R = 64 := ⟨64 - xs.length, by omega⟩
    obtain ⟨L, hL⟩ : ∃ L, min m R = L := ⟨_, rfl⟩
    have HLM := Eqq.mk hL
    have hLm : L ≤ m := by omega
    have hLR : L ≤ R := by omega
    have hw5 := HW4.out.set2 ⟨#[]⟩
    have ho5 := own_set HO5.out S (show S < w3.heap.size by have := HW3.out.sz; omega) 2 (.string ⟨#[]⟩)
    obtain ⟨w5, hw9⟩ : ∃ w5, w4.setCell ⟨S, 2, none⟩ (.string ⟨#[]⟩) = w5 := ⟨_, rfl⟩
    rw [hw9] at hw5 ho5
    have HW5 := Lib.hid hw5
    obtain ⟨a5, q5, hv5, hl5, hq5, hm5, hn5, hs5⟩ := lie_cut ho5.lie L (by rw [HM.out]; exact hLm)
    rw [HM.out] at hv5 hm5
    subst hv5
    have HLC := Lib.hid hl5
    have HL5 := Lib.hid (HLW.out.below HW5.out.b (Nat.le_of_eq HS.out))
    have HLL := Lib.hid (show (ys.take L).length = L by rw [List.length_take, HM.out]; omega)
    have HFU := Lib.hid (show xs.length + L ≤ 64 by omega)
    have HD := Eqq.mk (show Cp.flush (rulesL rs) ⟨xs, (k : Int), pl⟩ = ⟨xs.take k ++ (ys.take L ++ xs.drop k), (k : Int) + (L : Int), []⟩ by
      unfold Cp.flush
      rw [if_pos ⟨HV.out, HQ.out⟩]
      dsimp only
      rw [HFL.out, ← Cp.mk_take, HYS.out, show 64 - xs.length = R by omega, ← take_min ys m R L HM.out hL.symm]
      unfold Cp.ins
      dsimp only
      rw [Int.toNat_natCast, HLL.out, List.append_assoc])
    have hWR : IntKind.i64.wrap (64 - (xs.length : Int)) = (R : Int) := by rw [IntWalk.i64_in _ (by omega)]; omega
    clear ho5 hl5 hw5 c0 c1 c2 m0 m1 m2 g0 g1 g2
    obtain ⟨⟨c0, c1, c2⟩, f0, f1, f2⟩ := three_cells HW4.out.r0
    obtain ⟨⟨x0, x1, x2⟩, u0, u1, u2⟩ := three_cells HW5.out.r0
    cases a5 with
    | none =>
      obtain ⟨rfl, rfl⟩ := hn5 rfl
      obtain rfl : m = 0 := by omega
      have z9 : ((0 : Nat) : Int) = 0 := rfl
      have hLI : min (0 : Int) ((R : Nat) : Int) = 0 := by omega
      clear hL hLm hLR hR hq5 hm5 hn5 hs5 hk h64 z9
      go_wp2_with fail
      try rw [hw9]
      clear hw9 c0 c1 c2 f0 f1 f2
      have HWD := Lib.hid (HW5.out.go (Below.refl _ w5).drew)
      have HLD := Lib.hid (show LieG itemE (.slice ao xs.length cap) xs w5.drew from HL5.out)
      have HLE := Lib.hid (show LieG itemE (.slice none 0 0) (ys.take 0) w5.drew from HLC.out)
      go_region_law
        (first
         | (go_simp; go_at_call 53; (with_reducible refine (insert8_fits _ _ xs (ys.take 0) k 0 _ _ HLD.out HLE.out HHK.out HH64.out HLL.out HFU.out).mono ?_); rintro e w7 ⟨⟨v7, he, ho⟩, hb⟩; subst he; have HW7 := Lib.hid (HWD.out.keep hb); obtain ⟨a7, q7, hv7⟩ := ho.frame; obtain ⟨n7, hn7⟩ : ∃ n7, (xs.take k ++ (ys.take 0 ++ xs.drop k)).length = n7 := ⟨_, rfl⟩; rw [hn7] at hv7; subst hv7; have hS7 : S < w5.drew.heap.size := (by have := HWD.out.sz; omega); have ho8 := three_own8 ho hS7 (.slice a7 n7 q7) (.int .i64 ((k : Int))) (.string ⟨#[]⟩); have hw8 := ((HW7.out.set0 (.slice a7 n7 q7)).set1 ((k : Int))).set2 ⟨#[]⟩; obtain ⟨⟨k0, k1, k2⟩, t0, t1, t2⟩ := three_cells HW7.out.r0; obtain ⟨w8, hw9⟩ : ∃ w8, ((w7.setCell ⟨S, 0, none⟩ (.slice a7 n7 q7)).setCell ⟨S, 1, none⟩ (.int .i64 ((k : Int)))).setCell ⟨S, 2, none⟩ (.string ⟨#[]⟩) = w8 := ⟨_, rfl⟩; rw [hw9] at hw8 ho8; have HW8 := Lib.hid hw8; have HW9 := Eqq.mk hw9; have HO8 := Lib.hid ho8; clear hb hn7 ho hS7 hw8 ho8 hw9)
         | fail)
      all_goals
        (try rw [HW9.out]
         have HO9 := Lib.hid (three_own8 HO8.out (show S + 1 < w5.drew.heap.size from HWD.out.sz) (.slice a7 n7 q7) (.int .i64 ((k : Int))) (.string ⟨#[]⟩))
         clear k0 k1 k2 t0 t1 t2 x0 x1 x2 u0 u1 u2
         obtain ⟨⟨y0, y1, y2⟩, z0, z1, z2⟩ := three_cells HW8.out.r0
         obtain ⟨⟨m0, m1, m2⟩, g0, g1, g2⟩ := three_cells HW8.out.r1
         have HE := Lib.hid (HW8.out.out (.slice a7 n7 q7) ((k : Int)) ⟨#[]⟩)
         go_wp2_with fail
         (try simp only [Exit.inBlock, Exit.then])
         refine bodyPost_ret (results_cell_row rfl _ _ (S + 1) 33 #[.slice a7 n7 q7, .int .i64 ((k : Int)), .string ⟨#[]⟩] (0, 0) _ (by rfl) HE.out.1 Tryz.underlying33 (by rfl) (by kernel_rfl)) rfl ?_
         rw [HD.out]
         try rw [HS.out]
         exact ⟨⟨_, by first | rfl | simp [ba], HO9.out.lower (by have := HWD.out.sz; omega)⟩, HE.out.2⟩)
    | some ad =>
      obtain ⟨ga, oa, rfl⟩ := hs5 ad rfl
      have hLI : min (m : Int) ((R : Nat) : Int) = (L : Int) := by omega
      have l1 : (L : Int) ≤ (m : Int) := by omega
      have l2 : (L : Int) ≤ (q5 : Int) := by omega
      have l3 : (0 : Int) ≤ (L : Int) := by omega
      clear hL hLm hLR hR hq5 hm5 hn5 hs5 hk h64
      go_wp2_with fail
      try rw [hw9]
      clear hw9 c0 c1 c2 f0 f1 f2
      have HWD := Lib.hid (HW5.out.go (Below.refl _ w5).drew)
      have HLD := Lib.hid (show LieG itemE (.slice ao xs.length cap) xs w5.drew from HL5.out)
      have HLE := Lib.hid (show LieG itemE (.slice (some ⟨ga, oa, none⟩) L q5) (ys.take L) w5.drew from HLC.out)
      go_region_law
        (first
         | (go_simp; go_at_call 53; (with_reducible refine (insert8_fits _ _ xs (ys.take L) k L _ _ HLD.out HLE.out HHK.out HH64.out HLL.out HFU.out).mono ?_); rintro e w7 ⟨⟨v7, he, ho⟩, hb⟩; subst he; have HW7 := Lib.hid (HWD.out.keep hb); obtain ⟨a7, q7, hv7⟩ := ho.frame; obtain ⟨n7, hn7⟩ : ∃ n7, (xs.take k ++ (ys.take L ++ xs.drop k)).length = n7 := ⟨_, rfl⟩; rw [hn7] at hv7; subst hv7; have hS7 : S < w5.drew.heap.size := (by have := HWD.out.sz; omega); have ho8 := three_own8 ho hS7 (.slice a7 n7 q7) (.int .i64 ((k : Int) + (L : Int))) (.string ⟨#[]⟩); have hw8 := ((HW7.out.set0 (.slice a7 n7 q7)).set1 ((k : Int) + (L : Int))).set2 ⟨#[]⟩; obtain ⟨⟨k0, k1, k2⟩, t0, t1, t2⟩ := three_cells HW7.out.r0; obtain ⟨w8, hw9⟩ : ∃ w8, ((w7.setCell ⟨S, 0, none⟩ (.slice a7 n7 q7)).setCell ⟨S, 1, none⟩ (.int .i64 ((k : Int) + (L : Int)))).setCell ⟨S, 2, none⟩ (.string ⟨#[]⟩) = w8 := ⟨_, rfl⟩; rw [hw9] at hw8 ho8; have HW8 := Lib.hid hw8; have HW9 := Eqq.mk hw9; have HO8 := Lib.hid ho8; clear hb hn7 ho hS7 hw8 ho8 hw9)
         | fail)
      all_goals
        (try rw [HW9.out]
         have HO9 := Lib.hid (three_own8 HO8.out (show S + 1 < w5.drew.heap.size from HWD.out.sz) (.slice a7 n7 q7) (.int .i64 ((k : Int) + (L : Int))) (.string ⟨#[]⟩))
         clear k0 k1 k2 t0 t1 t2 x0 x1 x2 u0 u1 u2
         obtain ⟨⟨y0, y1, y2⟩, z0, z1, z2⟩ := three_cells HW8.out.r0
         obtain ⟨⟨m0, m1, m2⟩, g0, g1, g2⟩ := three_cells HW8.out.r1
         have HE := Lib.hid (HW8.out.out (.slice a7 n7 q7) ((k : Int) + (L : Int)) ⟨#[]⟩)
         go_wp2_with fail
         (try simp only [Exit.inBlock, Exit.then])
         refine bodyPost_ret (results_cell_row rfl _ _ (S + 1) 33 #[.slice a7 n7 q7, .int .i64 ((k : Int) + (L : Int)), .string ⟨#[]⟩] (0, 0) _ (by rfl) HE.out.1 Tryz.underlying33 (by rfl) (by kernel_rfl)) rfl ?_
         rw [HD.out]
         try rw [HS.out]
         exact ⟨⟨_, by first | rfl | simp [ba], HO9.out.lower (by have := HWD.out.sz; omega)⟩, HE.out.2⟩)
end Go.Proofs.YtgdcffahhpeibaaGreatDoor
namespace Go.Proofs.YtgdcffahhpeibaaGreatDoor
open Go.RowKit
set_option linter.unusedVariables false
theorem runesBytes_enc (cs : List Nat) (hc : ∀ c ∈ cs, UT.isCh c = true) : ∀ s : ByteArray, (cs.map fun (c : Nat) => (c : Int)).foldl (fun r n => r ++ Utf8.encode n) s = s ++ ba (UT.enc cs) := by
  induction cs with
  | nil => intro s; show s = s ++ ba []; rw [show ba [] = ByteArray.empty from rfl, ByteArray.append_empty]
  | cons c cs ih =>
    intro s
    rw [List.map_cons, List.foldl_cons, ih (fun d hd => hc d (List.mem_cons_of_mem _ hd)), encode_ba (hc c (List.mem_cons_self ..)), UT.enc_cons, ByteArray.append_assoc]
    rw [ba_app9]
set_option maxRecDepth 100000 in
theorem conv_runes {B : Nat} {ao : Option Addr} {n q : Nat} {rs : List Nat} {w : World} (h : RunesAt B (.slice ao n q) rs w) (hc : ∀ c ∈ rs, UT.isCh c = true) (L : Nat) (hL : L ≤ rs.length) :
    (convert 77 9 (.slice ao L q)).run Tryz.prog w = .ok (.string (ba (UT.enc (rs.take L)))) w := by
  obtain ⟨a', q', hv, hq, hx⟩ := runes_cells h
  injection hv with e1 e2 e3
  subst e1; subst e3
  cases ao with
  | none =>
    have h0 : L = 0 := by
      rcases Nat.eq_zero_or_pos L with h | h
      · exact h
      · obtain ⟨c, hcc⟩ : ∃ c, rs[0]? = some c := ⟨_, List.getElem?_eq_getElem (by omega)⟩
        obtain ⟨g, hg, _⟩ := hx 0 c hcc
        cases hg
    subst h0
    rw [run_convert_runes_nil w _ _ 21 _ _ Tryz.underlying77 Tryz.underlying21 Tryz.underlying9]
    rfl
  | some ad =>
    by_cases h0 : rs = []
    · subst h0
      obtain rfl : L = 0 := by simpa using hL
      have := run_convert_runes (P := Tryz.prog) w 77 9 21 ad 0 q [] (by simp) Tryz.underlying77 Tryz.underlying21 Tryz.underlying9 (fun j hj => by simp at hj)
      rw [this]
      rfl
    · obtain ⟨c0, hc0⟩ : ∃ c, rs[0]? = some c := ⟨_, List.getElem?_eq_getElem (List.length_pos_iff.2 h0)⟩
      obtain ⟨g, hg, _⟩ := hx 0 c0 hc0
      injection hg with hg
      subst hg
      have := run_convert_runes (P := Tryz.prog) w 77 9 21 ⟨g, 0, none⟩ L q (rs.map fun (c : Nat) => (c : Int)) (by rw [List.length_map]; exact hL) Tryz.underlying77 Tryz.underlying21 Tryz.underlying9 (fun j hj => by
        rw [List.length_map] at hj
        obtain ⟨c, hcc⟩ : ∃ c, rs[j]? = some c := ⟨_, List.getElem?_eq_getElem hj⟩
        obtain ⟨g', hg', _, hcell⟩ := hx j c hcc
        injection hg' with hg'
        injection hg' with hg'
        subst hg'
        rw [addr_add, Nat.zero_add, hcell]
        congr 2
        rw [List.getD_eq_getElem?_getD, List.getElem?_map, hcc]
        rfl)
      rw [this, ← List.map_take]
      have e := runesBytes_enc (rs.take L) (fun d hd => hc d (List.mem_of_mem_take hd)) ByteArray.empty
      unfold runesBytes
      rw [e, ByteArray.empty_append]
set_option maxRecDepth 100000 in
set_option maxHeartbeats 16000000 in
theorem rflush8_any (vr : Value) (rs : List RuleB) (v : Value) (xs : List Cp.Item) (c : Int) (p : ByteArray) (pl : List UInt8) (w : World) (hlr : LieR vr rs w) (hok : Ro.check (rulesL rs) = 0) (hrn : rs.length ≤ 1000000000000) (h : LieG itemE v xs w) (hp : Is p pl) (hf : Fits xs pl) :
    Calls Tryz.prog 36 #[vr, bufV v c p] w fun e w' => RefR (Cp.flush (rulesL rs) ⟨xs, c, pl⟩) e w' ∧ Below w.heap.size w w' := by
  have HP := Lib.hid hp
  have HF := Lib.hid hf
  have HPB := Eqq.mk hp.ba
  have HOK := Eqq.mk hok
  have HLW := Lib.hid h
  obtain ⟨ao, cap, rfl, _⟩ := id h
  obtain ⟨S, hS⟩ : ∃ S, w.heap.size = S := ⟨_, rfl⟩
  have HS := Eqq.mk hS
  have hw0 := Rows2.new 42 (.slice ao xs.length cap) c p w hS
  obtain ⟨W0, hW0⟩ : ∃ W0, (w.alloc (.cells #[.slice ao xs.length cap, .int .i64 c, .string p] 42)).alloc (.cells #[.slice none 0 0, .int .i64 0, .string ⟨#[]⟩] 42) = W0 := ⟨_, rfl⟩
  rw [hW0] at hw0
  have HW0 := Lib.hid hw0
  have HW := Eqq.mk hW0
  have HL0 := Lib.hid (h.below hw0.b (by omega))
  obtain ⟨⟨c0, c1, c2⟩, _⟩ := three_cells hw0.r0
  obtain ⟨⟨m0, m1, m2⟩, g0, g1, g2⟩ := three_cells hw0.r1
  have HLR := Lib.hid (fun (W : World) (hW : Below S w W) => (show LieR vr rs W from hlr.below hW (by omega)))
  clear h hp hf hlr hok hw0 hW0
  go_enter Tryz.func36, Tryz.ntmps36
  go_wp2_with fail
  try rw [hS]
  rw [HW.out]
  with_reducible refine (rvalid_any _ xs c p pl W0 HL0.out HP.out HF.out).mono ?_
  rintro e w1 ⟨rfl, hb⟩
  have HW1 := Lib.hid (HW0.out.keep hb)
  have HL1 := Lib.hid (HL0.out.keep hb)
  clear hb c0 c1 c2 m0 m1 m2 g0 g1 g2
  obtain ⟨⟨c0, c1, c2⟩, _⟩ := three_cells HW1.out.r0
  obtain ⟨⟨m0, m1, m2⟩, g0, g1, g2⟩ := three_cells HW1.out.r1
  obtain ⟨V, hV⟩ : ∃ V, Cp.valid ⟨xs, c, pl⟩ = V := ⟨_, rfl⟩
  have HV := Eqq.mk hV
  rw [hV]
  clear hV
  cases V
  · have HD := Eqq.mk (show Cp.flush (rulesL rs) ⟨xs, c, pl⟩ = ⟨xs, c, pl⟩ by unfold Cp.flush; rw [if_neg (by rw [HV.out]; simp)])
    have HE := Lib.hid (HW1.out.out (.slice ao xs.length cap) (c) (p))
    go_wp2_with fail
    (try simp only [Exit.inBlock, Exit.then])
    refine bodyPost_ret (results_cell_row rfl _ _ (S + 1) 42 #[.slice ao xs.length cap, .int .i64 (c), .string (p)] (0, 0) _ (by rfl) HE.out.1 Tryz.underlying42 (by rfl) (by kernel_rfl)) rfl ?_
    rw [HD.out]
    try rw [HS.out]
    exact ⟨⟨_, by rw [HPB.out], HLW.out.below HE.out.2 (Nat.le_of_eq HS.out)⟩, HE.out.2⟩
  · obtain ⟨h64, ⟨k, rfl, hk⟩, h8, _, _⟩ := valid_parts HV.out
    by_cases hq : pl = []
    · subst hq
      obtain rfl : p = ⟨#[]⟩ := HP.out.eq (Is.mk [])
      have HD := Eqq.mk (show Cp.flush (rulesL rs) ⟨xs, (k : Int), []⟩ = ⟨xs, (k : Int), []⟩ by unfold Cp.flush; rw [if_neg (by rintro ⟨_, h⟩; exact h rfl)])
      have HE := Lib.hid (HW1.out.out (.slice ao xs.length cap) (k) (⟨#[]⟩))
      go_wp2_with fail
      (try simp only [Exit.inBlock, Exit.then])
      refine bodyPost_ret (results_cell_row rfl _ _ (S + 1) 42 #[.slice ao xs.length cap, .int .i64 (k), .string (⟨#[]⟩)] (0, 0) _ (by rfl) HE.out.1 Tryz.underlying42 (by rfl) (by kernel_rfl)) rfl ?_
      rw [HD.out]
      try rw [HS.out]
      exact ⟨⟨_, by rw [HPB.out], HLW.out.below HE.out.2 (Nat.le_of_eq HS.out)⟩, HE.out.2⟩
    have n1p : ¬ p.toList = [] := by rw [HP.out.list]; exact hq
    have n2p : (p.toList == []) = false := by rw [beq_eq_false_iff_ne]; exact n1p
    have HQ := Lib.hid hq
    have hpz : p.size ≤ 8 := by rw [HP.out.size]; exact h8
    obtain ⟨fl, hfl⟩ : ∃ fl, Au.flush (rulesL rs) pl = fl := ⟨_, rfl⟩
    obtain ⟨s1, s2⟩ := Au.flush_facts HOK.out pl
    rw [hfl] at s1 s2
    have HFL := Eqq.mk hfl
    have HVD := Eqq.mk s1
    obtain ⟨fb, hfb⟩ : ∃ fb, ba fl = fb := ⟨_, rfl⟩
    have HFB := Eqq.mk hfb
    have HO := Lib.hid (show Is fb fl by rw [← hfb]; exact is_ba fl)
    have hoz : fb.size ≤ 2000000 := by rw [HO.out.size]; omega
    clear hq hfl hfb s1 s2
    go_wp2_with fail
    with_reducible refine (rflush_any p pl vr rs w1 HP.out (HLR.out _ HW1.out.b) HOK.out hrn (by omega)).mono ?_
    rw [HFL.out, HFB.out]
    rintro e w2 ⟨rfl, hb⟩
    have HW2 := Lib.hid (HW1.out.keep hb)
    have HL2 := Lib.hid (HL1.out.keep hb)
    clear hb c0 c1 c2 m0 m1 m2 g0 g1 g2
    obtain ⟨⟨c0, c1, c2⟩, _⟩ := three_cells HW2.out.r0
    obtain ⟨⟨m0, m1, m2⟩, g0, g1, g2⟩ := three_cells HW2.out.r1
    obtain ⟨w3, hw9⟩ : ∃ w3, w2.setCell ⟨S, 2, none⟩ (.string ⟨#[]⟩) = w3 := ⟨_, rfl⟩
    have hw3 := HW2.out.set2 ⟨#[]⟩
    rw [hw9] at hw3
    have HW3 := Lib.hid hw3
    clear hw3
    obtain ⟨_, f0, f1, f2⟩ := three_cells HW2.out.r0
    go_wp2_with fail
    try rw [hw9]
    clear hw9 c0 c1 c2 m0 m1 m2 g0 g1 g2 f0 f1 f2
    with_reducible refine (runes_any fb fl w3 HO.out (by omega)).mono ?_
    rintro e w4 ⟨hb, hru⟩
    rcases hru with ⟨hbad, _⟩ | ⟨_, v1, hr1, rfl⟩
    · rw [HVD.out] at hbad; cases hbad
    obtain ⟨m, hm⟩ : ∃ m, (UT.runes fl).length = m := ⟨_, rfl⟩
    have HMM := Eqq.mk hm
    obtain ⟨ar, capr, hvr, hcr, hrc⟩ := runes_cells hr1
    rw [hm] at hvr hcr
    subst hvr
    have HRA := Lib.hid hr1
    have HW4 := Lib.hid (HW3.out.keep hb)
    have HRN := Lib.hid (fun (i : Nat) (hi : i < m) => (show ∃ g, ar = some ⟨g, 0, none⟩ from by
      obtain ⟨c, hcc⟩ : ∃ c, (UT.runes fl)[i]? = some c := ⟨_, List.getElem?_eq_getElem (by rw [hm]; exact hi)⟩
      obtain ⟨g, hg, _⟩ := hrc i c hcc
      exact ⟨g, hg⟩))
    have hmz : m ≤ 2000000 := by have := UT.runes_len fl.length fl (Nat.le_refl _); have := HO.out.size; omega
    have HCH := Lib.hid (Cp.runes_ch fl)
    have HH64 := Lib.hid h64
    have HHK := Lib.hid hk
    obtain ⟨R, hR⟩ : ∃ R, xs.length + R = 64 := ⟨64 - xs.length, by omega⟩
    have hRI : (64 : Int) - (xs.length : Int) = (R : Int) := by omega
    have HLX := Lib.hid (HLW.out.below HW4.out.b (Nat.le_of_eq HS.out))
    clear hb hr1 hrc hm
    obtain ⟨⟨c0, c1, c2⟩, _⟩ := three_cells HW4.out.r0
    obtain ⟨⟨m0, m1, m2⟩, g0, g1, g2⟩ := three_cells HW4.out.r1
    by_cases hmr : R < m
    · obtain ⟨gr, rfl⟩ := HRN.out 0 (by omega)
      have q1 : (R : Int) < (m : Int) := by omega
      have q2 : (R : Int) ≤ (capr : Int) := by omega
      have q3 : (0 : Int) ≤ (R : Int) := by omega
      have q4 : (R : Int) ≤ (m : Int) := by omega
      have HLm := Lib.hid (show R ≤ (UT.runes fl).length by rw [HMM.out]; omega)
      have hcv := conv_runes HRA.out HCH.out R HLm.out
      obtain ⟨ol, hol⟩ : ∃ ol, UT.enc ((UT.runes fl).take R) = ol := ⟨_, rfl⟩
      have HOL := Eqq.mk hol
      have hre := UT.runes_enc ((UT.runes fl).take R) (fun d hd => HCH.out d (List.mem_of_mem_take hd))
      rw [hol] at hre
      have HRE := Lib.hid hre
      have holz := UT.bk_len ((UT.runes fl).take R)
      rw [hol, List.length_take] at holz
      rw [hol] at hcv
      obtain ⟨ob, hob⟩ : ∃ ob, ba ol = ob := ⟨_, rfl⟩
      rw [hob] at hcv
      have HO2 := Lib.hid (show Is ob ol by rw [← hob]; exact is_ba ol)
      have hoz2 : ob.size ≤ 2000000 := by rw [HO2.out.size]; omega
      have HRL := Lib.hid (show (UT.runes ol).length = R by rw [HRE.out.1, List.length_take]; have := HLm.out; omega)
      have HD := Eqq.mk (show Cp.flush (rulesL rs) ⟨xs, (k : Int), pl⟩ = ⟨xs.take k ++ (Cp.mkItems pl (UT.runes ol) ++ xs.drop k), (k : Int) + (R : Int), []⟩ by
        unfold Cp.flush
        rw [if_pos ⟨HV.out, HQ.out⟩]
        dsimp only
        rw [HFL.out, show 64 - xs.length = R by omega, ← take_min (UT.runes fl) m R R HMM.out (by omega), ← HRE.out.1]
        unfold Cp.ins
        dsimp only
        rw [Int.toNat_natCast, mk_len, HRL.out, List.append_assoc])
      have HFU := Lib.hid (show xs.length + R ≤ 64 by omega)
      clear hol hre holz hob hR
      go_wp2_with fail
      with_reducible refine (rinsert_any _ xs k _ p ob pl ol _ HLX.out HP.out HO2.out HRE.out.2 HHK.out HH64.out hoz2 R HRL.out).mono ?_
      rintro e w5 ⟨hr5, hb⟩
      have HW5 := Lib.hid (HW4.out.keep hb)
      clear hcv c0 c1 c2 m0 m1 m2 g0 g1 g2
      rcases hr5 with ⟨hfu, rfl⟩ | ⟨hfu, v6, rfl, ho6⟩
      · exfalso; have := HFU.out; omega
      rw [Int.natCast_add]
      obtain ⟨a6, c6, hv6⟩ := ho6.frame
      obtain ⟨n6, hn6⟩ : ∃ n6, (xs.take k ++ (Cp.mkItems pl (UT.runes ol) ++ xs.drop k)).length = n6 := ⟨_, rfl⟩
      rw [hn6] at hv6
      subst hv6
      have HOE := Lib.hid (fun (x y z : Value) (o : Obj) => (three_own8 (ho6.alloc o) (show S + 1 < w4.heap.size from HW4.out.sz) x y z).lie)
      have hrow := (MapKept.heap_alloc w5 (.cells #[.slice a6 n6 c6, .int .i64 ((k : Int) + (R : Int)), .string ⟨#[]⟩] 42)).1
      have hwf := HW5.out.go ((Below.refl (S + 1 + 1) w5).alloc HW5.out.sz (.cells #[.slice a6 n6 c6, .int .i64 ((k : Int) + (R : Int)), .string ⟨#[]⟩] 42))
      clear hfu hb hn6
      have HWF := Lib.hid hwf
      obtain ⟨⟨m0, m1, m2⟩, g0, g1, g2⟩ := three_cells hwf.r1
      obtain ⟨⟨y0, y1, y2⟩, u0, u1, u2⟩ := three_cells hrow
      clear hrow hwf
      have HE := Lib.hid (HWF.out.out (.slice a6 n6 c6) ((k : Int) + (R : Int)) (⟨#[]⟩))
      go_wp2_with fail
      (try simp only [Exit.inBlock, Exit.then])
      refine bodyPost_ret (results_cell_row rfl _ _ (S + 1) 42 #[.slice a6 n6 c6, .int .i64 ((k : Int) + (R : Int)), .string (⟨#[]⟩)] (0, 0) _ (by rfl) HE.out.1 Tryz.underlying42 (by rfl) (by kernel_rfl)) rfl ?_
      rw [HD.out]
      try rw [HS.out]
      exact ⟨⟨_, by first | rfl | simp [ba], HOE.out _ _ _ _⟩, HE.out.2⟩
    · have q1 : ¬ (R : Int) < (m : Int) := by omega
      have HLm := Lib.hid (show m ≤ (UT.runes fl).length by rw [HMM.out]; omega)
      have hcv := conv_runes HRA.out HCH.out m HLm.out
      obtain ⟨ol, hol⟩ : ∃ ol, UT.enc ((UT.runes fl).take m) = ol := ⟨_, rfl⟩
      have HOL := Eqq.mk hol
      have hre := UT.runes_enc ((UT.runes fl).take m) (fun d hd => HCH.out d (List.mem_of_mem_take hd))
      rw [hol] at hre
      have HRE := Lib.hid hre
      have holz := UT.bk_len ((UT.runes fl).take m)
      rw [hol, List.length_take] at holz
      rw [hol] at hcv
      obtain ⟨ob, hob⟩ : ∃ ob, ba ol = ob := ⟨_, rfl⟩
      rw [hob] at hcv
      have HO2 := Lib.hid (show Is ob ol by rw [← hob]; exact is_ba ol)
      have hoz2 : ob.size ≤ 2000000 := by rw [HO2.out.size]; omega
      have HRL := Lib.hid (show (UT.runes ol).length = m by rw [HRE.out.1, List.length_take]; have := HLm.out; omega)
      have HD := Eqq.mk (show Cp.flush (rulesL rs) ⟨xs, (k : Int), pl⟩ = ⟨xs.take k ++ (Cp.mkItems pl (UT.runes ol) ++ xs.drop k), (k : Int) + (m : Int), []⟩ by
        unfold Cp.flush
        rw [if_pos ⟨HV.out, HQ.out⟩]
        dsimp only
        rw [HFL.out, show 64 - xs.length = R by omega, ← take_min (UT.runes fl) m R m HMM.out (by omega), ← HRE.out.1]
        unfold Cp.ins
        dsimp only
        rw [Int.toNat_natCast, mk_len, HRL.out, List.append_assoc])
      have HFU := Lib.hid (show xs.length + m ≤ 64 by omega)
      clear hol hre holz hob hR
      go_wp2_with fail
      with_reducible refine (rinsert_any _ xs k _ p ob pl ol _ HLX.out HP.out HO2.out HRE.out.2 HHK.out HH64.out hoz2 m HRL.out).mono ?_
      rintro e w5 ⟨hr5, hb⟩
      have HW5 := Lib.hid (HW4.out.keep hb)
      clear hcv c0 c1 c2 m0 m1 m2 g0 g1 g2
      rcases hr5 with ⟨hfu, rfl⟩ | ⟨hfu, v6, rfl, ho6⟩
      · exfalso; have := HFU.out; omega
      rw [Int.natCast_add]
      obtain ⟨a6, c6, hv6⟩ := ho6.frame
      obtain ⟨n6, hn6⟩ : ∃ n6, (xs.take k ++ (Cp.mkItems pl (UT.runes ol) ++ xs.drop k)).length = n6 := ⟨_, rfl⟩
      rw [hn6] at hv6
      subst hv6
      have HOE := Lib.hid (fun (x y z : Value) (o : Obj) => (three_own8 (ho6.alloc o) (show S + 1 < w4.heap.size from HW4.out.sz) x y z).lie)
      have hrow := (MapKept.heap_alloc w5 (.cells #[.slice a6 n6 c6, .int .i64 ((k : Int) + (m : Int)), .string ⟨#[]⟩] 42)).1
      have hwf := HW5.out.go ((Below.refl (S + 1 + 1) w5).alloc HW5.out.sz (.cells #[.slice a6 n6 c6, .int .i64 ((k : Int) + (m : Int)), .string ⟨#[]⟩] 42))
      clear hfu hb hn6
      have HWF := Lib.hid hwf
      obtain ⟨⟨m0, m1, m2⟩, g0, g1, g2⟩ := three_cells hwf.r1
      obtain ⟨⟨y0, y1, y2⟩, u0, u1, u2⟩ := three_cells hrow
      clear hrow hwf
      have HE := Lib.hid (HWF.out.out (.slice a6 n6 c6) ((k : Int) + (m : Int)) (⟨#[]⟩))
      go_wp2_with fail
      (try simp only [Exit.inBlock, Exit.then])
      refine bodyPost_ret (results_cell_row rfl _ _ (S + 1) 42 #[.slice a6 n6 c6, .int .i64 ((k : Int) + (m : Int)), .string (⟨#[]⟩)] (0, 0) _ (by rfl) HE.out.1 Tryz.underlying42 (by rfl) (by kernel_rfl)) rfl ?_
      rw [HD.out]
      try rw [HS.out]
      exact ⟨⟨_, by first | rfl | simp [ba], HOE.out _ _ _ _⟩, HE.out.2⟩
end Go.Proofs.YtgdcffahhpeibaaGreatDoor
namespace Go.Proofs.YtgdcffahhpeibaaGreatDoor
open Go.RowKit
set_option linter.unusedVariables false
/-- a function's rows: its answer at S, still empty; a buffer at S + 1 -/
structure RowsF (T : TypeId) (S : Nat) (v : Value) (c : Int) (p : ByteArray) (w W : World) : Prop where
  b : Below S w W
  sz : S + 1 + 1 ≤ W.heap.size
  r0 : W.heap[S]? = some (.cells #[.slice none 0 0, .int .i64 0, .string ⟨#[]⟩] T (0, 0))
  r1 : W.heap[S + 1]? = some (.cells #[v, .int .i64 c, .string p] T (0, 0))
theorem RowsF.new (T : TypeId) (w : World) {S : Nat} (hS : w.heap.size = S) : RowsF T S (.slice none 0 0) 0 ⟨#[]⟩ w ((w.alloc (.cells #[.slice none 0 0, .int .i64 0, .string ⟨#[]⟩] T)).alloc (.cells #[.slice none 0 0, .int .i64 0, .string ⟨#[]⟩] T)) :=
  let h := Rows2.new T (.slice none 0 0) 0 ⟨#[]⟩ w hS
  ⟨h.b, h.sz, h.r0, h.r1⟩
theorem RowsF.go {T : TypeId} {S : Nat} {v : Value} {c : Int} {p : ByteArray} {w W W' : World} (h : RowsF T S v c p w W) (hb : Below (S + 1 + 1) W W') : RowsF T S v c p w W' :=
  ⟨h.b.trans (hb.mono (by omega)), Nat.le_trans h.sz hb.size, by rw [hb.block S (by omega)]; exact h.r0, by rw [hb.block (S + 1) (by omega)]; exact h.r1⟩
theorem RowsF.put {T : TypeId} {S : Nat} {v : Value} {c : Int} {p : ByteArray} {w W : World} (h : RowsF T S v c p w W) (v' : Value) (c' : Int) (p' : ByteArray) : RowsF T S v' c' p' w (((W.setCell ⟨S + 1, 0, none⟩ v').setCell ⟨S + 1, 1, none⟩ (.int .i64 c')).setCell ⟨S + 1, 2, none⟩ (.string p')) :=
  ⟨three_below h.b (by omega) _ _ _, by have := h.sz; simpa using this, (three_other (by omega) _ _ _).trans h.r0, three_set h.r1 _ _ _⟩
theorem RowsF.out {T : TypeId} {S : Nat} {v : Value} {c : Int} {p : ByteArray} {w W : World} (h : RowsF T S v c p w W) (x : Value) (y : Int) (z : ByteArray) :
    (((W.setCell ⟨S, 0, none⟩ x).setCell ⟨S, 1, none⟩ (.int .i64 y)).setCell ⟨S, 2, none⟩ (.string z)).heap[S]? = some (.cells #[x, .int .i64 y, .string z] T (0, 0)) ∧
    Below S w (((W.setCell ⟨S, 0, none⟩ x).setCell ⟨S, 1, none⟩ (.int .i64 y)).setCell ⟨S, 2, none⟩ (.string z)) :=
  ⟨three_set h.r0 x (.int .i64 y) (.string z), three_below h.b (Nat.le_refl _) _ _ _⟩
/-- what typed hands back -/
def TypedR (B : Nat) (r : Cp.Buf × Bool) (e : Ending) (w : World) : Prop := ∃ v, e = .returned (.tuple #[bufV v r.1.caret (ba r.1.pend), .bool r.2]) ∧ OwnG itemE 106 B v r.1.items w
set_option maxRecDepth 100000 in
set_option maxHeartbeats 16000000 in
theorem typed_any (B a : Nat) (rs : List RuleB) (kb : ByteArray) (kl : List UInt8) (w : World) (ha : AutoIs B rs a w) (hBw : B ≤ w.heap.size) (hk : Is kb kl) (hkz : kb.size ≤ 1000000000000) (ht : Tabs w) :
    Calls Tryz.prog 30 #[.pointer (some ⟨a, 0, none⟩), .string kb] w fun e w' => TypedR w.heap.size (Cp.typedL (rulesL rs) kl Cp.zero) e w' ∧ Below w.heap.size w w' := by
  have HK := Lib.hid hk
  have HOK := Eqq.mk ha.ok
  obtain ⟨n, hn⟩ : ∃ n, kb.size = n := ⟨_, rfl⟩
  have HN := Eqq.mk hn
  have HLN := Eqq.mk (show kl.length = n by rw [← hn, hk.size])
  rw [hn] at hkz
  obtain ⟨S, hS⟩ : ∃ S, w.heap.size = S := ⟨_, rfl⟩
  have HS := Eqq.mk hS
  have hw0 := RowsF.new 33 w hS
  obtain ⟨W0, hW0⟩ : ∃ W0, (w.alloc (.cells #[.slice none 0 0, .int .i64 0, .string ⟨#[]⟩] 33)).alloc (.cells #[.slice none 0 0, .int .i64 0, .string ⟨#[]⟩] 33) = W0 := ⟨_, rfl⟩
  rw [hW0] at hw0
  have HW0 := Lib.hid hw0
  have HW := Eqq.mk hW0
  have HAU := Lib.hid (fun (W : World) (hW : Below S w W) => (show AutoIs S rs a W from (ha.mono (show B ≤ S by omega)).below hW))
  have HT := Lib.hid (fun (W : World) (hW : Below S w W) => ht.keep (show Below w.heap.size w W by rw [hS]; exact hW))
  clear hw0 hW0 hk ha ht hn
  go_enter Tryz.func30, Tryz.ntmps30
  go_wp2_with fail
  try rw [hS]
  rw [HW.out]
  go_loopw [7] (fun iv W => ∃ (i : Nat) (b : Cp.Buf) (v : Value), i ≤ n ∧ iv = .int .i64 i ∧ Eqq (Cp.typedL (rulesL rs) (kl.take i) Cp.zero) (b, true) ∧ RowsF 33 S v b.caret (ba b.pend) w W ∧ OwnG itemE 106 (S + 1 + 1) v b.items W) (fun iv _ => n - (intOf iv).toNat)
  case atStart => exact ⟨0, Cp.zero, .slice none 0 0, Nat.zero_le _, rfl, ⟨rfl⟩, HW0.out, OwnG.nil _ _ _⟩
  case round =>
    obtain ⟨i, b, v, hi, rfl, HTY, hrw, hown⟩ := hrel
    obtain ⟨items, c, pl⟩ := b
    dsimp only at hrw hown
    have HR := Lib.hid hrw
    have HO := Lib.hid hown
    have HPI := Lib.hid (is_ba pl)
    obtain ⟨p, hp⟩ : ∃ p, ba pl = p := ⟨_, rfl⟩
    have HP := Eqq.mk hp
    rw [hp] at HR HPI
    obtain ⟨av, cv, hvf⟩ := hown.frame
    obtain ⟨m0, hm0⟩ : ∃ m0, items.length = m0 := ⟨_, rfl⟩
    rw [hm0] at hvf
    subst hvf
    clear hrw hown hp hm0
    obtain ⟨⟨y0, y1, y2⟩, z0, z1, z2⟩ := three_cells HR.out.r1
    by_cases hlt : i < n
    · have hlt' : i < kb.size := by rw [HN.out]; exact hlt
      have hget := HK.out.get i hlt'
      obtain ⟨ch, hch⟩ : ∃ ch, kb[i]'hlt' = ch := ⟨_, rfl⟩
      rw [hch] at hget
      have hty := Cp.typed_all HOK.out (kl.take i) [] Cp.zero _ (Cp.Typed.zero _) HTY.out
      have HF := Lib.hid (Cp.fits_of hty.ok hty.small)
      obtain ⟨⟨nb, er⟩, hkey⟩ : ∃ q, Cp.key (rulesL rs) ⟨items, c, pl⟩ ch = q := ⟨_, rfl⟩
      have HKEY := Eqq.mk hkey
      have HSN := Lib.hid (Cp.typedL_snoc (rulesL rs) ch (kl.take i) Cp.zero _ HTY.out)
      have HTK := Eqq.mk (take_snoc9 kl i ch hget)
      obtain ⟨ni, nc, nl⟩ := nb
      obtain ⟨np, hnp⟩ : ∃ np, ba nl = np := ⟨_, rfl⟩
      have HNP := Eqq.mk hnp
      have i0 : (0 : Int) ≤ (i : Int) := by omega
      have hSW : S ≤ wr.heap.size := by have := HR.out.sz; omega
      have HSW := Lib.hid HR.out.sz
      have HKP := Lib.hid (fun (W : World) (hW : Below wr.heap.size wr W) => (show (W.cell? ⟨S + 1, 0, none⟩ = some (.slice av m0 cv) ∧ W.cell? ⟨S + 1, 1, none⟩ = some (.int .i64 c) ∧ W.cell? ⟨S + 1, 2, none⟩ = some (.string p)) ∧ Below wr.heap.size wr W from ⟨(three_cells (HR.out.go (hW.mono HR.out.sz)).r1).1, hW⟩))
      have HBR := Lib.hid (Below.refl wr.heap.size wr)
      have HBA := Lib.hid ((HBR.out.alloc (Nat.le_refl _) (.cells #[.slice none 0 0, .int .i64 0, .string ⟨#[]⟩] 33)).drew)
      have HCON := Lib.hid (fun (W : World) (hW : Below wr.heap.size wr W) => pkey_any S a rs (.slice av m0 cv) items c p pl ch (ch.toNat : Int) rfl W (HO.out.keep hW).lie HPI.out HF.out (HAU.out W (HR.out.b.trans (hW.mono hSW))) (Nat.le_trans hSW hW.size) (HT.out W (HR.out.b.trans (hW.mono hSW))))
      clear hget hty hkey hnp y0 y1 y2 z0 z1 z2
      go_wp2_with fail
      go_region_held3 (fun W => (W.cell? ⟨S + 1, 0, none⟩ = some (.slice av m0 cv) ∧ W.cell? ⟨S + 1, 1, none⟩ = some (.int .i64 c) ∧ W.cell? ⟨S + 1, 2, none⟩ = some (.string p)) ∧ Below wr.heap.size wr W)
        (first | exact HKP.out _ HBR.out | exact HKP.out _ HBR.out.drew | exact HKP.out _ HBA.out | exact HKP.out _ HB5.out | exact HKP.out _ HB5.out.drew | exact HKP.out _ (HB5.out.alloc HZ5.out _) | exact HKP.out _ (HB5.out.alloc HZ5.out _).drew | exact HKP.out _ (three_below HB5.out (Nat.le_refl _) _ _ _) | exact HKP.out _ (three_below (HB5.out.alloc HZ5.out _) HZ5.out _ _ _) | go_keep)
        (first
         | (go_at_call 16; (with_reducible refine (HCON.out _ HBA.out).mono ?_); rw [HKEY.out]; rintro e w5 ⟨⟨v5, he, ho5⟩, hb5⟩; subst he; dsimp only at ho5; obtain ⟨a5, c5, hv5⟩ := ho5.frame; obtain ⟨n5, hn5⟩ : ∃ n5, ni.length = n5 := ⟨_, rfl⟩; rw [hn5] at hv5; subst hv5; have hs9 : (wr.alloc (.cells #[.slice none 0 0, .int .i64 0, .string ⟨#[]⟩] 33)).heap.size = wr.heap.size + 1 := World.size_alloc _ _; have hb7 : Below (wr.heap.size + 1) (wr.alloc (.cells #[.slice none 0 0, .int .i64 0, .string ⟨#[]⟩] 33)).drew w5 := hb5.mono (Nat.le_of_eq hs9.symm); have hs7 : wr.heap.size + 1 ≤ w5.heap.size := Nat.le_trans (Nat.le_of_eq hs9.symm) hb7.size; have HB5 := Lib.hid (HBA.out.trans (hb7.mono (Nat.le_succ _))); have hnx : w5.heap[wr.heap.size]? = some (.cells #[.slice none 0 0, .int .i64 0, .string ⟨#[]⟩] 33 (0, 0)) := (by rw [hb7.block _ (Nat.lt_succ_self _)]; exact (MapKept.heap_alloc wr _).1); obtain ⟨⟨e0, e1, e2⟩, f0, f1, f2⟩ := three_cells hnx; rw [HNP.out]; obtain ⟨FW, hFW⟩ : ∃ FW, (((w5.setCell ⟨wr.heap.size, 0, none⟩ (.slice a5 n5 c5)).setCell ⟨wr.heap.size, 1, none⟩ (.int .i64 nc)).setCell ⟨wr.heap.size, 2, none⟩ (.string np)) = FW := ⟨_, rfl⟩; have HFW := Eqq.mk hFW; have HROW := Lib.hid (show FW.heap[wr.heap.size]? = some (.cells #[.slice a5 n5 c5, .int .i64 nc, .string np] 33 (0, 0)) from by rw [← hFW]; exact three_set hnx (.slice a5 n5 c5) (.int .i64 nc) (.string np)); have HBF := Lib.hid (show Below wr.heap.size wr FW from by rw [← hFW]; exact three_below HB5.out (Nat.le_refl _) _ _ _); have HOX := Lib.hid (show OwnG itemE 106 (S + 1 + 1) (.slice a5 n5 c5) ni FW from by rw [← hFW]; exact (three_own8 ho5 (show wr.heap.size < _ from Nat.lt_of_lt_of_le (Nat.lt_succ_self _) (Nat.le_of_eq hs9.symm)) _ _ _).lower (Nat.le_trans HSW.out (Nat.le_trans (Nat.le_succ _) (Nat.le_of_eq hs9.symm)))); clear hFW; clear hb5 ho5 hb7 hs7 hs9 hnx hn5)
         | (go_at_call 16; (with_reducible refine (HCON.out _ HBR.out.drew).mono ?_); rw [HKEY.out]; rintro e w5 ⟨⟨v5, he, ho5⟩, hb5⟩; subst he; dsimp only at ho5; obtain ⟨a5, c5, hv5⟩ := ho5.frame; obtain ⟨n5, hn5⟩ : ∃ n5, ni.length = n5 := ⟨_, rfl⟩; rw [hn5] at hv5; subst hv5; have HB5 := Lib.hid (HBR.out.drew.trans hb5); have hs5 : wr.heap.size ≤ w5.heap.size := hb5.size; have HZ5 := Lib.hid hs5; rw [HNP.out]; obtain ⟨FW, hFW⟩ : ∃ FW, (w5.alloc (.cells #[.slice a5 n5 c5, .int .i64 nc, .string np] 33)) = FW := ⟨_, rfl⟩; have HFW := Eqq.mk hFW; have HROW := Lib.hid (show FW.heap[w5.heap.size]? = some (.cells #[.slice a5 n5 c5, .int .i64 nc, .string np] 33 (0, 0)) from by rw [← hFW]; exact (MapKept.heap_alloc w5 _).1); have HBF := Lib.hid (show Below wr.heap.size wr FW from by rw [← hFW]; exact HB5.out.alloc hs5 _); have HOX := Lib.hid (show OwnG itemE 106 (S + 1 + 1) (.slice a5 n5 c5) ni FW from by rw [← hFW]; exact (ho5.alloc _).lower HSW.out); clear hFW; clear hb5 ho5 hs5 hn5))
      all_goals
        (rename_i hHeld
         clear hHeld
         try rw [HFW.out]
         have HWF := Lib.hid (HR.out.go (HBF.out.mono HSW.out))
         try clear e0 e1 e2 f0 f1 f2
         obtain ⟨⟨x0, x1, x2⟩, u0, u1, u2⟩ := three_cells HROW.out
         by_cases her : er = 0
         · subst her
           have HT2 := Eqq.mk (show Cp.typedL (rulesL rs) (kl.take (i + 1)) Cp.zero = (⟨ni, nc, nl⟩, true) by rw [HTK.out, HSN.out, HKEY.out]; rfl)
           obtain ⟨⟨y0, y1, y2⟩, z0, z1, z2⟩ := three_cells HWF.out.r1
           have HWP := Lib.hid (HWF.out.put (.slice a5 n5 c5) nc np)
           have HOP := Lib.hid (three_own8 HOX.out (show S + 1 < S + 1 + 1 by omega) (.slice a5 n5 c5) (.int .i64 nc) (.string np))
           go_wp2_with fail
           go_roundw
           case rel => exact ⟨i + 1, ⟨ni, nc, nl⟩, .slice a5 n5 c5, by omega, by go_num, HT2, by dsimp only; rw [HNP.out]; exact HWP.out, HOP.out⟩
           case measure => simp [intOf]; omega
         · have r1 : ¬ er = 0 := her
           have r2 : (er == 0) = false := by rw [beq_eq_false_iff_ne]; exact her
           have HT2 := Eqq.mk (show Cp.typedL (rulesL rs) kl Cp.zero = (⟨items, c, pl⟩, false) by
             have h1 : Cp.typedL (rulesL rs) (kl.take (i + 1)) Cp.zero = (⟨items, c, pl⟩, false) := by
               rw [HTK.out, HSN.out, HKEY.out]
               exact if_neg her
             have h2 := Cp.typedL_bad (rulesL rs) _ (kl.drop (i + 1)) _ _ h1
             rwa [List.take_append_drop] at h2)
           obtain ⟨⟨y0, y1, y2⟩, _⟩ := three_cells HWF.out.r1
           obtain ⟨⟨m1, m2, m3⟩, g0, g1, g2⟩ := three_cells HWF.out.r0
           have HE := Lib.hid (HWF.out.out (.slice av m0 cv) c p)
           have HOP := Lib.hid (three_own8 (HO.out.keep HBF.out) (show S < S + 1 + 1 by omega) (.slice av m0 cv) (.int .i64 c) (.string p))
           clear her x0 x1 x2 u0 u1 u2
           go_wp2_with fail
           (try simp only [Exit.inBlock, Exit.then])
           refine bodyPost_ret (results_row_tmp rfl _ _ S 33 #[.slice av m0 cv, .int .i64 c, .string p] (0, 0) _ (.bool false) (by rfl) (by rfl) HE.out.1 Tryz.underlying33 (by rfl) (by kernel_rfl)) rfl ?_
           rw [HT2.out]
           try rw [HS.out]
           exact ⟨⟨_, by rw [HP.out], HOP.out.lower (by omega)⟩, HE.out.2⟩)
    · obtain rfl : i = n := by omega
      have HT2 := Eqq.mk (show Cp.typedL (rulesL rs) kl Cp.zero = (⟨items, c, pl⟩, true) by have := HTY.out; rwa [← HLN.out, List.take_length] at this)
      have hge : ¬ ((i : Int) < (kb.size : Int)) := by rw [HN.out]; omega
      obtain ⟨⟨m1, m2, m3⟩, g0, g1, g2⟩ := three_cells HR.out.r0
      have HE := Lib.hid (HR.out.out (.slice av m0 cv) c p)
      have HOP := Lib.hid (three_own8 HO.out (show S < S + 1 + 1 by omega) (.slice av m0 cv) (.int .i64 c) (.string p))
      go_wp2_with fail
      (try simp only [Exit.inBlock, Exit.then])
      refine bodyPost_ret (results_row_tmp rfl _ _ S 33 #[.slice av m0 cv, .int .i64 c, .string p] (0, 0) _ (.bool true) (by rfl) (by rfl) HE.out.1 Tryz.underlying33 (by rfl) (by kernel_rfl)) rfl ?_
      rw [HT2.out]
      try rw [HS.out]
      exact ⟨⟨_, by rw [HP.out], HOP.out.lower (by omega)⟩, HE.out.2⟩
end Go.Proofs.YtgdcffahhpeibaaGreatDoor
