/-
  The keys that Type returns for a text write it into an empty buffer, and Back takes it away. The text is of bulk at most 1048576.
-/
import Derived.Deep.RegionHeld3
import Derived.Test.YtgdcffahhpeibaaGreatDoorCpTop
import Derived.Carry
import Derived.Laws.AppendOwnNone
namespace Go.Proofs.YtgdcffahhpeibaaGreatDoor.topTypes
open Go.ChangeShapes Go.WideShapes Go.ChangeAt Go.RowKit
open Go.ChangeMaps (open_string)
set_option linter.unusedVariables false

set_option maxRecDepth 100000 in
set_option maxHeartbeats 16000000 in
theorem walk (w : World) (s : ByteArray) (hs : s.size ≤ 1048576) (ht : Tabs w) :
    Calls Tryz.prog 3 #[.string s] w fun e w' => e = .returned (.bool true) ∧ Below w.heap.size w w' := by
  have HB := Lib.hid (Below.refl w.heap.size w)
  have HT0 := Lib.hid ht
  have HT := Lib.hid ht
  clear ht
  have hI := Is.of s
  obtain ⟨sl, hsl⟩ : ∃ sl, s.data.toList = sl := ⟨_, rfl⟩
  rw [hsl] at hI
  have HI := Lib.hid hI
  have HSB := Eqq.mk hI.ba
  obtain ⟨z, hz⟩ : ∃ z, UT.countZ sl = z := ⟨_, rfl⟩
  have HZ := Eqq.mk hz
  clear hI hsl hz
  go_enter Tryz.func3, Tryz.ntmps3
  go_wp2_with fail
  with_reducible refine (count_any s sl _ HI.out (by omega)).mono ?_
  rw [show (if Lib.validD sl = true then ((UT.runes sl).length : Int) else -1) = UT.countZ sl from rfl, HZ.out]
  rintro e w1 ⟨rfl, hb⟩
  have HB := Lib.hid (HB.out.trans (hb.mono HB.out.size))
  have HT := Lib.hid (HT.out.keep hb)
  clear hb
  by_cases hz0 : z < 0
  · have d0 : decide (z < 0) = true := decide_eq_true hz0
    go_wp2_with fail
    go_ret
    exact ⟨rfl, by first | exact HB.out | exact HB.out.drew⟩
  have d0 : decide (z < 0) = false := decide_eq_false hz0
  by_cases hz30 : 30 < z
  · have d1 : decide (30 < z) = true := decide_eq_true hz30
    go_wp2_with fail
    go_ret
    exact ⟨rfl, by first | exact HB.out | exact HB.out.drew⟩
  have d1 : decide (30 < z) = false := decide_eq_false hz30
  obtain ⟨hvd, hcz⟩ := valid_of_count (l := sl) (by rw [HZ.out]; omega)
  obtain ⟨n, hn⟩ : ∃ n, (UT.runes sl).length = n := ⟨_, rfl⟩
  have HRN := Eqq.mk hn
  have HVD := Eqq.mk hvd
  have hzn : z = (n : Int) := by rw [← HZ.out, hcz, hn]
  have hn30 : n ≤ 30 := by omega
  have HSL := Lib.hid (show sl.length ≤ 400 by
    have h1 := UT.enc_runes sl.length sl (Nat.le_refl _) hvd
    have h2 := UT.bk_len (UT.runes sl)
    rw [h1] at h2
    omega)
  subst hzn
  clear hvd hcz hn
  go_wp2_with fail
  with_reducible refine (default_any _ HT.out).mono ?_
  rintro e w2 ⟨⟨v, ys, rfl, hd, hl⟩, hb⟩
  have HB := Lib.hid (HB.out.trans (hb.mono HB.out.size))
  have HT := Lib.hid (HT.out.keep hb)
  have HD := Eqq.mk hd
  have HLR := Lib.hid hl
  clear hd hl
  clear hb
  go_wp2_with fail
  with_reducible refine (newdef_any v ys _ HLR.out HD.out HT.out).mono ?_
  rintro e w3 ⟨⟨a, rfl, ha⟩, hb⟩
  have HB := Lib.hid (HB.out.trans (hb.mono HB.out.size))
  have HT := Lib.hid (HT.out.keep hb)
  have HLR := Lib.hid (HLR.out.keep hb)
  have HA := Lib.hid ha
  clear ha
  clear hb
  have HOK := Eqq.mk (def_ok9 HD.out)
  go_wp2_with fail
  with_reducible refine (type_any _ a ys s sl _ HA.out (Nat.le_refl _) HI.out (by omega) HT.out).mono ?_
  rintro e w4 ⟨hty, hb⟩
  have HB := Lib.hid (HB.out.trans (hb.mono HB.out.size))
  have HT := Lib.hid (HT.out.keep hb)
  have HLR := Lib.hid (HLR.out.keep hb)
  have HA := Lib.hid (HA.out.keep hb)
  clear hb
  obtain ⟨r, hr, rfl⟩ := hty.2 (by rw [HZ.out]; omega) (by rw [HZ.out]; omega)
  clear hty
  rcases r with _ | kl
  · rw [show TypeE none = .returned (.tuple #[.string ⟨#[]⟩, .bool false]) from rfl]
    go_wp2_with fail
    go_ret
    exact ⟨rfl, by first | exact HB.out | exact HB.out.drew⟩
  obtain ⟨hak, hrun⟩ := Au.res_run HOK.out hr
  have hkl := Au.res_len HOK.out hr HSL.out
  have HAK := Lib.hid hak
  have HRUN := Eqq.mk hrun
  rw [show TypeE (some kl) = .returned (.tuple #[.string (ba kl), .bool true]) from rfl]
  have hkb := ba_size kl
  have HK := Lib.hid (is_ba kl)
  obtain ⟨kb, hkbe⟩ : ∃ kb, ba kl = kb := ⟨_, rfl⟩
  rw [hkbe] at hkb HK ⊢
  obtain ⟨m, hm⟩ : ∃ m, kb.size = m := ⟨_, rfl⟩
  have HM := Eqq.mk hm
  have HLM := Eqq.mk (show kl.length = m by rw [← hm, hkb])
  have hmz : m ≤ 802401 := by omega
  clear hak hrun hr hkl hkb hkbe hm
  obtain ⟨S, hS⟩ : ∃ S, w4.heap.size = S := ⟨_, rfl⟩
  have HS := Eqq.mk hS
  have HWS := Lib.hid (show w.heap.size ≤ S from by rw [← hS]; exact HB.out.size)
  have HAU := Lib.hid (fun (W : World) (hW : Below S w4 W) => (show AutoIs S ys a W from by have h := HA.out; rw [AutoAt, hS] at h; exact h.below hW))
  have HTU := Lib.hid (fun (W : World) (hW : Below S w4 W) => HT.out.keep (show Below w4.heap.size w4 W by rw [hS]; exact hW))
  obtain ⟨W0, hW0⟩ : ∃ W0, w4.alloc (.cells #[.slice none 0 0, .int .i64 0, .string ⟨#[]⟩] 33) = W0 := ⟨_, rfl⟩
  have HW0 := Eqq.mk hW0
  have HR0 := Lib.hid (show RowIs 33 S (.slice none 0 0) 0 ⟨#[]⟩ W0 from by rw [← hW0, ← hS]; exact RowIs.new _ _ _ _ _)
  have HB0 := Lib.hid (show Below S w4 W0 from by rw [← hW0]; exact (Below.refl S _).alloc (Nat.le_of_eq hS.symm) _)
  clear hW0
  go_wp2_with fail
  try rw [hS]
  rw [HW0.out]
  clear hS
  go_loopw [9] (fun iv W => ∃ (i : Nat) (b : Cp.Buf) (v : Value), i ≤ m ∧ iv = .int .i64 i ∧ Cp.Typed (rulesL ys) (kl.take i) b ∧ RowIs 33 S v b.caret (ba b.pend) W ∧ OwnG itemE 106 (S + 1) v b.items W ∧ Below S w4 W) (fun iv _ => m - (intOf iv).toNat)
  case atStart => exact ⟨0, Cp.zero, .slice none 0 0, Nat.zero_le _, rfl, Cp.Typed.zero _, HR0.out, OwnG.nil _ _ _, HB0.out⟩
  case round =>
    obtain ⟨i, b, v, hi, rfl, hty, hrw, hown, hbw⟩ := hrel
    obtain ⟨items, c, pl⟩ := b
    dsimp only at hrw hown
    have HTY := Lib.hid hty
    have HR := Lib.hid hrw
    have HO := Lib.hid hown
    have HBW := Lib.hid hbw
    have HPI := Lib.hid (is_ba pl)
    obtain ⟨p, hp⟩ : ∃ p, ba pl = p := ⟨_, rfl⟩
    have HP := Eqq.mk hp
    rw [hp] at HR HPI
    obtain ⟨av, cv, hvf⟩ := hown.frame
    obtain ⟨m0, hm0⟩ : ∃ m0, items.length = m0 := ⟨_, rfl⟩
    have HM0 := Eqq.mk hm0
    rw [hm0] at hvf
    subst hvf
    have HF := Lib.hid (Cp.fits_of hty.ok hty.small)
    clear hty hrw hown hbw hp hm0
    obtain ⟨⟨y0, y1, y2⟩, z0, z1, z2⟩ := three_cells HR.out
    by_cases hlt : i < m
    · have hlt' : i < kb.size := by rw [HM.out]; exact hlt
      have hget := HK.out.get i hlt'
      obtain ⟨ch, hch⟩ : ∃ ch, kb[i]'hlt' = ch := ⟨_, rfl⟩
      rw [hch] at hget
      have hic := HAK.out ch (List.mem_of_getElem? hget)
      have hpost : kl = kl.take i ++ ch :: kl.drop (i + 1) := by
        have hil : i < kl.length := by rw [HLM.out]; exact hlt
        rw [List.getElem?_eq_getElem hil] at hget
        injection hget with hget
        rw [← hget, ← List.drop_eq_getElem_cons hil, List.take_append_drop]
      have hk0 := Cp.key_goes HOK.out (post := kl.drop (i + 1)) HTY.out hic (by rw [← hpost, HRUN.out]; show (UT.runes sl).length ≤ 64; rw [HRN.out]; omega)
      obtain ⟨⟨nb, er⟩, hkey⟩ : ∃ q, Cp.key (rulesL ys) ⟨items, c, pl⟩ ch = q := ⟨_, rfl⟩
      rw [hkey] at hk0
      dsimp only at hk0
      subst hk0
      have HKEY := Eqq.mk hkey
      have HTN := Lib.hid (show Cp.Typed (rulesL ys) (kl.take (i + 1)) nb from by rw [take_snoc9 kl i ch hget]; exact HTY.out.key HOK.out hkey)
      obtain ⟨ni, nc, nl⟩ := nb
      obtain ⟨np, hnp⟩ : ∃ np, ba nl = np := ⟨_, rfl⟩
      have HNP := Eqq.mk hnp
      have i0 : (0 : Int) ≤ (i : Int) := by omega
      have hSW : S ≤ wr.heap.size := Nat.le_of_lt (heap_lt HR.out)
      have HSW := Lib.hid (show S + 1 ≤ wr.heap.size from heap_lt HR.out)
      have HKP := Lib.hid (fun (W : World) (hW : Below wr.heap.size wr W) => (show (W.cell? ⟨S, 0, none⟩ = some (.slice av m0 cv) ∧ W.cell? ⟨S, 1, none⟩ = some (.int .i64 c) ∧ W.cell? ⟨S, 2, none⟩ = some (.string p)) ∧ Below wr.heap.size wr W from ⟨(three_cells (HR.out.keep hW)).1, hW⟩))
      have HBR := Lib.hid (Below.refl wr.heap.size wr)
      have HBA := Lib.hid ((HBR.out.alloc (Nat.le_refl _) (.cells #[.slice none 0 0, .int .i64 0, .string ⟨#[]⟩] 33)).drew)
      have HCON := Lib.hid (fun (W : World) (hW : Below wr.heap.size wr W) => pkey_any S a ys (.slice av m0 cv) items c p pl ch (ch.toNat : Int) rfl W (HO.out.keep hW).lie HPI.out HF.out (HAU.out W (HBW.out.trans (hW.mono hSW))) (Nat.le_trans hSW hW.size) (HTU.out W (HBW.out.trans (hW.mono hSW))))
      clear hget hkey hnp hic hpost y0 y1 y2 z0 z1 z2
      obtain ⟨⟨y0, y1, y2⟩, z0, z1, z2⟩ := three_cells HR.out
      go_wp2_with fail
      clear y0 y1 y2 z0 z1 z2
      go_region_held3 (fun W => (W.cell? ⟨S, 0, none⟩ = some (.slice av m0 cv) ∧ W.cell? ⟨S, 1, none⟩ = some (.int .i64 c) ∧ W.cell? ⟨S, 2, none⟩ = some (.string p)) ∧ Below wr.heap.size wr W)
        (first | exact HKP.out _ HBR.out | exact HKP.out _ HBR.out.drew | exact HKP.out _ HBA.out | exact HKP.out _ HB5.out | exact HKP.out _ HB5.out.drew | exact HKP.out _ (HB5.out.alloc HZ5.out _) | exact HKP.out _ (HB5.out.alloc HZ5.out _).drew | exact HKP.out _ (three_below HB5.out (Nat.le_refl _) _ _ _) | exact HKP.out _ (three_below (HB5.out.alloc HZ5.out _) HZ5.out _ _ _) | go_keep)
        (first
         | (go_at_call 16; (with_reducible refine (HCON.out _ HBA.out).mono ?_); rw [HKEY.out]; rintro e w5 ⟨⟨v5, he, ho5⟩, hb5⟩; subst he; dsimp only at ho5; obtain ⟨a5, c5, hv5⟩ := ho5.frame; obtain ⟨n5, hn5⟩ : ∃ n5, ni.length = n5 := ⟨_, rfl⟩; rw [hn5] at hv5; subst hv5; have hs9 : (wr.alloc (.cells #[.slice none 0 0, .int .i64 0, .string ⟨#[]⟩] 33)).heap.size = wr.heap.size + 1 := World.size_alloc _ _; have hb7 : Below (wr.heap.size + 1) (wr.alloc (.cells #[.slice none 0 0, .int .i64 0, .string ⟨#[]⟩] 33)).drew w5 := hb5.mono (Nat.le_of_eq hs9.symm); have hs7 : wr.heap.size + 1 ≤ w5.heap.size := Nat.le_trans (Nat.le_of_eq hs9.symm) hb7.size; have HB5 := Lib.hid (HBA.out.trans (hb7.mono (Nat.le_succ _))); have hnx : w5.heap[wr.heap.size]? = some (.cells #[.slice none 0 0, .int .i64 0, .string ⟨#[]⟩] 33 (0, 0)) := (by rw [hb7.block _ (Nat.lt_succ_self _)]; exact (MapKept.heap_alloc wr _).1); obtain ⟨⟨e0, e1, e2⟩, f0, f1, f2⟩ := three_cells hnx; rw [HNP.out]; obtain ⟨FW, hFW⟩ : ∃ FW, (((w5.setCell ⟨wr.heap.size, 0, none⟩ (.slice a5 n5 c5)).setCell ⟨wr.heap.size, 1, none⟩ (.int .i64 nc)).setCell ⟨wr.heap.size, 2, none⟩ (.string np)) = FW := ⟨_, rfl⟩; have HFW := Eqq.mk hFW; have HROW := Lib.hid (show FW.heap[wr.heap.size]? = some (.cells #[.slice a5 n5 c5, .int .i64 nc, .string np] 33 (0, 0)) from by rw [← hFW]; exact three_set hnx (.slice a5 n5 c5) (.int .i64 nc) (.string np)); have HBF := Lib.hid (show Below wr.heap.size wr FW from by rw [← hFW]; exact three_below HB5.out (Nat.le_refl _) _ _ _); have HOX := Lib.hid (show OwnG itemE 106 (S + 1) (.slice a5 n5 c5) ni FW from by rw [← hFW]; exact (three_own8 ho5 (show wr.heap.size < _ from Nat.lt_of_lt_of_le (Nat.lt_succ_self _) (Nat.le_of_eq hs9.symm)) _ _ _).lower (Nat.le_trans HSW.out (Nat.le_trans (Nat.le_succ _) (Nat.le_of_eq hs9.symm)))); clear hFW; clear hb5 ho5 hb7 hs7 hs9 hnx hn5)
         | (go_at_call 16; (with_reducible refine (HCON.out _ HBR.out.drew).mono ?_); rw [HKEY.out]; rintro e w5 ⟨⟨v5, he, ho5⟩, hb5⟩; subst he; dsimp only at ho5; obtain ⟨a5, c5, hv5⟩ := ho5.frame; obtain ⟨n5, hn5⟩ : ∃ n5, ni.length = n5 := ⟨_, rfl⟩; rw [hn5] at hv5; subst hv5; have HB5 := Lib.hid (HBR.out.drew.trans hb5); have hs5 : wr.heap.size ≤ w5.heap.size := hb5.size; have HZ5 := Lib.hid hs5; rw [HNP.out]; obtain ⟨FW, hFW⟩ : ∃ FW, (w5.alloc (.cells #[.slice a5 n5 c5, .int .i64 nc, .string np] 33)) = FW := ⟨_, rfl⟩; have HFW := Eqq.mk hFW; have HROW := Lib.hid (show FW.heap[w5.heap.size]? = some (.cells #[.slice a5 n5 c5, .int .i64 nc, .string np] 33 (0, 0)) from by rw [← hFW]; exact (MapKept.heap_alloc w5 _).1); have HBF := Lib.hid (show Below wr.heap.size wr FW from by rw [← hFW]; exact HB5.out.alloc hs5 _); have HOX := Lib.hid (show OwnG itemE 106 (S + 1) (.slice a5 n5 c5) ni FW from by rw [← hFW]; exact (ho5.alloc _).lower HSW.out); clear hFW; clear hb5 ho5 hs5 hn5))
      all_goals
        (rename_i hHeld
         clear hHeld
         try rw [HFW.out]
         have HRF := Lib.hid (HR.out.keep HBF.out)
         try clear e0 e1 e2 f0 f1 f2
         obtain ⟨⟨x0, x1, x2⟩, u0, u1, u2⟩ := three_cells HROW.out
         obtain ⟨⟨y0, y1, y2⟩, z0, z1, z2⟩ := three_cells HRF.out
         have HRP := Lib.hid (HRF.out.put (.slice a5 n5 c5) nc np)
         have HOP := Lib.hid (three_own8 HOX.out (show S < S + 1 by omega) (.slice a5 n5 c5) (.int .i64 nc) (.string np))
         have HBP := Lib.hid (three_below (HBW.out.trans (HBF.out.mono hSW)) (Nat.le_refl S) (.slice a5 n5 c5) (.int .i64 nc) (.string np))
         go_wp2_with fail
         go_roundw
         case rel => exact ⟨i + 1, ⟨ni, nc, nl⟩, .slice a5 n5 c5, by omega, by go_num, HTN.out, by dsimp only; rw [HNP.out]; exact HRP.out, HOP.out, HBP.out⟩
         case measure => simp [intOf]; omega)
    · obtain rfl : i = m := by omega
      have hge : ¬ ((i : Int) < (kb.size : Int)) := by rw [HM.out]; omega
      have hty : Cp.Typed (rulesL ys) kl ⟨items, c, pl⟩ := by have h := HTY.out; rwa [← HLM.out, List.take_length] at h
      have hcnt : m0 = n := by have h := hty.count; rw [HRUN.out] at h; dsimp only at h; rw [HRN.out] at h; rw [← HM0.out]; exact h.symm
      have hcar : c = (n : Int) := by have h := hty.caret; dsimp only at h; rw [h, HM0.out, hcnt]
      have hpe : pl = [] := by have h := hty.pend; rw [HRUN.out] at h; exact h
      subst hcnt
      subst hcar
      subst hpe
      obtain rfl : p = ⟨#[]⟩ := HPI.out.eq (Is.mk [])
      have HOKB := Eqq.mk hty.ok
      have hbf : Cp.before ⟨items, (m0 : Int), []⟩ = sl := by
        have h := hty.outs
        rw [HRUN.out] at h
        unfold Cp.before
        dsimp only
        rw [Int.toNat_natCast, ← HM0.out, List.take_length]
        exact h
      have haf : Cp.after ⟨items, (m0 : Int), []⟩ = [] := by
        unfold Cp.after
        dsimp only
        rw [Int.toNat_natCast, ← HM0.out, List.drop_length]
        rfl
      have HTX := Eqq.mk (text_valid (s2 := ⟨#[]⟩) (s3 := ⟨#[]⟩) hty.ok hbf rfl haf HSB.out.symm rfl rfl)
      have q1 : (s.toList == s.toList) = true := by rw [beq_iff_eq]
      have HVT := Lib.hid (fun (j : Nat) (hj : j ≤ m0) => (show Cp.valid ⟨items.take j, (j : Int), []⟩ = true from by
        obtain ⟨v1, v2, v3, v4, v5, v6⟩ := Cp.valid_iff.1 hty.ok
        refine Cp.valid_iff.2 ⟨?_, by show (0 : Int) ≤ (j : Int); omega, ?_, v4, v5, fun x hx => v6 x (List.mem_of_mem_take hx)⟩
        · show (items.take j).length ≤ 64; rw [List.length_take]; have h9 : items.length ≤ 64 := v1; omega
        · show (j : Int) ≤ ((items.take j).length : Int); rw [List.length_take, HM0.out]; omega))
      have HFT := Lib.hid (fun (j : Nat) => (show Fits (items.take j) [] from ⟨by rw [List.length_take]; have h9 : items.length ≤ 2000000 := HF.out.n; omega, Nat.zero_le _, fun x hx => HF.out.x x (List.mem_of_mem_take hx)⟩))
      clear hty hbf haf y0 y1 y2 z0 z1 z2
      obtain ⟨⟨y0, y1, y2⟩, z0, z1, z2⟩ := three_cells HR.out
      go_wp2_with fail
      clear y0 y1 y2 z0 z1 z2
      with_reducible refine (text8_any _ items m0 ⟨#[]⟩ [] wr HO.out.lie HPI.out HF.out (HTU.out wr HBW.out)).mono ?_
      rw [HTX.out]
      rintro e w5 ⟨rfl, hb⟩
      have HR5 := Lib.hid (HR.out.keep hb)
      have HO5 := Lib.hid (HO.out.keep hb)
      have HB5 := Lib.hid (HBW.out.trans (hb.mono (Nat.le_of_lt (heap_lt HR.out))))
      clear hb
      obtain ⟨⟨y0, y1, y2⟩, z0, z1, z2⟩ := three_cells HR5.out
      go_wp2_with fail
      clear y0 y1 y2 z0 z1 z2
      go_loopw [15] (fun jv W => ∃ (j : Nat) (v : Value), j ≤ m0 ∧ jv = .int .i64 j ∧ RowIs 33 S v j ⟨#[]⟩ W ∧ OwnG itemE 106 (S + 1) v (items.take j) W ∧ Below S w4 W) (fun jv _ => (intOf jv).toNat)
      case atStart => exact ⟨m0, _, Nat.le_refl _, rfl, HR5.out, by rw [List.take_of_length_le (by rw [HM0.out]; exact Nat.le_refl _)]; exact HO5.out, HB5.out⟩
      case round =>
        obtain ⟨j, v, hj, rfl, hrw, hown, hbw⟩ := hrel
        have HR9 := Lib.hid hrw
        have HO9 := Lib.hid hown
        have HB9 := Lib.hid hbw
        obtain ⟨av9, cv9, hvf⟩ := hown.frame
        rw [show (items.take j).length = j by rw [List.length_take, HM0.out]; omega] at hvf
        subst hvf
        clear hrw hown hbw
        obtain ⟨⟨y0, y1, y2⟩, z0, z1, z2⟩ := three_cells HR9.out
        by_cases h0 : 0 < j
        · obtain ⟨k, rfl⟩ : ∃ k, j = k + 1 := ⟨j - 1, by omega⟩
          have HBK := Eqq.mk (Cp.back_end items k (by rw [HM0.out]; exact hj) (HVT.out (k + 1) hj))
          obtain ⟨K, hK⟩ : ∃ K, k + 1 = K := ⟨_, rfl⟩
          have HKK := Eqq.mk hK
          have HVK := Lib.hid (HFT.out (k + 1))
          have k1 : (0 : Int) < (K : Int) := by omega
          have k2 : (K : Int) - 1 = (k : Int) := by omega
          have k3 : (K : Int) ≤ 100 := by omega
          have k4 : k < K := by omega
          rw [hK] at HBK HVK HR9 HO9 y0 y1 ⊢
          have hKm : K ≤ m0 := by omega
          clear h0 hK hj
          go_wp2_with fail
          clear y0 y1 y2 z0 z1 z2
          with_reducible refine (pback_any _ (items.take K) K ⟨#[]⟩ [] wr HO9.out.lie HPI.out HVK.out (HTU.out wr HB9.out)).mono ?_
          rw [HBK.out]
          rintro e w8 ⟨hr, hb⟩
          obtain ⟨a8, n8, c8, rfl, hn8, ho⟩ := hr.open (p := ⟨#[]⟩) rfl
          have HR8 := Lib.hid (HR9.out.keep hb)
          have HB8 := Lib.hid (HB9.out.trans (hb.mono (Nat.le_of_lt (heap_lt HR9.out))))
          have HRP := Lib.hid (HR8.out.put (.slice a8 n8 c8) k ⟨#[]⟩)
          have HOP := Lib.hid ((three_own8 ho (heap_lt HR9.out) (.slice a8 n8 c8) (.int .i64 k) (.string ⟨#[]⟩)).lower (show S + 1 ≤ wr.heap.size from heap_lt HR9.out))
          have HBP := Lib.hid (three_below HB8.out (Nat.le_refl S) (.slice a8 n8 c8) (.int .i64 k) (.string ⟨#[]⟩))
          clear hr hb ho hn8
          obtain ⟨⟨y0, y1, y2⟩, z0, z1, z2⟩ := three_cells HR8.out
          go_wp2_with fail
          go_roundw
          case rel => exact ⟨k, .slice a8 n8 c8, by omega, by go_num, HRP.out, HOP.out, HBP.out⟩
          case measure => simp [intOf]; omega
        · obtain rfl : j = 0 := by omega
          have z9 : ((0 : Nat) : Int) = 0 := rfl
          rw [z9] at y1 ⊢
          clear z9 hj
          have HEND := Lib.hid (HB.out.trans (HB9.out.mono HWS.out))
          go_wp2_with fail
          go_ret
          exact ⟨rfl, HEND.out⟩

theorem laidOut : laidOutB Tryz.prog = true := by kernel_rfl
set_option maxRecDepth 100000 in
theorem contract (H : Type) (enc : TypeId × Value → H) (W : World) (base : Nat) (args : Array Value) (ds gs : List (DataW H)) (before : List MemPlace)
    (hval : ∀ (j : Nat) t v, Tryz.f3.params[j]? = some t → args[j]? = some v → Value.okWide Tryz.prog W .any base t v)
    (hW : DataW.Whole enc Tryz.prog Tryz.f3.params.toList Rows.topTypesSpec.vars false W args.toList ds gs before) (hL : laidMetH Tryz.prog Rows.topTypesRow.laid W) (hS : W.ShapedOpen Tryz.prog) (hC : Rows.uptoSmall H (ds ++ gs) = true)
    (hR : (DataW.weightsEach Tryz.prog (Tryz.f3.params.toList ++ (OpenSpec.ofChange Rows.topTypesSpec).bare.plain.varTypes Tryz.prog) (ds ++ gs)).all (· ≤ reachBytes) = true) :
    Calls Tryz.prog 3 args W fun e W' => ∃ v, e = .returned v ∧ Rows.topTypesSpec.post enc Tryz.prog Tryz.f3 false true false false W args v W' := by
  have hT : Tabs W := rtabs_of_laid hL hS
  have hW' := hW
  obtain ⟨p, q, hA0, hV, rfl, hfz, hnd⟩ := hW
  have hA : DataW.TrodAll enc Tryz.prog W 0 (fun _ => true) true Tryz.f3.params.toList args.toList ds p := hA0
  rw [Tryz.params3] at hA hval hR
  obtain ⟨v0, vs0, d0, ds0, p0, q0, hargs, rfl, rfl, h0, r0⟩ := trodAll_cons hA
  obtain ⟨rfl, rfl, rfl⟩ := trodAll_nil r0
  obtain rfl : args = #[v0] := by cases args; simp_all
  obtain ⟨rfl, rfl⟩ := trodVars_none hV
  clear hA0
  simp only [List.append_nil] at hW' hR
  have k0 := h0
  have l0 : ∀ x ∈ p0, x.block < W.heap.size := fun x hx => by simpa using hW'.lt x (by simp [hx])
  have hB : Rows.uptoBulkAll _ ≤ 1048576 := of_decide_eq_true hC
  simp only [List.append_nil, Rows.uptoBulkAll] at hB
  have b0 : Rows.uptoBulk d0 ≤ 1048576 := by omega
  obtain ⟨s0, rfl, rfl, rfl, m0⟩ := open_string Tryz.underlying9 (hval 0 9 v0 rfl rfl) h0
  refine (walk W s0 (bulk_str b0) hT).mono fun e W' ⟨he, bel⟩ => ?_
  subst he
  exact ⟨_, rfl, _, _, _, [], _, [], hW', trodAll_mk1 (shut_bool Tryz.underlying4 _), (trodAll_cons_mk (Below.trod laidOut (by kernel_rfl) (of_decide_eq_true (by kernel_rfl)) k0 bel l0) trodAll_mk0), rfl, bel.frame _, fun h => by cases h⟩

theorem reads (os : Os) {H : Type} (enc : TypeId × Value → H) : ∃ places, DataW.whole enc Tryz.prog ((laidWorldR os).forCall (fun _ _ => 0) ⟨#[], #[.string ⟨#[]⟩], []⟩).memory Tryz.f3.params.toList Rows.topTypesSpec.vars false #[.string ⟨#[]⟩].toList 8 = some ([.lit (.string [])], [], places) :=
  ⟨[], by kernel_rfl⟩

set_option maxRecDepth 100000 in
theorem lifted (os : Os) (started : os.Started) (H : Type) (enc : TypeId × Value → H) (F : Stop.Interp) :
    ReturnsInHanded {} Tryz.checked os 3 .any ((Rows.OpenSpec.upto Rows.topTypesSpec).preRow enc Tryz.prog Tryz.f3 Rows.topTypesUptoRow.domain false Rows.topTypesUptoRow.laid) (((Rows.OpenSpec.upto Rows.topTypesSpec).at F).post enc Tryz.prog Tryz.f3 false true false false) := by
  obtain ⟨places, hx⟩ := reads os enc
  refine returnsInHanded_of_row (C := Tryz.checked) (s := (Rows.OpenSpec.upto Rows.topTypesSpec)) own started (by kernel_rfl) Tryz.func3
    (witness_row_at (enc := enc) (C := Tryz.checked) false (laidWorldR os) #[.string ⟨#[]⟩] rfl (by kernel_rfl) (by kernel_rfl) (by kernel_rfl)
      (OpenSpec.preRow_of_cond 8 hx (by kernel_rfl) (fun k hk => by cases hk; kernel_rfl) (by kernel_rfl) (laid_metR os _))) ?_
  intro W base args ds gs before hval hW _ hcond hR hL hS _
  exact contract H enc W base args ds gs before hval hW hL hS (hcond _ rfl) hR

theorem said : Rows.TopTypesUptoSaid :=
  OpenClaim.holds_of_cond 3 Tryz.f3 rfl rfl rfl rfl rfl rfl rfl ⟨rfl, rfl, rfl, rfl, rfl⟩ rfl rfl rfl rfl rfl (by kernel_rfl) Tryz.func3 (by kernel_rfl)
    (of_decide_eq_true (by kernel_rfl)) (by unfold Func.isWrapper; first | (rw [if_pos (by decide +kernel)]; kernel_rfl) | (rw [if_neg (by decide +kernel)]; exact ⟨rfl, rfl⟩))
    (fun os started H enc _ F => by rw [OpenClaim.pre_eq_preRow]; exact lifted os started H enc F)

theorem plain (f : FuncId) (fn : Func) (hf : Tryz.pinned.checked.prog.funcNamed "henkan/henkantop.TopTypes" = some f) (hfn : Tryz.pinned.checked.prog.funcs[f]? = some fn) :
    false = Tryz.pinned.checked.prog.looks [] ∧ ∀ (j : Nat) t, fn.params[j]? = some t → Tryz.pinned.checked.prog.wantsStandIn t = false := by
  obtain rfl : f = 3 := Option.some.inj ((show Tryz.prog.funcNamed "henkan/henkantop.TopTypes" = some 3 by kernel_rfl).symm.trans hf) |>.symm
  obtain rfl : fn = Tryz.f3 := (Option.some.inj (Tryz.func3.symm.trans hfn)).symm
  refine ⟨by kernel_rfl, fun j t ht => ?_⟩
  rw [Tryz.params3] at ht
  have hm := Array.mem_of_getElem? ht
  simp only [List.mem_toArray, List.mem_cons, List.not_mem_nil, or_false] at hm
  subst hm
  exact (show Tryz.prog.wantsStandIn 9 = false by kernel_rfl)

/-- the card -/
theorem proved : Rows.TopTypesUptoCardSaid :=
  Claim7.holds_tied_plain_at .later [] _ _ _ _ said (fun _ h => by cases h) (by kernel_rfl) (fun _ h => by cases h) topTypesUpto_row_tie rfl ⟨rfl, rfl⟩ (by kernel_rfl) rfl plain (by kernel_rfl)
#print axioms proved
end Go.Proofs.YtgdcffahhpeibaaGreatDoor.topTypes
