/-
  a walk of edits keeps both buffers alike
-/
import Derived.IntWalk
import Derived.Deep.CutBlock
import Derived.Deep.RegionLaw
import Derived.Deep.RegionHeld3
import Derived.Test.YtgdcffahhpeibaaGreatDoorCpOpenA
import Derived.Carry
import Derived.Laws.AppendOwnNone
namespace Go.Proofs.YtgdcffahhpeibaaGreatDoor.composePlays
open Go.ChangeShapes Go.WideShapes Go.ChangeAt Go.RowKit
open Go.ChangeMaps (open_string)
set_option linter.unusedVariables false

set_option maxRecDepth 100000 in
set_option maxHeartbeats 16000000 in
theorem walk (w : World) (v : Value) (ac : List ActP) (hl : LieG actE v ac w) (hn : ac.length ≤ 9223372036854775807) (ht : Tabs w) :
    Calls Tryz.prog 10 #[v] w fun e w' => e = .returned (.bool true) ∧ Below w.heap.size w w' := by
  have HB := Lib.hid (Below.refl w.heap.size w)
  have HT := Lib.hid ht
  clear ht
  obtain ⟨ao, cap, rfl, hcap, hno, hsp, _⟩ := id hl
  obtain ⟨n, hn9⟩ : ∃ n, ac.length = n := ⟨_, rfl⟩
  have HN := Eqq.mk hn9
  have HLA := Lib.hid hl
  have HNO := Lib.hid hno
  have HSP := Lib.hid hsp
  rw [hn9] at HLA hcap hn
  try rw [hn9]
  clear hno hsp hl hn9
  go_enter Tryz.func10, Tryz.ntmps10
  by_cases h300 : 300 < n
  · have d2 : decide ((300 : Int) < (n : Int)) = true := decide_eq_true (by omega)
    clear hn
    go_wp2_with fail
    with_reducible refine (works_any _ HT.out).mono ?_
    rintro e w1 ⟨rfl, hb⟩
    have HB := Lib.hid (HB.out.trans (hb.mono HB.out.size))
    have HT := Lib.hid (HT.out.keep hb)
    have HLA := Lib.hid (HLA.out.keep hb)
    clear hb
    go_wp2_with fail
    go_ret
    exact ⟨rfl, by first | exact HB.out | exact HB.out.drew⟩
  · have d2 : decide ((300 : Int) < (n : Int)) = false := decide_eq_false (by omega)
    have hn3 : n ≤ 300 := by omega
    clear hn
    go_wp2_with fail
    with_reducible refine (default_any _ HT.out).mono ?_
    rintro e w1 ⟨⟨vd, ys, rfl, hd, hl⟩, hb⟩
    have HB := Lib.hid (HB.out.trans (hb.mono HB.out.size))
    have HT := Lib.hid (HT.out.keep hb)
    have HLA := Lib.hid (HLA.out.keep hb)
    have HD := Eqq.mk hd
    have HLR := Lib.hid hl
    clear hd hl
    clear hb
    go_wp2_with fail
    with_reducible refine (newdef_any vd ys _ HLR.out HD.out HT.out).mono ?_
    rintro e w2 ⟨⟨a, rfl, ha⟩, hb⟩
    have HB := Lib.hid (HB.out.trans (hb.mono HB.out.size))
    have HT := Lib.hid (HT.out.keep hb)
    have HLA := Lib.hid (HLA.out.keep hb)
    have HLR := Lib.hid (HLR.out.keep hb)
    have HA := Lib.hid ha
    clear ha
    clear hb
    go_wp2_with fail
    with_reducible refine (default_any _ HT.out).mono ?_
    rintro e w3 ⟨⟨vd2, ys2, rfl, hd, hl⟩, hb⟩
    have HB := Lib.hid (HB.out.trans (hb.mono HB.out.size))
    have HT := Lib.hid (HT.out.keep hb)
    have HLA := Lib.hid (HLA.out.keep hb)
    have HLR := Lib.hid (HLR.out.keep hb)
    have HA := Lib.hid (HA.out.keep hb)
    have HD2 := Eqq.mk hd
    have HLR2 := Lib.hid hl
    clear hd hl
    clear hb
    go_wp2_with fail
    with_reducible refine (rules9_any vd2 ys2 _ HLR2.out (Nat.le_trans (def_len9 HD2.out) (by decide))).mono ?_
    rintro e w4 ⟨⟨vr, rfl, hlr⟩, hb⟩
    have HB := Lib.hid (HB.out.trans (hb.mono HB.out.size))
    have HT := Lib.hid (HT.out.keep hb)
    have HLA := Lib.hid (HLA.out.keep hb)
    have HLR := Lib.hid (HLR.out.keep hb)
    have HA := Lib.hid (HA.out.keep hb)
    have HLR2 := Lib.hid (HLR2.out.keep hb)
    have HVR := Lib.hid hlr
    clear hlr
    clear hb
    have HT0 := Lib.hid HT.out
    have HB0 := Lib.hid HB.out
    obtain ⟨W1, hW1⟩ : ∃ W1, (w4.alloc (.cells #[.slice none 0 0, .int .i64 0, .string ⟨#[]⟩] 33)).alloc (.cells #[.slice none 0 0, .int .i64 0, .string ⟨#[]⟩] 42) = W1 := ⟨_, rfl⟩
    have HW1 := Eqq.mk hW1
    have hb : Below w4.heap.size w4 W1 := by rw [← hW1]; exact ((Below.refl _ _).alloc (Nat.le_refl _) _).alloc (by simp) _
    have HRB := Lib.hid (show RowIs 33 w4.heap.size (.slice none 0 0) 0 ⟨#[]⟩ W1 from by rw [← hW1]; unfold RowIs; rw [Lib.alloc_old _ _ _ (by rw [World.size_alloc]; omega)]; exact (MapKept.heap_alloc w4 _).1)
    have HRW := Lib.hid (show RowIs 42 (w4.heap.size + 1) (.slice none 0 0) 0 ⟨#[]⟩ W1 from by
      have h := (MapKept.heap_alloc (w4.alloc (.cells #[.slice none 0 0, .int .i64 0, .string ⟨#[]⟩] 33)) (.cells #[.slice none 0 0, .int .i64 0, .string ⟨#[]⟩] 42)).1
      rw [World.size_alloc, hW1] at h
      exact h)
    have HB1 := Lib.hid hb
    clear hb hW1
    go_wp2_with fail
    try rw [HW1.out]
    go_loopw [8] (fun iv W => ∃ i : Nat, i ≤ n ∧ iv = .int .i64 i ∧ Both w4.heap.size (w4.heap.size + 1) w4 W) (fun iv _ => n - (intOf iv).toNat)
    case atStart => exact ⟨0, Nat.zero_le _, rfl, none, none, 0, 0, 0, 0, [], 0, ⟨#[]⟩, [], HRB.out, HRW.out, LieG.nil _, LieG.nil _, rfl, by decide, by unfold Cp.Small; decide, HB1.out⟩
    case round =>
      obtain ⟨i, hi, rfl, hbo⟩ := hrel
      have HBO := Lib.hid hbo
      obtain ⟨a1, a2, m1, q1, m2, q2, xs, c, p, pl, hrb, hrw, hlx, hly, hip, hva, hsm, hbw⟩ := hbo
      have HRB := Lib.hid hrb
      have HRW := Lib.hid hrw
      have HLX := Lib.hid hlx
      have HLY := Lib.hid hly
      have HIP := Lib.hid hip
      have HVA := Eqq.mk hva
      have HSM := Lib.hid hsm
      have HF := Lib.hid (Cp.fits_of (b := ⟨xs, c, pl⟩) hva hsm)
      have HBW := Lib.hid hbw
      have hb := hbw
      have HB := Lib.hid (HB.out.trans (hb.mono HB.out.size))
      have HT := Lib.hid (HT.out.keep hb)
      have HLA := Lib.hid (HLA.out.keep hb)
      have HLR := Lib.hid (HLR.out.keep hb)
      have HA := Lib.hid (HA.out.keep hb)
      have HLR2 := Lib.hid (HLR2.out.keep hb)
      have HVR := Lib.hid (HVR.out.keep hb)
      clear hrb hrw hlx hly hip hva hsm hbw hb
      by_cases hlt : i < n
      · obtain ⟨act, hact⟩ : ∃ x, ac[i]? = some x := ⟨_, List.getElem?_eq_getElem (by rw [HN.out]; exact hlt)⟩
        obtain ⟨gg, oo, rfl⟩ : ∃ g o, ao = some ⟨g, o, none⟩ := by
          cases ao with
          | none => have h0 := HNO.out rfl; omega
          | some ad => obtain ⟨g, o, h⟩ := HSP.out ad rfl; exact ⟨g, o, by rw [h]⟩
        have HAT := Lib.hid (HLA.out.at i act hact)
        have HCE := Lib.hid (fun (W : World) (hW : Below wr.heap.size wr W) => (show W.cell? ⟨gg, oo + i * 3, none⟩ = some (.int .u8 (act.kind.toNat : Int)) ∧ W.cell? ⟨gg, oo + i * 3 + 1, none⟩ = some (.int .u8 (act.key.toNat : Int)) ∧ W.cell? ⟨gg, oo + i * 3 + 2, none⟩ = some (.int .i64 act.num) from
          ⟨below_cellU (HAT.out 0 _ rfl) hW (Nat.le_refl _), below_cellU (HAT.out 1 _ rfl) hW (Nat.le_refl _), below_cellU (HAT.out 2 _ rfl) hW (Nat.le_refl _)⟩))
        obtain ⟨e0, e1, e2⟩ := HCE.out wr (Below.refl _ _)
        obtain ⟨kz, hkz⟩ : ∃ kz : Int, (act.kind.toNat : Int) = kz := ⟨_, rfl⟩
        obtain ⟨ke, hke⟩ : ∃ ke : Int, (act.key.toNat : Int) = ke := ⟨_, rfl⟩
        obtain ⟨num, hnum⟩ : ∃ z, act.num = z := ⟨_, rfl⟩
        rw [hkz] at e0
        rw [hke] at e1
        rw [hnum] at e2
        have HKE := Eqq.mk hke.symm
        have k0 : 0 ≤ kz := by omega
        have k9 : kz ≤ 255 := by have := act.kind.toNat_lt; omega
        clear hke hnum hkz hact
        have i0 : (0 : Int) ≤ (i : Int) := by omega
        have i1 : (i : Int) < (n : Int) := by omega
        have hsix : kz % 6 = 0 ∨ kz % 6 = 1 ∨ kz % 6 = 2 ∨ kz % 6 = 3 ∨ kz % 6 = 4 ∨ kz % 6 = 5 := by omega
        have HOK := Eqq.mk HA.out.ok
        have HOK2 := Eqq.mk (show Ro.check (rulesL ys2) = 0 by rw [HD2.out, ← HD.out]; exact HOK.out)
        have HS1 := Lib.hid (show w4.heap.size ≠ w4.heap.size + 1 by omega)
        have HS2 := Lib.hid (show w4.heap.size ≤ w4.heap.size + 1 by omega)
        go_upto_block 2 with fail
        go_cut [] from 34 to 138 (fun wx => Both w4.heap.size (w4.heap.size + 1) w4 wx)
        case first =>
          rcases hsix with hm | hm | hm | hm | hm | hm
          · obtain ⟨⟨⟨nx, nc, nl⟩, er⟩, hpl⟩ : ∃ q, Cp.key (rulesL ys) ⟨xs, c, pl⟩ act.key = q := ⟨_, rfl⟩
            have HPL := Eqq.mk hpl
            have HVS := Lib.hid (show er = 0 → Cp.valid ⟨nx, nc, nl⟩ = true ∧ Cp.Small ⟨nx, nc, nl⟩ from by rintro rfl; exact ⟨(Cp.key_valid HOK.out hpl).1, (Cp.key_valid HOK.out hpl).2 HSM.out⟩)
            obtain ⟨np, hnp⟩ : ∃ np, ba nl = np := ⟨_, rfl⟩
            have HNP := Eqq.mk hnp
            have HNI := Lib.hid (show Is np nl by rw [← hnp]; exact is_ba nl)
            clear hpl hnp
            have HPL2 := Eqq.mk (show Cp.key (rulesL ys2) ⟨xs, c, pl⟩ act.key = (⟨nx, nc, nl⟩, er) by rw [HD2.out, ← HD.out]; exact HPL.out)
            have HC0 := Lib.hid (fun (W : World) (hW : Below wr.heap.size wr W) => pkey_any _ a ys _ xs c p pl act.key ke HKE.out W (HLX.out.keep hW) HIP.out HF.out (HA.out.keep hW) (Nat.le_refl _) (HT.out.keep hW))
            have HE1 := Lib.hid (fun (W : World) (hW : Below wr.heap.size wr W) => below_cellU e1 hW (Nat.le_refl _))
            go_upto_region 20 with fail
            go_cut [9, 10] from 34 to 138 (fun xv fv W => ∃ (N : Nat) (a5 : Option Addr) (n5 c5 : Nat), xv = .pointer (some ⟨N, 0, none⟩) ∧ fv = .int .i64 er ∧ RowIs 33 N (.slice a5 n5 c5) nc np W ∧ LieG itemE (.slice a5 n5 c5) nx W ∧ Below wr.heap.size wr W)
            case first =>
              have HKP := Lib.hid (fun (W : World) (hW : Below wr.heap.size wr W) => (show (Below wr.heap.size wr W ∧ (W.cell? ⟨w4.heap.size, 0, none⟩ = some (.slice a1 m1 q1) ∧ W.cell? ⟨w4.heap.size, 1, none⟩ = some (.int .i64 (c)) ∧ W.cell? ⟨w4.heap.size, 2, none⟩ = some (.string (p))) ∧ W.cell? ⟨gg, oo + i * 3 + 1, none⟩ = some (.int .u8 ke)) from ⟨hW, (three_cells (HRB.out.keep hW)).1, HE1.out W hW⟩))
              have HBR := Lib.hid (Below.refl wr.heap.size wr)
              have HBA := Lib.hid ((Below.refl wr.heap.size wr).alloc (Nat.le_refl _) (.cells #[.slice none 0 0, .int .i64 0, .string ⟨#[]⟩] 33))
              obtain ⟨⟨HRBc0, HRBc1, HRBc2⟩, HRBf0, HRBf1, HRBf2⟩ := three_cells HRB.out
              go_wp2_with fail
              clear HRBc0 HRBc1 HRBc2 HRBf0 HRBf1 HRBf2
              go_region_held3 (fun W => (Below wr.heap.size wr W ∧ (W.cell? ⟨w4.heap.size, 0, none⟩ = some (.slice a1 m1 q1) ∧ W.cell? ⟨w4.heap.size, 1, none⟩ = some (.int .i64 (c)) ∧ W.cell? ⟨w4.heap.size, 2, none⟩ = some (.string (p))) ∧ W.cell? ⟨gg, oo + i * 3 + 1, none⟩ = some (.int .u8 ke)))
                (first | exact HKP.out _ HBR.out | exact HKP.out _ HBR.out.drew | exact HKP.out _ HBA.out | exact HKP.out _ HBA.out.drew | exact HKP.out _ (HBR.out.alloc HBR.out.size _) | exact HKP.out _ (HBR.out.alloc HBR.out.size _).drew | (rw [HFW.out]; exact HKP.out _ HBF.out) | go_keep)
                (first
                 | (go_at_call 16; (first | (with_reducible refine (HC0.out _ ((Below.refl _ _).alloc (Nat.le_refl _) (.cells #[.slice none 0 0, .int .i64 0, .string ⟨#[]⟩] 33)).drew).mono ?_) | (with_reducible refine (HC0.out _ ((Below.refl _ _).alloc (Nat.le_refl _) (.cells #[.slice none 0 0, .int .i64 0, .string ⟨#[]⟩] 33))).mono ?_)); rintro e w51 ⟨hr, hb⟩; have hs9 : (wr.alloc (.cells #[.slice none 0 0, .int .i64 0, .string ⟨#[]⟩] 33)).heap.size = wr.heap.size + 1 := World.size_alloc _ _; have hb7 : Below (wr.heap.size + 1) (wr.alloc (.cells #[.slice none 0 0, .int .i64 0, .string ⟨#[]⟩] 33)) w51 := (by first | exact Below.trans (Below.refl _ _).drew (hb.mono (Nat.le_of_eq hs9.symm)) | exact hb.mono (Nat.le_of_eq hs9.symm)); have hs7 : wr.heap.size + 1 ≤ w51.heap.size := Nat.le_trans (Nat.le_of_eq hs9.symm) hb7.size; have hb := ((Below.refl wr.heap.size wr).alloc (Nat.le_refl _) (.cells #[.slice none 0 0, .int .i64 0, .string ⟨#[]⟩] 33)).trans (hb7.mono (Nat.le_succ _)); have HNG := Lib.hid (show wr.heap.size ≤ wr.heap.size from HBR.out.size); have HBR := Lib.hid (HBR.out.trans (hb.mono HBR.out.size)); have hnx : w51.heap[wr.heap.size]? = some (.cells #[.slice none 0 0, .int .i64 0, .string ⟨#[]⟩] 33 (0, 0)) := (by rw [hb7.block _ (Nat.lt_succ_self _)]; exact (MapKept.heap_alloc wr _).1); have HNW := Lib.hid hnx; have HNL := Lib.hid (show wr.heap.size < w51.heap.size from hs7); obtain ⟨⟨e0, e1, e2⟩, f0, f1, f2⟩ := three_cells hnx; rw [HPL.out] at hr; obtain ⟨a5, n5, c5, he, hn9, ho9⟩ := hr.open HNP.out; subst he; clear hr hn9; obtain ⟨NX, hNX⟩ : ∃ NX, wr.heap.size = NX := ⟨_, rfl⟩; have HNX := Eqq.mk hNX; obtain ⟨FW, hFW⟩ : ∃ FW, (((w51.setCell ⟨wr.heap.size, 0, none⟩ (.slice a5 n5 c5)).setCell ⟨wr.heap.size, 1, none⟩ (.int .i64 nc)).setCell ⟨wr.heap.size, 2, none⟩ (.string np)) = FW := ⟨_, rfl⟩; have HFW := Eqq.mk hFW; have hrw : FW.heap[wr.heap.size]? = some (.cells #[.slice a5 n5 c5, .int .i64 nc, .string np] 33 (0, 0)) := (by rw [← hFW]; exact three_set hnx (.slice a5 n5 c5) (.int .i64 nc) (.string np)); have RX := Lib.hid (show RowIs 33 NX (.slice a5 n5 c5) (nc) (np) FW from by rw [← hNX]; exact hrw); have HBF := Lib.hid (show Below wr.heap.size wr FW from by rw [← hFW]; exact three_below HBR.out HNG.out _ _ _); have HLX5 := Lib.hid (show LieG itemE (.slice a5 n5 c5) nx FW from by rw [← hFW]; exact (three_own8 ho9 (show wr.heap.size < _ from Nat.lt_of_lt_of_le (Nat.lt_succ_self _) (Nat.le_of_eq hs9.symm)) _ _ _).lie); clear hNX hFW hrw; clear hnx hb hb7 hs7 hs9)
                 | (go_at_call 16; (first | (with_reducible refine (HC0.out _ (Below.refl _ _).drew).mono ?_) | (with_reducible refine (HC0.out _ (Below.refl _ _)).mono ?_)); rintro e w51 ⟨hr, hb⟩; (try have hb := Below.trans (Below.refl _ _).drew hb); have HBR := Lib.hid (HBR.out.trans (hb.mono HBR.out.size)); rw [HPL.out] at hr; obtain ⟨a5, n5, c5, he, hn9, ho9⟩ := hr.open HNP.out; subst he; clear hr hn9; obtain ⟨NX, hNX⟩ : ∃ NX, w51.heap.size = NX := ⟨_, rfl⟩; have HNX := Eqq.mk hNX; obtain ⟨FW, hFW⟩ : ∃ FW, (w51.alloc (.cells #[.slice a5 n5 c5, .int .i64 nc, .string np] 33)) = FW := ⟨_, rfl⟩; have HFW := Eqq.mk hFW; have hrw : FW.heap[w51.heap.size]? = some (.cells #[.slice a5 n5 c5, .int .i64 nc, .string np] 33 (0, 0)) := (by rw [← hFW]; exact (MapKept.heap_alloc w51 _).1); have RX := Lib.hid (show RowIs 33 NX (.slice a5 n5 c5) (nc) (np) FW from by rw [← hNX]; exact hrw); have HBF := Lib.hid (show Below wr.heap.size wr FW from by rw [← hFW]; exact HBR.out.alloc HBR.out.size _); have HLX5 := Lib.hid (show LieG itemE (.slice a5 n5 c5) nx FW from by rw [← hFW]; exact (ho9.alloc _).lie); clear hNX hFW hrw; clear hb))
              all_goals
                (rename_i hHeld
                 clear hHeld
                 try rw [HFW.out]
                 rw [HNX.out]
                 try clear e0 e1 e2 f0 f1 f2
                 have HB := Lib.hid (HB.out.trans (HBF.out.mono HB.out.size))
                 go_wp2_with fail
                 go_meet
                 case rel => exact ⟨_, _, _, _, rfl, rfl, RX.out, HLX5.out, HBF.out⟩)
            case rest =>
              obtain ⟨N5, a5, n5, c5, rfl, rfl, hrx, hlx, hb⟩ := hcut
              obtain ⟨w75, hw75⟩ : ∃ W, W = wc := ⟨_, rfl⟩
              subst hw75
              have HBC := Lib.hid hb
              have HB := Lib.hid (HB.out.trans (hb.mono HB.out.size))
              have HT := Lib.hid (HT.out.keep hb)
              have HLA := Lib.hid (HLA.out.keep hb)
              have HLR := Lib.hid (HLR.out.keep hb)
              have HA := Lib.hid (HA.out.keep hb)
              have HLR2 := Lib.hid (HLR2.out.keep hb)
              have HVR := Lib.hid (HVR.out.keep hb)
              have HRB := Lib.hid (HRB.out.keep hb)
              have HRW := Lib.hid (HRW.out.keep hb)
              have HLX := Lib.hid (HLX.out.keep hb)
              have HLY := Lib.hid (HLY.out.keep hb)
              have HBO := Lib.hid (HBO.out.keep hb)
              have RX := Lib.hid hrx
              have HLX5 := Lib.hid hlx
              clear hb hrx hlx
              have HC0 := Lib.hid (fun (W : World) (hW : Below w75.heap.size w75 W) => rkey_any vr ys2 _ xs c p pl act.key ke HKE.out W (HVR.out.keep hW) HOK2.out (Nat.le_trans (def_len9 HD2.out) (by decide)) (HLY.out.keep hW) HIP.out HF.out)
              go_upto_region 21 with fail
              go_cut [11, 12] from 34 to 138 (fun xv fv W => ∃ (N : Nat) (a6 : Option Addr) (n6 c6 : Nat), xv = .pointer (some ⟨N, 0, none⟩) ∧ fv = .int .i64 er ∧ RowIs 42 N (.slice a6 n6 c6) nc np W ∧ LieG itemE (.slice a6 n6 c6) nx W ∧ Below w75.heap.size w75 W)
              case first =>
                have HKP := Lib.hid (fun (W : World) (hW : Below w75.heap.size w75 W) => (show (Below w75.heap.size w75 W ∧ (W.cell? ⟨(w4.heap.size + 1), 0, none⟩ = some (.slice a2 m2 q2) ∧ W.cell? ⟨(w4.heap.size + 1), 1, none⟩ = some (.int .i64 (c)) ∧ W.cell? ⟨(w4.heap.size + 1), 2, none⟩ = some (.string (p))) ∧ W.cell? ⟨gg, oo + i * 3 + 1, none⟩ = some (.int .u8 ke)) from ⟨hW, (three_cells (HRW.out.keep hW)).1, HE1.out W (HBC.out.trans (hW.mono HBC.out.size))⟩))
                have HBR := Lib.hid (Below.refl w75.heap.size w75)
                have HBA := Lib.hid ((Below.refl w75.heap.size w75).alloc (Nat.le_refl _) (.cells #[.slice none 0 0, .int .i64 0, .string ⟨#[]⟩] 42))
                obtain ⟨⟨HRWc0, HRWc1, HRWc2⟩, HRWf0, HRWf1, HRWf2⟩ := three_cells HRW.out
                go_wp2_with fail
                clear HRWc0 HRWc1 HRWc2 HRWf0 HRWf1 HRWf2
                go_region_held3 (fun W => (Below w75.heap.size w75 W ∧ (W.cell? ⟨(w4.heap.size + 1), 0, none⟩ = some (.slice a2 m2 q2) ∧ W.cell? ⟨(w4.heap.size + 1), 1, none⟩ = some (.int .i64 (c)) ∧ W.cell? ⟨(w4.heap.size + 1), 2, none⟩ = some (.string (p))) ∧ W.cell? ⟨gg, oo + i * 3 + 1, none⟩ = some (.int .u8 ke)))
                  (first | exact HKP.out _ HBR.out | exact HKP.out _ HBR.out.drew | exact HKP.out _ HBA.out | exact HKP.out _ HBA.out.drew | exact HKP.out _ (HBR.out.alloc HBR.out.size _) | exact HKP.out _ (HBR.out.alloc HBR.out.size _).drew | (rw [HFW.out]; exact HKP.out _ HBF.out) | go_keep)
                  (first
                   | (go_at_call 27; (first | (with_reducible refine (HC0.out _ ((Below.refl _ _).alloc (Nat.le_refl _) (.cells #[.slice none 0 0, .int .i64 0, .string ⟨#[]⟩] 42)).drew).mono ?_) | (with_reducible refine (HC0.out _ ((Below.refl _ _).alloc (Nat.le_refl _) (.cells #[.slice none 0 0, .int .i64 0, .string ⟨#[]⟩] 42))).mono ?_)); rintro e w51 ⟨hr, hb⟩; have hs9 : (w75.alloc (.cells #[.slice none 0 0, .int .i64 0, .string ⟨#[]⟩] 42)).heap.size = w75.heap.size + 1 := World.size_alloc _ _; have hb7 : Below (w75.heap.size + 1) (w75.alloc (.cells #[.slice none 0 0, .int .i64 0, .string ⟨#[]⟩] 42)) w51 := (by first | exact Below.trans (Below.refl _ _).drew (hb.mono (Nat.le_of_eq hs9.symm)) | exact hb.mono (Nat.le_of_eq hs9.symm)); have hs7 : w75.heap.size + 1 ≤ w51.heap.size := Nat.le_trans (Nat.le_of_eq hs9.symm) hb7.size; have hb := ((Below.refl w75.heap.size w75).alloc (Nat.le_refl _) (.cells #[.slice none 0 0, .int .i64 0, .string ⟨#[]⟩] 42)).trans (hb7.mono (Nat.le_succ _)); have HNG := Lib.hid (show w75.heap.size ≤ w75.heap.size from HBR.out.size); have HBR := Lib.hid (HBR.out.trans (hb.mono HBR.out.size)); have hnx : w51.heap[w75.heap.size]? = some (.cells #[.slice none 0 0, .int .i64 0, .string ⟨#[]⟩] 42 (0, 0)) := (by rw [hb7.block _ (Nat.lt_succ_self _)]; exact (MapKept.heap_alloc w75 _).1); have HNW := Lib.hid hnx; have HNL := Lib.hid (show w75.heap.size < w51.heap.size from hs7); obtain ⟨⟨e0, e1, e2⟩, f0, f1, f2⟩ := three_cells hnx; rw [HPL2.out] at hr; obtain ⟨a6, n6, c6, he, hn9, ho9⟩ := hr.open HNP.out; subst he; clear hr hn9; obtain ⟨NX, hNX⟩ : ∃ NX, w75.heap.size = NX := ⟨_, rfl⟩; have HNX := Eqq.mk hNX; obtain ⟨FW, hFW⟩ : ∃ FW, (((w51.setCell ⟨w75.heap.size, 0, none⟩ (.slice a6 n6 c6)).setCell ⟨w75.heap.size, 1, none⟩ (.int .i64 nc)).setCell ⟨w75.heap.size, 2, none⟩ (.string np)) = FW := ⟨_, rfl⟩; have HFW := Eqq.mk hFW; have hrw : FW.heap[w75.heap.size]? = some (.cells #[.slice a6 n6 c6, .int .i64 nc, .string np] 42 (0, 0)) := (by rw [← hFW]; exact three_set hnx (.slice a6 n6 c6) (.int .i64 nc) (.string np)); have RY := Lib.hid (show RowIs 42 NX (.slice a6 n6 c6) (nc) (np) FW from by rw [← hNX]; exact hrw); have HBF := Lib.hid (show Below w75.heap.size w75 FW from by rw [← hFW]; exact three_below HBR.out HNG.out _ _ _); have HLY5 := Lib.hid (show LieG itemE (.slice a6 n6 c6) nx FW from by rw [← hFW]; exact (three_own8 ho9 (show w75.heap.size < _ from Nat.lt_of_lt_of_le (Nat.lt_succ_self _) (Nat.le_of_eq hs9.symm)) _ _ _).lie); clear hNX hFW hrw; clear hnx hb hb7 hs7 hs9)
                   | (go_at_call 27; (first | (with_reducible refine (HC0.out _ (Below.refl _ _).drew).mono ?_) | (with_reducible refine (HC0.out _ (Below.refl _ _)).mono ?_)); rintro e w51 ⟨hr, hb⟩; (try have hb := Below.trans (Below.refl _ _).drew hb); have HBR := Lib.hid (HBR.out.trans (hb.mono HBR.out.size)); rw [HPL2.out] at hr; obtain ⟨a6, n6, c6, he, hn9, ho9⟩ := hr.open HNP.out; subst he; clear hr hn9; obtain ⟨NX, hNX⟩ : ∃ NX, w51.heap.size = NX := ⟨_, rfl⟩; have HNX := Eqq.mk hNX; obtain ⟨FW, hFW⟩ : ∃ FW, (w51.alloc (.cells #[.slice a6 n6 c6, .int .i64 nc, .string np] 42)) = FW := ⟨_, rfl⟩; have HFW := Eqq.mk hFW; have hrw : FW.heap[w51.heap.size]? = some (.cells #[.slice a6 n6 c6, .int .i64 nc, .string np] 42 (0, 0)) := (by rw [← hFW]; exact (MapKept.heap_alloc w51 _).1); have RY := Lib.hid (show RowIs 42 NX (.slice a6 n6 c6) (nc) (np) FW from by rw [← hNX]; exact hrw); have HBF := Lib.hid (show Below w75.heap.size w75 FW from by rw [← hFW]; exact HBR.out.alloc HBR.out.size _); have HLY5 := Lib.hid (show LieG itemE (.slice a6 n6 c6) nx FW from by rw [← hFW]; exact (ho9.alloc _).lie); clear hNX hFW hrw; clear hb))
                all_goals
                  (rename_i hHeld
                   clear hHeld
                   try rw [HFW.out]
                   rw [HNX.out]
                   try clear e0 e1 e2 f0 f1 f2
                   have HB := Lib.hid (HB.out.trans (HBF.out.mono HB.out.size))
                   go_wp2_with fail
                   go_meet
                   case rel => exact ⟨_, _, _, _, rfl, rfl, RY.out, HLY5.out, HBF.out⟩)
              case rest =>
                obtain ⟨N6, a6, n6, c6, rfl, rfl, hrx, hlx, hb⟩ := hcut
                obtain ⟨w76, hw76⟩ : ∃ W, W = wc := ⟨_, rfl⟩
                subst hw76
                have HB5 := Lib.hid (HBC.out.trans (hb.mono HBC.out.size))
                have HB := Lib.hid (HB.out.trans (hb.mono HB.out.size))
                have HT := Lib.hid (HT.out.keep hb)
                have HLA := Lib.hid (HLA.out.keep hb)
                have HLR := Lib.hid (HLR.out.keep hb)
                have HA := Lib.hid (HA.out.keep hb)
                have HLR2 := Lib.hid (HLR2.out.keep hb)
                have HVR := Lib.hid (HVR.out.keep hb)
                have HRB := Lib.hid (HRB.out.keep hb)
                have HRW := Lib.hid (HRW.out.keep hb)
                have HLX := Lib.hid (HLX.out.keep hb)
                have HLY := Lib.hid (HLY.out.keep hb)
                have HBO := Lib.hid (HBO.out.keep hb)
                have RX := Lib.hid (RX.out.keep hb)
                have HLX5 := Lib.hid (HLX5.out.keep hb)
                have RY := Lib.hid hrx
                have HLY5 := Lib.hid hlx
                clear hb hrx hlx
                by_cases her : er = 0
                · subst her
                  obtain ⟨hv5, hs5⟩ := HVS.out rfl
                  obtain ⟨⟨RXc0, RXc1, RXc2⟩, RXf0, RXf1, RXf2⟩ := three_cells RX.out
                  obtain ⟨⟨RYc0, RYc1, RYc2⟩, RYf0, RYf1, RYf2⟩ := three_cells RY.out
                  go_upto_region 25 with fail
                  clear RXc0 RXc1 RXc2 RXf0 RXf1 RXf2
                  clear RYc0 RYc1 RYc2 RYf0 RYf1 RYf2
                  obtain ⟨⟨RXc0, RXc1, RXc2⟩, RXf0, RXf1, RXf2⟩ := three_cells RX.out
                  obtain ⟨⟨RYc0, RYc1, RYc2⟩, RYf0, RYf1, RYf2⟩ := three_cells RY.out
                  obtain ⟨⟨HRBc0, HRBc1, HRBc2⟩, HRBf0, HRBf1, HRBf2⟩ := three_cells HRB.out
                  obtain ⟨⟨HRWc0, HRWc1, HRWc2⟩, HRWf0, HRWf1, HRWf2⟩ := three_cells HRW.out
                  have q1 := row_ne HRB.out RY.out
                  have q2 : ¬ _ = _ := fun e => q1 e.symm
                  have hfin := both_put HS1.out (Nat.le_refl _) HS2.out HRB.out HRW.out HLX5.out HLY5.out HNI.out hv5 hs5 (HBW.out.trans (HB5.out.mono HBW.out.size))
                  go_region
                  go_wp2_with fail
                  go_meet
                  case rel => first | exact hfin.keep (Below.refl _ _).drew | exact hfin
                · have r1 : (er == 0) = false := by rw [beq_eq_false_iff_ne]; exact her
                  go_wp2_with fail
                  go_meet
                  case rel => exact HBO.out
          · obtain ⟨⟨nx, nc, nl⟩, hpl⟩ : ∃ q, Cp.back ⟨xs, c, pl⟩ = q := ⟨_, rfl⟩
            have HNV := Eqq.mk (show Cp.valid ⟨nx, nc, nl⟩ = true by rw [← hpl]; exact Cp.back_valid.1 HVA.out)
            have HNS := Lib.hid (show Cp.Small ⟨nx, nc, nl⟩ by rw [← hpl]; exact Cp.back_valid.2 HSM.out)
            have HC1 := Lib.hid (fun (W : World) (hW : Below wr.heap.size wr W) => (show Calls Tryz.prog 18 #[bufV (.slice a1 m1 q1) c p] W fun e w' => BufR W.heap.size ⟨nx, nc, nl⟩ e w' ∧ Below W.heap.size W w' from by rw [← hpl]; exact pback_any _ xs c p pl W (HLX.out.keep hW) HIP.out HF.out (HT.out.keep hW)))
            have HC2 := Lib.hid (fun (W : World) (hW : Below wr.heap.size wr W) => (show Calls Tryz.prog 37 #[bufV (.slice a2 m2 q2) c p] W fun e w' => RefR ⟨nx, nc, nl⟩ e w' ∧ Below W.heap.size W w' from by rw [← hpl]; exact rback_any _ xs c p pl W (HLY.out.keep hW) HIP.out HF.out))
            clear hpl
            go_upto_region 27 with fail
            refine plays27 (by kernel_rfl) HRB.out HRW.out rfl HNV.out HNS.out HBW.out HC1.out HC2.out (fun y0 y1 y2 y3 w' hb => ?_)
            have HBZ := Lib.hid hb
            clear hb
            go_wp2_with fail
            go_meet
            case rel => exact HBZ.out
          · obtain ⟨⟨nx, nc, nl⟩, hpl⟩ : ∃ q, Cp.del ⟨xs, c, pl⟩ = q := ⟨_, rfl⟩
            have HNV := Eqq.mk (show Cp.valid ⟨nx, nc, nl⟩ = true by rw [← hpl]; exact Cp.del_valid.1 HVA.out)
            have HNS := Lib.hid (show Cp.Small ⟨nx, nc, nl⟩ by rw [← hpl]; exact Cp.del_valid.2 HSM.out)
            have HC1 := Lib.hid (fun (W : World) (hW : Below wr.heap.size wr W) => (show Calls Tryz.prog 38 #[bufV (.slice a1 m1 q1) c p] W fun e w' => BufR W.heap.size ⟨nx, nc, nl⟩ e w' ∧ Below W.heap.size W w' from by rw [← hpl]; exact pdelete_any _ xs c p pl W (HLX.out.keep hW) HIP.out HF.out (HT.out.keep hW)))
            have HC2 := Lib.hid (fun (W : World) (hW : Below wr.heap.size wr W) => (show Calls Tryz.prog 39 #[bufV (.slice a2 m2 q2) c p] W fun e w' => RefR ⟨nx, nc, nl⟩ e w' ∧ Below W.heap.size W w' from by rw [← hpl]; exact rdelete_any _ xs c p pl W (HLY.out.keep hW) HIP.out HF.out))
            clear hpl
            go_upto_region 29 with fail
            refine plays29 (by kernel_rfl) HRB.out HRW.out rfl HNV.out HNS.out HBW.out HC1.out HC2.out (fun y0 y1 y2 y3 w' hb => ?_)
            have HBZ := Lib.hid hb
            clear hb
            go_wp2_with fail
            go_meet
            case rel => exact HBZ.out
          · obtain ⟨⟨nx, nc, nl⟩, hpl⟩ : ∃ q, Cp.move ⟨xs, c, pl⟩ num = q := ⟨_, rfl⟩
            have HNV := Eqq.mk (show Cp.valid ⟨nx, nc, nl⟩ = true by rw [← hpl]; exact Cp.move_valid.1 HVA.out)
            have HNS := Lib.hid (show Cp.Small ⟨nx, nc, nl⟩ by rw [← hpl]; exact Cp.move_valid.2 HSM.out)
            have HC1 := Lib.hid (fun (W : World) (hW : Below wr.heap.size wr W) => (show Calls Tryz.prog 32 #[bufV (.slice a1 m1 q1) c p, .int .i64 num] W fun e w' => BufR W.heap.size ⟨nx, nc, nl⟩ e w' ∧ Below W.heap.size W w' from by rw [← hpl]; exact pmove_any _ xs c p pl W (HLX.out.keep hW) HIP.out HF.out (HT.out.keep hW) num))
            have HC2 := Lib.hid (fun (W : World) (hW : Below wr.heap.size wr W) => (show Calls Tryz.prog 40 #[bufV (.slice a2 m2 q2) c p, .int .i64 num] W fun e w' => RefR ⟨nx, nc, nl⟩ e w' ∧ Below W.heap.size W w' from by rw [← hpl]; exact rmove_any _ xs c p pl W (HLY.out.keep hW) HIP.out HF.out num))
            clear hpl
            go_upto_region 31 with fail
            refine plays31 (by kernel_rfl) HRB.out HRW.out rfl HNV.out HNS.out HBW.out i0 i1 e2 HC1.out HC2.out (fun y0 y1 y2 y3 y4 y5 y6 y7 y8 y9 y10 y11 y12 y13 w' hb => ?_)
            have HBZ := Lib.hid hb
            clear hb
            go_wp2_with fail
            go_meet
            case rel => exact HBZ.out
          · obtain ⟨⟨nx, nc, nl⟩, hpl⟩ : ∃ q, Cp.flush Ro.defL ⟨xs, c, pl⟩ = q := ⟨_, rfl⟩
            have HNV := Eqq.mk (show Cp.valid ⟨nx, nc, nl⟩ = true by rw [← hpl]; exact Cp.flush_valid.1 HVA.out)
            have HNS := Lib.hid (show Cp.Small ⟨nx, nc, nl⟩ by rw [← hpl]; exact Cp.flush_valid.2 HVA.out HSM.out)
            have HC1 := Lib.hid (fun (W : World) (hW : Below wr.heap.size wr W) => (show Calls Tryz.prog 34 #[.pointer (some ⟨a, 0, none⟩), bufV (.slice a1 m1 q1) c p] W fun e w' => BufR W.heap.size ⟨nx, nc, nl⟩ e w' ∧ Below W.heap.size W w' from by rw [← hpl]; exact (show Calls Tryz.prog 34 #[.pointer (some ⟨a, 0, none⟩), bufV (.slice a1 m1 q1) c p] W fun e w' => BufR W.heap.size (Cp.flush Ro.defL ⟨xs, c, pl⟩) e w' ∧ Below W.heap.size W w' from by rw [← HD.out]; exact pflush_any _ a ys _ xs c p pl W (HA.out.keep hW) (Nat.le_refl _) (HLX.out.keep hW) HIP.out HF.out (HT.out.keep hW))))
            have HC2 := Lib.hid (fun (W : World) (hW : Below wr.heap.size wr W) => (show Calls Tryz.prog 36 #[vr, bufV (.slice a2 m2 q2) c p] W fun e w' => RefR ⟨nx, nc, nl⟩ e w' ∧ Below W.heap.size W w' from by rw [← hpl]; exact (show Calls Tryz.prog 36 #[vr, bufV (.slice a2 m2 q2) c p] W fun e w' => RefR (Cp.flush Ro.defL ⟨xs, c, pl⟩) e w' ∧ Below W.heap.size W w' from by rw [← HD2.out]; exact rflush8_any vr ys2 _ xs c p pl W (HVR.out.keep hW) HOK2.out (Nat.le_trans (def_len9 HD2.out) (by decide)) (HLY.out.keep hW) HIP.out HF.out)))
            clear hpl
            go_upto_region 33 with fail
            refine plays33 (by kernel_rfl) HRB.out HRW.out rfl HNV.out HNS.out HBW.out HC1.out HC2.out (fun y0 y1 y2 y3 y4 y5 w' hb => ?_)
            have HBZ := Lib.hid hb
            clear hb
            go_wp2_with fail
            go_meet
            case rel => exact HBZ.out
          · obtain ⟨⟨⟨nx, nc, nl⟩, er⟩, hpl⟩ : ∃ q, Cp.put ⟨xs, c, pl⟩ [65] [65] = q := ⟨_, rfl⟩
            have HPL := Eqq.mk hpl
            have HVS := Lib.hid (show er = 0 → Cp.valid ⟨nx, nc, nl⟩ = true ∧ Cp.Small ⟨nx, nc, nl⟩ from by rintro rfl; exact ⟨(Cp.put_valid hpl).1, (Cp.put_valid hpl).2 HSM.out (by decide)⟩)
            obtain ⟨np, hnp⟩ : ∃ np, ba nl = np := ⟨_, rfl⟩
            have HNP := Eqq.mk hnp
            have HNI := Lib.hid (show Is np nl by rw [← hnp]; exact is_ba nl)
            clear hpl hnp
            have HIA := Lib.hid (show Is (⟨#[65]⟩ : ByteArray) [65] from rfl)
            have HB5 := Lib.hid (Below.refl wr.heap.size wr)
            obtain ⟨⟨HRBc0, HRBc1, HRBc2⟩, HRBf0, HRBf1, HRBf2⟩ := three_cells HRB.out
            go_wp2_with fail
            clear HRBc0 HRBc1 HRBc2 HRBf0 HRBf1 HRBf2
            with_reducible refine (pput_any _ xs c p pl ⟨#[65]⟩ ⟨#[65]⟩ [65] [65] _ HLX.out HIP.out HF.out HIA.out HIA.out (by decide) (by decide) HT.out).mono ?_
            rw [HPL.out]
            rintro e w5 ⟨hr, hb⟩
            have HB := Lib.hid (HB.out.trans (hb.mono HB.out.size))
            have HT := Lib.hid (HT.out.keep hb)
            have HLA := Lib.hid (HLA.out.keep hb)
            have HLR := Lib.hid (HLR.out.keep hb)
            have HA := Lib.hid (HA.out.keep hb)
            have HLR2 := Lib.hid (HLR2.out.keep hb)
            have HVR := Lib.hid (HVR.out.keep hb)
            have HRB := Lib.hid (HRB.out.keep hb)
            have HRW := Lib.hid (HRW.out.keep hb)
            have HLX := Lib.hid (HLX.out.keep hb)
            have HLY := Lib.hid (HLY.out.keep hb)
            have HBO := Lib.hid (HBO.out.keep hb)
            have HB5 := Lib.hid (HB5.out.trans (hb.mono HB5.out.size))
            obtain ⟨a5, n5, c5, rfl, hn9, ho⟩ := hr.open HNP.out
            have HLX5 := Lib.hid ho.lie
            clear ho hr hn9
            clear hb
            obtain ⟨w6, hwx⟩ : ∃ W, w5.alloc (.cells #[.slice a5 n5 c5, .int .i64 nc, .string np] 33) = W := ⟨_, rfl⟩
            have HWX1 := Eqq.mk hwx
            have hb : Below w5.heap.size w5 w6 := by rw [← hwx]; exact (Below.refl _ _).alloc (Nat.le_refl _) _
            have HB := Lib.hid (HB.out.trans (hb.mono HB.out.size))
            have HT := Lib.hid (HT.out.keep hb)
            have HLA := Lib.hid (HLA.out.keep hb)
            have HLR := Lib.hid (HLR.out.keep hb)
            have HA := Lib.hid (HA.out.keep hb)
            have HLR2 := Lib.hid (HLR2.out.keep hb)
            have HVR := Lib.hid (HVR.out.keep hb)
            have HRB := Lib.hid (HRB.out.keep hb)
            have HRW := Lib.hid (HRW.out.keep hb)
            have HLX := Lib.hid (HLX.out.keep hb)
            have HLY := Lib.hid (HLY.out.keep hb)
            have HBO := Lib.hid (HBO.out.keep hb)
            have HLX5 := Lib.hid (HLX5.out.keep hb)
            have RX := Lib.hid (show RowIs 33 w5.heap.size (.slice a5 n5 c5) (nc) (np) w6 from by rw [← hwx]; exact RowIs.new _ _ _ _ _)
            have HB5 := Lib.hid (HB5.out.trans (hb.mono HB5.out.size))
            clear hb hwx
            obtain ⟨⟨HRWc0, HRWc1, HRWc2⟩, HRWf0, HRWf1, HRWf2⟩ := three_cells (show (w5.alloc (.cells #[.slice a5 n5 c5, .int .i64 nc, .string np] 33)).heap[_]? = _ from by rw [HWX1.out]; exact HRW.out)
            go_wp2_with fail
            clear HRWc0 HRWc1 HRWc2 HRWf0 HRWf1 HRWf2
            rw [HWX1.out]
            with_reducible refine (rput_any _ xs c p pl ⟨#[65]⟩ ⟨#[65]⟩ [65] [65] _ HLY.out HIP.out HF.out HIA.out HIA.out (by decide) (by decide)).mono ?_
            rw [HPL.out]
            rintro e w7 ⟨hr, hb⟩
            have HB := Lib.hid (HB.out.trans (hb.mono HB.out.size))
            have HT := Lib.hid (HT.out.keep hb)
            have HLA := Lib.hid (HLA.out.keep hb)
            have HLR := Lib.hid (HLR.out.keep hb)
            have HA := Lib.hid (HA.out.keep hb)
            have HLR2 := Lib.hid (HLR2.out.keep hb)
            have HVR := Lib.hid (HVR.out.keep hb)
            have HRB := Lib.hid (HRB.out.keep hb)
            have HRW := Lib.hid (HRW.out.keep hb)
            have HLX := Lib.hid (HLX.out.keep hb)
            have HLY := Lib.hid (HLY.out.keep hb)
            have HBO := Lib.hid (HBO.out.keep hb)
            have HLX5 := Lib.hid (HLX5.out.keep hb)
            have RX := Lib.hid (RX.out.keep hb)
            have HB5 := Lib.hid (HB5.out.trans (hb.mono HB5.out.size))
            obtain ⟨a6, n6, c6, rfl, hn9, ho⟩ := hr.open HNP.out
            have HLY5 := Lib.hid ho.lie
            clear ho hr hn9
            clear hb
            obtain ⟨w8, hwx⟩ : ∃ W, w7.alloc (.cells #[.slice a6 n6 c6, .int .i64 nc, .string np] 42) = W := ⟨_, rfl⟩
            have HWX2 := Eqq.mk hwx
            have hb : Below w7.heap.size w7 w8 := by rw [← hwx]; exact (Below.refl _ _).alloc (Nat.le_refl _) _
            have HB := Lib.hid (HB.out.trans (hb.mono HB.out.size))
            have HT := Lib.hid (HT.out.keep hb)
            have HLA := Lib.hid (HLA.out.keep hb)
            have HLR := Lib.hid (HLR.out.keep hb)
            have HA := Lib.hid (HA.out.keep hb)
            have HLR2 := Lib.hid (HLR2.out.keep hb)
            have HVR := Lib.hid (HVR.out.keep hb)
            have HRB := Lib.hid (HRB.out.keep hb)
            have HRW := Lib.hid (HRW.out.keep hb)
            have HLX := Lib.hid (HLX.out.keep hb)
            have HLY := Lib.hid (HLY.out.keep hb)
            have HBO := Lib.hid (HBO.out.keep hb)
            have HLX5 := Lib.hid (HLX5.out.keep hb)
            have RX := Lib.hid (RX.out.keep hb)
            have HLY5 := Lib.hid (HLY5.out.keep hb)
            have RY := Lib.hid (show RowIs 42 w7.heap.size (.slice a6 n6 c6) (nc) (np) w8 from by rw [← hwx]; exact RowIs.new _ _ _ _ _)
            have HB5 := Lib.hid (HB5.out.trans (hb.mono HB5.out.size))
            clear hb hwx
            by_cases her : er = 0
            · subst her
              obtain ⟨hv5, hs5⟩ := HVS.out rfl
              obtain ⟨⟨RXc0, RXc1, RXc2⟩, RXf0, RXf1, RXf2⟩ := three_cells (show (w7.alloc (.cells #[.slice a6 n6 c6, .int .i64 nc, .string np] 42)).heap[_]? = _ from by rw [HWX2.out]; exact RX.out)
              obtain ⟨⟨RYc0, RYc1, RYc2⟩, RYf0, RYf1, RYf2⟩ := three_cells (show (w7.alloc (.cells #[.slice a6 n6 c6, .int .i64 nc, .string np] 42)).heap[_]? = _ from by rw [HWX2.out]; exact RY.out)
              go_upto_region 18 with fail
              clear RXc0 RXc1 RXc2 RXf0 RXf1 RXf2
              clear RYc0 RYc1 RYc2 RYf0 RYf1 RYf2
              rw [HWX2.out]
              obtain ⟨⟨RXc0, RXc1, RXc2⟩, RXf0, RXf1, RXf2⟩ := three_cells RX.out
              obtain ⟨⟨RYc0, RYc1, RYc2⟩, RYf0, RYf1, RYf2⟩ := three_cells RY.out
              obtain ⟨⟨HRBc0, HRBc1, HRBc2⟩, HRBf0, HRBf1, HRBf2⟩ := three_cells HRB.out
              obtain ⟨⟨HRWc0, HRWc1, HRWc2⟩, HRWf0, HRWf1, HRWf2⟩ := three_cells HRW.out
              have q1 := row_ne HRB.out RY.out
              have q2 : ¬ _ = _ := fun e => q1 e.symm
              have hfin := both_put HS1.out (Nat.le_refl _) HS2.out HRB.out HRW.out HLX5.out HLY5.out HNI.out hv5 hs5 (HBW.out.trans (HB5.out.mono HBW.out.size))
              go_region
              go_wp2_with fail
              go_meet
              case rel => first | exact hfin.keep (Below.refl _ _).drew | exact hfin
            · have r1 : (er == 0) = false := by rw [beq_eq_false_iff_ne]; exact her
              go_wp2_with fail
              try rw [HWX2.out]
              go_meet
              case rel => exact HBO.out
        case rest =>
          obtain ⟨w70, hw70⟩ : ∃ W, W = wc := ⟨_, rfl⟩
          subst hw70
          have HBO := Lib.hid hcut
          obtain ⟨b1, b2, m3, q3, m4, q4, xs, c, p, pl, hrb, hrw, hlx, hly, hip, hva, hsm, hbw⟩ := hcut
          have HRB := Lib.hid hrb
          have HRW := Lib.hid hrw
          have HLX := Lib.hid hlx
          have HLY := Lib.hid hly
          have HIP := Lib.hid hip
          have HVA := Eqq.mk hva
          have HF := Lib.hid (Cp.fits_of (b := ⟨xs, c, pl⟩) hva hsm)
          have hn2 := HF.out.n
          have HT := Lib.hid (HT0.out.keep hbw)
          have HB := Lib.hid (HB0.out.trans (hbw.mono HB0.out.size))
          clear hrb hrw hlx hly hip hva hsm hbw
          obtain ⟨⟨HRBc0, HRBc1, HRBc2⟩, HRBf0, HRBf1, HRBf2⟩ := three_cells HRB.out
          obtain ⟨⟨HRWc0, HRWc1, HRWc2⟩, HRWf0, HRWf1, HRWf2⟩ := three_cells HRW.out
          go_wp2_with fail
          clear HRBc0 HRBc1 HRBc2 HRBf0 HRBf1 HRBf2
          clear HRWc0 HRWc1 HRWc2 HRWf0 HRWf1 HRWf2
          with_reducible refine (same8_any _ _ xs xs c c p p pl pl _ HLX.out HLY.out HIP.out HIP.out hn2 (Nat.le_trans hn2 (by decide))).mono ?_
          rw [same_yes]
          rintro e w71 ⟨rfl, hb⟩
          have HB := Lib.hid (HB.out.trans (hb.mono HB.out.size))
          have HT := Lib.hid (HT.out.keep hb)
          have HRB := Lib.hid (HRB.out.keep hb)
          have HRW := Lib.hid (HRW.out.keep hb)
          have HLX := Lib.hid (HLX.out.keep hb)
          have HLY := Lib.hid (HLY.out.keep hb)
          have HBO := Lib.hid (HBO.out.keep hb)
          clear hb
          obtain ⟨⟨HRBc0, HRBc1, HRBc2⟩, HRBf0, HRBf1, HRBf2⟩ := three_cells HRB.out
          obtain ⟨⟨HRWc0, HRWc1, HRWc2⟩, HRWf0, HRWf1, HRWf2⟩ := three_cells HRW.out
          go_wp2_with fail
          clear HRBc0 HRBc1 HRBc2 HRBf0 HRBf1 HRBf2
          clear HRWc0 HRWc1 HRWc2 HRWf0 HRWf1 HRWf2
          with_reducible refine (check8_any _ xs c p pl _ HLX.out HIP.out HF.out HT.out).mono ?_
          rw [HVA.out, if_pos rfl]
          rintro e w72 ⟨rfl, hb⟩
          have HB := Lib.hid (HB.out.trans (hb.mono HB.out.size))
          have HT := Lib.hid (HT.out.keep hb)
          have HRB := Lib.hid (HRB.out.keep hb)
          have HRW := Lib.hid (HRW.out.keep hb)
          have HLX := Lib.hid (HLX.out.keep hb)
          have HLY := Lib.hid (HLY.out.keep hb)
          have HBO := Lib.hid (HBO.out.keep hb)
          clear hb
          go_wp2_with fail
          go_roundw
          case rel => exact ⟨i + 1, by omega, by go_num, HBO.out⟩
          case measure => simp [intOf]; omega
      · obtain rfl : i = n := by omega
        go_wp2_with fail
        with_reducible refine (works_any _ HT.out).mono ?_
        rintro e w5 ⟨rfl, hb⟩
        have HB := Lib.hid (HB.out.trans (hb.mono HB.out.size))
        have HT := Lib.hid (HT.out.keep hb)
        have HLA := Lib.hid (HLA.out.keep hb)
        have HLR := Lib.hid (HLR.out.keep hb)
        have HA := Lib.hid (HA.out.keep hb)
        have HLR2 := Lib.hid (HLR2.out.keep hb)
        have HVR := Lib.hid (HVR.out.keep hb)
        have HRB := Lib.hid (HRB.out.keep hb)
        have HRW := Lib.hid (HRW.out.keep hb)
        have HLX := Lib.hid (HLX.out.keep hb)
        have HLY := Lib.hid (HLY.out.keep hb)
        have HBO := Lib.hid (HBO.out.keep hb)
        clear hb
        go_wp2_with fail
        go_ret
        exact ⟨rfl, by first | exact HB.out | exact HB.out.drew⟩

theorem laidOut : laidOutB Tryz.prog = true := by kernel_rfl
set_option maxRecDepth 100000 in
theorem contract (H : Type) (enc : TypeId × Value → H) (W : World) (base : Nat) (args : Array Value) (ds gs : List (DataW H)) (before : List MemPlace)
    (hval : ∀ (j : Nat) t v, Tryz.f10.params[j]? = some t → args[j]? = some v → Value.okWide Tryz.prog W .any base t v)
    (hW : DataW.Whole enc Tryz.prog Tryz.f10.params.toList Rows.composePlaysSpec.vars false W args.toList ds gs before) (hL : laidMetH Tryz.prog Rows.composePlaysRow.laid W) (hS : W.ShapedOpen Tryz.prog)
    (hR : (DataW.weightsEach Tryz.prog (Tryz.f10.params.toList ++ (OpenSpec.ofChange Rows.composePlaysSpec).bare.plain.varTypes Tryz.prog) (ds ++ gs)).all (· ≤ reachBytes) = true) :
    Calls Tryz.prog 10 args W fun e W' => ∃ v, e = .returned v ∧ Rows.composePlaysSpec.post enc Tryz.prog Tryz.f10 false true false false W args v W' := by
  have hT : Tabs W := rtabs_of_laid hL hS
  have hW' := hW
  obtain ⟨p, q, hA0, hV, rfl, hfz, hnd⟩ := hW
  have hA : DataW.TrodAll enc Tryz.prog W 0 (fun _ => true) true Tryz.f10.params.toList args.toList ds p := hA0
  rw [Tryz.params10] at hA hval hR
  obtain ⟨v0, vs0, d0, ds0, p0, q0, hargs, rfl, rfl, h0, r0⟩ := trodAll_cons hA
  obtain ⟨rfl, rfl, rfl⟩ := trodAll_nil r0
  obtain rfl : args = #[v0] := by cases args; simp_all
  obtain ⟨rfl, rfl⟩ := trodVars_none hV
  clear hA0
  simp only [List.append_nil] at hW' hR
  have k0 := h0
  have l0 : ∀ x ∈ p0, x.block < W.heap.size := fun x hx => by simpa using hW'.lt x (by simp [hx])
  obtain ⟨xs0, hl0, hn0⟩ := open_acts (hval 0 72 v0 rfl rfl) h0
  refine (walk W v0 xs0 hl0 hn0 hT).mono fun e W' ⟨he, bel⟩ => ?_
  subst he
  exact ⟨_, rfl, _, _, _, [], _, [], hW', trodAll_mk1 (shut_bool Tryz.underlying4 _), (trodAll_cons_mk (Below.trod laidOut (by kernel_rfl) (of_decide_eq_true (by kernel_rfl)) k0 bel l0) trodAll_mk0), rfl, bel.frame _, fun h => by cases h⟩

theorem reads (os : Os) {H : Type} (enc : TypeId × Value → H) : ∃ places, DataW.whole enc Tryz.prog ((laidWorldR os).forCall (fun _ _ => 0) ⟨#[], #[.slice none 0 0], []⟩).memory Tryz.f10.params.toList Rows.composePlaysSpec.vars false #[.slice none 0 0].toList 8 = some ([.nil], [], places) :=
  ⟨[], by kernel_rfl⟩

set_option maxRecDepth 100000 in
theorem lifted (os : Os) (started : os.Started) (H : Type) (enc : TypeId × Value → H) (F : Stop.Interp) :
    ReturnsInHanded {} Tryz.checked os 10 .any ((OpenSpec.ofChange Rows.composePlaysSpec).preRow enc Tryz.prog Tryz.f10 Rows.composePlaysRow.domain false Rows.composePlaysRow.laid) (((OpenSpec.ofChange Rows.composePlaysSpec).at F).post enc Tryz.prog Tryz.f10 false true false false) := by
  obtain ⟨places, hx⟩ := reads os enc
  refine returnsInHanded_of_row (C := Tryz.checked) (s := (OpenSpec.ofChange Rows.composePlaysSpec)) own started (by kernel_rfl) Tryz.func10
    (witness_row_at (enc := enc) (C := Tryz.checked) false (laidWorldR os) #[.slice none 0 0] rfl (by kernel_rfl) (by kernel_rfl) (by kernel_rfl)
      (OpenSpec.preRow_of_cond 8 hx (by kernel_rfl) (fun k hk => by cases hk) (by kernel_rfl) (laid_metR os _))) ?_
  intro W base args ds gs before hval hW _ hcond hR hL hS _
  exact contract H enc W base args ds gs before hval hW hL hS hR

theorem said : Rows.ComposePlaysSaid :=
  OpenClaim.holds_of_cond 10 Tryz.f10 rfl rfl rfl rfl rfl rfl rfl ⟨rfl, rfl, rfl, rfl, rfl⟩ rfl rfl rfl rfl rfl (by kernel_rfl) Tryz.func10 (by kernel_rfl)
    (of_decide_eq_true (by kernel_rfl)) (by unfold Func.isWrapper; first | (rw [if_pos (by decide +kernel)]; kernel_rfl) | (rw [if_neg (by decide +kernel)]; exact ⟨rfl, rfl⟩))
    (fun os started H enc _ F => by rw [OpenClaim.pre_eq_preRow]; exact lifted os started H enc F)

theorem plain (f : FuncId) (fn : Func) (hf : Tryz.pinned.checked.prog.funcNamed "henkan/henkanlaw08.ComposePlays" = some f) (hfn : Tryz.pinned.checked.prog.funcs[f]? = some fn) :
    false = Tryz.pinned.checked.prog.looks [] ∧ ∀ (j : Nat) t, fn.params[j]? = some t → Tryz.pinned.checked.prog.wantsStandIn t = false := by
  obtain rfl : f = 10 := Option.some.inj ((show Tryz.prog.funcNamed "henkan/henkanlaw08.ComposePlays" = some 10 by kernel_rfl).symm.trans hf) |>.symm
  obtain rfl : fn = Tryz.f10 := (Option.some.inj (Tryz.func10.symm.trans hfn)).symm
  refine ⟨by kernel_rfl, fun j t ht => ?_⟩
  rw [Tryz.params10] at ht
  have hm := Array.mem_of_getElem? ht
  simp only [List.mem_toArray, List.mem_cons, List.not_mem_nil, or_false] at hm
  subst hm
  exact (show Tryz.prog.wantsStandIn 72 = false by kernel_rfl)

/-- the card -/
theorem proved : Rows.ComposePlaysCardSaid :=
  Claim7.holds_tied_plain_at .later [] _ _ _ _ said (fun _ h => by cases h) (by kernel_rfl) (fun _ h => by cases h) composePlays_row_tie rfl ⟨rfl, rfl⟩ (by kernel_rfl) rfl plain (by kernel_rfl)
#print axioms proved
end Go.Proofs.YtgdcffahhpeibaaGreatDoor.composePlays
