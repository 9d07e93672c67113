/-
  the known keys
-/
import Derived.Lib.SmallJoins
import Derived.IntWalk
import Derived.Deep.RegionHeld3
import Derived.Test.YtgdcffahhpeibaaGreatDoorCpMore
import Derived.Carry
import Derived.Laws.AppendOwnNone
namespace Go.Proofs.YtgdcffahhpeibaaGreatDoor.composeKnown
open Go.ChangeShapes Go.WideShapes Go.ChangeAt Go.RowKit
open Go.ChangeMaps (open_string)
set_option linter.unusedVariables false

/-- the keys ka, kk; the buffers of the loop -/
def kaI : List Cp.Item := [([107, 97], [227, 129, 139])]
def kkI : List Cp.Item := [([107], [227, 129, 163])]
def knC (i : Nat) : UInt8 := ([115, 104, 105] : List UInt8).getD i 0
def knX (i : Nat) : List Cp.Item := if i < 3 then kaI else ([115, 104, 105], [227, 129, 151]) :: kaI
def knP (i : Nat) : List UInt8 := if i < 3 then ([115, 104] : List UInt8).take i else []
def knK (i : Nat) : Int := if i < 3 then 0 else 1
theorem is_s0 : Is ⟨#[]⟩ [] := rfl
theorem is_ka : Is ⟨#[107, 97]⟩ [107, 97] := rfl
theorem is_kk : Is ⟨#[107, 107]⟩ [107, 107] := rfl
theorem is_k : Is ⟨#[107]⟩ [107] := rfl
theorem is_x : Is ⟨#[120]⟩ [120] := rfl
theorem kn_ka : Cp.typedL Ro.defL [107, 97] Cp.zero = (⟨kaI, 1, []⟩, true) := by decide +kernel
theorem kn_kk : Cp.typedL Ro.defL [107, 107] Cp.zero = (⟨kkI, 1, [107]⟩, true) := by decide +kernel
theorem kn_move : Cp.move ⟨kaI, 1, []⟩ (-1) = ⟨kaI, 0, []⟩ := by decide +kernel
theorem kn_key : ∀ i, i < 3 → Cp.key Ro.defL ⟨knX i, knK i, knP i⟩ (knC i) = (⟨knX (i + 1), knK (i + 1), knP (i + 1)⟩, 0) := by decide +kernel
theorem kn_valid : ∀ i, i < 4 → Cp.valid ⟨knX i, knK i, knP i⟩ = true := by decide +kernel
theorem kn_small : ∀ i, i < 4 → Cp.Small ⟨knX i, knK i, knP i⟩ := by unfold Cp.Small knX kaI; decide
theorem kn_fits (i : Nat) (h : i < 4) : Fits (knX i) (knP i) := Cp.fits_of (b := ⟨knX i, knK i, knP i⟩) (kn_valid i h) (kn_small i h)
theorem kn_fits3 : Fits (knX 3) [] := kn_fits 3 (by decide)
theorem ka_valid : Cp.valid ⟨kaI, 1, []⟩ = true := by decide +kernel
theorem ka_fits : Fits kaI [] := Cp.fits_of (b := ⟨kaI, 1, []⟩) ka_valid (by unfold Cp.Small kaI; decide)
theorem kk_valid : Cp.valid ⟨kkI, 1, [107]⟩ = true := by decide +kernel
theorem kk_valid2 : Cp.valid ⟨kkI, 1, []⟩ = true := by decide +kernel
theorem kk_fits : Fits kkI [107] := Cp.fits_of (b := ⟨kkI, 1, [107]⟩) kk_valid (by unfold Cp.Small kkI; decide)
theorem kk_fits2 : Fits kkI [] := Cp.fits_of (b := ⟨kkI, 1, []⟩) kk_valid2 (by unfold Cp.Small kkI; decide)
theorem ze_fits : Fits ([] : List Cp.Item) [] := ⟨by simp, by simp, fun x hx => by simp at hx⟩
theorem kk_back : Cp.back ⟨kkI, 1, [107]⟩ = ⟨kkI, 1, []⟩ := by decide +kernel
theorem kk_back2 : Cp.back ⟨kkI, 1, []⟩ = ⟨[], 0, []⟩ := by decide +kernel
theorem kk_put : Cp.put ⟨kkI, 1, [107]⟩ [] [120] = (⟨[], 0, []⟩, 8) := by decide +kernel
theorem kk_len : kkI.length ≤ 2000000 := by decide
theorem lit_le (b : ByteArray) (h : b.size ≤ 100) : b.size ≤ 2000000 := by omega
theorem si_text : TextV ⟨knX 3, 1, []⟩ = .returned (.tuple #[.string ⟨#[227, 129, 151]⟩, .string ⟨#[]⟩, .string ⟨#[227, 129, 139]⟩]) := text_valid (b := ⟨knX 3, 1, []⟩) (by decide +kernel) (l1 := [227, 129, 151]) (l2 := []) (l3 := [227, 129, 139]) (by decide +kernel) rfl (by decide +kernel) rfl rfl rfl
theorem si_raw : RawV ⟨knX 3, 1, []⟩ = .returned (.string ⟨#[115, 104, 105, 107, 97]⟩) := raw_valid (b := ⟨knX 3, 1, []⟩) (by decide +kernel) (l := [115, 104, 105, 107, 97]) (by decide +kernel) rfl
theorem kk_text : TextV ⟨kkI, 1, [107]⟩ = .returned (.tuple #[.string ⟨#[227, 129, 163]⟩, .string ⟨#[107]⟩, .string ⟨#[]⟩]) := text_valid kk_valid (l1 := [227, 129, 163]) (l2 := [107]) (l3 := []) (by decide +kernel) rfl (by decide +kernel) rfl rfl rfl
theorem kk_text2 : TextV ⟨kkI, 1, []⟩ = .returned (.tuple #[.string ⟨#[227, 129, 163]⟩, .string ⟨#[]⟩, .string ⟨#[]⟩]) := text_valid kk_valid2 (l1 := [227, 129, 163]) (l2 := []) (l3 := []) (by decide +kernel) rfl (by decide +kernel) rfl rfl rfl
theorem ze_text : TextV ⟨[], 0, []⟩ = .returned (.tuple #[.string ⟨#[]⟩, .string ⟨#[]⟩, .string ⟨#[]⟩]) := text_valid (b := ⟨[], 0, []⟩) (by decide +kernel) (l1 := []) (l2 := []) (l3 := []) (by decide +kernel) rfl (by decide +kernel) rfl rfl rfl
set_option maxRecDepth 100000 in
set_option maxHeartbeats 16000000 in
theorem walk (w : World) (ht : Tabs w) :
    Calls Tryz.prog 8 #[] w fun e w' => e = .returned (.bool true) ∧ Below w.heap.size w w' := by
  have HB := Lib.hid (Below.refl w.heap.size w)
  have HT := Lib.hid ht
  clear ht
  have hez : (⟨#[]⟩ : ByteArray).size ≤ 2000000 := by decide
  have hxz : (⟨#[120]⟩ : ByteArray).size ≤ 2000000 := by decide
  go_enter Tryz.func8, Tryz.ntmps8
  go_wp2_with fail
  with_reducible refine (default_any _ HT.out).mono ?_
  rintro e w1 ⟨⟨v, ys, rfl, hd, hl⟩, hb⟩
  have HB := Lib.hid (HB.out.trans (hb.mono HB.out.size))
  have HT := Lib.hid (HT.out.keep hb)
  have HD := Eqq.mk hd
  have HLR := Lib.hid hl
  clear hd hl
  clear hb
  go_wp2_with fail
  with_reducible refine (newdef_any v ys _ HLR.out HD.out HT.out).mono ?_
  rintro e w2 ⟨⟨a, rfl, ha⟩, hb⟩
  have HB := Lib.hid (HB.out.trans (hb.mono HB.out.size))
  have HT := Lib.hid (HT.out.keep hb)
  have HLR := Lib.hid (HLR.out.keep hb)
  have HA := Lib.hid ha
  clear ha
  clear hb
  go_wp2_with fail
  with_reducible refine (typed_any _ a ys ⟨#[107, 97]⟩ [107, 97] _ HA.out (Nat.le_refl _) is_ka (by decide) HT.out).mono ?_
  rw [HD.out, kn_ka]
  rintro e w3 ⟨hr, hb⟩
  have HB := Lib.hid (HB.out.trans (hb.mono HB.out.size))
  have HT := Lib.hid (HT.out.keep hb)
  have HLR := Lib.hid (HLR.out.keep hb)
  have HA := Lib.hid (HA.out.keep hb)
  obtain ⟨a1, n1, c1, rfl, hn1, ho⟩ := hr.open (p := ⟨#[]⟩) rfl
  have HL3 := Lib.hid ho.lie
  clear ho hr hn1
  clear hb
  obtain ⟨w4, hwx⟩ : ∃ W, w3.alloc (.cells #[.slice a1 n1 c1, .int .i64 1, .string ⟨#[]⟩] 33) = W := ⟨_, rfl⟩
  have HWX1 := Eqq.mk hwx
  have hb : Below w3.heap.size w3 w4 := by rw [← hwx]; exact (Below.refl _ _).alloc (Nat.le_refl _) _
  have HB := Lib.hid (HB.out.trans (hb.mono HB.out.size))
  have HT := Lib.hid (HT.out.keep hb)
  have HLR := Lib.hid (HLR.out.keep hb)
  have HA := Lib.hid (HA.out.keep hb)
  have HL3 := Lib.hid (HL3.out.keep hb)
  have R3 := Lib.hid (show RowIs 33 w3.heap.size (.slice a1 n1 c1) (1) (⟨#[]⟩) w4 from by rw [← hwx]; exact RowIs.new _ _ _ _ _)
  clear hb hwx
  obtain ⟨⟨R3c0, R3c1, R3c2⟩, R3f0, R3f1, R3f2⟩ := three_cells (show (w3.alloc (.cells #[.slice a1 n1 c1, .int .i64 1, .string ⟨#[]⟩] 33)).heap[_]? = _ from by rw [HWX1.out]; exact R3.out)
  go_wp2_with fail
  clear R3c0 R3c1 R3c2 R3f0 R3f1 R3f2
  rw [HWX1.out]
  with_reducible refine (pmove_any _ kaI 1 ⟨#[]⟩ [] _ HL3.out is_s0 ka_fits HT.out (-1)).mono ?_
  rw [kn_move]
  rintro e w5 ⟨hr, hb⟩
  have HB := Lib.hid (HB.out.trans (hb.mono HB.out.size))
  have HT := Lib.hid (HT.out.keep hb)
  have HLR := Lib.hid (HLR.out.keep hb)
  have HA := Lib.hid (HA.out.keep hb)
  have HL3 := Lib.hid (HL3.out.keep hb)
  have R3 := Lib.hid (R3.out.keep hb)
  obtain ⟨a2, n2, c2, rfl, hn2, ho⟩ := hr.open (p := ⟨#[]⟩) rfl
  have HO5 := Lib.hid ho
  clear ho hr hn2
  clear hb
  have kc := Go.Joins.run_convert_bytes_const_at (P := Tryz.prog) (w5.alloc (.cells #[.slice a2 n2 c2, .int .i64 0, .string ⟨#[]⟩] 33)) 57 5 #[.int .u8 115, .int .u8 104, .int .u8 105] 3 3 (w5.heap.size + 1) (by simp) Tryz.underlying57 Tryz.underlying5
  obtain ⟨W1, hW1⟩ : ∃ W1, (w5.alloc (.cells #[.slice a2 n2 c2, .int .i64 0, .string ⟨#[]⟩] 33)).alloc (.cells #[.int .u8 115, .int .u8 104, .int .u8 105] 5 (3, 3 + 1)) = W1 := ⟨_, rfl⟩
  have HW1 := Eqq.mk hW1
  have hb : Below w5.heap.size w5 W1 := by rw [← hW1]; exact ((Below.refl _ _).alloc (Nat.le_refl _) _).alloc (by simp) _
  have HR5 := Lib.hid (show RowIs 33 w5.heap.size (.slice a2 n2 c2) 0 ⟨#[]⟩ W1 from by rw [← hW1]; unfold RowIs; rw [Lib.alloc_old _ _ _ (by rw [World.size_alloc]; omega)]; exact (MapKept.heap_alloc w5 _).1)
  have HU := Lib.hid (show W1.heap[w5.heap.size + 1]? = some (.cells #[.int .u8 115, .int .u8 104, .int .u8 105] 5 (3, 3 + 1)) from by
    have h := (MapKept.heap_alloc (w5.alloc (.cells #[.slice a2 n2 c2, .int .i64 0, .string ⟨#[]⟩] 33)) (.cells #[.int .u8 115, .int .u8 104, .int .u8 105] 5 (3, 3 + 1))).1
    rw [World.size_alloc, hW1] at h
    exact h)
  have HB1 := Lib.hid hb
  have HO1 := Lib.hid (show OwnG itemE 106 0 (.slice a2 n2 c2) kaI W1 from (HO5.out.keep hb).lower (Nat.zero_le _))
  clear hb hW1
  go_wp2_with fail
  try rw [HW1.out]
  clear kc
  go_loopw [4, 48] (fun okv iv W => ∃ (i : Nat) (v : Value), i ≤ 3 ∧ iv = .int .i64 i ∧ okv = .bool true ∧ RowIs 33 w5.heap.size v (knK i) (ba (knP i)) W ∧ LieG itemE v (knX i) W ∧ W.heap[w5.heap.size + 1]? = some (.cells #[.int .u8 115, .int .u8 104, .int .u8 105] 5 (3, 3 + 1)) ∧ Below w5.heap.size w5 W) (fun _ iv _ => 3 - (intOf iv).toNat)
  case atStart => exact ⟨0, _, by omega, rfl, rfl, HR5.out, HO1.out.lie, HU.out, HB1.out⟩
  case round =>
    obtain ⟨i, v9, hi, rfl, rfl, hrw, hly, hu, hbw⟩ := hrel
    have HR := Lib.hid hrw
    have HLY := Lib.hid hly
    have HU := Lib.hid hu
    have HBW := Lib.hid hbw
    have HPI := Lib.hid (is_ba (knP i))
    obtain ⟨kp, hkp⟩ : ∃ kp, ba (knP i) = kp := ⟨_, rfl⟩
    rw [hkp] at HR HPI
    obtain ⟨av, cv9, rfl, _⟩ := id hly
    obtain ⟨m0, hm0⟩ : ∃ m0, (knX i).length = m0 := ⟨_, rfl⟩
    rw [hm0] at HR HLY
    rw [hm0] at hrw
    obtain ⟨kk, hkk⟩ : ∃ kk, knK i = kk := ⟨_, rfl⟩
    rw [hkk] at HR
    have HLT := Lib.hid (show HT.out = HT.out from rfl)
    clear hrw hly hu hbw
    clear HLT
    have HTw := Lib.hid (HT.out.keep HBW.out)
    have HAw := Lib.hid (HA.out.keep HBW.out)
    obtain ⟨⟨y0, y1, y2⟩, z0, z1, z2⟩ := three_cells HR.out
    by_cases hlt : i < 3
    · have HKEY := Eqq.mk (kn_key i hlt)
      rw [hkk] at HKEY
      have HF := Lib.hid (kn_fits i (by omega))
      have hcu : wr.cell? ⟨w5.heap.size + 1, i, none⟩ = some (.int .u8 ((knC i).toNat : Int)) := by
        rw [Lib.cell_of_heap HU.out]
        have : i = 0 ∨ i = 1 ∨ i = 2 := by omega
        rcases this with rfl | rfl | rfl <;> rfl
      have i0 : (0 : Int) ≤ (i : Int) := by omega
      have i1 : (i : Int) < 3 := by omega
      obtain ⟨np, hnp⟩ : ∃ np, ba (knP (i + 1)) = np := ⟨_, rfl⟩
      have HNP := Eqq.mk hnp
      have HSW := Lib.hid (heap_lt HR.out)
      clear hkp hm0 hkk hnp
      go_wp2_with fail
      clear hcu
      with_reducible refine (pkey_any _ a ys _ (knX i) kk kp (knP i) (knC i) ((knC i).toNat : Int) rfl wr HLY.out HPI.out HF.out HAw.out (Nat.le_refl _) HTw.out).mono ?_
      rw [HD.out, HKEY.out]
      rintro e w9 ⟨hr, hb⟩
      obtain ⟨a5, n5, c5, rfl, hn5, ho⟩ := hr.open HNP.out
      have HRk := Lib.hid (HR.out.keep hb)
      have HRP := Lib.hid (HRk.out.put (.slice a5 n5 c5) (knK (i + 1)) np)
      have HOP := Lib.hid (three_own8 ho HSW.out (.slice a5 n5 c5) (.int .i64 (knK (i + 1))) (.string np)).lie
      have HB9 := Lib.hid (HBW.out.trans (hb.mono HBW.out.size))
      have HBP := Lib.hid (three_below HB9.out (Nat.le_refl w5.heap.size) (.slice a5 n5 c5) (.int .i64 (knK (i + 1))) (.string np))
      have hu9 : w9.heap[w5.heap.size + 1]? = some (.cells #[.int .u8 115, .int .u8 104, .int .u8 105] 5 (3, 3 + 1)) := by rw [hb.block _ (heap_lt HU.out)]; exact HU.out
      have HUP := Lib.hid ((three_other (w := w9) (b := w5.heap.size) (c := w5.heap.size + 1) (by omega) (.slice a5 n5 c5) (.int .i64 (knK (i + 1))) (.string np)).trans hu9)
      clear hu9
      clear hr hb ho hn5 y0 y1 y2 z0 z1 z2
      obtain ⟨⟨y0, y1, y2⟩, z0, z1, z2⟩ := three_cells HRk.out
      go_wp2_with fail
      go_roundw
      case rel => exact ⟨i + 1, .slice a5 n5 c5, by omega, by go_num, rfl, by rw [HNP.out]; exact HRP.out, HOP.out, HUP.out, HBP.out⟩
      case measure => simp [intOf]; omega
    · obtain rfl : i = 3 := by omega
      have hk1 : kk = 1 := by rw [← hkk]; rfl
      subst hk1
      have hp0 : kp = ⟨#[]⟩ := by rw [← hkp]; rfl
      subst hp0
      have HLY := Lib.hid (show LieG itemE (.slice av m0 cv9) (knX 3) wr from HLY.out)
      have HRC := Lib.hid HR.out
      have HB := Lib.hid (HB.out.trans (HBW.out.mono HB.out.size))
      have HT := Lib.hid HTw.out
      have HA := Lib.hid HAw.out
      have R3 := Lib.hid (R3.out.keep HBW.out)
      have HL3 := Lib.hid (HL3.out.keep HBW.out)
      have hc3 : ((3 : Nat) : Int) = 3 := rfl
      clear hkp hkk hm0 y0 y1 y2 z0 z1 z2
      obtain ⟨⟨HRCc0, HRCc1, HRCc2⟩, HRCf0, HRCf1, HRCf2⟩ := three_cells HRC.out
      go_wp2_with fail
      clear HRCc0 HRCc1 HRCc2 HRCf0 HRCf1 HRCf2
      with_reducible refine (text8_any _ (knX 3) 1 ⟨#[]⟩ [] _ HLY.out is_s0 kn_fits3 HT.out).mono ?_
      rw [si_text]
      rintro e w101 ⟨rfl, hb⟩
      have HB := Lib.hid (HB.out.trans (hb.mono HB.out.size))
      have HT := Lib.hid (HT.out.keep hb)
      have HA := Lib.hid (HA.out.keep hb)
      have R3 := Lib.hid (R3.out.keep hb)
      have HL3 := Lib.hid (HL3.out.keep hb)
      have HRC := Lib.hid (HRC.out.keep hb)
      have HLY := Lib.hid (HLY.out.keep hb)
      clear hb
      go_wp2_with fail
      with_reducible refine (typed_any _ a ys ⟨#[107, 107]⟩ [107, 107] _ HA.out (Nat.le_refl _) is_kk (by decide) HT.out).mono ?_
      rw [HD.out, kn_kk]
      rintro e w102 ⟨hr, hb⟩
      have HB := Lib.hid (HB.out.trans (hb.mono HB.out.size))
      have HT := Lib.hid (HT.out.keep hb)
      have HA := Lib.hid (HA.out.keep hb)
      have R3 := Lib.hid (R3.out.keep hb)
      have HL3 := Lib.hid (HL3.out.keep hb)
      have HRC := Lib.hid (HRC.out.keep hb)
      have HLY := Lib.hid (HLY.out.keep hb)
      obtain ⟨a3, n3, c3, rfl, hn3, ho⟩ := hr.open (p := ⟨#[107]⟩) rfl
      have HLD := Lib.hid ho.lie
      clear ho hr hn3
      clear hb
      obtain ⟨w103, hwx⟩ : ∃ W, w102.alloc (.cells #[.slice a3 n3 c3, .int .i64 1, .string ⟨#[107]⟩] 33) = W := ⟨_, rfl⟩
      have HWX2 := Eqq.mk hwx
      have hb : Below w102.heap.size w102 w103 := by rw [← hwx]; exact (Below.refl _ _).alloc (Nat.le_refl _) _
      have HB := Lib.hid (HB.out.trans (hb.mono HB.out.size))
      have HT := Lib.hid (HT.out.keep hb)
      have HA := Lib.hid (HA.out.keep hb)
      have R3 := Lib.hid (R3.out.keep hb)
      have HL3 := Lib.hid (HL3.out.keep hb)
      have HRC := Lib.hid (HRC.out.keep hb)
      have HLY := Lib.hid (HLY.out.keep hb)
      have HLD := Lib.hid (HLD.out.keep hb)
      have RD := Lib.hid (show RowIs 33 w102.heap.size (.slice a3 n3 c3) (1) (⟨#[107]⟩) w103 from by rw [← hwx]; exact RowIs.new _ _ _ _ _)
      clear hb hwx
      obtain ⟨⟨RDc0, RDc1, RDc2⟩, RDf0, RDf1, RDf2⟩ := three_cells (show (w102.alloc (.cells #[.slice a3 n3 c3, .int .i64 1, .string ⟨#[107]⟩] 33)).heap[_]? = _ from by rw [HWX2.out]; exact RD.out)
      go_wp2_with fail
      clear RDc0 RDc1 RDc2 RDf0 RDf1 RDf2
      rw [HWX2.out]
      with_reducible refine (text8_any _ kkI 1 ⟨#[107]⟩ [107] _ HLD.out is_k kk_fits HT.out).mono ?_
      rw [kk_text]
      rintro e w104 ⟨rfl, hb⟩
      have HB := Lib.hid (HB.out.trans (hb.mono HB.out.size))
      have HT := Lib.hid (HT.out.keep hb)
      have HA := Lib.hid (HA.out.keep hb)
      have R3 := Lib.hid (R3.out.keep hb)
      have HL3 := Lib.hid (HL3.out.keep hb)
      have HRC := Lib.hid (HRC.out.keep hb)
      have HLY := Lib.hid (HLY.out.keep hb)
      have HLD := Lib.hid (HLD.out.keep hb)
      have RD := Lib.hid (RD.out.keep hb)
      clear hb
      obtain ⟨⟨RDc0, RDc1, RDc2⟩, RDf0, RDf1, RDf2⟩ := three_cells RD.out
      go_wp2_with fail
      clear RDc0 RDc1 RDc2 RDf0 RDf1 RDf2
      with_reducible refine (pback_any _ kkI 1 ⟨#[107]⟩ [107] _ HLD.out is_k kk_fits HT.out).mono ?_
      rw [kk_back]
      rintro e w105 ⟨hr, hb⟩
      have HB := Lib.hid (HB.out.trans (hb.mono HB.out.size))
      have HT := Lib.hid (HT.out.keep hb)
      have HA := Lib.hid (HA.out.keep hb)
      have R3 := Lib.hid (R3.out.keep hb)
      have HL3 := Lib.hid (HL3.out.keep hb)
      have HRC := Lib.hid (HRC.out.keep hb)
      have HLY := Lib.hid (HLY.out.keep hb)
      have HLD := Lib.hid (HLD.out.keep hb)
      have RD := Lib.hid (RD.out.keep hb)
      obtain ⟨a4, n4, c4, rfl, hn4, ho⟩ := hr.open (p := ⟨#[]⟩) rfl
      have HLF := Lib.hid ho.lie
      clear ho hr hn4
      clear hb
      obtain ⟨w106, hwx⟩ : ∃ W, w105.alloc (.cells #[.slice a4 n4 c4, .int .i64 1, .string ⟨#[]⟩] 33) = W := ⟨_, rfl⟩
      have HWX3 := Eqq.mk hwx
      have hb : Below w105.heap.size w105 w106 := by rw [← hwx]; exact (Below.refl _ _).alloc (Nat.le_refl _) _
      have HB := Lib.hid (HB.out.trans (hb.mono HB.out.size))
      have HT := Lib.hid (HT.out.keep hb)
      have HA := Lib.hid (HA.out.keep hb)
      have R3 := Lib.hid (R3.out.keep hb)
      have HL3 := Lib.hid (HL3.out.keep hb)
      have HRC := Lib.hid (HRC.out.keep hb)
      have HLY := Lib.hid (HLY.out.keep hb)
      have HLD := Lib.hid (HLD.out.keep hb)
      have RD := Lib.hid (RD.out.keep hb)
      have HLF := Lib.hid (HLF.out.keep hb)
      have RF := Lib.hid (show RowIs 33 w105.heap.size (.slice a4 n4 c4) (1) (⟨#[]⟩) w106 from by rw [← hwx]; exact RowIs.new _ _ _ _ _)
      clear hb hwx
      obtain ⟨⟨RFc0, RFc1, RFc2⟩, RFf0, RFf1, RFf2⟩ := three_cells (show (w105.alloc (.cells #[.slice a4 n4 c4, .int .i64 1, .string ⟨#[]⟩] 33)).heap[_]? = _ from by rw [HWX3.out]; exact RF.out)
      go_wp2_with fail
      clear RFc0 RFc1 RFc2 RFf0 RFf1 RFf2
      rw [HWX3.out]
      with_reducible refine (text8_any _ kkI 1 ⟨#[]⟩ [] _ HLF.out is_s0 kk_fits2 HT.out).mono ?_
      rw [kk_text2]
      rintro e w107 ⟨rfl, hb⟩
      have HB := Lib.hid (HB.out.trans (hb.mono HB.out.size))
      have HT := Lib.hid (HT.out.keep hb)
      have HA := Lib.hid (HA.out.keep hb)
      have R3 := Lib.hid (R3.out.keep hb)
      have HL3 := Lib.hid (HL3.out.keep hb)
      have HRC := Lib.hid (HRC.out.keep hb)
      have HLY := Lib.hid (HLY.out.keep hb)
      have HLD := Lib.hid (HLD.out.keep hb)
      have RD := Lib.hid (RD.out.keep hb)
      have HLF := Lib.hid (HLF.out.keep hb)
      have RF := Lib.hid (RF.out.keep hb)
      clear hb
      obtain ⟨⟨RFc0, RFc1, RFc2⟩, RFf0, RFf1, RFf2⟩ := three_cells RF.out
      go_wp2_with fail
      clear RFc0 RFc1 RFc2 RFf0 RFf1 RFf2
      with_reducible refine (pback_any _ kkI 1 ⟨#[]⟩ [] _ HLF.out is_s0 kk_fits2 HT.out).mono ?_
      rw [kk_back2]
      rintro e w108 ⟨hr, hb⟩
      have HB := Lib.hid (HB.out.trans (hb.mono HB.out.size))
      have HT := Lib.hid (HT.out.keep hb)
      have HA := Lib.hid (HA.out.keep hb)
      have R3 := Lib.hid (R3.out.keep hb)
      have HL3 := Lib.hid (HL3.out.keep hb)
      have HRC := Lib.hid (HRC.out.keep hb)
      have HLY := Lib.hid (HLY.out.keep hb)
      have HLD := Lib.hid (HLD.out.keep hb)
      have RD := Lib.hid (RD.out.keep hb)
      have HLF := Lib.hid (HLF.out.keep hb)
      have RF := Lib.hid (RF.out.keep hb)
      obtain ⟨a5, n5, c5, rfl, hn5, ho⟩ := hr.open (p := ⟨#[]⟩) rfl
      have HLZ := Lib.hid ho.lie
      clear ho hr hn5
      clear hb
      go_wp2_with fail
      with_reducible refine (text8_any _ [] 0 ⟨#[]⟩ [] _ HLZ.out is_s0 ze_fits HT.out).mono ?_
      rw [ze_text]
      rintro e w109 ⟨rfl, hb⟩
      have HB := Lib.hid (HB.out.trans (hb.mono HB.out.size))
      have HT := Lib.hid (HT.out.keep hb)
      have HA := Lib.hid (HA.out.keep hb)
      have R3 := Lib.hid (R3.out.keep hb)
      have HL3 := Lib.hid (HL3.out.keep hb)
      have HRC := Lib.hid (HRC.out.keep hb)
      have HLY := Lib.hid (HLY.out.keep hb)
      have HLD := Lib.hid (HLD.out.keep hb)
      have RD := Lib.hid (RD.out.keep hb)
      have HLF := Lib.hid (HLF.out.keep hb)
      have RF := Lib.hid (RF.out.keep hb)
      have HLZ := Lib.hid (HLZ.out.keep hb)
      clear hb
      obtain ⟨⟨R3c0, R3c1, R3c2⟩, R3f0, R3f1, R3f2⟩ := three_cells R3.out
      go_wp2_with fail
      clear R3c0 R3c1 R3c2 R3f0 R3f1 R3f2
      with_reducible refine (pkey_nil _ kaI 1 ⟨#[]⟩ [] _ HL3.out is_s0 ka_fits HT.out 97).mono ?_
      rintro e w110 ⟨hr, hb⟩
      have HB := Lib.hid (HB.out.trans (hb.mono HB.out.size))
      have HT := Lib.hid (HT.out.keep hb)
      have HA := Lib.hid (HA.out.keep hb)
      have R3 := Lib.hid (R3.out.keep hb)
      have HL3 := Lib.hid (HL3.out.keep hb)
      have HRC := Lib.hid (HRC.out.keep hb)
      have HLY := Lib.hid (HLY.out.keep hb)
      have HLD := Lib.hid (HLD.out.keep hb)
      have RD := Lib.hid (RD.out.keep hb)
      have HLF := Lib.hid (HLF.out.keep hb)
      have RF := Lib.hid (RF.out.keep hb)
      have HLZ := Lib.hid (HLZ.out.keep hb)
      obtain ⟨a6, n6, c6, rfl, hn6, ho⟩ := PairR.open (xs := []) (c := 0) (pl := []) (er := 9) (p := ⟨#[]⟩) hr rfl
      clear ho hr hn6
      clear hb
      obtain ⟨w111, hwx⟩ : ∃ W, w110.alloc (.cells #[.slice a6 n6 c6, .int .i64 0, .string ⟨#[]⟩] 33) = W := ⟨_, rfl⟩
      have HWX4 := Eqq.mk hwx
      have hb : Below w110.heap.size w110 w111 := by rw [← hwx]; exact (Below.refl _ _).alloc (Nat.le_refl _) _
      have HB := Lib.hid (HB.out.trans (hb.mono HB.out.size))
      have HT := Lib.hid (HT.out.keep hb)
      have HA := Lib.hid (HA.out.keep hb)
      have R3 := Lib.hid (R3.out.keep hb)
      have HL3 := Lib.hid (HL3.out.keep hb)
      have HRC := Lib.hid (HRC.out.keep hb)
      have HLY := Lib.hid (HLY.out.keep hb)
      have HLD := Lib.hid (HLD.out.keep hb)
      have RD := Lib.hid (RD.out.keep hb)
      have HLF := Lib.hid (HLF.out.keep hb)
      have RF := Lib.hid (RF.out.keep hb)
      have HLZ := Lib.hid (HLZ.out.keep hb)
      have RG := Lib.hid (show RowIs 33 w110.heap.size (.slice a6 n6 c6) (0) (⟨#[]⟩) w111 from by rw [← hwx]; exact RowIs.new _ _ _ _ _)
      clear hb hwx
      obtain ⟨⟨RDc0, RDc1, RDc2⟩, RDf0, RDf1, RDf2⟩ := three_cells (show (w110.alloc (.cells #[.slice a6 n6 c6, .int .i64 0, .string ⟨#[]⟩] 33)).heap[_]? = _ from by rw [HWX4.out]; exact RD.out)
      go_wp2_with fail
      clear RDc0 RDc1 RDc2 RDf0 RDf1 RDf2
      rw [HWX4.out]
      with_reducible refine (pput_any _ kkI 1 ⟨#[107]⟩ [107] ⟨#[]⟩ ⟨#[120]⟩ [] [120] _ HLD.out is_k kk_fits is_s0 is_x hez hxz HT.out).mono ?_
      rw [kk_put]
      rintro e w112 ⟨hr, hb⟩
      have HB := Lib.hid (HB.out.trans (hb.mono HB.out.size))
      have HT := Lib.hid (HT.out.keep hb)
      have HA := Lib.hid (HA.out.keep hb)
      have R3 := Lib.hid (R3.out.keep hb)
      have HL3 := Lib.hid (HL3.out.keep hb)
      have HRC := Lib.hid (HRC.out.keep hb)
      have HLY := Lib.hid (HLY.out.keep hb)
      have HLD := Lib.hid (HLD.out.keep hb)
      have RD := Lib.hid (RD.out.keep hb)
      have HLF := Lib.hid (HLF.out.keep hb)
      have RF := Lib.hid (RF.out.keep hb)
      have HLZ := Lib.hid (HLZ.out.keep hb)
      have RG := Lib.hid (RG.out.keep hb)
      obtain ⟨a7, n7, c7, rfl, hn7, ho⟩ := hr.open (p := ⟨#[]⟩) rfl
      clear ho hr hn7
      clear hb
      obtain ⟨w113, hwx⟩ : ∃ W, w112.alloc (.cells #[.slice a7 n7 c7, .int .i64 0, .string ⟨#[]⟩] 33) = W := ⟨_, rfl⟩
      have HWX5 := Eqq.mk hwx
      have hb : Below w112.heap.size w112 w113 := by rw [← hwx]; exact (Below.refl _ _).alloc (Nat.le_refl _) _
      have HB := Lib.hid (HB.out.trans (hb.mono HB.out.size))
      have HT := Lib.hid (HT.out.keep hb)
      have HA := Lib.hid (HA.out.keep hb)
      have R3 := Lib.hid (R3.out.keep hb)
      have HL3 := Lib.hid (HL3.out.keep hb)
      have HRC := Lib.hid (HRC.out.keep hb)
      have HLY := Lib.hid (HLY.out.keep hb)
      have HLD := Lib.hid (HLD.out.keep hb)
      have RD := Lib.hid (RD.out.keep hb)
      have HLF := Lib.hid (HLF.out.keep hb)
      have RF := Lib.hid (RF.out.keep hb)
      have HLZ := Lib.hid (HLZ.out.keep hb)
      have RG := Lib.hid (RG.out.keep hb)
      have RH := Lib.hid (show RowIs 33 w112.heap.size (.slice a7 n7 c7) (0) (⟨#[]⟩) w113 from by rw [← hwx]; exact RowIs.new _ _ _ _ _)
      clear hb hwx
      have HKP := Lib.hid (fun (W : World) (hW : Below w113.heap.size w113 W) => (show (Below w113.heap.size w113 W ∧ (W.cell? ⟨w102.heap.size, 0, none⟩ = some (.slice a3 n3 c3) ∧ W.cell? ⟨w102.heap.size, 1, none⟩ = some (.int .i64 (1)) ∧ W.cell? ⟨w102.heap.size, 2, none⟩ = some (.string (⟨#[107]⟩)))) from ⟨hW, (three_cells (RD.out.keep hW)).1⟩))
      have HBR := Lib.hid (Below.refl w113.heap.size w113)
      obtain ⟨⟨RDc0, RDc1, RDc2⟩, RDf0, RDf1, RDf2⟩ := three_cells (show (w112.alloc (.cells #[.slice a7 n7 c7, .int .i64 0, .string ⟨#[]⟩] 33)).heap[_]? = _ from by rw [HWX5.out]; exact RD.out)
      go_wp2_with fail
      clear RDc0 RDc1 RDc2 RDf0 RDf1 RDf2
      rw [HWX5.out]
      go_region_held3 (fun W => (Below w113.heap.size w113 W ∧ (W.cell? ⟨w102.heap.size, 0, none⟩ = some (.slice a3 n3 c3) ∧ W.cell? ⟨w102.heap.size, 1, none⟩ = some (.int .i64 (1)) ∧ W.cell? ⟨w102.heap.size, 2, none⟩ = some (.string (⟨#[107]⟩)))))
        (first | exact HKP.out _ HBR.out | exact HKP.out _ HBR.out.drew | go_keep)
        (first
         | (go_at_call 34; (first | (with_reducible refine (pflush_nil _ kkI 1 ⟨#[107]⟩ [107] _ (HLD.out.keep (Below.refl _ _).drew) is_k kk_fits (HT.out.keep (Below.refl _ _).drew)).mono ?_) | (with_reducible refine (pflush_nil _ kkI 1 ⟨#[107]⟩ [107] _ HLD.out is_k kk_fits HT.out).mono ?_)); rintro e w99 ⟨hr, hb⟩; (try have hb := Below.trans (Below.refl _ _).drew hb); have HBR := Lib.hid (HBR.out.trans (hb.mono HBR.out.size)); (try have HT := Lib.hid (HT.out.keep hb)); (try have HA := Lib.hid (HA.out.keep hb)); (try have R3 := Lib.hid (R3.out.keep hb)); (try have HL3 := Lib.hid (HL3.out.keep hb)); (try have HRC := Lib.hid (HRC.out.keep hb)); (try have HLY := Lib.hid (HLY.out.keep hb)); (try have HLD := Lib.hid (HLD.out.keep hb)); (try have RD := Lib.hid (RD.out.keep hb)); (try have HLF := Lib.hid (HLF.out.keep hb)); (try have RF := Lib.hid (RF.out.keep hb)); (try have HLZ := Lib.hid (HLZ.out.keep hb)); (try have RG := Lib.hid (RG.out.keep hb)); (try have RH := Lib.hid (RH.out.keep hb)); (try have HLP := Lib.hid (HLP.out.keep hb)); (try have HLG := Lib.hid (HLG.out.keep hb)); obtain ⟨a8, n8, c8, he, hn8, ho⟩ := hr.open (p := ⟨#[107]⟩) rfl; subst he; have HLP := Lib.hid ho.lie; clear ho hr hn8; clear hb)
         | (go_at_call 19; (first | (with_reducible refine (given9_any _ kkI 1 ⟨#[107]⟩ _ (HLD.out.keep (Below.refl _ _).drew) kk_len).mono ?_) | (with_reducible refine (given9_any _ kkI 1 ⟨#[107]⟩ _ HLD.out kk_len).mono ?_)); rintro e w99 ⟨⟨ag, ng, cg, he, ho⟩, hb⟩; subst he; (try have hb := Below.trans (Below.refl _ _).drew hb); have HBR := Lib.hid (HBR.out.trans (hb.mono HBR.out.size)); (try have HT := Lib.hid (HT.out.keep hb)); (try have HA := Lib.hid (HA.out.keep hb)); (try have R3 := Lib.hid (R3.out.keep hb)); (try have HL3 := Lib.hid (HL3.out.keep hb)); (try have HRC := Lib.hid (HRC.out.keep hb)); (try have HLY := Lib.hid (HLY.out.keep hb)); (try have HLD := Lib.hid (HLD.out.keep hb)); (try have RD := Lib.hid (RD.out.keep hb)); (try have HLF := Lib.hid (HLF.out.keep hb)); (try have RF := Lib.hid (RF.out.keep hb)); (try have HLZ := Lib.hid (HLZ.out.keep hb)); (try have RG := Lib.hid (RG.out.keep hb)); (try have RH := Lib.hid (RH.out.keep hb)); (try have HLP := Lib.hid (HLP.out.keep hb)); (try have HLG := Lib.hid (HLG.out.keep hb)); have HLG := Lib.hid ho; clear ho; clear hb)
         | (go_at_call 25; (first | (with_reducible refine (same8_any _ _ kkI kkI 1 1 ⟨#[107]⟩ ⟨#[107]⟩ [107] [107] _ (HLP.out.keep (Below.refl _ _).drew) (HLG.out.keep (Below.refl _ _).drew) is_k is_k kk_len (Nat.le_trans kk_len (by decide))).mono ?_) | (with_reducible refine (same8_any _ _ kkI kkI 1 1 ⟨#[107]⟩ ⟨#[107]⟩ [107] [107] _ HLP.out HLG.out is_k is_k kk_len (Nat.le_trans kk_len (by decide))).mono ?_)); rw [same_yes]; rintro e w99 ⟨he, hb⟩; subst he; (try have hb := Below.trans (Below.refl _ _).drew hb); have HBR := Lib.hid (HBR.out.trans (hb.mono HBR.out.size)); (try have HT := Lib.hid (HT.out.keep hb)); (try have HA := Lib.hid (HA.out.keep hb)); (try have R3 := Lib.hid (R3.out.keep hb)); (try have HL3 := Lib.hid (HL3.out.keep hb)); (try have HRC := Lib.hid (HRC.out.keep hb)); (try have HLY := Lib.hid (HLY.out.keep hb)); (try have HLD := Lib.hid (HLD.out.keep hb)); (try have RD := Lib.hid (RD.out.keep hb)); (try have HLF := Lib.hid (HLF.out.keep hb)); (try have RF := Lib.hid (RF.out.keep hb)); (try have HLZ := Lib.hid (HLZ.out.keep hb)); (try have RG := Lib.hid (RG.out.keep hb)); (try have RH := Lib.hid (RH.out.keep hb)); (try have HLP := Lib.hid (HLP.out.keep hb)); (try have HLG := Lib.hid (HLG.out.keep hb)); clear hb))
      all_goals
        (rename_i hHeld
         clear hHeld
         have HB := Lib.hid (HB.out.trans (HBR.out.mono HB.out.size))
         clear HBR HKP
         obtain ⟨⟨HRCc0, HRCc1, HRCc2⟩, HRCf0, HRCf1, HRCf2⟩ := three_cells HRC.out
         go_wp2_with fail
         clear HRCc0 HRCc1 HRCc2 HRCf0 HRCf1 HRCf2
         with_reducible refine (raw8_any _ (knX 3) 1 ⟨#[]⟩ [] _ HLY.out is_s0 kn_fits3 HT.out).mono ?_
         rw [si_raw]
         rintro e w100 ⟨rfl, hb⟩
         have HB := Lib.hid (HB.out.trans (hb.mono HB.out.size))
         have HT := Lib.hid (HT.out.keep hb)
         have HA := Lib.hid (HA.out.keep hb)
         have R3 := Lib.hid (R3.out.keep hb)
         have HL3 := Lib.hid (HL3.out.keep hb)
         have HRC := Lib.hid (HRC.out.keep hb)
         have HLY := Lib.hid (HLY.out.keep hb)
         have HLD := Lib.hid (HLD.out.keep hb)
         have RD := Lib.hid (RD.out.keep hb)
         have HLF := Lib.hid (HLF.out.keep hb)
         have RF := Lib.hid (RF.out.keep hb)
         have HLZ := Lib.hid (HLZ.out.keep hb)
         have RG := Lib.hid (RG.out.keep hb)
         have RH := Lib.hid (RH.out.keep hb)
         clear hb
         go_wp2_with fail
         with_reducible refine (works_any _ HT.out).mono ?_
         rintro e w101 ⟨rfl, hb⟩
         have HB := Lib.hid (HB.out.trans (hb.mono HB.out.size))
         have HT := Lib.hid (HT.out.keep hb)
         have HA := Lib.hid (HA.out.keep hb)
         have R3 := Lib.hid (R3.out.keep hb)
         have HL3 := Lib.hid (HL3.out.keep hb)
         have HRC := Lib.hid (HRC.out.keep hb)
         have HLY := Lib.hid (HLY.out.keep hb)
         have HLD := Lib.hid (HLD.out.keep hb)
         have RD := Lib.hid (RD.out.keep hb)
         have HLF := Lib.hid (HLF.out.keep hb)
         have RF := Lib.hid (RF.out.keep hb)
         have HLZ := Lib.hid (HLZ.out.keep hb)
         have RG := Lib.hid (RG.out.keep hb)
         have RH := Lib.hid (RH.out.keep hb)
         clear hb
         go_wp2_with fail
         go_ret
         exact ⟨rfl, by first | exact HB.out | exact HB.out.drew⟩)

theorem laidOut : laidOutB Tryz.prog = true := by kernel_rfl
set_option maxRecDepth 100000 in
theorem contract (H : Type) (enc : TypeId × Value → H) (W : World) (base : Nat) (args : Array Value) (ds gs : List (DataW H)) (before : List MemPlace)
    (hval : ∀ (j : Nat) t v, Tryz.f8.params[j]? = some t → args[j]? = some v → Value.okWide Tryz.prog W .any base t v)
    (hW : DataW.Whole enc Tryz.prog Tryz.f8.params.toList Rows.composeKnownSpec.vars false W args.toList ds gs before) (hL : laidMetH Tryz.prog Rows.composeKnownRow.laid W) (hS : W.ShapedOpen Tryz.prog)
    (hR : (DataW.weightsEach Tryz.prog (Tryz.f8.params.toList ++ (OpenSpec.ofChange Rows.composeKnownSpec).bare.plain.varTypes Tryz.prog) (ds ++ gs)).all (· ≤ reachBytes) = true) :
    Calls Tryz.prog 8 args W fun e W' => ∃ v, e = .returned v ∧ Rows.composeKnownSpec.post enc Tryz.prog Tryz.f8 false true false false W args v W' := by
  have hT : Tabs W := rtabs_of_laid hL hS
  have hW' := hW
  obtain ⟨p, q, hA0, hV, rfl, hfz, hnd⟩ := hW
  have hA : DataW.TrodAll enc Tryz.prog W 0 (fun _ => true) true Tryz.f8.params.toList args.toList ds p := hA0
  rw [Tryz.params8] at hA hval hR
  obtain ⟨hargs, rfl, rfl⟩ := trodAll_nil hA
  obtain rfl : args = #[] := by cases args; simp_all
  obtain ⟨rfl, rfl⟩ := trodVars_none hV
  clear hA0
  simp only [List.append_nil] at hW' hR
  refine (walk W hT).mono fun e W' ⟨he, bel⟩ => ?_
  subst he
  exact ⟨_, rfl, _, _, _, [], _, [], hW', trodAll_mk1 (shut_bool Tryz.underlying4 _), trodAll_mk0, rfl, bel.frame _, fun h => by cases h⟩

theorem reads (os : Os) {H : Type} (enc : TypeId × Value → H) : ∃ places, DataW.whole enc Tryz.prog ((laidWorldR os).forCall (fun _ _ => 0) ⟨#[], #[], []⟩).memory Tryz.f8.params.toList Rows.composeKnownSpec.vars false #[].toList 8 = some ([], [], places) :=
  ⟨[], by kernel_rfl⟩

set_option maxRecDepth 100000 in
theorem lifted (os : Os) (started : os.Started) (H : Type) (enc : TypeId × Value → H) (F : Stop.Interp) :
    ReturnsInHanded {} Tryz.checked os 8 .any ((OpenSpec.ofChange Rows.composeKnownSpec).preRow enc Tryz.prog Tryz.f8 Rows.composeKnownRow.domain false Rows.composeKnownRow.laid) (((OpenSpec.ofChange Rows.composeKnownSpec).at F).post enc Tryz.prog Tryz.f8 false true false false) := by
  obtain ⟨places, hx⟩ := reads os enc
  refine returnsInHanded_of_row (C := Tryz.checked) (s := (OpenSpec.ofChange Rows.composeKnownSpec)) own started (by kernel_rfl) Tryz.func8
    (witness_row_at (enc := enc) (C := Tryz.checked) false (laidWorldR os) #[] rfl (by kernel_rfl) (by kernel_rfl) (by kernel_rfl)
      (OpenSpec.preRow_of_cond 8 hx (by kernel_rfl) (fun k hk => by cases hk) (by kernel_rfl) (laid_metR os _))) ?_
  intro W base args ds gs before hval hW _ hcond hR hL hS _
  exact contract H enc W base args ds gs before hval hW hL hS hR

theorem said : Rows.ComposeKnownSaid :=
  OpenClaim.holds_of_cond 8 Tryz.f8 rfl rfl rfl rfl rfl rfl rfl ⟨rfl, rfl, rfl, rfl, rfl⟩ rfl rfl rfl rfl rfl (by kernel_rfl) Tryz.func8 (by kernel_rfl)
    (of_decide_eq_true (by kernel_rfl)) (by unfold Func.isWrapper; first | (rw [if_pos (by decide +kernel)]; kernel_rfl) | (rw [if_neg (by decide +kernel)]; exact ⟨rfl, rfl⟩))
    (fun os started H enc _ F => by rw [OpenClaim.pre_eq_preRow]; exact lifted os started H enc F)

theorem plain (f : FuncId) (fn : Func) (hf : Tryz.pinned.checked.prog.funcNamed "henkan/henkanlaw08.ComposeKnown" = some f) (hfn : Tryz.pinned.checked.prog.funcs[f]? = some fn) :
    false = Tryz.pinned.checked.prog.looks [] ∧ ∀ (j : Nat) t, fn.params[j]? = some t → Tryz.pinned.checked.prog.wantsStandIn t = false := by
  obtain rfl : f = 8 := Option.some.inj ((show Tryz.prog.funcNamed "henkan/henkanlaw08.ComposeKnown" = some 8 by kernel_rfl).symm.trans hf) |>.symm
  obtain rfl : fn = Tryz.f8 := (Option.some.inj (Tryz.func8.symm.trans hfn)).symm
  refine ⟨by kernel_rfl, fun j t ht => ?_⟩
  rw [Tryz.params8] at ht
  simp at ht

/-- the card -/
theorem proved : Rows.ComposeKnownCardSaid :=
  Claim7.holds_tied_plain_at .later [] _ _ _ _ said (fun _ h => by cases h) (by kernel_rfl) (fun _ h => by cases h) composeKnown_row_tie rfl ⟨rfl, rfl⟩ (by kernel_rfl) rfl plain (by kernel_rfl)
#print axioms proved
end Go.Proofs.YtgdcffahhpeibaaGreatDoor.composeKnown
