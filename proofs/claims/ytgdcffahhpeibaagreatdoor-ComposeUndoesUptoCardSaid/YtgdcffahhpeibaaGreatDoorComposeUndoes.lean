/-
  Back takes back a character that was put; Delete after a move to the left is Back. The arguments are of bulk at most 1048576.
-/
import Derived.IntWalk
import Derived.Deep.RegionHeld3
import Derived.Test.YtgdcffahhpeibaaGreatDoorCpMore
import Derived.Carry
import Derived.Laws.AppendOwnNone
namespace Go.Proofs.YtgdcffahhpeibaaGreatDoor.composeUndoes
open Go.ChangeShapes Go.WideShapes Go.ChangeAt Go.RowKit
open Go.ChangeMaps (open_string)
set_option linter.unusedVariables false

set_option maxRecDepth 100000 in
set_option maxHeartbeats 16000000 in
theorem walk (w : World) (v : Value) (xs : List Cp.Item) (c : Int) (p : ByteArray) (hl : LieG itemE v xs w) (hf : Fits xs p.data.toList) (z : Int) (hwf : (Lit.int .u8 z).wf = true) (ht : Tabs w) :
    Calls Tryz.prog 11 #[bufV v c p, .int .u8 z] w fun e w' => e = .returned (.bool true) ∧ Below w.heap.size w w' := by
  have HB := Lib.hid (Below.refl w.heap.size w)
  have HT := Lib.hid ht
  clear ht
  obtain ⟨ch, hz⟩ := u8_of hwf
  have hz0 : 0 ≤ z := by omega
  have hz9 : z ≤ 255 := by have := ch.toNat_lt; omega
  have HZ := Eqq.mk hz
  have hwr : IntKind.i32.wrap z = z := by rw [IntWalk.i32_in _ (by omega)]
  clear hz
  have hIs := Is.of p
  obtain ⟨pl, hpl⟩ : ∃ pl, p.data.toList = pl := ⟨_, rfl⟩
  rw [hpl] at hIs hf
  have HP := Lib.hid hIs
  have HPB := Eqq.mk hIs.ba
  have HF := Lib.hid hf
  have HL := Lib.hid hl
  have hn2 := hf.n
  clear hIs hpl hf hl
  obtain ⟨s1, s2, s3, htx⟩ := text_form ⟨xs, c, pl⟩
  obtain ⟨s4, hrx⟩ := raw_form ⟨xs, c, pl⟩
  have HTX := Eqq.mk htx
  have HRX := Eqq.mk hrx
  clear htx hrx
  have q4 : (s4.toList == s4.toList) = true := by rw [beq_iff_eq]
  obtain ⟨ol, hol⟩ : ∃ ol, Lib.encodeRune (ch.toNat : Int) = ol := ⟨_, rfl⟩
  have hen : Utf8.encode z = ba ol := by rw [HZ.out, encode_ba (byte_ch ch), hol]
  have HOL := Eqq.mk hol
  obtain ⟨ob, hob⟩ : ∃ ob, ba ol = ob := ⟨_, rfl⟩
  have HO := Lib.hid (show Is ob ol by rw [← hob]; exact is_ba ol)
  have hoz : ob.size ≤ 2000000 := by rw [HO.out.size, ← hol]; have := (UT.encodeRune_len ch.toNat).2; omega
  rw [hob] at hen
  have hez : (⟨#[]⟩ : ByteArray).size ≤ 2000000 := by decide
  have HE := Lib.hid (Is.mk [])
  obtain ⟨⟨⟨nx, nc, nl⟩, er⟩, hput⟩ : ∃ q, Cp.put ⟨xs, c, pl⟩ [] ol = q := ⟨_, rfl⟩
  have HPUT := Eqq.mk hput
  obtain ⟨np, hnp⟩ : ∃ np, ba nl = np := ⟨_, rfl⟩
  have HNP := Eqq.mk hnp
  have HNI := Lib.hid (show Is np nl by rw [← hnp]; exact is_ba nl)
  clear hol hob hput hnp
  obtain ⟨w1, hwx⟩ : ∃ W, w.alloc (.cells #[v, .int .i64 c, .string p] 33) = W := ⟨_, rfl⟩
  have HWX1 := Eqq.mk hwx
  have hb : Below w.heap.size w w1 := by rw [← hwx]; exact (Below.refl _ _).alloc (Nat.le_refl _) _
  have HB := Lib.hid (HB.out.trans (hb.mono HB.out.size))
  have HT := Lib.hid (HT.out.keep hb)
  have HL := Lib.hid (HL.out.keep hb)
  have RB := Lib.hid (show RowIs 33 w.heap.size (v) (c) (p) w1 from by rw [← hwx]; exact RowIs.new _ _ _ _ _)
  clear hb hwx
  go_enter Tryz.func11, Tryz.ntmps11
  obtain ⟨⟨RBc0, RBc1, RBc2⟩, RBf0, RBf1, RBf2⟩ := three_cells (show (w.alloc (.cells #[v, .int .i64 c, .string p] 33)).heap[_]? = _ from by rw [HWX1.out]; exact RB.out)
  go_wp2_with fail
  clear RBc0 RBc1 RBc2 RBf0 RBf1 RBf2
  rw [HWX1.out]
  with_reducible refine (pput_any v xs c p pl ⟨#[]⟩ ob [] ol _ HL.out HP.out HF.out HE.out HO.out hez hoz HT.out).mono ?_
  rw [HPUT.out]
  rintro e w2 ⟨hr, hb⟩
  have HB := Lib.hid (HB.out.trans (hb.mono HB.out.size))
  have HT := Lib.hid (HT.out.keep hb)
  have HL := Lib.hid (HL.out.keep hb)
  have RB := Lib.hid (RB.out.keep hb)
  obtain ⟨a1, n1, c1, rfl, hn1, ho⟩ := hr.open HNP.out
  have HLX := Lib.hid ho.lie
  clear ho hr hn1
  clear hb
  obtain ⟨w3, hwx⟩ : ∃ W, w2.alloc (.cells #[.slice a1 n1 c1, .int .i64 nc, .string np] 33) = W := ⟨_, rfl⟩
  have HWX2 := Eqq.mk hwx
  have hb : Below w2.heap.size w2 w3 := by rw [← hwx]; exact (Below.refl _ _).alloc (Nat.le_refl _) _
  have HB := Lib.hid (HB.out.trans (hb.mono HB.out.size))
  have HT := Lib.hid (HT.out.keep hb)
  have HL := Lib.hid (HL.out.keep hb)
  have RB := Lib.hid (RB.out.keep hb)
  have HLX := Lib.hid (HLX.out.keep hb)
  have RX := Lib.hid (show RowIs 33 w2.heap.size (.slice a1 n1 c1) (nc) (np) w3 from by rw [← hwx]; exact RowIs.new _ _ _ _ _)
  clear hb hwx
  by_cases her : er = 0
  · subst her
    have hun := Cp.undo_put (byte_ch ch) (by rw [HOL.out]; exact HPUT.out)
    have HNV := Eqq.mk hun.1
    have HNB := Eqq.mk hun.2
    have HNF := Lib.hid (show Fits nx nl from put_fits HPUT.out HF.out (by decide))
    clear hun
    obtain ⟨⟨RXc0, RXc1, RXc2⟩, RXf0, RXf1, RXf2⟩ := three_cells (show (w2.alloc (.cells #[.slice a1 n1 c1, .int .i64 nc, .string np] 33)).heap[_]? = _ from by rw [HWX2.out]; exact RX.out)
    go_wp2_with fail
    clear RXc0 RXc1 RXc2 RXf0 RXf1 RXf2
    rw [HWX2.out]
    with_reducible refine (pback_any _ nx nc np nl _ HLX.out HNI.out HNF.out HT.out).mono ?_
    rw [HNB.out]
    rintro e w4 ⟨hr, hb⟩
    have HB := Lib.hid (HB.out.trans (hb.mono HB.out.size))
    have HT := Lib.hid (HT.out.keep hb)
    have HL := Lib.hid (HL.out.keep hb)
    have RB := Lib.hid (RB.out.keep hb)
    have HLX := Lib.hid (HLX.out.keep hb)
    have RX := Lib.hid (RX.out.keep hb)
    obtain ⟨a2, n2, c2, rfl, hn2x, ho⟩ := hr.open HPB.out.symm
    have HLY := Lib.hid ho.lie
    clear ho hr hn2x
    clear hb
    obtain ⟨w5, hwx⟩ : ∃ W, w4.alloc (.cells #[.slice a2 n2 c2, .int .i64 c, .string p] 33) = W := ⟨_, rfl⟩
    have HWX3 := Eqq.mk hwx
    have hb : Below w4.heap.size w4 w5 := by rw [← hwx]; exact (Below.refl _ _).alloc (Nat.le_refl _) _
    have HB := Lib.hid (HB.out.trans (hb.mono HB.out.size))
    have HT := Lib.hid (HT.out.keep hb)
    have HL := Lib.hid (HL.out.keep hb)
    have RB := Lib.hid (RB.out.keep hb)
    have HLX := Lib.hid (HLX.out.keep hb)
    have RX := Lib.hid (RX.out.keep hb)
    have HLY := Lib.hid (HLY.out.keep hb)
    have RY := Lib.hid (show RowIs 33 w4.heap.size (.slice a2 n2 c2) (c) (p) w5 from by rw [← hwx]; exact RowIs.new _ _ _ _ _)
    clear hb hwx
    have HKP := Lib.hid (fun (W : World) (hW : Below w5.heap.size w5 W) => (show (Below w5.heap.size w5 W ∧ (W.cell? ⟨w2.heap.size, 0, none⟩ = some (.slice a1 n1 c1) ∧ W.cell? ⟨w2.heap.size, 1, none⟩ = some (.int .i64 (nc)) ∧ W.cell? ⟨w2.heap.size, 2, none⟩ = some (.string (np))) ∧ (W.cell? ⟨w4.heap.size, 0, none⟩ = some (.slice a2 n2 c2) ∧ W.cell? ⟨w4.heap.size, 1, none⟩ = some (.int .i64 (c)) ∧ W.cell? ⟨w4.heap.size, 2, none⟩ = some (.string (p))) ∧ (W.cell? ⟨w.heap.size, 0, none⟩ = some (v) ∧ W.cell? ⟨w.heap.size, 1, none⟩ = some (.int .i64 (c)) ∧ W.cell? ⟨w.heap.size, 2, none⟩ = some (.string (p)))) from ⟨hW, (three_cells (RX.out.keep hW)).1, (three_cells (RY.out.keep hW)).1, (three_cells (RB.out.keep hW)).1⟩))
    have HBR := Lib.hid (Below.refl w5.heap.size w5)
    obtain ⟨⟨RXc0, RXc1, RXc2⟩, RXf0, RXf1, RXf2⟩ := three_cells (show (w4.alloc (.cells #[.slice a2 n2 c2, .int .i64 c, .string p] 33)).heap[_]? = _ from by rw [HWX3.out]; exact RX.out)
    obtain ⟨⟨RYc0, RYc1, RYc2⟩, RYf0, RYf1, RYf2⟩ := three_cells (show (w4.alloc (.cells #[.slice a2 n2 c2, .int .i64 c, .string p] 33)).heap[_]? = _ from by rw [HWX3.out]; exact RY.out)
    obtain ⟨⟨RBc0, RBc1, RBc2⟩, RBf0, RBf1, RBf2⟩ := three_cells (show (w4.alloc (.cells #[.slice a2 n2 c2, .int .i64 c, .string p] 33)).heap[_]? = _ from by rw [HWX3.out]; exact RB.out)
    go_wp2_with fail
    clear RXc0 RXc1 RXc2 RXf0 RXf1 RXf2
    clear RYc0 RYc1 RYc2 RYf0 RYf1 RYf2
    clear RBc0 RBc1 RBc2 RBf0 RBf1 RBf2
    rw [HWX3.out]
    go_region_held3 (fun W => (Below w5.heap.size w5 W ∧ (W.cell? ⟨w2.heap.size, 0, none⟩ = some (.slice a1 n1 c1) ∧ W.cell? ⟨w2.heap.size, 1, none⟩ = some (.int .i64 (nc)) ∧ W.cell? ⟨w2.heap.size, 2, none⟩ = some (.string (np))) ∧ (W.cell? ⟨w4.heap.size, 0, none⟩ = some (.slice a2 n2 c2) ∧ W.cell? ⟨w4.heap.size, 1, none⟩ = some (.int .i64 (c)) ∧ W.cell? ⟨w4.heap.size, 2, none⟩ = some (.string (p))) ∧ (W.cell? ⟨w.heap.size, 0, none⟩ = some (v) ∧ W.cell? ⟨w.heap.size, 1, none⟩ = some (.int .i64 (c)) ∧ W.cell? ⟨w.heap.size, 2, none⟩ = some (.string (p)))))
      (first | exact HKP.out _ HBR.out | exact HKP.out _ HBR.out.drew | go_keep)
      (first
       | (go_at_call 22; (first | (with_reducible refine (check8_any _ nx nc np nl _ (HLX.out.keep (Below.refl _ _).drew) HNI.out HNF.out (HT.out.keep (Below.refl _ _).drew)).mono ?_) | (with_reducible refine (check8_any _ nx nc np nl _ HLX.out HNI.out HNF.out HT.out).mono ?_)); rw [HNV.out, if_pos rfl]; rintro e w99 ⟨he, hb⟩; subst he; (try have hb := Below.trans (Below.refl _ _).drew hb); have HBR := Lib.hid (HBR.out.trans (hb.mono HBR.out.size)); (try have HT := Lib.hid (HT.out.keep hb)); (try have HL := Lib.hid (HL.out.keep hb)); (try have RB := Lib.hid (RB.out.keep hb)); (try have HLX := Lib.hid (HLX.out.keep hb)); (try have RX := Lib.hid (RX.out.keep hb)); (try have HLY := Lib.hid (HLY.out.keep hb)); (try have RY := Lib.hid (RY.out.keep hb)); (try have HLG := Lib.hid (HLG.out.keep hb)); clear hb)
       | (go_at_call 23; (first | (with_reducible refine (raw8_any _ xs c p pl _ (HLY.out.keep (Below.refl _ _).drew) HP.out HF.out (HT.out.keep (Below.refl _ _).drew)).mono ?_) | (with_reducible refine (raw8_any _ xs c p pl _ HLY.out HP.out HF.out HT.out).mono ?_)); rw [HRX.out]; rintro e w99 ⟨he, hb⟩; subst he; (try have hb := Below.trans (Below.refl _ _).drew hb); have HBR := Lib.hid (HBR.out.trans (hb.mono HBR.out.size)); (try have HT := Lib.hid (HT.out.keep hb)); (try have HL := Lib.hid (HL.out.keep hb)); (try have RB := Lib.hid (RB.out.keep hb)); (try have HLX := Lib.hid (HLX.out.keep hb)); (try have RX := Lib.hid (RX.out.keep hb)); (try have HLY := Lib.hid (HLY.out.keep hb)); (try have RY := Lib.hid (RY.out.keep hb)); (try have HLG := Lib.hid (HLG.out.keep hb)); clear hb)
       | (go_at_call 23; (first | (with_reducible refine (raw8_any v xs c p pl _ (HL.out.keep (Below.refl _ _).drew) HP.out HF.out (HT.out.keep (Below.refl _ _).drew)).mono ?_) | (with_reducible refine (raw8_any v xs c p pl _ HL.out HP.out HF.out HT.out).mono ?_)); rw [HRX.out]; rintro e w99 ⟨he, hb⟩; subst he; (try have hb := Below.trans (Below.refl _ _).drew hb); have HBR := Lib.hid (HBR.out.trans (hb.mono HBR.out.size)); (try have HT := Lib.hid (HT.out.keep hb)); (try have HL := Lib.hid (HL.out.keep hb)); (try have RB := Lib.hid (RB.out.keep hb)); (try have HLX := Lib.hid (HLX.out.keep hb)); (try have RX := Lib.hid (RX.out.keep hb)); (try have HLY := Lib.hid (HLY.out.keep hb)); (try have RY := Lib.hid (RY.out.keep hb)); (try have HLG := Lib.hid (HLG.out.keep hb)); clear hb)
       | (go_at_call 19; (first | (with_reducible refine (given9_any v xs c p _ (HL.out.keep (Below.refl _ _).drew) hn2).mono ?_) | (with_reducible refine (given9_any v xs c p _ HL.out hn2).mono ?_)); rintro e w99 ⟨⟨ag, ng, cg, he, ho⟩, hb⟩; subst he; (try have hb := Below.trans (Below.refl _ _).drew hb); have HBR := Lib.hid (HBR.out.trans (hb.mono HBR.out.size)); (try have HT := Lib.hid (HT.out.keep hb)); (try have HL := Lib.hid (HL.out.keep hb)); (try have RB := Lib.hid (RB.out.keep hb)); (try have HLX := Lib.hid (HLX.out.keep hb)); (try have RX := Lib.hid (RX.out.keep hb)); (try have HLY := Lib.hid (HLY.out.keep hb)); (try have RY := Lib.hid (RY.out.keep hb)); (try have HLG := Lib.hid (HLG.out.keep hb)); have HLG := Lib.hid ho; clear ho; clear hb)
       | (go_at_call 25; (first | (with_reducible refine (same8_any _ _ xs xs c c p p pl pl _ (HLY.out.keep (Below.refl _ _).drew) (HLG.out.keep (Below.refl _ _).drew) HP.out HP.out hn2 (Nat.le_trans hn2 (by decide))).mono ?_) | (with_reducible refine (same8_any _ _ xs xs c c p p pl pl _ HLY.out HLG.out HP.out HP.out hn2 (Nat.le_trans hn2 (by decide))).mono ?_)); rw [same_yes]; rintro e w99 ⟨he, hb⟩; subst he; (try have hb := Below.trans (Below.refl _ _).drew hb); have HBR := Lib.hid (HBR.out.trans (hb.mono HBR.out.size)); (try have HT := Lib.hid (HT.out.keep hb)); (try have HL := Lib.hid (HL.out.keep hb)); (try have RB := Lib.hid (RB.out.keep hb)); (try have HLX := Lib.hid (HLX.out.keep hb)); (try have RX := Lib.hid (RX.out.keep hb)); (try have HLY := Lib.hid (HLY.out.keep hb)); (try have RY := Lib.hid (RY.out.keep hb)); (try have HLG := Lib.hid (HLG.out.keep hb)); clear hb))
    all_goals
      (rename_i hHeld
       clear hHeld
       have HB := Lib.hid (HB.out.trans (HBR.out.mono HB.out.size))
       clear HBR HKP
       obtain ⟨⟨RBc0, RBc1, RBc2⟩, RBf0, RBf1, RBf2⟩ := three_cells RB.out
       go_wp2_with fail
       clear RBc0 RBc1 RBc2 RBf0 RBf1 RBf2
       with_reducible refine (check8_any v xs c p pl _ HL.out HP.out HF.out HT.out).mono ?_
       rintro e w100 ⟨rfl, hb⟩
       have HB := Lib.hid (HB.out.trans (hb.mono HB.out.size))
       have HT := Lib.hid (HT.out.keep hb)
       have HL := Lib.hid (HL.out.keep hb)
       have RB := Lib.hid (RB.out.keep hb)
       have HLX := Lib.hid (HLX.out.keep hb)
       have RX := Lib.hid (RX.out.keep hb)
       have HLY := Lib.hid (HLY.out.keep hb)
       have RY := Lib.hid (RY.out.keep hb)
       clear hb
       obtain ⟨V, hV⟩ : ∃ V, Cp.valid ⟨xs, c, pl⟩ = V := ⟨_, rfl⟩
       have HV := Eqq.mk hV
       rw [hV]
       clear hV
       cases V
       · rw [if_neg (show ¬ (false = true) by simp)]
         obtain ⟨⟨RBc0, RBc1, RBc2⟩, RBf0, RBf1, RBf2⟩ := three_cells RB.out
         go_wp2_with fail
         clear RBc0 RBc1 RBc2 RBf0 RBf1 RBf2
         with_reducible refine (works_any _ HT.out).mono ?_
         rintro e w101 ⟨rfl, hb⟩
         have HB := Lib.hid (HB.out.trans (hb.mono HB.out.size))
         have HT := Lib.hid (HT.out.keep hb)
         have HL := Lib.hid (HL.out.keep hb)
         have RB := Lib.hid (RB.out.keep hb)
         have HLX := Lib.hid (HLX.out.keep hb)
         have RX := Lib.hid (RX.out.keep hb)
         have HLY := Lib.hid (HLY.out.keep hb)
         have RY := Lib.hid (RY.out.keep hb)
         clear hb
         go_wp2_with fail
         go_ret
         exact ⟨rfl, by first | exact HB.out | exact HB.out.drew⟩
       · rw [if_pos rfl]
         obtain ⟨h64, ⟨k, rfl, hk⟩, h8, _, _⟩ := valid_parts HV.out
         by_cases hq : pl = []
         · subst hq
           obtain rfl : p = ⟨#[]⟩ := HP.out.eq (Is.mk [])
           by_cases hk0 : (k : Int) = 0
           · have hk1 : ((k : Int) == 0) = true := by rw [beq_iff_eq]; exact hk0
             obtain ⟨⟨RBc0, RBc1, RBc2⟩, RBf0, RBf1, RBf2⟩ := three_cells RB.out
             go_wp2_with fail
             clear RBc0 RBc1 RBc2 RBf0 RBf1 RBf2
             with_reducible refine (works_any _ HT.out).mono ?_
             rintro e w101 ⟨rfl, hb⟩
             have HB := Lib.hid (HB.out.trans (hb.mono HB.out.size))
             have HT := Lib.hid (HT.out.keep hb)
             have HL := Lib.hid (HL.out.keep hb)
             have RB := Lib.hid (RB.out.keep hb)
             have HLX := Lib.hid (HLX.out.keep hb)
             have RX := Lib.hid (RX.out.keep hb)
             have HLY := Lib.hid (HLY.out.keep hb)
             have RY := Lib.hid (RY.out.keep hb)
             clear hb
             go_wp2_with fail
             go_ret
             exact ⟨rfl, by first | exact HB.out | exact HB.out.drew⟩
           · have hk1 : ((k : Int) == 0) = false := by rw [beq_eq_false_iff_ne]; exact hk0
             obtain ⟨⟨mx, mc, ml⟩, hmv⟩ : ∃ q, Cp.move ⟨xs, (k : Int), []⟩ (-1) = q := ⟨_, rfl⟩
             obtain ⟨⟨dx, dc, dl⟩, hbk⟩ : ∃ q, Cp.back ⟨xs, (k : Int), []⟩ = q := ⟨_, rfl⟩
             have HMV := Eqq.mk hmv
             have HBK := Eqq.mk hbk
             have HDL := Eqq.mk (show Cp.del ⟨mx, mc, ml⟩ = ⟨dx, dc, dl⟩ by rw [← hmv, ← hbk]; exact Cp.undo_move HV.out rfl hk0)
             have HMF := Lib.hid (show Fits mx ml by have h := move_back HV.out HF.out; rw [hmv] at h; exact h)
             have HDF := Lib.hid (show Fits dx dl by have h := back_fits (b := ⟨xs, (k : Int), []⟩) HF.out; rw [hbk] at h; exact h)
             obtain ⟨mp, hmp⟩ : ∃ mp, ba ml = mp := ⟨_, rfl⟩
             obtain ⟨dp, hdp⟩ : ∃ dp, ba dl = dp := ⟨_, rfl⟩
             have HMP := Eqq.mk hmp
             have HDP := Eqq.mk hdp
             have HMI := Lib.hid (show Is mp ml by rw [← hmp]; exact is_ba ml)
             have HDI := Lib.hid (show Is dp dl by rw [← hdp]; exact is_ba dl)
             have hdn := HDF.out.n
             clear hmv hbk hmp hdp
             have HKP := Lib.hid (fun (W : World) (hW : Below w100.heap.size w100 W) => (show (Below w100.heap.size w100 W ∧ (W.cell? ⟨w.heap.size, 0, none⟩ = some (v) ∧ W.cell? ⟨w.heap.size, 1, none⟩ = some (.int .i64 (k)) ∧ W.cell? ⟨w.heap.size, 2, none⟩ = some (.string (⟨#[]⟩)))) from ⟨hW, (three_cells (RB.out.keep hW)).1⟩))
             have HBR := Lib.hid (Below.refl w100.heap.size w100)
             obtain ⟨⟨RBc0, RBc1, RBc2⟩, RBf0, RBf1, RBf2⟩ := three_cells RB.out
             go_wp2_with fail
             clear RBc0 RBc1 RBc2 RBf0 RBf1 RBf2
             go_region_held3 (fun W => (Below w100.heap.size w100 W ∧ (W.cell? ⟨w.heap.size, 0, none⟩ = some (v) ∧ W.cell? ⟨w.heap.size, 1, none⟩ = some (.int .i64 (k)) ∧ W.cell? ⟨w.heap.size, 2, none⟩ = some (.string (⟨#[]⟩)))))
               (first | exact HKP.out _ HBR.out | exact HKP.out _ HBR.out.drew | go_keep)
               (first
                | (go_at_call 32; (first | (with_reducible refine (pmove_any v xs k ⟨#[]⟩ [] _ (HL.out.keep (Below.refl _ _).drew) HP.out HF.out (HT.out.keep (Below.refl _ _).drew) (-1)).mono ?_) | (with_reducible refine (pmove_any v xs k ⟨#[]⟩ [] _ HL.out HP.out HF.out HT.out (-1)).mono ?_)); rw [HMV.out]; rintro e w99 ⟨hr, hb⟩; (try have hb := Below.trans (Below.refl _ _).drew hb); have HBR := Lib.hid (HBR.out.trans (hb.mono HBR.out.size)); (try have HT := Lib.hid (HT.out.keep hb)); (try have HL := Lib.hid (HL.out.keep hb)); (try have RB := Lib.hid (RB.out.keep hb)); (try have HLX := Lib.hid (HLX.out.keep hb)); (try have RX := Lib.hid (RX.out.keep hb)); (try have HLY := Lib.hid (HLY.out.keep hb)); (try have RY := Lib.hid (RY.out.keep hb)); (try have HLM := Lib.hid (HLM.out.keep hb)); (try have HLD := Lib.hid (HLD.out.keep hb)); (try have HLK := Lib.hid (HLK.out.keep hb)); (try have HLG := Lib.hid (HLG.out.keep hb)); obtain ⟨am, nm, cm, he, hnm, ho⟩ := hr.open HMP.out; subst he; have HLM := Lib.hid ho.lie; clear ho hr hnm; clear hb)
                | (go_at_call 38; (first | (with_reducible refine (pdelete_any _ mx mc mp ml _ (HLM.out.keep (Below.refl _ _).drew) HMI.out HMF.out (HT.out.keep (Below.refl _ _).drew)).mono ?_) | (with_reducible refine (pdelete_any _ mx mc mp ml _ HLM.out HMI.out HMF.out HT.out).mono ?_)); rw [HDL.out]; rintro e w99 ⟨hr, hb⟩; (try have hb := Below.trans (Below.refl _ _).drew hb); have HBR := Lib.hid (HBR.out.trans (hb.mono HBR.out.size)); (try have HT := Lib.hid (HT.out.keep hb)); (try have HL := Lib.hid (HL.out.keep hb)); (try have RB := Lib.hid (RB.out.keep hb)); (try have HLX := Lib.hid (HLX.out.keep hb)); (try have RX := Lib.hid (RX.out.keep hb)); (try have HLY := Lib.hid (HLY.out.keep hb)); (try have RY := Lib.hid (RY.out.keep hb)); (try have HLM := Lib.hid (HLM.out.keep hb)); (try have HLD := Lib.hid (HLD.out.keep hb)); (try have HLK := Lib.hid (HLK.out.keep hb)); (try have HLG := Lib.hid (HLG.out.keep hb)); obtain ⟨ad, nd, cd, he, hnd, ho⟩ := hr.open HDP.out; subst he; have HLD := Lib.hid ho.lie; clear ho hr hnd; clear hb)
                | (go_at_call 18; (first | (with_reducible refine (pback_any v xs k ⟨#[]⟩ [] _ (HL.out.keep (Below.refl _ _).drew) HP.out HF.out (HT.out.keep (Below.refl _ _).drew)).mono ?_) | (with_reducible refine (pback_any v xs k ⟨#[]⟩ [] _ HL.out HP.out HF.out HT.out).mono ?_)); rw [HBK.out]; rintro e w99 ⟨hr, hb⟩; (try have hb := Below.trans (Below.refl _ _).drew hb); have HBR := Lib.hid (HBR.out.trans (hb.mono HBR.out.size)); (try have HT := Lib.hid (HT.out.keep hb)); (try have HL := Lib.hid (HL.out.keep hb)); (try have RB := Lib.hid (RB.out.keep hb)); (try have HLX := Lib.hid (HLX.out.keep hb)); (try have RX := Lib.hid (RX.out.keep hb)); (try have HLY := Lib.hid (HLY.out.keep hb)); (try have RY := Lib.hid (RY.out.keep hb)); (try have HLM := Lib.hid (HLM.out.keep hb)); (try have HLD := Lib.hid (HLD.out.keep hb)); (try have HLK := Lib.hid (HLK.out.keep hb)); (try have HLG := Lib.hid (HLG.out.keep hb)); obtain ⟨ab, nb, cb, he, hnb, ho⟩ := hr.open HDP.out; subst he; have HLK := Lib.hid ho.lie; clear ho hr hnb; clear hb)
                | (go_at_call 19; (first | (with_reducible refine (given9_any _ dx dc dp _ (HLK.out.keep (Below.refl _ _).drew) hdn).mono ?_) | (with_reducible refine (given9_any _ dx dc dp _ HLK.out hdn).mono ?_)); rintro e w99 ⟨⟨ag, ng, cg, he, ho⟩, hb⟩; subst he; (try have hb := Below.trans (Below.refl _ _).drew hb); have HBR := Lib.hid (HBR.out.trans (hb.mono HBR.out.size)); (try have HT := Lib.hid (HT.out.keep hb)); (try have HL := Lib.hid (HL.out.keep hb)); (try have RB := Lib.hid (RB.out.keep hb)); (try have HLX := Lib.hid (HLX.out.keep hb)); (try have RX := Lib.hid (RX.out.keep hb)); (try have HLY := Lib.hid (HLY.out.keep hb)); (try have RY := Lib.hid (RY.out.keep hb)); (try have HLM := Lib.hid (HLM.out.keep hb)); (try have HLD := Lib.hid (HLD.out.keep hb)); (try have HLK := Lib.hid (HLK.out.keep hb)); (try have HLG := Lib.hid (HLG.out.keep hb)); have HLG := Lib.hid ho; clear ho; clear hb)
                | (go_at_call 25; (first | (with_reducible refine (same8_any _ _ dx dx dc dc dp dp dl dl _ (HLD.out.keep (Below.refl _ _).drew) (HLG.out.keep (Below.refl _ _).drew) HDI.out HDI.out hdn (Nat.le_trans hdn (by decide))).mono ?_) | (with_reducible refine (same8_any _ _ dx dx dc dc dp dp dl dl _ HLD.out HLG.out HDI.out HDI.out hdn (Nat.le_trans hdn (by decide))).mono ?_)); rw [same_yes]; rintro e w99 ⟨he, hb⟩; subst he; (try have hb := Below.trans (Below.refl _ _).drew hb); have HBR := Lib.hid (HBR.out.trans (hb.mono HBR.out.size)); (try have HT := Lib.hid (HT.out.keep hb)); (try have HL := Lib.hid (HL.out.keep hb)); (try have RB := Lib.hid (RB.out.keep hb)); (try have HLX := Lib.hid (HLX.out.keep hb)); (try have RX := Lib.hid (RX.out.keep hb)); (try have HLY := Lib.hid (HLY.out.keep hb)); (try have RY := Lib.hid (RY.out.keep hb)); (try have HLM := Lib.hid (HLM.out.keep hb)); (try have HLD := Lib.hid (HLD.out.keep hb)); (try have HLK := Lib.hid (HLK.out.keep hb)); (try have HLG := Lib.hid (HLG.out.keep hb)); clear hb)
                | (go_at_call 26; (first | (with_reducible refine (works_any _ (HT.out.keep (Below.refl _ _).drew)).mono ?_) | (with_reducible refine (works_any _ HT.out).mono ?_)); rintro e w99 ⟨he, hb⟩; subst he; (try have hb := Below.trans (Below.refl _ _).drew hb); have HBR := Lib.hid (HBR.out.trans (hb.mono HBR.out.size)); (try have HT := Lib.hid (HT.out.keep hb)); (try have HL := Lib.hid (HL.out.keep hb)); (try have RB := Lib.hid (RB.out.keep hb)); (try have HLX := Lib.hid (HLX.out.keep hb)); (try have RX := Lib.hid (RX.out.keep hb)); (try have HLY := Lib.hid (HLY.out.keep hb)); (try have RY := Lib.hid (RY.out.keep hb)); (try have HLM := Lib.hid (HLM.out.keep hb)); (try have HLD := Lib.hid (HLD.out.keep hb)); (try have HLK := Lib.hid (HLK.out.keep hb)); (try have HLG := Lib.hid (HLG.out.keep hb)); clear hb))
             all_goals
               (rename_i hHeld
                clear hHeld
                go_wp2_with fail
                go_ret
                exact ⟨rfl, by first | exact (HB.out.trans (HBR.out.mono HB.out.size)) | exact (HB.out.trans (HBR.out.mono HB.out.size)).drew⟩)
         · have n1p : ¬ p.toList = [] := by rw [HP.out.list]; exact hq
           have n2p : (p.toList == []) = false := by rw [beq_eq_false_iff_ne]; exact n1p
           clear hq
           obtain ⟨⟨RBc0, RBc1, RBc2⟩, RBf0, RBf1, RBf2⟩ := three_cells RB.out
           go_wp2_with fail
           clear RBc0 RBc1 RBc2 RBf0 RBf1 RBf2
           with_reducible refine (works_any _ HT.out).mono ?_
           rintro e w101 ⟨rfl, hb⟩
           have HB := Lib.hid (HB.out.trans (hb.mono HB.out.size))
           have HT := Lib.hid (HT.out.keep hb)
           have HL := Lib.hid (HL.out.keep hb)
           have RB := Lib.hid (RB.out.keep hb)
           have HLX := Lib.hid (HLX.out.keep hb)
           have RX := Lib.hid (RX.out.keep hb)
           have HLY := Lib.hid (HLY.out.keep hb)
           have RY := Lib.hid (RY.out.keep hb)
           clear hb
           go_wp2_with fail
           go_ret
           exact ⟨rfl, by first | exact HB.out | exact HB.out.drew⟩)
  · have r1 : (er == 0) = false := by rw [beq_eq_false_iff_ne]; exact her
    obtain ⟨⟨RBc0, RBc1, RBc2⟩, RBf0, RBf1, RBf2⟩ := three_cells (show (w2.alloc (.cells #[.slice a1 n1 c1, .int .i64 nc, .string np] 33)).heap[_]? = _ from by rw [HWX2.out]; exact RB.out)
    go_wp2_with fail
    clear RBc0 RBc1 RBc2 RBf0 RBf1 RBf2
    rw [HWX2.out]
    with_reducible refine (check8_any v xs c p pl _ HL.out HP.out HF.out HT.out).mono ?_
    rintro e w4 ⟨rfl, hb⟩
    have HB := Lib.hid (HB.out.trans (hb.mono HB.out.size))
    have HT := Lib.hid (HT.out.keep hb)
    have HL := Lib.hid (HL.out.keep hb)
    have RB := Lib.hid (RB.out.keep hb)
    have HLX := Lib.hid (HLX.out.keep hb)
    have RX := Lib.hid (RX.out.keep hb)
    clear hb
    obtain ⟨V, hV⟩ : ∃ V, Cp.valid ⟨xs, c, pl⟩ = V := ⟨_, rfl⟩
    have HV := Eqq.mk hV
    rw [hV]
    clear hV
    cases V
    · rw [if_neg (show ¬ (false = true) by simp)]
      obtain ⟨⟨RBc0, RBc1, RBc2⟩, RBf0, RBf1, RBf2⟩ := three_cells RB.out
      go_wp2_with fail
      clear RBc0 RBc1 RBc2 RBf0 RBf1 RBf2
      with_reducible refine (works_any _ HT.out).mono ?_
      rintro e w5 ⟨rfl, hb⟩
      have HB := Lib.hid (HB.out.trans (hb.mono HB.out.size))
      have HT := Lib.hid (HT.out.keep hb)
      have HL := Lib.hid (HL.out.keep hb)
      have RB := Lib.hid (RB.out.keep hb)
      have HLX := Lib.hid (HLX.out.keep hb)
      have RX := Lib.hid (RX.out.keep hb)
      clear hb
      go_wp2_with fail
      go_ret
      exact ⟨rfl, by first | exact HB.out | exact HB.out.drew⟩
    · rw [if_pos rfl]
      obtain ⟨h64, ⟨k, rfl, hk⟩, h8, _, _⟩ := valid_parts HV.out
      by_cases hq : pl = []
      · subst hq
        obtain rfl : p = ⟨#[]⟩ := HP.out.eq (Is.mk [])
        by_cases hk0 : (k : Int) = 0
        · have hk1 : ((k : Int) == 0) = true := by rw [beq_iff_eq]; exact hk0
          obtain ⟨⟨RBc0, RBc1, RBc2⟩, RBf0, RBf1, RBf2⟩ := three_cells RB.out
          go_wp2_with fail
          clear RBc0 RBc1 RBc2 RBf0 RBf1 RBf2
          with_reducible refine (works_any _ HT.out).mono ?_
          rintro e w5 ⟨rfl, hb⟩
          have HB := Lib.hid (HB.out.trans (hb.mono HB.out.size))
          have HT := Lib.hid (HT.out.keep hb)
          have HL := Lib.hid (HL.out.keep hb)
          have RB := Lib.hid (RB.out.keep hb)
          have HLX := Lib.hid (HLX.out.keep hb)
          have RX := Lib.hid (RX.out.keep hb)
          clear hb
          go_wp2_with fail
          go_ret
          exact ⟨rfl, by first | exact HB.out | exact HB.out.drew⟩
        · have hk1 : ((k : Int) == 0) = false := by rw [beq_eq_false_iff_ne]; exact hk0
          obtain ⟨⟨mx, mc, ml⟩, hmv⟩ : ∃ q, Cp.move ⟨xs, (k : Int), []⟩ (-1) = q := ⟨_, rfl⟩
          obtain ⟨⟨dx, dc, dl⟩, hbk⟩ : ∃ q, Cp.back ⟨xs, (k : Int), []⟩ = q := ⟨_, rfl⟩
          have HMV := Eqq.mk hmv
          have HBK := Eqq.mk hbk
          have HDL := Eqq.mk (show Cp.del ⟨mx, mc, ml⟩ = ⟨dx, dc, dl⟩ by rw [← hmv, ← hbk]; exact Cp.undo_move HV.out rfl hk0)
          have HMF := Lib.hid (show Fits mx ml by have h := move_back HV.out HF.out; rw [hmv] at h; exact h)
          have HDF := Lib.hid (show Fits dx dl by have h := back_fits (b := ⟨xs, (k : Int), []⟩) HF.out; rw [hbk] at h; exact h)
          obtain ⟨mp, hmp⟩ : ∃ mp, ba ml = mp := ⟨_, rfl⟩
          obtain ⟨dp, hdp⟩ : ∃ dp, ba dl = dp := ⟨_, rfl⟩
          have HMP := Eqq.mk hmp
          have HDP := Eqq.mk hdp
          have HMI := Lib.hid (show Is mp ml by rw [← hmp]; exact is_ba ml)
          have HDI := Lib.hid (show Is dp dl by rw [← hdp]; exact is_ba dl)
          have hdn := HDF.out.n
          clear hmv hbk hmp hdp
          have HKP := Lib.hid (fun (W : World) (hW : Below w4.heap.size w4 W) => (show (Below w4.heap.size w4 W ∧ (W.cell? ⟨w.heap.size, 0, none⟩ = some (v) ∧ W.cell? ⟨w.heap.size, 1, none⟩ = some (.int .i64 (k)) ∧ W.cell? ⟨w.heap.size, 2, none⟩ = some (.string (⟨#[]⟩)))) from ⟨hW, (three_cells (RB.out.keep hW)).1⟩))
          have HBR := Lib.hid (Below.refl w4.heap.size w4)
          obtain ⟨⟨RBc0, RBc1, RBc2⟩, RBf0, RBf1, RBf2⟩ := three_cells RB.out
          go_wp2_with fail
          clear RBc0 RBc1 RBc2 RBf0 RBf1 RBf2
          go_region_held3 (fun W => (Below w4.heap.size w4 W ∧ (W.cell? ⟨w.heap.size, 0, none⟩ = some (v) ∧ W.cell? ⟨w.heap.size, 1, none⟩ = some (.int .i64 (k)) ∧ W.cell? ⟨w.heap.size, 2, none⟩ = some (.string (⟨#[]⟩)))))
            (first | exact HKP.out _ HBR.out | exact HKP.out _ HBR.out.drew | go_keep)
            (first
             | (go_at_call 32; (first | (with_reducible refine (pmove_any v xs k ⟨#[]⟩ [] _ (HL.out.keep (Below.refl _ _).drew) HP.out HF.out (HT.out.keep (Below.refl _ _).drew) (-1)).mono ?_) | (with_reducible refine (pmove_any v xs k ⟨#[]⟩ [] _ HL.out HP.out HF.out HT.out (-1)).mono ?_)); rw [HMV.out]; rintro e w99 ⟨hr, hb⟩; (try have hb := Below.trans (Below.refl _ _).drew hb); have HBR := Lib.hid (HBR.out.trans (hb.mono HBR.out.size)); (try have HT := Lib.hid (HT.out.keep hb)); (try have HL := Lib.hid (HL.out.keep hb)); (try have RB := Lib.hid (RB.out.keep hb)); (try have HLX := Lib.hid (HLX.out.keep hb)); (try have RX := Lib.hid (RX.out.keep hb)); (try have HLM := Lib.hid (HLM.out.keep hb)); (try have HLD := Lib.hid (HLD.out.keep hb)); (try have HLK := Lib.hid (HLK.out.keep hb)); (try have HLG := Lib.hid (HLG.out.keep hb)); obtain ⟨am, nm, cm, he, hnm, ho⟩ := hr.open HMP.out; subst he; have HLM := Lib.hid ho.lie; clear ho hr hnm; clear hb)
             | (go_at_call 38; (first | (with_reducible refine (pdelete_any _ mx mc mp ml _ (HLM.out.keep (Below.refl _ _).drew) HMI.out HMF.out (HT.out.keep (Below.refl _ _).drew)).mono ?_) | (with_reducible refine (pdelete_any _ mx mc mp ml _ HLM.out HMI.out HMF.out HT.out).mono ?_)); rw [HDL.out]; rintro e w99 ⟨hr, hb⟩; (try have hb := Below.trans (Below.refl _ _).drew hb); have HBR := Lib.hid (HBR.out.trans (hb.mono HBR.out.size)); (try have HT := Lib.hid (HT.out.keep hb)); (try have HL := Lib.hid (HL.out.keep hb)); (try have RB := Lib.hid (RB.out.keep hb)); (try have HLX := Lib.hid (HLX.out.keep hb)); (try have RX := Lib.hid (RX.out.keep hb)); (try have HLM := Lib.hid (HLM.out.keep hb)); (try have HLD := Lib.hid (HLD.out.keep hb)); (try have HLK := Lib.hid (HLK.out.keep hb)); (try have HLG := Lib.hid (HLG.out.keep hb)); obtain ⟨ad, nd, cd, he, hnd, ho⟩ := hr.open HDP.out; subst he; have HLD := Lib.hid ho.lie; clear ho hr hnd; clear hb)
             | (go_at_call 18; (first | (with_reducible refine (pback_any v xs k ⟨#[]⟩ [] _ (HL.out.keep (Below.refl _ _).drew) HP.out HF.out (HT.out.keep (Below.refl _ _).drew)).mono ?_) | (with_reducible refine (pback_any v xs k ⟨#[]⟩ [] _ HL.out HP.out HF.out HT.out).mono ?_)); rw [HBK.out]; rintro e w99 ⟨hr, hb⟩; (try have hb := Below.trans (Below.refl _ _).drew hb); have HBR := Lib.hid (HBR.out.trans (hb.mono HBR.out.size)); (try have HT := Lib.hid (HT.out.keep hb)); (try have HL := Lib.hid (HL.out.keep hb)); (try have RB := Lib.hid (RB.out.keep hb)); (try have HLX := Lib.hid (HLX.out.keep hb)); (try have RX := Lib.hid (RX.out.keep hb)); (try have HLM := Lib.hid (HLM.out.keep hb)); (try have HLD := Lib.hid (HLD.out.keep hb)); (try have HLK := Lib.hid (HLK.out.keep hb)); (try have HLG := Lib.hid (HLG.out.keep hb)); obtain ⟨ab, nb, cb, he, hnb, ho⟩ := hr.open HDP.out; subst he; have HLK := Lib.hid ho.lie; clear ho hr hnb; clear hb)
             | (go_at_call 19; (first | (with_reducible refine (given9_any _ dx dc dp _ (HLK.out.keep (Below.refl _ _).drew) hdn).mono ?_) | (with_reducible refine (given9_any _ dx dc dp _ HLK.out hdn).mono ?_)); rintro e w99 ⟨⟨ag, ng, cg, he, ho⟩, hb⟩; subst he; (try have hb := Below.trans (Below.refl _ _).drew hb); have HBR := Lib.hid (HBR.out.trans (hb.mono HBR.out.size)); (try have HT := Lib.hid (HT.out.keep hb)); (try have HL := Lib.hid (HL.out.keep hb)); (try have RB := Lib.hid (RB.out.keep hb)); (try have HLX := Lib.hid (HLX.out.keep hb)); (try have RX := Lib.hid (RX.out.keep hb)); (try have HLM := Lib.hid (HLM.out.keep hb)); (try have HLD := Lib.hid (HLD.out.keep hb)); (try have HLK := Lib.hid (HLK.out.keep hb)); (try have HLG := Lib.hid (HLG.out.keep hb)); have HLG := Lib.hid ho; clear ho; clear hb)
             | (go_at_call 25; (first | (with_reducible refine (same8_any _ _ dx dx dc dc dp dp dl dl _ (HLD.out.keep (Below.refl _ _).drew) (HLG.out.keep (Below.refl _ _).drew) HDI.out HDI.out hdn (Nat.le_trans hdn (by decide))).mono ?_) | (with_reducible refine (same8_any _ _ dx dx dc dc dp dp dl dl _ HLD.out HLG.out HDI.out HDI.out hdn (Nat.le_trans hdn (by decide))).mono ?_)); rw [same_yes]; rintro e w99 ⟨he, hb⟩; subst he; (try have hb := Below.trans (Below.refl _ _).drew hb); have HBR := Lib.hid (HBR.out.trans (hb.mono HBR.out.size)); (try have HT := Lib.hid (HT.out.keep hb)); (try have HL := Lib.hid (HL.out.keep hb)); (try have RB := Lib.hid (RB.out.keep hb)); (try have HLX := Lib.hid (HLX.out.keep hb)); (try have RX := Lib.hid (RX.out.keep hb)); (try have HLM := Lib.hid (HLM.out.keep hb)); (try have HLD := Lib.hid (HLD.out.keep hb)); (try have HLK := Lib.hid (HLK.out.keep hb)); (try have HLG := Lib.hid (HLG.out.keep hb)); clear hb)
             | (go_at_call 26; (first | (with_reducible refine (works_any _ (HT.out.keep (Below.refl _ _).drew)).mono ?_) | (with_reducible refine (works_any _ HT.out).mono ?_)); rintro e w99 ⟨he, hb⟩; subst he; (try have hb := Below.trans (Below.refl _ _).drew hb); have HBR := Lib.hid (HBR.out.trans (hb.mono HBR.out.size)); (try have HT := Lib.hid (HT.out.keep hb)); (try have HL := Lib.hid (HL.out.keep hb)); (try have RB := Lib.hid (RB.out.keep hb)); (try have HLX := Lib.hid (HLX.out.keep hb)); (try have RX := Lib.hid (RX.out.keep hb)); (try have HLM := Lib.hid (HLM.out.keep hb)); (try have HLD := Lib.hid (HLD.out.keep hb)); (try have HLK := Lib.hid (HLK.out.keep hb)); (try have HLG := Lib.hid (HLG.out.keep hb)); clear hb))
          all_goals
            (rename_i hHeld
             clear hHeld
             go_wp2_with fail
             go_ret
             exact ⟨rfl, by first | exact (HB.out.trans (HBR.out.mono HB.out.size)) | exact (HB.out.trans (HBR.out.mono HB.out.size)).drew⟩)
      · have n1p : ¬ p.toList = [] := by rw [HP.out.list]; exact hq
        have n2p : (p.toList == []) = false := by rw [beq_eq_false_iff_ne]; exact n1p
        clear hq
        obtain ⟨⟨RBc0, RBc1, RBc2⟩, RBf0, RBf1, RBf2⟩ := three_cells RB.out
        go_wp2_with fail
        clear RBc0 RBc1 RBc2 RBf0 RBf1 RBf2
        with_reducible refine (works_any _ HT.out).mono ?_
        rintro e w5 ⟨rfl, hb⟩
        have HB := Lib.hid (HB.out.trans (hb.mono HB.out.size))
        have HT := Lib.hid (HT.out.keep hb)
        have HL := Lib.hid (HL.out.keep hb)
        have RB := Lib.hid (RB.out.keep hb)
        have HLX := Lib.hid (HLX.out.keep hb)
        have RX := Lib.hid (RX.out.keep hb)
        clear hb
        go_wp2_with fail
        go_ret
        exact ⟨rfl, by first | exact HB.out | exact HB.out.drew⟩

theorem laidOut : laidOutB Tryz.prog = true := by kernel_rfl
set_option maxRecDepth 100000 in
theorem contract (H : Type) (enc : TypeId × Value → H) (W : World) (base : Nat) (args : Array Value) (ds gs : List (DataW H)) (before : List MemPlace)
    (hval : ∀ (j : Nat) t v, Tryz.f11.params[j]? = some t → args[j]? = some v → Value.okWide Tryz.prog W .any base t v)
    (hW : DataW.Whole enc Tryz.prog Tryz.f11.params.toList Rows.composeUndoesSpec.vars false W args.toList ds gs before) (hL : laidMetH Tryz.prog Rows.composeUndoesRow.laid W) (hS : W.ShapedOpen Tryz.prog) (hC : Rows.uptoSmall H (ds ++ gs) = true)
    (hR : (DataW.weightsEach Tryz.prog (Tryz.f11.params.toList ++ (OpenSpec.ofChange Rows.composeUndoesSpec).bare.plain.varTypes Tryz.prog) (ds ++ gs)).all (· ≤ reachBytes) = true) :
    Calls Tryz.prog 11 args W fun e W' => ∃ v, e = .returned v ∧ Rows.composeUndoesSpec.post enc Tryz.prog Tryz.f11 false true false false W args v W' := by
  have hT : Tabs W := rtabs_of_laid hL hS
  have hW' := hW
  obtain ⟨p, q, hA0, hV, rfl, hfz, hnd⟩ := hW
  have hA : DataW.TrodAll enc Tryz.prog W 0 (fun _ => true) true Tryz.f11.params.toList args.toList ds p := hA0
  rw [Tryz.params11] at hA hval hR
  obtain ⟨v0, vs0, d0, ds0, p0, q0, hargs, rfl, rfl, h0, r0⟩ := trodAll_cons hA
  obtain ⟨v1, vs1, d1, ds1, p1, q1, rfl, rfl, rfl, h1, r1⟩ := trodAll_cons r0
  obtain ⟨rfl, rfl, rfl⟩ := trodAll_nil r1
  obtain rfl : args = #[v0, v1] := by cases args; simp_all
  obtain ⟨rfl, rfl⟩ := trodVars_none hV
  clear hA0
  simp only [List.append_nil] at hW' hR
  have k0 := h0
  have l0 : ∀ x ∈ p0, x.block < W.heap.size := fun x hx => by simpa using hW'.lt x (by simp [hx])
  have k1 := h1
  have l1 : ∀ x ∈ p1, x.block < W.heap.size := fun x hx => by simpa using hW'.lt x (by simp [hx])
  have hB : Rows.uptoBulkAll _ ≤ 1048576 := of_decide_eq_true hC
  simp only [List.append_nil, Rows.uptoBulkAll] at hB
  have b0 : Rows.uptoBulk d0 ≤ 1048576 := by omega
  have b1 : Rows.uptoBulk d1 ≤ 1048576 := by omega
  obtain ⟨u0, xs0, c0, pb0, rfl, hl0, hf0, _, _⟩ := open_bufB (hval 0 33 v0 rfl rfl) h0 b0 (by decide)
  obtain ⟨a1, rfl, rfl, rfl, w1⟩ := open_int Tryz.underlying5 (hval 1 5 v1 rfl rfl) h1
  refine (walk W u0 xs0 c0 pb0 hl0 hf0 a1 w1 hT).mono fun e W' ⟨he, bel⟩ => ?_
  subst he
  exact ⟨_, rfl, _, _, _, [], _, [], hW', trodAll_mk1 (shut_bool Tryz.underlying4 _), (trodAll_cons_mk (Below.trod laidOut (by kernel_rfl) (of_decide_eq_true (by kernel_rfl)) k0 bel l0) (trodAll_cons_mk (Below.trod laidOut (by kernel_rfl) (of_decide_eq_true (by kernel_rfl)) k1 bel l1) trodAll_mk0)), rfl, bel.frame _, fun h => by cases h⟩

theorem reads (os : Os) {H : Type} (enc : TypeId × Value → H) : ∃ places, DataW.whole enc Tryz.prog ((laidWorldR os).forCall (fun _ _ => 0) ⟨#[], #[.agg #[.slice none 0 0, .int .i64 0, .string ⟨#[]⟩], .int .u8 0], []⟩).memory Tryz.f11.params.toList Rows.composeUndoesSpec.vars false #[.agg #[.slice none 0 0, .int .i64 0, .string ⟨#[]⟩], .int .u8 0].toList 8 = some ([.agg [.nil, .lit (.int .i64 0), .lit (.string [])], .lit (.int .u8 0)], [], places) :=
  ⟨[], by kernel_rfl⟩

set_option maxRecDepth 100000 in
theorem lifted (os : Os) (started : os.Started) (H : Type) (enc : TypeId × Value → H) (F : Stop.Interp) :
    ReturnsInHanded {} Tryz.checked os 11 .any ((Rows.OpenSpec.upto Rows.composeUndoesSpec).preRow enc Tryz.prog Tryz.f11 Rows.composeUndoesUptoRow.domain false Rows.composeUndoesUptoRow.laid) (((Rows.OpenSpec.upto Rows.composeUndoesSpec).at F).post enc Tryz.prog Tryz.f11 false true false false) := by
  obtain ⟨places, hx⟩ := reads os enc
  refine returnsInHanded_of_row (C := Tryz.checked) (s := (Rows.OpenSpec.upto Rows.composeUndoesSpec)) own started (by kernel_rfl) Tryz.func11
    (witness_row_at (enc := enc) (C := Tryz.checked) false (laidWorldR os) #[.agg #[.slice none 0 0, .int .i64 0, .string ⟨#[]⟩], .int .u8 0] rfl (by kernel_rfl) (by kernel_rfl) (by kernel_rfl)
      (OpenSpec.preRow_of_cond 8 hx (by kernel_rfl) (fun k hk => by cases hk; kernel_rfl) (by kernel_rfl) (laid_metR os _))) ?_
  intro W base args ds gs before hval hW _ hcond hR hL hS _
  exact contract H enc W base args ds gs before hval hW hL hS (hcond _ rfl) hR

theorem said : Rows.ComposeUndoesUptoSaid :=
  OpenClaim.holds_of_cond 11 Tryz.f11 rfl rfl rfl rfl rfl rfl rfl ⟨rfl, rfl, rfl, rfl, rfl⟩ rfl rfl rfl rfl rfl (by kernel_rfl) Tryz.func11 (by kernel_rfl)
    (of_decide_eq_true (by kernel_rfl)) (by unfold Func.isWrapper; first | (rw [if_pos (by decide +kernel)]; kernel_rfl) | (rw [if_neg (by decide +kernel)]; exact ⟨rfl, rfl⟩))
    (fun os started H enc _ F => by rw [OpenClaim.pre_eq_preRow]; exact lifted os started H enc F)

theorem plain (f : FuncId) (fn : Func) (hf : Tryz.pinned.checked.prog.funcNamed "henkan/henkanlaw08.ComposeUndoes" = some f) (hfn : Tryz.pinned.checked.prog.funcs[f]? = some fn) :
    false = Tryz.pinned.checked.prog.looks [] ∧ ∀ (j : Nat) t, fn.params[j]? = some t → Tryz.pinned.checked.prog.wantsStandIn t = false := by
  obtain rfl : f = 11 := Option.some.inj ((show Tryz.prog.funcNamed "henkan/henkanlaw08.ComposeUndoes" = some 11 by kernel_rfl).symm.trans hf) |>.symm
  obtain rfl : fn = Tryz.f11 := (Option.some.inj (Tryz.func11.symm.trans hfn)).symm
  refine ⟨by kernel_rfl, fun j t ht => ?_⟩
  rw [Tryz.params11] at ht
  have hm := Array.mem_of_getElem? ht
  simp only [List.mem_toArray, List.mem_cons, List.not_mem_nil, or_false] at hm
  rcases hm with rfl | rfl
  · exact (show Tryz.prog.wantsStandIn 33 = false by kernel_rfl)
  · exact (show Tryz.prog.wantsStandIn 5 = false by kernel_rfl)

/-- the card -/
theorem proved : Rows.ComposeUndoesUptoCardSaid :=
  Claim7.holds_tied_plain_at .later [] _ _ _ _ said (fun _ h => by cases h) (by kernel_rfl) (fun _ h => by cases h) composeUndoesUpto_row_tie rfl ⟨rfl, rfl⟩ (by kernel_rfl) rfl plain (by kernel_rfl)
#print axioms proved
end Go.Proofs.YtgdcffahhpeibaaGreatDoor.composeUndoes
