/-
  The buffers' texts and keys are those of the document, and what is valid. The arguments are of bulk at most 1048576.
-/
import Derived.Deep.RegionHeld3
import Derived.Test.YtgdcffahhpeibaaGreatDoorCpE
import Derived.Carry
import Derived.Laws.AppendOwnNone
namespace Go.Proofs.YtgdcffahhpeibaaGreatDoor.composeChecks
open Go.ChangeShapes Go.WideShapes Go.ChangeAt Go.RowKit
open Go.ChangeMaps (open_string)
set_option linter.unusedVariables false

set_option maxRecDepth 100000 in
set_option maxHeartbeats 16000000 in
theorem walk (w : World) (v : Value) (xs : List Cp.Item) (c : Int) (p : ByteArray) (hl : LieG itemE v xs w) (hf : Fits xs p.data.toList) (ht : Tabs w) :
    Calls Tryz.prog 4 #[bufV v c p] w fun e w' => e = .returned (.bool true) ∧ Below w.heap.size w w' := by
  have HB := Lib.hid (Below.refl w.heap.size w)
  have HT := Lib.hid ht
  clear ht
  have hIs := Is.of p
  obtain ⟨pl, hpl⟩ : ∃ pl, p.data.toList = pl := ⟨_, rfl⟩
  rw [hpl] at hIs hf
  have HP := Lib.hid hIs
  have HPB := Eqq.mk hIs.ba
  have HF := Lib.hid hf
  have HL := Lib.hid hl
  have hn2 := hf.n
  clear hIs hpl hf hl
  obtain ⟨s1, s2, s3, htx⟩ := text_form ⟨xs, c, pl⟩
  obtain ⟨s4, hrx⟩ := raw_form ⟨xs, c, pl⟩
  have HTX := Eqq.mk htx
  have HRX := Eqq.mk hrx
  clear htx hrx
  obtain ⟨V, hV⟩ : ∃ V, Cp.valid ⟨xs, c, pl⟩ = V := ⟨_, rfl⟩
  have HV := Eqq.mk hV
  clear hV
  have q1 : (s1.toList == s1.toList) = true := by rw [beq_iff_eq]
  have q2 : (s2.toList == s2.toList) = true := by rw [beq_iff_eq]
  have q3 : (s3.toList == s3.toList) = true := by rw [beq_iff_eq]
  have q4 : (s4.toList == s4.toList) = true := by rw [beq_iff_eq]
  obtain ⟨w1, hwx⟩ : ∃ W, w.alloc (.cells #[v, .int .i64 c, .string p] 33) = W := ⟨_, rfl⟩
  have HWX1 := Eqq.mk hwx
  have hb : Below w.heap.size w w1 := by rw [← hwx]; exact (Below.refl _ _).alloc (Nat.le_refl _) _
  have HB := Lib.hid (HB.out.trans (hb.mono HB.out.size))
  have HT := Lib.hid (HT.out.keep hb)
  have HL := Lib.hid (HL.out.keep hb)
  have RB := Lib.hid (show RowIs 33 w.heap.size (v) (c) (p) w1 from by rw [← hwx]; exact RowIs.new _ _ _ _ _)
  clear hb hwx
  go_enter Tryz.func4, Tryz.ntmps4
  obtain ⟨⟨RBc0, RBc1, RBc2⟩, RBf0, RBf1, RBf2⟩ := three_cells (show (w.alloc (.cells #[v, .int .i64 c, .string p] 33)).heap[_]? = _ from by rw [HWX1.out]; exact RB.out)
  go_wp2_with fail
  clear RBc0 RBc1 RBc2 RBf0 RBf1 RBf2
  rw [HWX1.out]
  with_reducible refine (given9_any v xs c p _ HL.out hn2).mono ?_
  rintro e w2 ⟨⟨a1, n1, c1, rfl, ho⟩, hb⟩
  have HB := Lib.hid (HB.out.trans (hb.mono HB.out.size))
  have HT := Lib.hid (HT.out.keep hb)
  have HL := Lib.hid (HL.out.keep hb)
  have RB := Lib.hid (RB.out.keep hb)
  have HLW := Lib.hid ho
  clear ho
  clear hb
  obtain ⟨w3, hwx⟩ : ∃ W, w2.alloc (.cells #[.slice a1 n1 c1, .int .i64 c, .string p] 42) = W := ⟨_, rfl⟩
  have HWX2 := Eqq.mk hwx
  have hb : Below w2.heap.size w2 w3 := by rw [← hwx]; exact (Below.refl _ _).alloc (Nat.le_refl _) _
  have HB := Lib.hid (HB.out.trans (hb.mono HB.out.size))
  have HT := Lib.hid (HT.out.keep hb)
  have HL := Lib.hid (HL.out.keep hb)
  have RB := Lib.hid (RB.out.keep hb)
  have HLW := Lib.hid (HLW.out.keep hb)
  have RW := Lib.hid (show RowIs 42 w2.heap.size (.slice a1 n1 c1) (c) (p) w3 from by rw [← hwx]; exact RowIs.new _ _ _ _ _)
  clear hb hwx
  obtain ⟨⟨RWc0, RWc1, RWc2⟩, RWf0, RWf1, RWf2⟩ := three_cells (show (w2.alloc (.cells #[.slice a1 n1 c1, .int .i64 c, .string p] 42)).heap[_]? = _ from by rw [HWX2.out]; exact RW.out)
  go_wp2_with fail
  clear RWc0 RWc1 RWc2 RWf0 RWf1 RWf2
  rw [HWX2.out]
  with_reducible refine (rvalid_any _ xs c p pl _ HLW.out HP.out HF.out).mono ?_
  rw [HV.out]
  rintro e w4 ⟨rfl, hb⟩
  have HB := Lib.hid (HB.out.trans (hb.mono HB.out.size))
  have HT := Lib.hid (HT.out.keep hb)
  have HL := Lib.hid (HL.out.keep hb)
  have RB := Lib.hid (RB.out.keep hb)
  have HLW := Lib.hid (HLW.out.keep hb)
  have RW := Lib.hid (RW.out.keep hb)
  clear hb
  cases V
  · obtain ⟨⟨RBc0, RBc1, RBc2⟩, RBf0, RBf1, RBf2⟩ := three_cells RB.out
    go_wp2_with fail
    clear RBc0 RBc1 RBc2 RBf0 RBf1 RBf2
    with_reducible refine (text8_any v xs c p pl _ HL.out HP.out HF.out HT.out).mono ?_
    rw [HTX.out]
    rintro e w5 ⟨rfl, hb⟩
    have HB := Lib.hid (HB.out.trans (hb.mono HB.out.size))
    have HT := Lib.hid (HT.out.keep hb)
    have HL := Lib.hid (HL.out.keep hb)
    have RB := Lib.hid (RB.out.keep hb)
    have HLW := Lib.hid (HLW.out.keep hb)
    have RW := Lib.hid (RW.out.keep hb)
    clear hb
    obtain ⟨⟨RWc0, RWc1, RWc2⟩, RWf0, RWf1, RWf2⟩ := three_cells RW.out
    go_wp2_with fail
    clear RWc0 RWc1 RWc2 RWf0 RWf1 RWf2
    with_reducible refine (rtext8_any _ xs c p pl _ HLW.out HP.out HF.out).mono ?_
    rw [HTX.out]
    rintro e w6 ⟨rfl, hb⟩
    have HB := Lib.hid (HB.out.trans (hb.mono HB.out.size))
    have HT := Lib.hid (HT.out.keep hb)
    have HL := Lib.hid (HL.out.keep hb)
    have RB := Lib.hid (RB.out.keep hb)
    have HLW := Lib.hid (HLW.out.keep hb)
    have RW := Lib.hid (RW.out.keep hb)
    clear hb
    have HKP := Lib.hid (fun (W : World) (hW : Below w6.heap.size w6 W) => (show (Below w6.heap.size w6 W ∧ (W.cell? ⟨w.heap.size, 0, none⟩ = some (v) ∧ W.cell? ⟨w.heap.size, 1, none⟩ = some (.int .i64 (c)) ∧ W.cell? ⟨w.heap.size, 2, none⟩ = some (.string (p))) ∧ (W.cell? ⟨w2.heap.size, 0, none⟩ = some (.slice a1 n1 c1) ∧ W.cell? ⟨w2.heap.size, 1, none⟩ = some (.int .i64 (c)) ∧ W.cell? ⟨w2.heap.size, 2, none⟩ = some (.string (p)))) from ⟨hW, (three_cells (RB.out.keep hW)).1, (three_cells (RW.out.keep hW)).1⟩))
    have HBR := Lib.hid (Below.refl w6.heap.size w6)
    obtain ⟨⟨RBc0, RBc1, RBc2⟩, RBf0, RBf1, RBf2⟩ := three_cells RB.out
    obtain ⟨⟨RWc0, RWc1, RWc2⟩, RWf0, RWf1, RWf2⟩ := three_cells RW.out
    go_wp2_with fail
    clear RBc0 RBc1 RBc2 RBf0 RBf1 RBf2
    clear RWc0 RWc1 RWc2 RWf0 RWf1 RWf2
    go_region_held3 (fun W => (Below w6.heap.size w6 W ∧ (W.cell? ⟨w.heap.size, 0, none⟩ = some (v) ∧ W.cell? ⟨w.heap.size, 1, none⟩ = some (.int .i64 (c)) ∧ W.cell? ⟨w.heap.size, 2, none⟩ = some (.string (p))) ∧ (W.cell? ⟨w2.heap.size, 0, none⟩ = some (.slice a1 n1 c1) ∧ W.cell? ⟨w2.heap.size, 1, none⟩ = some (.int .i64 (c)) ∧ W.cell? ⟨w2.heap.size, 2, none⟩ = some (.string (p)))))
      (first | exact HKP.out _ HBR.out | exact HKP.out _ HBR.out.drew | go_keep)
      (first
       | (go_at_call 22; (first | (with_reducible refine (check8_any v xs c p pl _ (HL.out.keep (Below.refl _ _).drew) HP.out HF.out (HT.out.keep (Below.refl _ _).drew)).mono ?_) | (with_reducible refine (check8_any v xs c p pl _ HL.out HP.out HF.out HT.out).mono ?_)); rw [HV.out, if_neg (show ¬ (false = true) by simp)]; rintro e w99 ⟨he, hb⟩; subst he; (try have hb := Below.trans (Below.refl _ _).drew hb); have HBR := Lib.hid (HBR.out.trans (hb.mono HBR.out.size)); (try have HT := Lib.hid (HT.out.keep hb)); (try have HL := Lib.hid (HL.out.keep hb)); (try have RB := Lib.hid (RB.out.keep hb)); (try have HLW := Lib.hid (HLW.out.keep hb)); (try have RW := Lib.hid (RW.out.keep hb)); clear hb)
       | (go_at_call 23; (first | (with_reducible refine (raw8_any v xs c p pl _ (HL.out.keep (Below.refl _ _).drew) HP.out HF.out (HT.out.keep (Below.refl _ _).drew)).mono ?_) | (with_reducible refine (raw8_any v xs c p pl _ HL.out HP.out HF.out HT.out).mono ?_)); rw [HRX.out]; rintro e w99 ⟨he, hb⟩; subst he; (try have hb := Below.trans (Below.refl _ _).drew hb); have HBR := Lib.hid (HBR.out.trans (hb.mono HBR.out.size)); (try have HT := Lib.hid (HT.out.keep hb)); (try have HL := Lib.hid (HL.out.keep hb)); (try have RB := Lib.hid (RB.out.keep hb)); (try have HLW := Lib.hid (HLW.out.keep hb)); (try have RW := Lib.hid (RW.out.keep hb)); clear hb)
       | (go_at_call 24; (first | (with_reducible refine (rraw8_any _ xs c p pl _ (HLW.out.keep (Below.refl _ _).drew) HP.out HF.out).mono ?_) | (with_reducible refine (rraw8_any _ xs c p pl _ HLW.out HP.out HF.out).mono ?_)); rw [HRX.out]; rintro e w99 ⟨he, hb⟩; subst he; (try have hb := Below.trans (Below.refl _ _).drew hb); have HBR := Lib.hid (HBR.out.trans (hb.mono HBR.out.size)); (try have HT := Lib.hid (HT.out.keep hb)); (try have HL := Lib.hid (HL.out.keep hb)); (try have RB := Lib.hid (RB.out.keep hb)); (try have HLW := Lib.hid (HLW.out.keep hb)); (try have RW := Lib.hid (RW.out.keep hb)); clear hb)
       | (go_at_call 25; (first | (with_reducible refine (same8_any _ _ xs xs c c p p pl pl _ (HL.out.keep (Below.refl _ _).drew) (HLW.out.keep (Below.refl _ _).drew) HP.out HP.out hn2 (Nat.le_trans hn2 (by decide))).mono ?_) | (with_reducible refine (same8_any _ _ xs xs c c p p pl pl _ HL.out HLW.out HP.out HP.out hn2 (Nat.le_trans hn2 (by decide))).mono ?_)); rw [same_yes]; rintro e w99 ⟨he, hb⟩; subst he; (try have hb := Below.trans (Below.refl _ _).drew hb); have HBR := Lib.hid (HBR.out.trans (hb.mono HBR.out.size)); (try have HT := Lib.hid (HT.out.keep hb)); (try have HL := Lib.hid (HL.out.keep hb)); (try have RB := Lib.hid (RB.out.keep hb)); (try have HLW := Lib.hid (HLW.out.keep hb)); (try have RW := Lib.hid (RW.out.keep hb)); clear hb)
       | (go_at_call 26; (first | (with_reducible refine (works_any _ (HT.out.keep (Below.refl _ _).drew)).mono ?_) | (with_reducible refine (works_any _ HT.out).mono ?_)); rintro e w99 ⟨he, hb⟩; subst he; (try have hb := Below.trans (Below.refl _ _).drew hb); have HBR := Lib.hid (HBR.out.trans (hb.mono HBR.out.size)); (try have HT := Lib.hid (HT.out.keep hb)); (try have HL := Lib.hid (HL.out.keep hb)); (try have RB := Lib.hid (RB.out.keep hb)); (try have HLW := Lib.hid (HLW.out.keep hb)); (try have RW := Lib.hid (RW.out.keep hb)); clear hb))
    all_goals
      (rename_i hHeld
       clear hHeld
       go_wp2_with fail
       go_ret
       exact ⟨rfl, by first | exact (HB.out.trans (HBR.out.mono HB.out.size)) | exact (HB.out.trans (HBR.out.mono HB.out.size)).drew⟩)
  · obtain ⟨⟨RBc0, RBc1, RBc2⟩, RBf0, RBf1, RBf2⟩ := three_cells RB.out
    go_wp2_with fail
    clear RBc0 RBc1 RBc2 RBf0 RBf1 RBf2
    with_reducible refine (text8_any v xs c p pl _ HL.out HP.out HF.out HT.out).mono ?_
    rw [HTX.out]
    rintro e w5 ⟨rfl, hb⟩
    have HB := Lib.hid (HB.out.trans (hb.mono HB.out.size))
    have HT := Lib.hid (HT.out.keep hb)
    have HL := Lib.hid (HL.out.keep hb)
    have RB := Lib.hid (RB.out.keep hb)
    have HLW := Lib.hid (HLW.out.keep hb)
    have RW := Lib.hid (RW.out.keep hb)
    clear hb
    obtain ⟨⟨RWc0, RWc1, RWc2⟩, RWf0, RWf1, RWf2⟩ := three_cells RW.out
    go_wp2_with fail
    clear RWc0 RWc1 RWc2 RWf0 RWf1 RWf2
    with_reducible refine (rtext8_any _ xs c p pl _ HLW.out HP.out HF.out).mono ?_
    rw [HTX.out]
    rintro e w6 ⟨rfl, hb⟩
    have HB := Lib.hid (HB.out.trans (hb.mono HB.out.size))
    have HT := Lib.hid (HT.out.keep hb)
    have HL := Lib.hid (HL.out.keep hb)
    have RB := Lib.hid (RB.out.keep hb)
    have HLW := Lib.hid (HLW.out.keep hb)
    have RW := Lib.hid (RW.out.keep hb)
    clear hb
    have HKP := Lib.hid (fun (W : World) (hW : Below w6.heap.size w6 W) => (show (Below w6.heap.size w6 W ∧ (W.cell? ⟨w.heap.size, 0, none⟩ = some (v) ∧ W.cell? ⟨w.heap.size, 1, none⟩ = some (.int .i64 (c)) ∧ W.cell? ⟨w.heap.size, 2, none⟩ = some (.string (p))) ∧ (W.cell? ⟨w2.heap.size, 0, none⟩ = some (.slice a1 n1 c1) ∧ W.cell? ⟨w2.heap.size, 1, none⟩ = some (.int .i64 (c)) ∧ W.cell? ⟨w2.heap.size, 2, none⟩ = some (.string (p)))) from ⟨hW, (three_cells (RB.out.keep hW)).1, (three_cells (RW.out.keep hW)).1⟩))
    have HBR := Lib.hid (Below.refl w6.heap.size w6)
    obtain ⟨⟨RBc0, RBc1, RBc2⟩, RBf0, RBf1, RBf2⟩ := three_cells RB.out
    obtain ⟨⟨RWc0, RWc1, RWc2⟩, RWf0, RWf1, RWf2⟩ := three_cells RW.out
    go_wp2_with fail
    clear RBc0 RBc1 RBc2 RBf0 RBf1 RBf2
    clear RWc0 RWc1 RWc2 RWf0 RWf1 RWf2
    go_region_held3 (fun W => (Below w6.heap.size w6 W ∧ (W.cell? ⟨w.heap.size, 0, none⟩ = some (v) ∧ W.cell? ⟨w.heap.size, 1, none⟩ = some (.int .i64 (c)) ∧ W.cell? ⟨w.heap.size, 2, none⟩ = some (.string (p))) ∧ (W.cell? ⟨w2.heap.size, 0, none⟩ = some (.slice a1 n1 c1) ∧ W.cell? ⟨w2.heap.size, 1, none⟩ = some (.int .i64 (c)) ∧ W.cell? ⟨w2.heap.size, 2, none⟩ = some (.string (p)))))
      (first | exact HKP.out _ HBR.out | exact HKP.out _ HBR.out.drew | go_keep)
      (first
       | (go_at_call 22; (first | (with_reducible refine (check8_any v xs c p pl _ (HL.out.keep (Below.refl _ _).drew) HP.out HF.out (HT.out.keep (Below.refl _ _).drew)).mono ?_) | (with_reducible refine (check8_any v xs c p pl _ HL.out HP.out HF.out HT.out).mono ?_)); rw [HV.out, if_pos rfl]; rintro e w99 ⟨he, hb⟩; subst he; (try have hb := Below.trans (Below.refl _ _).drew hb); have HBR := Lib.hid (HBR.out.trans (hb.mono HBR.out.size)); (try have HT := Lib.hid (HT.out.keep hb)); (try have HL := Lib.hid (HL.out.keep hb)); (try have RB := Lib.hid (RB.out.keep hb)); (try have HLW := Lib.hid (HLW.out.keep hb)); (try have RW := Lib.hid (RW.out.keep hb)); clear hb)
       | (go_at_call 23; (first | (with_reducible refine (raw8_any v xs c p pl _ (HL.out.keep (Below.refl _ _).drew) HP.out HF.out (HT.out.keep (Below.refl _ _).drew)).mono ?_) | (with_reducible refine (raw8_any v xs c p pl _ HL.out HP.out HF.out HT.out).mono ?_)); rw [HRX.out]; rintro e w99 ⟨he, hb⟩; subst he; (try have hb := Below.trans (Below.refl _ _).drew hb); have HBR := Lib.hid (HBR.out.trans (hb.mono HBR.out.size)); (try have HT := Lib.hid (HT.out.keep hb)); (try have HL := Lib.hid (HL.out.keep hb)); (try have RB := Lib.hid (RB.out.keep hb)); (try have HLW := Lib.hid (HLW.out.keep hb)); (try have RW := Lib.hid (RW.out.keep hb)); clear hb)
       | (go_at_call 24; (first | (with_reducible refine (rraw8_any _ xs c p pl _ (HLW.out.keep (Below.refl _ _).drew) HP.out HF.out).mono ?_) | (with_reducible refine (rraw8_any _ xs c p pl _ HLW.out HP.out HF.out).mono ?_)); rw [HRX.out]; rintro e w99 ⟨he, hb⟩; subst he; (try have hb := Below.trans (Below.refl _ _).drew hb); have HBR := Lib.hid (HBR.out.trans (hb.mono HBR.out.size)); (try have HT := Lib.hid (HT.out.keep hb)); (try have HL := Lib.hid (HL.out.keep hb)); (try have RB := Lib.hid (RB.out.keep hb)); (try have HLW := Lib.hid (HLW.out.keep hb)); (try have RW := Lib.hid (RW.out.keep hb)); clear hb)
       | (go_at_call 25; (first | (with_reducible refine (same8_any _ _ xs xs c c p p pl pl _ (HL.out.keep (Below.refl _ _).drew) (HLW.out.keep (Below.refl _ _).drew) HP.out HP.out hn2 (Nat.le_trans hn2 (by decide))).mono ?_) | (with_reducible refine (same8_any _ _ xs xs c c p p pl pl _ HL.out HLW.out HP.out HP.out hn2 (Nat.le_trans hn2 (by decide))).mono ?_)); rw [same_yes]; rintro e w99 ⟨he, hb⟩; subst he; (try have hb := Below.trans (Below.refl _ _).drew hb); have HBR := Lib.hid (HBR.out.trans (hb.mono HBR.out.size)); (try have HT := Lib.hid (HT.out.keep hb)); (try have HL := Lib.hid (HL.out.keep hb)); (try have RB := Lib.hid (RB.out.keep hb)); (try have HLW := Lib.hid (HLW.out.keep hb)); (try have RW := Lib.hid (RW.out.keep hb)); clear hb)
       | (go_at_call 26; (first | (with_reducible refine (works_any _ (HT.out.keep (Below.refl _ _).drew)).mono ?_) | (with_reducible refine (works_any _ HT.out).mono ?_)); rintro e w99 ⟨he, hb⟩; subst he; (try have hb := Below.trans (Below.refl _ _).drew hb); have HBR := Lib.hid (HBR.out.trans (hb.mono HBR.out.size)); (try have HT := Lib.hid (HT.out.keep hb)); (try have HL := Lib.hid (HL.out.keep hb)); (try have RB := Lib.hid (RB.out.keep hb)); (try have HLW := Lib.hid (HLW.out.keep hb)); (try have RW := Lib.hid (RW.out.keep hb)); clear hb))
    all_goals
      (rename_i hHeld
       clear hHeld
       go_wp2_with fail
       go_ret
       exact ⟨rfl, by first | exact (HB.out.trans (HBR.out.mono HB.out.size)) | exact (HB.out.trans (HBR.out.mono HB.out.size)).drew⟩)

theorem laidOut : laidOutB Tryz.prog = true := by kernel_rfl
set_option maxRecDepth 100000 in
theorem contract (H : Type) (enc : TypeId × Value → H) (W : World) (base : Nat) (args : Array Value) (ds gs : List (DataW H)) (before : List MemPlace)
    (hval : ∀ (j : Nat) t v, Tryz.f4.params[j]? = some t → args[j]? = some v → Value.okWide Tryz.prog W .any base t v)
    (hW : DataW.Whole enc Tryz.prog Tryz.f4.params.toList Rows.composeChecksSpec.vars false W args.toList ds gs before) (hL : laidMetH Tryz.prog Rows.composeChecksRow.laid W) (hS : W.ShapedOpen Tryz.prog) (hC : Rows.uptoSmall H (ds ++ gs) = true)
    (hR : (DataW.weightsEach Tryz.prog (Tryz.f4.params.toList ++ (OpenSpec.ofChange Rows.composeChecksSpec).bare.plain.varTypes Tryz.prog) (ds ++ gs)).all (· ≤ reachBytes) = true) :
    Calls Tryz.prog 4 args W fun e W' => ∃ v, e = .returned v ∧ Rows.composeChecksSpec.post enc Tryz.prog Tryz.f4 false true false false W args v W' := by
  have hT : Tabs W := rtabs_of_laid hL hS
  have hW' := hW
  obtain ⟨p, q, hA0, hV, rfl, hfz, hnd⟩ := hW
  have hA : DataW.TrodAll enc Tryz.prog W 0 (fun _ => true) true Tryz.f4.params.toList args.toList ds p := hA0
  rw [Tryz.params4] at hA hval hR
  obtain ⟨v0, vs0, d0, ds0, p0, q0, hargs, rfl, rfl, h0, r0⟩ := trodAll_cons hA
  obtain ⟨rfl, rfl, rfl⟩ := trodAll_nil r0
  obtain rfl : args = #[v0] := by cases args; simp_all
  obtain ⟨rfl, rfl⟩ := trodVars_none hV
  clear hA0
  simp only [List.append_nil] at hW' hR
  have k0 := h0
  have l0 : ∀ x ∈ p0, x.block < W.heap.size := fun x hx => by simpa using hW'.lt x (by simp [hx])
  have hB : Rows.uptoBulkAll _ ≤ 1048576 := of_decide_eq_true hC
  simp only [List.append_nil, Rows.uptoBulkAll] at hB
  have b0 : Rows.uptoBulk d0 ≤ 1048576 := by omega
  obtain ⟨u0, xs0, c0, pb0, rfl, hl0, hf0, _, _⟩ := open_bufB (hval 0 33 v0 rfl rfl) h0 b0 (by decide)
  refine (walk W u0 xs0 c0 pb0 hl0 hf0 hT).mono fun e W' ⟨he, bel⟩ => ?_
  subst he
  exact ⟨_, rfl, _, _, _, [], _, [], hW', trodAll_mk1 (shut_bool Tryz.underlying4 _), (trodAll_cons_mk (Below.trod laidOut (by kernel_rfl) (of_decide_eq_true (by kernel_rfl)) k0 bel l0) trodAll_mk0), rfl, bel.frame _, fun h => by cases h⟩

theorem reads (os : Os) {H : Type} (enc : TypeId × Value → H) : ∃ places, DataW.whole enc Tryz.prog ((laidWorldR os).forCall (fun _ _ => 0) ⟨#[], #[.agg #[.slice none 0 0, .int .i64 0, .string ⟨#[]⟩]], []⟩).memory Tryz.f4.params.toList Rows.composeChecksSpec.vars false #[.agg #[.slice none 0 0, .int .i64 0, .string ⟨#[]⟩]].toList 8 = some ([.agg [.nil, .lit (.int .i64 0), .lit (.string [])]], [], places) :=
  ⟨[], by kernel_rfl⟩

set_option maxRecDepth 100000 in
theorem lifted (os : Os) (started : os.Started) (H : Type) (enc : TypeId × Value → H) (F : Stop.Interp) :
    ReturnsInHanded {} Tryz.checked os 4 .any ((Rows.OpenSpec.upto Rows.composeChecksSpec).preRow enc Tryz.prog Tryz.f4 Rows.composeChecksUptoRow.domain false Rows.composeChecksUptoRow.laid) (((Rows.OpenSpec.upto Rows.composeChecksSpec).at F).post enc Tryz.prog Tryz.f4 false true false false) := by
  obtain ⟨places, hx⟩ := reads os enc
  refine returnsInHanded_of_row (C := Tryz.checked) (s := (Rows.OpenSpec.upto Rows.composeChecksSpec)) own started (by kernel_rfl) Tryz.func4
    (witness_row_at (enc := enc) (C := Tryz.checked) false (laidWorldR os) #[.agg #[.slice none 0 0, .int .i64 0, .string ⟨#[]⟩]] rfl (by kernel_rfl) (by kernel_rfl) (by kernel_rfl)
      (OpenSpec.preRow_of_cond 8 hx (by kernel_rfl) (fun k hk => by cases hk; kernel_rfl) (by kernel_rfl) (laid_metR os _))) ?_
  intro W base args ds gs before hval hW _ hcond hR hL hS _
  exact contract H enc W base args ds gs before hval hW hL hS (hcond _ rfl) hR

theorem said : Rows.ComposeChecksUptoSaid :=
  OpenClaim.holds_of_cond 4 Tryz.f4 rfl rfl rfl rfl rfl rfl rfl ⟨rfl, rfl, rfl, rfl, rfl⟩ rfl rfl rfl rfl rfl (by kernel_rfl) Tryz.func4 (by kernel_rfl)
    (of_decide_eq_true (by kernel_rfl)) (by unfold Func.isWrapper; first | (rw [if_pos (by decide +kernel)]; kernel_rfl) | (rw [if_neg (by decide +kernel)]; exact ⟨rfl, rfl⟩))
    (fun os started H enc _ F => by rw [OpenClaim.pre_eq_preRow]; exact lifted os started H enc F)

theorem plain (f : FuncId) (fn : Func) (hf : Tryz.pinned.checked.prog.funcNamed "henkan/henkanlaw08.ComposeChecks" = some f) (hfn : Tryz.pinned.checked.prog.funcs[f]? = some fn) :
    false = Tryz.pinned.checked.prog.looks [] ∧ ∀ (j : Nat) t, fn.params[j]? = some t → Tryz.pinned.checked.prog.wantsStandIn t = false := by
  obtain rfl : f = 4 := Option.some.inj ((show Tryz.prog.funcNamed "henkan/henkanlaw08.ComposeChecks" = some 4 by kernel_rfl).symm.trans hf) |>.symm
  obtain rfl : fn = Tryz.f4 := (Option.some.inj (Tryz.func4.symm.trans hfn)).symm
  refine ⟨by kernel_rfl, fun j t ht => ?_⟩
  rw [Tryz.params4] at ht
  have hm := Array.mem_of_getElem? ht
  simp only [List.mem_toArray, List.mem_cons, List.not_mem_nil, or_false] at hm
  subst hm
  exact (show Tryz.prog.wantsStandIn 33 = false by kernel_rfl)

/-- the card -/
theorem proved : Rows.ComposeChecksUptoCardSaid :=
  Claim7.holds_tied_plain_at .later [] _ _ _ _ said (fun _ h => by cases h) (by kernel_rfl) (fun _ h => by cases h) composeChecksUpto_row_tie rfl ⟨rfl, rfl⟩ (by kernel_rfl) rfl plain (by kernel_rfl)
#print axioms proved
end Go.Proofs.YtgdcffahhpeibaaGreatDoor.composeChecks
