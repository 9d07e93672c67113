/-
  Buffers are changed as the document says, and stay as they were. The arguments are of bulk at most 1048576.
-/
import Derived.Deep.RegionHeld3
import Derived.Test.YtgdcffahhpeibaaGreatDoorCpMore
import Derived.Carry
import Derived.Laws.AppendOwnNone
namespace Go.Proofs.YtgdcffahhpeibaaGreatDoor.composeEdits
open Go.ChangeShapes Go.WideShapes Go.ChangeAt Go.RowKit
open Go.ChangeMaps (open_string)
set_option linter.unusedVariables false

set_option maxRecDepth 100000 in
set_option maxHeartbeats 16000000 in
theorem walk (w : World) (vr : Value) (rs : List RuleB) (hlr : LieR vr rs w) (hrn : rs.length ≤ 1048576) (hrz : ∀ r ∈ rs, r.1.size ≤ 1048576 ∧ r.2.1.size ≤ 1048576 ∧ r.2.2.size ≤ 1048576) (v : Value) (xs : List Cp.Item) (c : Int) (p : ByteArray) (hl : LieG itemE v xs w) (hf : Fits xs p.data.toList) (s1 : ByteArray) (hs1 : s1.size ≤ 1048576) (s2 : ByteArray) (hs2 : s2.size ≤ 1048576) (z : Int) (hwf : (Lit.int .i64 z).wf = true) (ht : Tabs w) :
    Calls Tryz.prog 9 #[vr, bufV v c p, .string s1, .string s2, .int .i64 z] w fun e w' => e = .returned (.bool true) ∧ Below w.heap.size w w' := by
  have HB := Lib.hid (Below.refl w.heap.size w)
  have HT := Lib.hid ht
  clear ht
  have hIs := Is.of p
  obtain ⟨pl, hpl⟩ : ∃ pl, p.data.toList = pl := ⟨_, rfl⟩
  rw [hpl] at hIs hf
  have HP := Lib.hid hIs
  have HPB := Eqq.mk hIs.ba
  have HF := Lib.hid hf
  have HL := Lib.hid hl
  have hn2 := hf.n
  clear hIs hpl hf hl
  have HLR := Lib.hid hlr
  have HSH := Lib.hid (show Short3 rs from fun r hr => by have h := hrz r hr; omega)
  clear hlr hrz
  have hI1 := Is.of s1
  have hI2 := Is.of s2
  obtain ⟨rl, hrl⟩ : ∃ rl, s1.data.toList = rl := ⟨_, rfl⟩
  obtain ⟨ol, hol⟩ : ∃ ol, s2.data.toList = ol := ⟨_, rfl⟩
  rw [hrl] at hI1
  rw [hol] at hI2
  have HI1 := Lib.hid hI1
  have HI2 := Lib.hid hI2
  have hz1 : s1.size ≤ 2000000 := by omega
  have hz2 : s2.size ≤ 2000000 := by omega
  have HRZ := Lib.hid (show rl.length ≤ 2000000 by rw [← hI1.size]; exact hz1)
  clear hI1 hI2 hrl hol hs1 hs2 hwf
  obtain ⟨w1, hwx⟩ : ∃ W, w.alloc (.cells #[v, .int .i64 c, .string p] 33) = W := ⟨_, rfl⟩
  have HWX1 := Eqq.mk hwx
  have hb : Below w.heap.size w w1 := by rw [← hwx]; exact (Below.refl _ _).alloc (Nat.le_refl _) _
  have HB := Lib.hid (HB.out.trans (hb.mono HB.out.size))
  have HT := Lib.hid (HT.out.keep hb)
  have HL := Lib.hid (HL.out.keep hb)
  have HLR := Lib.hid (HLR.out.keep hb)
  have RB := Lib.hid (show RowIs 33 w.heap.size (v) (c) (p) w1 from by rw [← hwx]; exact RowIs.new _ _ _ _ _)
  clear hb hwx
  go_enter Tryz.func9, Tryz.ntmps9
  go_wp2_with fail
  rw [HWX1.out]
  with_reducible refine (new_any vr rs _ HLR.out (Nat.le_trans hrn (by decide)) HSH.out HT.out).mono ?_
  rintro e w2 ⟨hv, hb⟩
  have HB := Lib.hid (HB.out.trans (hb.mono HB.out.size))
  have HT := Lib.hid (HT.out.keep hb)
  have HL := Lib.hid (HL.out.keep hb)
  have HLR := Lib.hid (HLR.out.keep hb)
  have RB := Lib.hid (RB.out.keep hb)
  clear hb
  rcases hv with ⟨hne, rfl⟩ | ⟨hok, a, rfl, ha⟩
  · obtain ⟨E, hE⟩ : ∃ E, Ro.check (rulesL rs) = E := ⟨_, rfl⟩
    have HE := Eqq.mk hE
    rw [hE] at hne
    rw [hE]
    have i0 : ¬ ((E : Nat) : Int) = 0 := by omega
    have i1 : (((E : Nat) : Int) == 0) = false := by rw [beq_eq_false_iff_ne]; exact i0
    clear hne hE
    go_wp2_with fail
    with_reducible refine (works_any _ HT.out).mono ?_
    rintro e w3 ⟨rfl, hb⟩
    have HB := Lib.hid (HB.out.trans (hb.mono HB.out.size))
    have HT := Lib.hid (HT.out.keep hb)
    have HL := Lib.hid (HL.out.keep hb)
    have HLR := Lib.hid (HLR.out.keep hb)
    have RB := Lib.hid (RB.out.keep hb)
    clear hb
    go_wp2_with fail
    go_ret
    exact ⟨rfl, by first | exact HB.out | exact HB.out.drew⟩
  · have HOK := Eqq.mk hok
    have HA := Lib.hid (show AutoAt rs a w2 from ha)
    have hr500 : rs.length ≤ 500 := by have h := ((Ro.check_zero (rulesL rs)).1 hok).1; unfold rulesL at h; rw [List.length_map] at h; exact h
    clear hok ha
    obtain ⟨⟨RBc0, RBc1, RBc2⟩, RBf0, RBf1, RBf2⟩ := three_cells RB.out
    go_wp2_with fail
    clear RBc0 RBc1 RBc2 RBf0 RBf1 RBf2
    with_reducible refine (given9_any v xs c p _ HL.out hn2).mono ?_
    rintro e w3 ⟨⟨a1, n1, c1, rfl, ho⟩, hb⟩
    have HB := Lib.hid (HB.out.trans (hb.mono HB.out.size))
    have HT := Lib.hid (HT.out.keep hb)
    have HL := Lib.hid (HL.out.keep hb)
    have HLR := Lib.hid (HLR.out.keep hb)
    have RB := Lib.hid (RB.out.keep hb)
    have HA := Lib.hid (HA.out.keep hb)
    have HLW := Lib.hid ho
    clear ho
    clear hb
    obtain ⟨w4, hwx⟩ : ∃ W, w3.alloc (.cells #[.slice a1 n1 c1, .int .i64 c, .string p] 42) = W := ⟨_, rfl⟩
    have HWX2 := Eqq.mk hwx
    have hb : Below w3.heap.size w3 w4 := by rw [← hwx]; exact (Below.refl _ _).alloc (Nat.le_refl _) _
    have HB := Lib.hid (HB.out.trans (hb.mono HB.out.size))
    have HT := Lib.hid (HT.out.keep hb)
    have HL := Lib.hid (HL.out.keep hb)
    have HLR := Lib.hid (HLR.out.keep hb)
    have RB := Lib.hid (RB.out.keep hb)
    have HA := Lib.hid (HA.out.keep hb)
    have HLW := Lib.hid (HLW.out.keep hb)
    have RW := Lib.hid (show RowIs 42 w3.heap.size (.slice a1 n1 c1) (c) (p) w4 from by rw [← hwx]; exact RowIs.new _ _ _ _ _)
    clear hb hwx
    obtain ⟨⟨⟨nx, nc, nl⟩, er⟩, hput⟩ : ∃ q, Cp.put ⟨xs, c, pl⟩ rl ol = q := ⟨_, rfl⟩
    have HPUT := Eqq.mk hput
    obtain ⟨np, hnp⟩ : ∃ np, ba nl = np := ⟨_, rfl⟩
    have HNP := Eqq.mk hnp
    have HNI := Lib.hid (show Is np nl by rw [← hnp]; exact is_ba nl)
    have HNX9 := Lib.hid (show nx.length ≤ 2000000 from by
      by_cases h0 : er = 0
      · subst h0; exact (put_fits hput HF.out HRZ.out).n
      · have h9 := Cp.put_zero (b := ⟨xs, c, pl⟩) (r := rl) (o := ol) (by rw [hput]; exact h0); rw [hput] at h9; injection h9 with h9; rw [h9]; simp)
    clear hput hnp
    obtain ⟨⟨RBc0, RBc1, RBc2⟩, RBf0, RBf1, RBf2⟩ := three_cells (show (w3.alloc (.cells #[.slice a1 n1 c1, .int .i64 c, .string p] 42)).heap[_]? = _ from by rw [HWX2.out]; exact RB.out)
    go_wp2_with fail
    clear RBc0 RBc1 RBc2 RBf0 RBf1 RBf2
    rw [HWX2.out]
    with_reducible refine (pput_any v xs c p pl s1 s2 rl ol _ HL.out HP.out HF.out HI1.out HI2.out hz1 hz2 HT.out).mono ?_
    rw [HPUT.out]
    rintro e w5 ⟨hr, hb⟩
    have HB := Lib.hid (HB.out.trans (hb.mono HB.out.size))
    have HT := Lib.hid (HT.out.keep hb)
    have HL := Lib.hid (HL.out.keep hb)
    have HLR := Lib.hid (HLR.out.keep hb)
    have RB := Lib.hid (RB.out.keep hb)
    have HA := Lib.hid (HA.out.keep hb)
    have HLW := Lib.hid (HLW.out.keep hb)
    have RW := Lib.hid (RW.out.keep hb)
    obtain ⟨a2, n2, c2, rfl, hn2x, ho⟩ := hr.open HNP.out
    have HLX := Lib.hid ho.lie
    clear ho hr hn2x
    clear hb
    obtain ⟨w6, hwx⟩ : ∃ W, w5.alloc (.cells #[.slice a2 n2 c2, .int .i64 nc, .string np] 33) = W := ⟨_, rfl⟩
    have HWX3 := Eqq.mk hwx
    have hb : Below w5.heap.size w5 w6 := by rw [← hwx]; exact (Below.refl _ _).alloc (Nat.le_refl _) _
    have HB := Lib.hid (HB.out.trans (hb.mono HB.out.size))
    have HT := Lib.hid (HT.out.keep hb)
    have HL := Lib.hid (HL.out.keep hb)
    have HLR := Lib.hid (HLR.out.keep hb)
    have RB := Lib.hid (RB.out.keep hb)
    have HA := Lib.hid (HA.out.keep hb)
    have HLW := Lib.hid (HLW.out.keep hb)
    have RW := Lib.hid (RW.out.keep hb)
    have HLX := Lib.hid (HLX.out.keep hb)
    have RX := Lib.hid (show RowIs 33 w5.heap.size (.slice a2 n2 c2) (nc) (np) w6 from by rw [← hwx]; exact RowIs.new _ _ _ _ _)
    clear hb hwx
    obtain ⟨⟨RWc0, RWc1, RWc2⟩, RWf0, RWf1, RWf2⟩ := three_cells (show (w5.alloc (.cells #[.slice a2 n2 c2, .int .i64 nc, .string np] 33)).heap[_]? = _ from by rw [HWX3.out]; exact RW.out)
    go_wp2_with fail
    clear RWc0 RWc1 RWc2 RWf0 RWf1 RWf2
    rw [HWX3.out]
    with_reducible refine (rput_any _ xs c p pl s1 s2 rl ol _ HLW.out HP.out HF.out HI1.out HI2.out hz1 hz2).mono ?_
    rw [HPUT.out]
    rintro e w7 ⟨hr, hb⟩
    have HB := Lib.hid (HB.out.trans (hb.mono HB.out.size))
    have HT := Lib.hid (HT.out.keep hb)
    have HL := Lib.hid (HL.out.keep hb)
    have HLR := Lib.hid (HLR.out.keep hb)
    have RB := Lib.hid (RB.out.keep hb)
    have HA := Lib.hid (HA.out.keep hb)
    have HLW := Lib.hid (HLW.out.keep hb)
    have RW := Lib.hid (RW.out.keep hb)
    have HLX := Lib.hid (HLX.out.keep hb)
    have RX := Lib.hid (RX.out.keep hb)
    obtain ⟨a3, n3, c3, rfl, hn3x, ho⟩ := hr.open HNP.out
    have HLY := Lib.hid ho.lie
    clear ho hr hn3x
    clear hb
    obtain ⟨w8, hwx⟩ : ∃ W, w7.alloc (.cells #[.slice a3 n3 c3, .int .i64 nc, .string np] 42) = W := ⟨_, rfl⟩
    have HWX4 := Eqq.mk hwx
    have hb : Below w7.heap.size w7 w8 := by rw [← hwx]; exact (Below.refl _ _).alloc (Nat.le_refl _) _
    have HB := Lib.hid (HB.out.trans (hb.mono HB.out.size))
    have HT := Lib.hid (HT.out.keep hb)
    have HL := Lib.hid (HL.out.keep hb)
    have HLR := Lib.hid (HLR.out.keep hb)
    have RB := Lib.hid (RB.out.keep hb)
    have HA := Lib.hid (HA.out.keep hb)
    have HLW := Lib.hid (HLW.out.keep hb)
    have RW := Lib.hid (RW.out.keep hb)
    have HLX := Lib.hid (HLX.out.keep hb)
    have RX := Lib.hid (RX.out.keep hb)
    have HLY := Lib.hid (HLY.out.keep hb)
    have RY := Lib.hid (show RowIs 42 w7.heap.size (.slice a3 n3 c3) (nc) (np) w8 from by rw [← hwx]; exact RowIs.new _ _ _ _ _)
    clear hb hwx
    obtain ⟨⟨flx, flc, fll⟩, hfl⟩ : ∃ q, Cp.flush (rulesL rs) ⟨xs, c, pl⟩ = q := ⟨_, rfl⟩
    have Hfl := Eqq.mk hfl
    obtain ⟨flp, hflp⟩ : ∃ b, ba fll = b := ⟨_, rfl⟩
    have HflP := Eqq.mk hflp
    have HflI := Lib.hid (show Is flp fll by rw [← hflp]; exact is_ba _)
    have HflN := Lib.hid (show flx.length ≤ 2000000 from by have h := flush_fits (l := rulesL rs) (b := ⟨xs, c, pl⟩) HF.out; rw [hfl] at h; exact h.n)
    clear hfl hflp
    obtain ⟨⟨bkx, bkc, bkl⟩, hbk⟩ : ∃ q, Cp.back ⟨xs, c, pl⟩ = q := ⟨_, rfl⟩
    have Hbk := Eqq.mk hbk
    obtain ⟨bkp, hbkp⟩ : ∃ b, ba bkl = b := ⟨_, rfl⟩
    have HbkP := Eqq.mk hbkp
    have HbkI := Lib.hid (show Is bkp bkl by rw [← hbkp]; exact is_ba _)
    have HbkN := Lib.hid (show bkx.length ≤ 2000000 from by have h := back_fits (b := ⟨xs, c, pl⟩) HF.out; rw [hbk] at h; exact h.n)
    clear hbk hbkp
    obtain ⟨⟨dlx, dlc, dll⟩, hdl⟩ : ∃ q, Cp.del ⟨xs, c, pl⟩ = q := ⟨_, rfl⟩
    have Hdl := Eqq.mk hdl
    obtain ⟨dlp, hdlp⟩ : ∃ b, ba dll = b := ⟨_, rfl⟩
    have HdlP := Eqq.mk hdlp
    have HdlI := Lib.hid (show Is dlp dll by rw [← hdlp]; exact is_ba _)
    have HdlN := Lib.hid (show dlx.length ≤ 2000000 from by have h := del_fits (b := ⟨xs, c, pl⟩) HF.out; rw [hdl] at h; exact h.n)
    clear hdl hdlp
    obtain ⟨⟨mvx, mvc, mvl⟩, hmv⟩ : ∃ q, Cp.move ⟨xs, c, pl⟩ z = q := ⟨_, rfl⟩
    have Hmv := Eqq.mk hmv
    obtain ⟨mvp, hmvp⟩ : ∃ b, ba mvl = b := ⟨_, rfl⟩
    have HmvP := Eqq.mk hmvp
    have HmvI := Lib.hid (show Is mvp mvl by rw [← hmvp]; exact is_ba _)
    have HmvN := Lib.hid (show mvx.length ≤ 2000000 from by have h := move_fits (b := ⟨xs, c, pl⟩) (z := z) HF.out; rw [hmv] at h; exact h.n)
    clear hmv hmvp
    have hrr : rs.length ≤ 1000000 := by omega
    have hrr2 : rs.length ≤ 1000000000000 := by omega
    have HKP := Lib.hid (fun (W : World) (hW : Below w8.heap.size w8 W) => (show (Below w8.heap.size w8 W ∧ (W.cell? ⟨w5.heap.size, 0, none⟩ = some (.slice a2 n2 c2) ∧ W.cell? ⟨w5.heap.size, 1, none⟩ = some (.int .i64 (nc)) ∧ W.cell? ⟨w5.heap.size, 2, none⟩ = some (.string (np))) ∧ (W.cell? ⟨w7.heap.size, 0, none⟩ = some (.slice a3 n3 c3) ∧ W.cell? ⟨w7.heap.size, 1, none⟩ = some (.int .i64 (nc)) ∧ W.cell? ⟨w7.heap.size, 2, none⟩ = some (.string (np))) ∧ (W.cell? ⟨w.heap.size, 0, none⟩ = some (v) ∧ W.cell? ⟨w.heap.size, 1, none⟩ = some (.int .i64 (c)) ∧ W.cell? ⟨w.heap.size, 2, none⟩ = some (.string (p))) ∧ (W.cell? ⟨w3.heap.size, 0, none⟩ = some (.slice a1 n1 c1) ∧ W.cell? ⟨w3.heap.size, 1, none⟩ = some (.int .i64 (c)) ∧ W.cell? ⟨w3.heap.size, 2, none⟩ = some (.string (p)))) from ⟨hW, (three_cells (RX.out.keep hW)).1, (three_cells (RY.out.keep hW)).1, (three_cells (RB.out.keep hW)).1, (three_cells (RW.out.keep hW)).1⟩))
    have HBR := Lib.hid (Below.refl w8.heap.size w8)
    obtain ⟨⟨RXc0, RXc1, RXc2⟩, RXf0, RXf1, RXf2⟩ := three_cells (show (w7.alloc (.cells #[.slice a3 n3 c3, .int .i64 nc, .string np] 42)).heap[_]? = _ from by rw [HWX4.out]; exact RX.out)
    obtain ⟨⟨RYc0, RYc1, RYc2⟩, RYf0, RYf1, RYf2⟩ := three_cells (show (w7.alloc (.cells #[.slice a3 n3 c3, .int .i64 nc, .string np] 42)).heap[_]? = _ from by rw [HWX4.out]; exact RY.out)
    obtain ⟨⟨RBc0, RBc1, RBc2⟩, RBf0, RBf1, RBf2⟩ := three_cells (show (w7.alloc (.cells #[.slice a3 n3 c3, .int .i64 nc, .string np] 42)).heap[_]? = _ from by rw [HWX4.out]; exact RB.out)
    obtain ⟨⟨RWc0, RWc1, RWc2⟩, RWf0, RWf1, RWf2⟩ := three_cells (show (w7.alloc (.cells #[.slice a3 n3 c3, .int .i64 nc, .string np] 42)).heap[_]? = _ from by rw [HWX4.out]; exact RW.out)
    go_wp2_with fail
    clear RXc0 RXc1 RXc2 RXf0 RXf1 RXf2
    clear RYc0 RYc1 RYc2 RYf0 RYf1 RYf2
    clear RBc0 RBc1 RBc2 RBf0 RBf1 RBf2
    clear RWc0 RWc1 RWc2 RWf0 RWf1 RWf2
    rw [HWX4.out]
    go_region_held3 (fun W => (Below w8.heap.size w8 W ∧ (W.cell? ⟨w5.heap.size, 0, none⟩ = some (.slice a2 n2 c2) ∧ W.cell? ⟨w5.heap.size, 1, none⟩ = some (.int .i64 (nc)) ∧ W.cell? ⟨w5.heap.size, 2, none⟩ = some (.string (np))) ∧ (W.cell? ⟨w7.heap.size, 0, none⟩ = some (.slice a3 n3 c3) ∧ W.cell? ⟨w7.heap.size, 1, none⟩ = some (.int .i64 (nc)) ∧ W.cell? ⟨w7.heap.size, 2, none⟩ = some (.string (np))) ∧ (W.cell? ⟨w.heap.size, 0, none⟩ = some (v) ∧ W.cell? ⟨w.heap.size, 1, none⟩ = some (.int .i64 (c)) ∧ W.cell? ⟨w.heap.size, 2, none⟩ = some (.string (p))) ∧ (W.cell? ⟨w3.heap.size, 0, none⟩ = some (.slice a1 n1 c1) ∧ W.cell? ⟨w3.heap.size, 1, none⟩ = some (.int .i64 (c)) ∧ W.cell? ⟨w3.heap.size, 2, none⟩ = some (.string (p)))))
      (first | exact HKP.out _ HBR.out | exact HKP.out _ HBR.out.drew | go_keep)
      (first
       | (go_at_call 25; (first | (with_reducible refine (same8_any _ _ nx nx nc nc np np nl nl _ (HLX.out.keep (Below.refl _ _).drew) (HLY.out.keep (Below.refl _ _).drew) HNI.out HNI.out HNX9.out (Nat.le_trans HNX9.out (by decide))).mono ?_) | (with_reducible refine (same8_any _ _ nx nx nc nc np np nl nl _ HLX.out HLY.out HNI.out HNI.out HNX9.out (Nat.le_trans HNX9.out (by decide))).mono ?_)); rw [same_yes]; rintro e w99 ⟨he, hb⟩; subst he; (try have hb := Below.trans (Below.refl _ _).drew hb); have HBR := Lib.hid (HBR.out.trans (hb.mono HBR.out.size)); (try have HT := Lib.hid (HT.out.keep hb)); (try have HL := Lib.hid (HL.out.keep hb)); (try have HLR := Lib.hid (HLR.out.keep hb)); (try have RB := Lib.hid (RB.out.keep hb)); (try have HA := Lib.hid (HA.out.keep hb)); (try have HLW := Lib.hid (HLW.out.keep hb)); (try have RW := Lib.hid (RW.out.keep hb)); (try have HLX := Lib.hid (HLX.out.keep hb)); (try have RX := Lib.hid (RX.out.keep hb)); (try have HLY := Lib.hid (HLY.out.keep hb)); (try have RY := Lib.hid (RY.out.keep hb)); (try have HFLP := Lib.hid (HFLP.out.keep hb)); (try have HR5 := Lib.hid (HR5.out.keep hb)); (try have HFLR := Lib.hid (HFLR.out.keep hb)); clear hb)
       | (go_at_call 34; (first | (with_reducible refine (pflush_any _ a rs v xs c p pl _ (HA.out.keep (Below.refl _ _).drew) (Nat.le_refl _) (HL.out.keep (Below.refl _ _).drew) HP.out HF.out (HT.out.keep (Below.refl _ _).drew)).mono ?_) | (with_reducible refine (pflush_any _ a rs v xs c p pl _ HA.out (Nat.le_refl _) HL.out HP.out HF.out HT.out).mono ?_)); rw [Hfl.out]; rintro e w99 ⟨hr, hb⟩; (try have hb := Below.trans (Below.refl _ _).drew hb); have HBR := Lib.hid (HBR.out.trans (hb.mono HBR.out.size)); (try have HT := Lib.hid (HT.out.keep hb)); (try have HL := Lib.hid (HL.out.keep hb)); (try have HLR := Lib.hid (HLR.out.keep hb)); (try have RB := Lib.hid (RB.out.keep hb)); (try have HA := Lib.hid (HA.out.keep hb)); (try have HLW := Lib.hid (HLW.out.keep hb)); (try have RW := Lib.hid (RW.out.keep hb)); (try have HLX := Lib.hid (HLX.out.keep hb)); (try have RX := Lib.hid (RX.out.keep hb)); (try have HLY := Lib.hid (HLY.out.keep hb)); (try have RY := Lib.hid (RY.out.keep hb)); (try have HFLP := Lib.hid (HFLP.out.keep hb)); (try have HR5 := Lib.hid (HR5.out.keep hb)); (try have HFLR := Lib.hid (HFLR.out.keep hb)); obtain ⟨af1, nf1, cf1, he, hxf1, ho⟩ := hr.open HflP.out; subst he; have HFLP := Lib.hid ho.lie; clear ho hr hxf1; clear hb)
       | (go_at_call 28; (first | (with_reducible refine (rules9_any vr rs _ (HLR.out.keep (Below.refl _ _).drew) hrr).mono ?_) | (with_reducible refine (rules9_any vr rs _ HLR.out hrr).mono ?_)); rintro e w99 ⟨⟨v51, he, hlr5⟩, hb⟩; subst he; (try have hb := Below.trans (Below.refl _ _).drew hb); have HBR := Lib.hid (HBR.out.trans (hb.mono HBR.out.size)); (try have HT := Lib.hid (HT.out.keep hb)); (try have HL := Lib.hid (HL.out.keep hb)); (try have HLR := Lib.hid (HLR.out.keep hb)); (try have RB := Lib.hid (RB.out.keep hb)); (try have HA := Lib.hid (HA.out.keep hb)); (try have HLW := Lib.hid (HLW.out.keep hb)); (try have RW := Lib.hid (RW.out.keep hb)); (try have HLX := Lib.hid (HLX.out.keep hb)); (try have RX := Lib.hid (RX.out.keep hb)); (try have HLY := Lib.hid (HLY.out.keep hb)); (try have RY := Lib.hid (RY.out.keep hb)); (try have HFLP := Lib.hid (HFLP.out.keep hb)); (try have HR5 := Lib.hid (HR5.out.keep hb)); (try have HFLR := Lib.hid (HFLR.out.keep hb)); have HR5 := Lib.hid hlr5; clear hlr5; clear hb)
       | (go_at_call 36; (first | (with_reducible refine (rflush8_any v51 rs _ xs c p pl _ (HR5.out.keep (Below.refl _ _).drew) HOK.out hrr2 (HLW.out.keep (Below.refl _ _).drew) HP.out HF.out).mono ?_) | (with_reducible refine (rflush8_any v51 rs _ xs c p pl _ HR5.out HOK.out hrr2 HLW.out HP.out HF.out).mono ?_)); rw [Hfl.out]; rintro e w99 ⟨hr, hb⟩; (try have hb := Below.trans (Below.refl _ _).drew hb); have HBR := Lib.hid (HBR.out.trans (hb.mono HBR.out.size)); (try have HT := Lib.hid (HT.out.keep hb)); (try have HL := Lib.hid (HL.out.keep hb)); (try have HLR := Lib.hid (HLR.out.keep hb)); (try have RB := Lib.hid (RB.out.keep hb)); (try have HA := Lib.hid (HA.out.keep hb)); (try have HLW := Lib.hid (HLW.out.keep hb)); (try have RW := Lib.hid (RW.out.keep hb)); (try have HLX := Lib.hid (HLX.out.keep hb)); (try have RX := Lib.hid (RX.out.keep hb)); (try have HLY := Lib.hid (HLY.out.keep hb)); (try have RY := Lib.hid (RY.out.keep hb)); (try have HFLP := Lib.hid (HFLP.out.keep hb)); (try have HR5 := Lib.hid (HR5.out.keep hb)); (try have HFLR := Lib.hid (HFLR.out.keep hb)); obtain ⟨af2, nf2, cf2, he, hxf2, ho⟩ := hr.open HflP.out; subst he; have HFLR := Lib.hid ho; clear ho hr hxf2; clear hb)
       | (go_at_call 25; (first | (with_reducible refine (same8_any _ _ flx flx flc flc flp flp fll fll _ (HFLP.out.keep (Below.refl _ _).drew) (HFLR.out.keep (Below.refl _ _).drew) HflI.out HflI.out HflN.out (Nat.le_trans HflN.out (by decide))).mono ?_) | (with_reducible refine (same8_any _ _ flx flx flc flc flp flp fll fll _ HFLP.out HFLR.out HflI.out HflI.out HflN.out (Nat.le_trans HflN.out (by decide))).mono ?_)); rw [same_yes]; rintro e w99 ⟨he, hb⟩; subst he; (try have hb := Below.trans (Below.refl _ _).drew hb); have HBR := Lib.hid (HBR.out.trans (hb.mono HBR.out.size)); (try have HT := Lib.hid (HT.out.keep hb)); (try have HL := Lib.hid (HL.out.keep hb)); (try have HLR := Lib.hid (HLR.out.keep hb)); (try have RB := Lib.hid (RB.out.keep hb)); (try have HA := Lib.hid (HA.out.keep hb)); (try have HLW := Lib.hid (HLW.out.keep hb)); (try have RW := Lib.hid (RW.out.keep hb)); (try have HLX := Lib.hid (HLX.out.keep hb)); (try have RX := Lib.hid (RX.out.keep hb)); (try have HLY := Lib.hid (HLY.out.keep hb)); (try have RY := Lib.hid (RY.out.keep hb)); (try have HFLP := Lib.hid (HFLP.out.keep hb)); (try have HR5 := Lib.hid (HR5.out.keep hb)); (try have HFLR := Lib.hid (HFLR.out.keep hb)); clear hb))
    all_goals
      (rename_i hHeld
       clear hHeld
       have HB := Lib.hid (HB.out.trans (HBR.out.mono HB.out.size))
       clear HBR HKP
       have HKP := Lib.hid (fun (W : World) (hW : Below w99.heap.size w99 W) => (show (Below w99.heap.size w99 W ∧ (W.cell? ⟨w.heap.size, 0, none⟩ = some (v) ∧ W.cell? ⟨w.heap.size, 1, none⟩ = some (.int .i64 (c)) ∧ W.cell? ⟨w.heap.size, 2, none⟩ = some (.string (p))) ∧ (W.cell? ⟨w3.heap.size, 0, none⟩ = some (.slice a1 n1 c1) ∧ W.cell? ⟨w3.heap.size, 1, none⟩ = some (.int .i64 (c)) ∧ W.cell? ⟨w3.heap.size, 2, none⟩ = some (.string (p)))) from ⟨hW, (three_cells (RB.out.keep hW)).1, (three_cells (RW.out.keep hW)).1⟩))
       have HBR := Lib.hid (Below.refl w99.heap.size w99)
       obtain ⟨⟨RBc0, RBc1, RBc2⟩, RBf0, RBf1, RBf2⟩ := three_cells RB.out
       obtain ⟨⟨RWc0, RWc1, RWc2⟩, RWf0, RWf1, RWf2⟩ := three_cells RW.out
       go_wp2_with fail
       clear RBc0 RBc1 RBc2 RBf0 RBf1 RBf2
       clear RWc0 RWc1 RWc2 RWf0 RWf1 RWf2
       go_region_held3 (fun W => (Below w99.heap.size w99 W ∧ (W.cell? ⟨w.heap.size, 0, none⟩ = some (v) ∧ W.cell? ⟨w.heap.size, 1, none⟩ = some (.int .i64 (c)) ∧ W.cell? ⟨w.heap.size, 2, none⟩ = some (.string (p))) ∧ (W.cell? ⟨w3.heap.size, 0, none⟩ = some (.slice a1 n1 c1) ∧ W.cell? ⟨w3.heap.size, 1, none⟩ = some (.int .i64 (c)) ∧ W.cell? ⟨w3.heap.size, 2, none⟩ = some (.string (p)))))
         (first | exact HKP.out _ HBR.out | exact HKP.out _ HBR.out.drew | go_keep)
         (first
          | (go_at_call 18; (first | (with_reducible refine (pback_any v xs c p pl _ (HL.out.keep (Below.refl _ _).drew) HP.out HF.out (HT.out.keep (Below.refl _ _).drew)).mono ?_) | (with_reducible refine (pback_any v xs c p pl _ HL.out HP.out HF.out HT.out).mono ?_)); rw [Hbk.out]; rintro e w99 ⟨hr, hb⟩; (try have hb := Below.trans (Below.refl _ _).drew hb); have HBR := Lib.hid (HBR.out.trans (hb.mono HBR.out.size)); (try have HT := Lib.hid (HT.out.keep hb)); (try have HL := Lib.hid (HL.out.keep hb)); (try have HLR := Lib.hid (HLR.out.keep hb)); (try have RB := Lib.hid (RB.out.keep hb)); (try have HA := Lib.hid (HA.out.keep hb)); (try have HLW := Lib.hid (HLW.out.keep hb)); (try have RW := Lib.hid (RW.out.keep hb)); (try have HLX := Lib.hid (HLX.out.keep hb)); (try have RX := Lib.hid (RX.out.keep hb)); (try have HLY := Lib.hid (HLY.out.keep hb)); (try have RY := Lib.hid (RY.out.keep hb)); (try have HBKP := Lib.hid (HBKP.out.keep hb)); (try have HBKR := Lib.hid (HBKR.out.keep hb)); (try have HDLP := Lib.hid (HDLP.out.keep hb)); (try have HDLR := Lib.hid (HDLR.out.keep hb)); (try have HMVP := Lib.hid (HMVP.out.keep hb)); (try have HMVR := Lib.hid (HMVR.out.keep hb)); obtain ⟨ab1, nb1, cb1, he, hxb1, ho⟩ := hr.open HbkP.out; subst he; have HBKP := Lib.hid ho.lie; clear ho hr hxb1; clear hb)
          | (go_at_call 37; (first | (with_reducible refine (rback_any _ xs c p pl _ (HLW.out.keep (Below.refl _ _).drew) HP.out HF.out).mono ?_) | (with_reducible refine (rback_any _ xs c p pl _ HLW.out HP.out HF.out).mono ?_)); rw [Hbk.out]; rintro e w99 ⟨hr, hb⟩; (try have hb := Below.trans (Below.refl _ _).drew hb); have HBR := Lib.hid (HBR.out.trans (hb.mono HBR.out.size)); (try have HT := Lib.hid (HT.out.keep hb)); (try have HL := Lib.hid (HL.out.keep hb)); (try have HLR := Lib.hid (HLR.out.keep hb)); (try have RB := Lib.hid (RB.out.keep hb)); (try have HA := Lib.hid (HA.out.keep hb)); (try have HLW := Lib.hid (HLW.out.keep hb)); (try have RW := Lib.hid (RW.out.keep hb)); (try have HLX := Lib.hid (HLX.out.keep hb)); (try have RX := Lib.hid (RX.out.keep hb)); (try have HLY := Lib.hid (HLY.out.keep hb)); (try have RY := Lib.hid (RY.out.keep hb)); (try have HBKP := Lib.hid (HBKP.out.keep hb)); (try have HBKR := Lib.hid (HBKR.out.keep hb)); (try have HDLP := Lib.hid (HDLP.out.keep hb)); (try have HDLR := Lib.hid (HDLR.out.keep hb)); (try have HMVP := Lib.hid (HMVP.out.keep hb)); (try have HMVR := Lib.hid (HMVR.out.keep hb)); obtain ⟨ab2, nb2, cb2, he, hxb2, ho⟩ := hr.open HbkP.out; subst he; have HBKR := Lib.hid ho; clear ho hr hxb2; clear hb)
          | (go_at_call 25; (first | (with_reducible refine (same8_any _ _ bkx bkx bkc bkc bkp bkp bkl bkl _ (HBKP.out.keep (Below.refl _ _).drew) (HBKR.out.keep (Below.refl _ _).drew) HbkI.out HbkI.out HbkN.out (Nat.le_trans HbkN.out (by decide))).mono ?_) | (with_reducible refine (same8_any _ _ bkx bkx bkc bkc bkp bkp bkl bkl _ HBKP.out HBKR.out HbkI.out HbkI.out HbkN.out (Nat.le_trans HbkN.out (by decide))).mono ?_)); rw [same_yes]; rintro e w99 ⟨he, hb⟩; subst he; (try have hb := Below.trans (Below.refl _ _).drew hb); have HBR := Lib.hid (HBR.out.trans (hb.mono HBR.out.size)); (try have HT := Lib.hid (HT.out.keep hb)); (try have HL := Lib.hid (HL.out.keep hb)); (try have HLR := Lib.hid (HLR.out.keep hb)); (try have RB := Lib.hid (RB.out.keep hb)); (try have HA := Lib.hid (HA.out.keep hb)); (try have HLW := Lib.hid (HLW.out.keep hb)); (try have RW := Lib.hid (RW.out.keep hb)); (try have HLX := Lib.hid (HLX.out.keep hb)); (try have RX := Lib.hid (RX.out.keep hb)); (try have HLY := Lib.hid (HLY.out.keep hb)); (try have RY := Lib.hid (RY.out.keep hb)); (try have HBKP := Lib.hid (HBKP.out.keep hb)); (try have HBKR := Lib.hid (HBKR.out.keep hb)); (try have HDLP := Lib.hid (HDLP.out.keep hb)); (try have HDLR := Lib.hid (HDLR.out.keep hb)); (try have HMVP := Lib.hid (HMVP.out.keep hb)); (try have HMVR := Lib.hid (HMVR.out.keep hb)); clear hb)
          | (go_at_call 38; (first | (with_reducible refine (pdelete_any v xs c p pl _ (HL.out.keep (Below.refl _ _).drew) HP.out HF.out (HT.out.keep (Below.refl _ _).drew)).mono ?_) | (with_reducible refine (pdelete_any v xs c p pl _ HL.out HP.out HF.out HT.out).mono ?_)); rw [Hdl.out]; rintro e w99 ⟨hr, hb⟩; (try have hb := Below.trans (Below.refl _ _).drew hb); have HBR := Lib.hid (HBR.out.trans (hb.mono HBR.out.size)); (try have HT := Lib.hid (HT.out.keep hb)); (try have HL := Lib.hid (HL.out.keep hb)); (try have HLR := Lib.hid (HLR.out.keep hb)); (try have RB := Lib.hid (RB.out.keep hb)); (try have HA := Lib.hid (HA.out.keep hb)); (try have HLW := Lib.hid (HLW.out.keep hb)); (try have RW := Lib.hid (RW.out.keep hb)); (try have HLX := Lib.hid (HLX.out.keep hb)); (try have RX := Lib.hid (RX.out.keep hb)); (try have HLY := Lib.hid (HLY.out.keep hb)); (try have RY := Lib.hid (RY.out.keep hb)); (try have HBKP := Lib.hid (HBKP.out.keep hb)); (try have HBKR := Lib.hid (HBKR.out.keep hb)); (try have HDLP := Lib.hid (HDLP.out.keep hb)); (try have HDLR := Lib.hid (HDLR.out.keep hb)); (try have HMVP := Lib.hid (HMVP.out.keep hb)); (try have HMVR := Lib.hid (HMVR.out.keep hb)); obtain ⟨ad1, nd1, cd1, he, hxd1, ho⟩ := hr.open HdlP.out; subst he; have HDLP := Lib.hid ho.lie; clear ho hr hxd1; clear hb)
          | (go_at_call 39; (first | (with_reducible refine (rdelete_any _ xs c p pl _ (HLW.out.keep (Below.refl _ _).drew) HP.out HF.out).mono ?_) | (with_reducible refine (rdelete_any _ xs c p pl _ HLW.out HP.out HF.out).mono ?_)); rw [Hdl.out]; rintro e w99 ⟨hr, hb⟩; (try have hb := Below.trans (Below.refl _ _).drew hb); have HBR := Lib.hid (HBR.out.trans (hb.mono HBR.out.size)); (try have HT := Lib.hid (HT.out.keep hb)); (try have HL := Lib.hid (HL.out.keep hb)); (try have HLR := Lib.hid (HLR.out.keep hb)); (try have RB := Lib.hid (RB.out.keep hb)); (try have HA := Lib.hid (HA.out.keep hb)); (try have HLW := Lib.hid (HLW.out.keep hb)); (try have RW := Lib.hid (RW.out.keep hb)); (try have HLX := Lib.hid (HLX.out.keep hb)); (try have RX := Lib.hid (RX.out.keep hb)); (try have HLY := Lib.hid (HLY.out.keep hb)); (try have RY := Lib.hid (RY.out.keep hb)); (try have HBKP := Lib.hid (HBKP.out.keep hb)); (try have HBKR := Lib.hid (HBKR.out.keep hb)); (try have HDLP := Lib.hid (HDLP.out.keep hb)); (try have HDLR := Lib.hid (HDLR.out.keep hb)); (try have HMVP := Lib.hid (HMVP.out.keep hb)); (try have HMVR := Lib.hid (HMVR.out.keep hb)); obtain ⟨ad2, nd2, cd2, he, hxd2, ho⟩ := hr.open HdlP.out; subst he; have HDLR := Lib.hid ho; clear ho hr hxd2; clear hb)
          | (go_at_call 25; (first | (with_reducible refine (same8_any _ _ dlx dlx dlc dlc dlp dlp dll dll _ (HDLP.out.keep (Below.refl _ _).drew) (HDLR.out.keep (Below.refl _ _).drew) HdlI.out HdlI.out HdlN.out (Nat.le_trans HdlN.out (by decide))).mono ?_) | (with_reducible refine (same8_any _ _ dlx dlx dlc dlc dlp dlp dll dll _ HDLP.out HDLR.out HdlI.out HdlI.out HdlN.out (Nat.le_trans HdlN.out (by decide))).mono ?_)); rw [same_yes]; rintro e w99 ⟨he, hb⟩; subst he; (try have hb := Below.trans (Below.refl _ _).drew hb); have HBR := Lib.hid (HBR.out.trans (hb.mono HBR.out.size)); (try have HT := Lib.hid (HT.out.keep hb)); (try have HL := Lib.hid (HL.out.keep hb)); (try have HLR := Lib.hid (HLR.out.keep hb)); (try have RB := Lib.hid (RB.out.keep hb)); (try have HA := Lib.hid (HA.out.keep hb)); (try have HLW := Lib.hid (HLW.out.keep hb)); (try have RW := Lib.hid (RW.out.keep hb)); (try have HLX := Lib.hid (HLX.out.keep hb)); (try have RX := Lib.hid (RX.out.keep hb)); (try have HLY := Lib.hid (HLY.out.keep hb)); (try have RY := Lib.hid (RY.out.keep hb)); (try have HBKP := Lib.hid (HBKP.out.keep hb)); (try have HBKR := Lib.hid (HBKR.out.keep hb)); (try have HDLP := Lib.hid (HDLP.out.keep hb)); (try have HDLR := Lib.hid (HDLR.out.keep hb)); (try have HMVP := Lib.hid (HMVP.out.keep hb)); (try have HMVR := Lib.hid (HMVR.out.keep hb)); clear hb)
          | (go_at_call 32; (first | (with_reducible refine (pmove_any v xs c p pl _ (HL.out.keep (Below.refl _ _).drew) HP.out HF.out (HT.out.keep (Below.refl _ _).drew) z).mono ?_) | (with_reducible refine (pmove_any v xs c p pl _ HL.out HP.out HF.out HT.out z).mono ?_)); rw [Hmv.out]; rintro e w99 ⟨hr, hb⟩; (try have hb := Below.trans (Below.refl _ _).drew hb); have HBR := Lib.hid (HBR.out.trans (hb.mono HBR.out.size)); (try have HT := Lib.hid (HT.out.keep hb)); (try have HL := Lib.hid (HL.out.keep hb)); (try have HLR := Lib.hid (HLR.out.keep hb)); (try have RB := Lib.hid (RB.out.keep hb)); (try have HA := Lib.hid (HA.out.keep hb)); (try have HLW := Lib.hid (HLW.out.keep hb)); (try have RW := Lib.hid (RW.out.keep hb)); (try have HLX := Lib.hid (HLX.out.keep hb)); (try have RX := Lib.hid (RX.out.keep hb)); (try have HLY := Lib.hid (HLY.out.keep hb)); (try have RY := Lib.hid (RY.out.keep hb)); (try have HBKP := Lib.hid (HBKP.out.keep hb)); (try have HBKR := Lib.hid (HBKR.out.keep hb)); (try have HDLP := Lib.hid (HDLP.out.keep hb)); (try have HDLR := Lib.hid (HDLR.out.keep hb)); (try have HMVP := Lib.hid (HMVP.out.keep hb)); (try have HMVR := Lib.hid (HMVR.out.keep hb)); obtain ⟨av1, nv1, cv1, he, hxv1, ho⟩ := hr.open HmvP.out; subst he; have HMVP := Lib.hid ho.lie; clear ho hr hxv1; clear hb)
          | (go_at_call 40; (first | (with_reducible refine (rmove_any _ xs c p pl _ (HLW.out.keep (Below.refl _ _).drew) HP.out HF.out z).mono ?_) | (with_reducible refine (rmove_any _ xs c p pl _ HLW.out HP.out HF.out z).mono ?_)); rw [Hmv.out]; rintro e w99 ⟨hr, hb⟩; (try have hb := Below.trans (Below.refl _ _).drew hb); have HBR := Lib.hid (HBR.out.trans (hb.mono HBR.out.size)); (try have HT := Lib.hid (HT.out.keep hb)); (try have HL := Lib.hid (HL.out.keep hb)); (try have HLR := Lib.hid (HLR.out.keep hb)); (try have RB := Lib.hid (RB.out.keep hb)); (try have HA := Lib.hid (HA.out.keep hb)); (try have HLW := Lib.hid (HLW.out.keep hb)); (try have RW := Lib.hid (RW.out.keep hb)); (try have HLX := Lib.hid (HLX.out.keep hb)); (try have RX := Lib.hid (RX.out.keep hb)); (try have HLY := Lib.hid (HLY.out.keep hb)); (try have RY := Lib.hid (RY.out.keep hb)); (try have HBKP := Lib.hid (HBKP.out.keep hb)); (try have HBKR := Lib.hid (HBKR.out.keep hb)); (try have HDLP := Lib.hid (HDLP.out.keep hb)); (try have HDLR := Lib.hid (HDLR.out.keep hb)); (try have HMVP := Lib.hid (HMVP.out.keep hb)); (try have HMVR := Lib.hid (HMVR.out.keep hb)); obtain ⟨av2, nv2, cv2, he, hxv2, ho⟩ := hr.open HmvP.out; subst he; have HMVR := Lib.hid ho; clear ho hr hxv2; clear hb)
          | (go_at_call 25; (first | (with_reducible refine (same8_any _ _ mvx mvx mvc mvc mvp mvp mvl mvl _ (HMVP.out.keep (Below.refl _ _).drew) (HMVR.out.keep (Below.refl _ _).drew) HmvI.out HmvI.out HmvN.out (Nat.le_trans HmvN.out (by decide))).mono ?_) | (with_reducible refine (same8_any _ _ mvx mvx mvc mvc mvp mvp mvl mvl _ HMVP.out HMVR.out HmvI.out HmvI.out HmvN.out (Nat.le_trans HmvN.out (by decide))).mono ?_)); rw [same_yes]; rintro e w99 ⟨he, hb⟩; subst he; (try have hb := Below.trans (Below.refl _ _).drew hb); have HBR := Lib.hid (HBR.out.trans (hb.mono HBR.out.size)); (try have HT := Lib.hid (HT.out.keep hb)); (try have HL := Lib.hid (HL.out.keep hb)); (try have HLR := Lib.hid (HLR.out.keep hb)); (try have RB := Lib.hid (RB.out.keep hb)); (try have HA := Lib.hid (HA.out.keep hb)); (try have HLW := Lib.hid (HLW.out.keep hb)); (try have RW := Lib.hid (RW.out.keep hb)); (try have HLX := Lib.hid (HLX.out.keep hb)); (try have RX := Lib.hid (RX.out.keep hb)); (try have HLY := Lib.hid (HLY.out.keep hb)); (try have RY := Lib.hid (RY.out.keep hb)); (try have HBKP := Lib.hid (HBKP.out.keep hb)); (try have HBKR := Lib.hid (HBKR.out.keep hb)); (try have HDLP := Lib.hid (HDLP.out.keep hb)); (try have HDLR := Lib.hid (HDLR.out.keep hb)); (try have HMVP := Lib.hid (HMVP.out.keep hb)); (try have HMVR := Lib.hid (HMVR.out.keep hb)); clear hb)
          | (go_at_call 25; (first | (with_reducible refine (same8_any _ _ xs xs c c p p pl pl _ (HL.out.keep (Below.refl _ _).drew) (HLW.out.keep (Below.refl _ _).drew) HP.out HP.out hn2 (Nat.le_trans hn2 (by decide))).mono ?_) | (with_reducible refine (same8_any _ _ xs xs c c p p pl pl _ HL.out HLW.out HP.out HP.out hn2 (Nat.le_trans hn2 (by decide))).mono ?_)); rw [same_yes]; rintro e w99 ⟨he, hb⟩; subst he; (try have hb := Below.trans (Below.refl _ _).drew hb); have HBR := Lib.hid (HBR.out.trans (hb.mono HBR.out.size)); (try have HT := Lib.hid (HT.out.keep hb)); (try have HL := Lib.hid (HL.out.keep hb)); (try have HLR := Lib.hid (HLR.out.keep hb)); (try have RB := Lib.hid (RB.out.keep hb)); (try have HA := Lib.hid (HA.out.keep hb)); (try have HLW := Lib.hid (HLW.out.keep hb)); (try have RW := Lib.hid (RW.out.keep hb)); (try have HLX := Lib.hid (HLX.out.keep hb)); (try have RX := Lib.hid (RX.out.keep hb)); (try have HLY := Lib.hid (HLY.out.keep hb)); (try have RY := Lib.hid (RY.out.keep hb)); (try have HBKP := Lib.hid (HBKP.out.keep hb)); (try have HBKR := Lib.hid (HBKR.out.keep hb)); (try have HDLP := Lib.hid (HDLP.out.keep hb)); (try have HDLR := Lib.hid (HDLR.out.keep hb)); (try have HMVP := Lib.hid (HMVP.out.keep hb)); (try have HMVR := Lib.hid (HMVR.out.keep hb)); clear hb)
          | (go_at_call 26; (first | (with_reducible refine (works_any _ (HT.out.keep (Below.refl _ _).drew)).mono ?_) | (with_reducible refine (works_any _ HT.out).mono ?_)); rintro e w99 ⟨he, hb⟩; subst he; (try have hb := Below.trans (Below.refl _ _).drew hb); have HBR := Lib.hid (HBR.out.trans (hb.mono HBR.out.size)); (try have HT := Lib.hid (HT.out.keep hb)); (try have HL := Lib.hid (HL.out.keep hb)); (try have HLR := Lib.hid (HLR.out.keep hb)); (try have RB := Lib.hid (RB.out.keep hb)); (try have HA := Lib.hid (HA.out.keep hb)); (try have HLW := Lib.hid (HLW.out.keep hb)); (try have RW := Lib.hid (RW.out.keep hb)); (try have HLX := Lib.hid (HLX.out.keep hb)); (try have RX := Lib.hid (RX.out.keep hb)); (try have HLY := Lib.hid (HLY.out.keep hb)); (try have RY := Lib.hid (RY.out.keep hb)); (try have HBKP := Lib.hid (HBKP.out.keep hb)); (try have HBKR := Lib.hid (HBKR.out.keep hb)); (try have HDLP := Lib.hid (HDLP.out.keep hb)); (try have HDLR := Lib.hid (HDLR.out.keep hb)); (try have HMVP := Lib.hid (HMVP.out.keep hb)); (try have HMVR := Lib.hid (HMVR.out.keep hb)); clear hb))
       all_goals
         (rename_i hHeld
          clear hHeld
          go_wp2_with fail
          go_ret
          exact ⟨rfl, by first | exact (HB.out.trans (HBR.out.mono HB.out.size)) | exact (HB.out.trans (HBR.out.mono HB.out.size)).drew⟩))

theorem laidOut : laidOutB Tryz.prog = true := by kernel_rfl
set_option maxRecDepth 100000 in
theorem contract (H : Type) (enc : TypeId × Value → H) (W : World) (base : Nat) (args : Array Value) (ds gs : List (DataW H)) (before : List MemPlace)
    (hval : ∀ (j : Nat) t v, Tryz.f9.params[j]? = some t → args[j]? = some v → Value.okWide Tryz.prog W .any base t v)
    (hW : DataW.Whole enc Tryz.prog Tryz.f9.params.toList Rows.composeEditsSpec.vars false W args.toList ds gs before) (hL : laidMetH Tryz.prog Rows.composeEditsRow.laid W) (hS : W.ShapedOpen Tryz.prog) (hC : Rows.uptoSmall H (ds ++ gs) = true)
    (hR : (DataW.weightsEach Tryz.prog (Tryz.f9.params.toList ++ (OpenSpec.ofChange Rows.composeEditsSpec).bare.plain.varTypes Tryz.prog) (ds ++ gs)).all (· ≤ reachBytes) = true) :
    Calls Tryz.prog 9 args W fun e W' => ∃ v, e = .returned v ∧ Rows.composeEditsSpec.post enc Tryz.prog Tryz.f9 false true false false W args v W' := by
  have hT : Tabs W := rtabs_of_laid hL hS
  have hW' := hW
  obtain ⟨p, q, hA0, hV, rfl, hfz, hnd⟩ := hW
  have hA : DataW.TrodAll enc Tryz.prog W 0 (fun _ => true) true Tryz.f9.params.toList args.toList ds p := hA0
  rw [Tryz.params9] at hA hval hR
  obtain ⟨v0, vs0, d0, ds0, p0, q0, hargs, rfl, rfl, h0, r0⟩ := trodAll_cons hA
  obtain ⟨v1, vs1, d1, ds1, p1, q1, rfl, rfl, rfl, h1, r1⟩ := trodAll_cons r0
  obtain ⟨v2, vs2, d2, ds2, p2, q2, rfl, rfl, rfl, h2, r2⟩ := trodAll_cons r1
  obtain ⟨v3, vs3, d3, ds3, p3, q3, rfl, rfl, rfl, h3, r3⟩ := trodAll_cons r2
  obtain ⟨v4, vs4, d4, ds4, p4, q4, rfl, rfl, rfl, h4, r4⟩ := trodAll_cons r3
  obtain ⟨rfl, rfl, rfl⟩ := trodAll_nil r4
  obtain rfl : args = #[v0, v1, v2, v3, v4] := by cases args; simp_all
  obtain ⟨rfl, rfl⟩ := trodVars_none hV
  clear hA0
  simp only [List.append_nil] at hW' hR
  have k0 := h0
  have l0 : ∀ x ∈ p0, x.block < W.heap.size := fun x hx => by simpa using hW'.lt x (by simp [hx])
  have k1 := h1
  have l1 : ∀ x ∈ p1, x.block < W.heap.size := fun x hx => by simpa using hW'.lt x (by simp [hx])
  have k2 := h2
  have l2 : ∀ x ∈ p2, x.block < W.heap.size := fun x hx => by simpa using hW'.lt x (by simp [hx])
  have k3 := h3
  have l3 : ∀ x ∈ p3, x.block < W.heap.size := fun x hx => by simpa using hW'.lt x (by simp [hx])
  have k4 := h4
  have l4 : ∀ x ∈ p4, x.block < W.heap.size := fun x hx => by simpa using hW'.lt x (by simp [hx])
  have hB : Rows.uptoBulkAll _ ≤ 1048576 := of_decide_eq_true hC
  simp only [List.append_nil, Rows.uptoBulkAll] at hB
  have b0 : Rows.uptoBulk d0 ≤ 1048576 := by omega
  have b1 : Rows.uptoBulk d1 ≤ 1048576 := by omega
  have b2 : Rows.uptoBulk d2 ≤ 1048576 := by omega
  have b3 : Rows.uptoBulk d3 ≤ 1048576 := by omega
  have b4 : Rows.uptoBulk d4 ≤ 1048576 := by omega
  obtain ⟨xs0, hl0, hn0, hz0⟩ := open_rulesB (hval 0 27 v0 rfl rfl) h0 b0
  obtain ⟨u1, xs1, c1, pb1, rfl, hl1, hf1, _, _⟩ := open_bufB (hval 1 33 v1 rfl rfl) h1 b1 (by decide)
  obtain ⟨s2, rfl, rfl, rfl, m2⟩ := open_string Tryz.underlying9 (hval 2 9 v2 rfl rfl) h2
  obtain ⟨s3, rfl, rfl, rfl, m3⟩ := open_string Tryz.underlying9 (hval 3 9 v3 rfl rfl) h3
  obtain ⟨a4, rfl, rfl, rfl, w4⟩ := open_int Tryz.underlying3 (hval 4 3 v4 rfl rfl) h4
  refine (walk W v0 xs0 hl0 hn0 hz0 u1 xs1 c1 pb1 hl1 hf1 s2 (bulk_str b2) s3 (bulk_str b3) a4 w4 hT).mono fun e W' ⟨he, bel⟩ => ?_
  subst he
  exact ⟨_, rfl, _, _, _, [], _, [], hW', trodAll_mk1 (shut_bool Tryz.underlying4 _), (trodAll_cons_mk (Below.trod laidOut (by kernel_rfl) (of_decide_eq_true (by kernel_rfl)) k0 bel l0) (trodAll_cons_mk (Below.trod laidOut (by kernel_rfl) (of_decide_eq_true (by kernel_rfl)) k1 bel l1) (trodAll_cons_mk (Below.trod laidOut (by kernel_rfl) (of_decide_eq_true (by kernel_rfl)) k2 bel l2) (trodAll_cons_mk (Below.trod laidOut (by kernel_rfl) (of_decide_eq_true (by kernel_rfl)) k3 bel l3) (trodAll_cons_mk (Below.trod laidOut (by kernel_rfl) (of_decide_eq_true (by kernel_rfl)) k4 bel l4) trodAll_mk0))))), rfl, bel.frame _, fun h => by cases h⟩

theorem reads (os : Os) {H : Type} (enc : TypeId × Value → H) : ∃ places, DataW.whole enc Tryz.prog ((laidWorldR os).forCall (fun _ _ => 0) ⟨#[], #[.slice none 0 0, .agg #[.slice none 0 0, .int .i64 0, .string ⟨#[]⟩], .string ⟨#[]⟩, .string ⟨#[]⟩, .int .i64 0], []⟩).memory Tryz.f9.params.toList Rows.composeEditsSpec.vars false #[.slice none 0 0, .agg #[.slice none 0 0, .int .i64 0, .string ⟨#[]⟩], .string ⟨#[]⟩, .string ⟨#[]⟩, .int .i64 0].toList 8 = some ([.nil, .agg [.nil, .lit (.int .i64 0), .lit (.string [])], .lit (.string []), .lit (.string []), .lit (.int .i64 0)], [], places) :=
  ⟨[], by kernel_rfl⟩

set_option maxRecDepth 100000 in
theorem lifted (os : Os) (started : os.Started) (H : Type) (enc : TypeId × Value → H) (F : Stop.Interp) :
    ReturnsInHanded {} Tryz.checked os 9 .any ((Rows.OpenSpec.upto Rows.composeEditsSpec).preRow enc Tryz.prog Tryz.f9 Rows.composeEditsUptoRow.domain false Rows.composeEditsUptoRow.laid) (((Rows.OpenSpec.upto Rows.composeEditsSpec).at F).post enc Tryz.prog Tryz.f9 false true false false) := by
  obtain ⟨places, hx⟩ := reads os enc
  refine returnsInHanded_of_row (C := Tryz.checked) (s := (Rows.OpenSpec.upto Rows.composeEditsSpec)) own started (by kernel_rfl) Tryz.func9
    (witness_row_at (enc := enc) (C := Tryz.checked) false (laidWorldR os) #[.slice none 0 0, .agg #[.slice none 0 0, .int .i64 0, .string ⟨#[]⟩], .string ⟨#[]⟩, .string ⟨#[]⟩, .int .i64 0] rfl (by kernel_rfl) (by kernel_rfl) (by kernel_rfl)
      (OpenSpec.preRow_of_cond 8 hx (by kernel_rfl) (fun k hk => by cases hk; kernel_rfl) (by kernel_rfl) (laid_metR os _))) ?_
  intro W base args ds gs before hval hW _ hcond hR hL hS _
  exact contract H enc W base args ds gs before hval hW hL hS (hcond _ rfl) hR

theorem said : Rows.ComposeEditsUptoSaid :=
  OpenClaim.holds_of_cond 9 Tryz.f9 rfl rfl rfl rfl rfl rfl rfl ⟨rfl, rfl, rfl, rfl, rfl⟩ rfl rfl rfl rfl rfl (by kernel_rfl) Tryz.func9 (by kernel_rfl)
    (of_decide_eq_true (by kernel_rfl)) (by unfold Func.isWrapper; first | (rw [if_pos (by decide +kernel)]; kernel_rfl) | (rw [if_neg (by decide +kernel)]; exact ⟨rfl, rfl⟩))
    (fun os started H enc _ F => by rw [OpenClaim.pre_eq_preRow]; exact lifted os started H enc F)

theorem plain (f : FuncId) (fn : Func) (hf : Tryz.pinned.checked.prog.funcNamed "henkan/henkanlaw08.ComposeEdits" = some f) (hfn : Tryz.pinned.checked.prog.funcs[f]? = some fn) :
    false = Tryz.pinned.checked.prog.looks [] ∧ ∀ (j : Nat) t, fn.params[j]? = some t → Tryz.pinned.checked.prog.wantsStandIn t = false := by
  obtain rfl : f = 9 := Option.some.inj ((show Tryz.prog.funcNamed "henkan/henkanlaw08.ComposeEdits" = some 9 by kernel_rfl).symm.trans hf) |>.symm
  obtain rfl : fn = Tryz.f9 := (Option.some.inj (Tryz.func9.symm.trans hfn)).symm
  refine ⟨by kernel_rfl, fun j t ht => ?_⟩
  rw [Tryz.params9] at ht
  have hm := Array.mem_of_getElem? ht
  simp only [List.mem_toArray, List.mem_cons, List.not_mem_nil, or_false] at hm
  rcases hm with rfl | rfl | rfl | rfl | rfl
  · exact (show Tryz.prog.wantsStandIn 27 = false by kernel_rfl)
  · exact (show Tryz.prog.wantsStandIn 33 = false by kernel_rfl)
  · exact (show Tryz.prog.wantsStandIn 9 = false by kernel_rfl)
  · exact (show Tryz.prog.wantsStandIn 9 = false by kernel_rfl)
  · exact (show Tryz.prog.wantsStandIn 3 = false by kernel_rfl)

/-- the card -/
theorem proved : Rows.ComposeEditsUptoCardSaid :=
  Claim7.holds_tied_plain_at .later [] _ _ _ _ said (fun _ h => by cases h) (by kernel_rfl) (fun _ h => by cases h) composeEditsUpto_row_tie rfl ⟨rfl, rfl⟩ (by kernel_rfl) rfl plain (by kernel_rfl)
#print axioms proved
end Go.Proofs.YtgdcffahhpeibaaGreatDoor.composeEdits
