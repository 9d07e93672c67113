/-
  Keys are inserted as the document says. The arguments are of bulk at most 1048576.
-/
import Derived.IntWalk
import Derived.Deep.RegionHeld3
import Derived.Test.YtgdcffahhpeibaaGreatDoorCpMore
import Derived.Carry
import Derived.Laws.AppendOwnNone
namespace Go.Proofs.YtgdcffahhpeibaaGreatDoor.composeInserts
open Go.ChangeShapes Go.WideShapes Go.ChangeAt Go.RowKit
open Go.ChangeMaps (open_string)
set_option linter.unusedVariables false

set_option maxRecDepth 100000 in
set_option maxHeartbeats 16000000 in
theorem walk (w : World) (vr : Value) (rs : List RuleB) (hlr : LieR vr rs w) (hrn : rs.length ≤ 1048576) (hrz : ∀ r ∈ rs, r.1.size ≤ 1048576 ∧ r.2.1.size ≤ 1048576 ∧ r.2.2.size ≤ 1048576) (v : Value) (xs : List Cp.Item) (c : Int) (p : ByteArray) (hl : LieG itemE v xs w) (hf : Fits xs p.data.toList) (z : Int) (hwf : (Lit.int .u8 z).wf = true) (ht : Tabs w) :
    Calls Tryz.prog 5 #[vr, bufV v c p, .int .u8 z] w fun e w' => e = .returned (.bool true) ∧ Below w.heap.size w w' := by
  have HB := Lib.hid (Below.refl w.heap.size w)
  have HT := Lib.hid ht
  clear ht
  obtain ⟨ch, hz⟩ := u8_of hwf
  have hz0 : 0 ≤ z := by omega
  have hz9 : z ≤ 255 := by have := ch.toNat_lt; omega
  have HZ := Eqq.mk hz
  have hwr : IntKind.i32.wrap z = z := by rw [IntWalk.i32_in _ (by omega)]
  clear hz
  have hIs := Is.of p
  obtain ⟨pl, hpl⟩ : ∃ pl, p.data.toList = pl := ⟨_, rfl⟩
  rw [hpl] at hIs hf
  have HP := Lib.hid hIs
  have HPB := Eqq.mk hIs.ba
  have HF := Lib.hid hf
  have HL := Lib.hid hl
  have hn2 := hf.n
  clear hIs hpl hf hl
  have HLR := Lib.hid hlr
  have HSH := Lib.hid (show Short3 rs from fun r hr => by have h := hrz r hr; omega)
  clear hlr hrz
  obtain ⟨w1, hwx⟩ : ∃ W, w.alloc (.cells #[v, .int .i64 c, .string p] 33) = W := ⟨_, rfl⟩
  have HWX1 := Eqq.mk hwx
  have hb : Below w.heap.size w w1 := by rw [← hwx]; exact (Below.refl _ _).alloc (Nat.le_refl _) _
  have HB := Lib.hid (HB.out.trans (hb.mono HB.out.size))
  have HT := Lib.hid (HT.out.keep hb)
  have HL := Lib.hid (HL.out.keep hb)
  have HLR := Lib.hid (HLR.out.keep hb)
  have RB := Lib.hid (show RowIs 33 w.heap.size (v) (c) (p) w1 from by rw [← hwx]; exact RowIs.new _ _ _ _ _)
  clear hb hwx
  go_enter Tryz.func5, Tryz.ntmps5
  go_wp2_with fail
  rw [HWX1.out]
  with_reducible refine (new_any vr rs _ HLR.out (Nat.le_trans hrn (by decide)) HSH.out HT.out).mono ?_
  rintro e w2 ⟨hv, hb⟩
  have HB := Lib.hid (HB.out.trans (hb.mono HB.out.size))
  have HT := Lib.hid (HT.out.keep hb)
  have HL := Lib.hid (HL.out.keep hb)
  have HLR := Lib.hid (HLR.out.keep hb)
  have RB := Lib.hid (RB.out.keep hb)
  clear hb
  rcases hv with ⟨hne, rfl⟩ | ⟨hok, a, rfl, ha⟩
  · obtain ⟨E, hE⟩ : ∃ E, Ro.check (rulesL rs) = E := ⟨_, rfl⟩
    have HE := Eqq.mk hE
    rw [hE] at hne
    rw [hE]
    have i0 : ¬ ((E : Nat) : Int) = 0 := by omega
    have i1 : (((E : Nat) : Int) == 0) = false := by rw [beq_eq_false_iff_ne]; exact i0
    clear hne hE
    go_wp2_with fail
    with_reducible refine (works_any _ HT.out).mono ?_
    rintro e w3 ⟨rfl, hb⟩
    have HB := Lib.hid (HB.out.trans (hb.mono HB.out.size))
    have HT := Lib.hid (HT.out.keep hb)
    have HL := Lib.hid (HL.out.keep hb)
    have HLR := Lib.hid (HLR.out.keep hb)
    have RB := Lib.hid (RB.out.keep hb)
    clear hb
    go_wp2_with fail
    go_ret
    exact ⟨rfl, by first | exact HB.out | exact HB.out.drew⟩
  · have HOK := Eqq.mk hok
    have HA := Lib.hid (show AutoAt rs a w2 from ha)
    have hr500 : rs.length ≤ 500 := by have h := ((Ro.check_zero (rulesL rs)).1 hok).1; unfold rulesL at h; rw [List.length_map] at h; exact h
    clear hok ha
    obtain ⟨⟨RBc0, RBc1, RBc2⟩, RBf0, RBf1, RBf2⟩ := three_cells RB.out
    go_wp2_with fail
    clear RBc0 RBc1 RBc2 RBf0 RBf1 RBf2
    with_reducible refine (given9_any v xs c p _ HL.out hn2).mono ?_
    rintro e w3 ⟨⟨a1, n1, c1, rfl, ho⟩, hb⟩
    have HB := Lib.hid (HB.out.trans (hb.mono HB.out.size))
    have HT := Lib.hid (HT.out.keep hb)
    have HL := Lib.hid (HL.out.keep hb)
    have HLR := Lib.hid (HLR.out.keep hb)
    have RB := Lib.hid (RB.out.keep hb)
    have HA := Lib.hid (HA.out.keep hb)
    have HLW := Lib.hid ho
    clear ho
    clear hb
    obtain ⟨w4, hwx⟩ : ∃ W, w3.alloc (.cells #[.slice a1 n1 c1, .int .i64 c, .string p] 42) = W := ⟨_, rfl⟩
    have HWX2 := Eqq.mk hwx
    have hb : Below w3.heap.size w3 w4 := by rw [← hwx]; exact (Below.refl _ _).alloc (Nat.le_refl _) _
    have HB := Lib.hid (HB.out.trans (hb.mono HB.out.size))
    have HT := Lib.hid (HT.out.keep hb)
    have HL := Lib.hid (HL.out.keep hb)
    have HLR := Lib.hid (HLR.out.keep hb)
    have RB := Lib.hid (RB.out.keep hb)
    have HA := Lib.hid (HA.out.keep hb)
    have HLW := Lib.hid (HLW.out.keep hb)
    have RW := Lib.hid (show RowIs 42 w3.heap.size (.slice a1 n1 c1) (c) (p) w4 from by rw [← hwx]; exact RowIs.new _ _ _ _ _)
    clear hb hwx
    obtain ⟨⟨⟨nx, nc, nl⟩, er⟩, hkey⟩ : ∃ q, Cp.key (rulesL rs) ⟨xs, c, pl⟩ ch = q := ⟨_, rfl⟩
    have HKEY := Eqq.mk hkey
    obtain ⟨np, hnp⟩ : ∃ np, ba nl = np := ⟨_, rfl⟩
    have HNP := Eqq.mk hnp
    have HNI := Lib.hid (show Is np nl by rw [← hnp]; exact is_ba nl)
    have HNX9 := Lib.hid (show nx.length ≤ 2000000 from by
      by_cases h0 : er = 0
      · subst h0; exact (key_fits hkey HF.out).n
      · have h9 := Cp.key_zero (l := rulesL rs) (b := ⟨xs, c, pl⟩) (c := ch) (by rw [hkey]; exact h0); rw [hkey] at h9; injection h9 with h9; rw [h9]; simp)
    clear hkey hnp
    obtain ⟨⟨RBc0, RBc1, RBc2⟩, RBf0, RBf1, RBf2⟩ := three_cells (show (w3.alloc (.cells #[.slice a1 n1 c1, .int .i64 c, .string p] 42)).heap[_]? = _ from by rw [HWX2.out]; exact RB.out)
    go_wp2_with fail
    clear RBc0 RBc1 RBc2 RBf0 RBf1 RBf2
    rw [HWX2.out]
    with_reducible refine (pkey_any _ a rs v xs c p pl ch z HZ.out _ HL.out HP.out HF.out HA.out (Nat.le_refl _) HT.out).mono ?_
    rw [HKEY.out]
    rintro e w5 ⟨hr, hb⟩
    have HB := Lib.hid (HB.out.trans (hb.mono HB.out.size))
    have HT := Lib.hid (HT.out.keep hb)
    have HL := Lib.hid (HL.out.keep hb)
    have HLR := Lib.hid (HLR.out.keep hb)
    have RB := Lib.hid (RB.out.keep hb)
    have HA := Lib.hid (HA.out.keep hb)
    have HLW := Lib.hid (HLW.out.keep hb)
    have RW := Lib.hid (RW.out.keep hb)
    obtain ⟨a2, n2, c2, rfl, hn2x, ho⟩ := hr.open HNP.out
    have HLX := Lib.hid ho.lie
    clear ho hr hn2x
    clear hb
    obtain ⟨w6, hwx⟩ : ∃ W, w5.alloc (.cells #[.slice a2 n2 c2, .int .i64 nc, .string np] 33) = W := ⟨_, rfl⟩
    have HWX3 := Eqq.mk hwx
    have hb : Below w5.heap.size w5 w6 := by rw [← hwx]; exact (Below.refl _ _).alloc (Nat.le_refl _) _
    have HB := Lib.hid (HB.out.trans (hb.mono HB.out.size))
    have HT := Lib.hid (HT.out.keep hb)
    have HL := Lib.hid (HL.out.keep hb)
    have HLR := Lib.hid (HLR.out.keep hb)
    have RB := Lib.hid (RB.out.keep hb)
    have HA := Lib.hid (HA.out.keep hb)
    have HLW := Lib.hid (HLW.out.keep hb)
    have RW := Lib.hid (RW.out.keep hb)
    have HLX := Lib.hid (HLX.out.keep hb)
    have RX := Lib.hid (show RowIs 33 w5.heap.size (.slice a2 n2 c2) (nc) (np) w6 from by rw [← hwx]; exact RowIs.new _ _ _ _ _)
    clear hb hwx
    have HC0 := Lib.hid (fun (W : World) (hW : Below w6.heap.size w6 W) => rules9_any vr rs W (HLR.out.keep hW) (by omega))
    have HKP := Lib.hid (fun (W : World) (hW : Below w6.heap.size w6 W) => (show (Below w6.heap.size w6 W ∧ (W.cell? ⟨w3.heap.size, 0, none⟩ = some (.slice a1 n1 c1) ∧ W.cell? ⟨w3.heap.size, 1, none⟩ = some (.int .i64 (c)) ∧ W.cell? ⟨w3.heap.size, 2, none⟩ = some (.string (p)))) from ⟨hW, (three_cells (RW.out.keep hW)).1⟩))
    have HBR := Lib.hid (Below.refl w6.heap.size w6)
    have HBA := Lib.hid ((Below.refl w6.heap.size w6).alloc (Nat.le_refl _) (.cells #[.slice none 0 0, .int .i64 0, .string ⟨#[]⟩] 42))
    obtain ⟨⟨RWc0, RWc1, RWc2⟩, RWf0, RWf1, RWf2⟩ := three_cells (show (w5.alloc (.cells #[.slice a2 n2 c2, .int .i64 nc, .string np] 33)).heap[_]? = _ from by rw [HWX3.out]; exact RW.out)
    go_wp2_with fail
    clear RWc0 RWc1 RWc2 RWf0 RWf1 RWf2
    rw [HWX3.out]
    go_region_held3 (fun W => (Below w6.heap.size w6 W ∧ (W.cell? ⟨w3.heap.size, 0, none⟩ = some (.slice a1 n1 c1) ∧ W.cell? ⟨w3.heap.size, 1, none⟩ = some (.int .i64 (c)) ∧ W.cell? ⟨w3.heap.size, 2, none⟩ = some (.string (p)))))
      (first | exact HKP.out _ HBR.out | exact HKP.out _ HBR.out.drew | exact HKP.out _ HBA.out | exact HKP.out _ HBA.out.drew | exact HKP.out _ (HBR.out.alloc HBR.out.size _) | exact HKP.out _ (HBR.out.alloc HBR.out.size _).drew | (rw [HFW.out]; exact HKP.out _ HBF.out) | go_keep)
      (first
       | (go_at_call 28; (first | (with_reducible refine (HC0.out _ ((Below.refl _ _).alloc (Nat.le_refl _) (.cells #[.slice none 0 0, .int .i64 0, .string ⟨#[]⟩] 42)).drew).mono ?_) | (with_reducible refine (HC0.out _ ((Below.refl _ _).alloc (Nat.le_refl _) (.cells #[.slice none 0 0, .int .i64 0, .string ⟨#[]⟩] 42))).mono ?_)); rintro e w51 ⟨⟨v51, he, hlr5⟩, hb⟩; subst he; have hs9 : (w6.alloc (.cells #[.slice none 0 0, .int .i64 0, .string ⟨#[]⟩] 42)).heap.size = w6.heap.size + 1 := World.size_alloc _ _; have hb7 : Below (w6.heap.size + 1) (w6.alloc (.cells #[.slice none 0 0, .int .i64 0, .string ⟨#[]⟩] 42)) w51 := (by first | exact Below.trans (Below.refl _ _).drew (hb.mono (Nat.le_of_eq hs9.symm)) | exact hb.mono (Nat.le_of_eq hs9.symm)); have hs7 : w6.heap.size + 1 ≤ w51.heap.size := Nat.le_trans (Nat.le_of_eq hs9.symm) hb7.size; have hb := ((Below.refl w6.heap.size w6).alloc (Nat.le_refl _) (.cells #[.slice none 0 0, .int .i64 0, .string ⟨#[]⟩] 42)).trans (hb7.mono (Nat.le_succ _)); have HNG := Lib.hid (show w6.heap.size ≤ w6.heap.size from HBR.out.size); have HBR := Lib.hid (HBR.out.trans (hb.mono HBR.out.size)); have hnx : w51.heap[w6.heap.size]? = some (.cells #[.slice none 0 0, .int .i64 0, .string ⟨#[]⟩] 42 (0, 0)) := (by rw [hb7.block _ (Nat.lt_succ_self _)]; exact (MapKept.heap_alloc w6 _).1); have HNW := Lib.hid hnx; have HNL := Lib.hid (show w6.heap.size < w51.heap.size from hs7); obtain ⟨⟨e0, e1, e2⟩, f0, f1, f2⟩ := three_cells hnx; have HC1 := Lib.hid (fun (W : World) (hW : Below w51.heap.size w51 W) => rkey_any v51 rs _ xs c p pl ch z HZ.out W (hlr5.keep hW) HOK.out (Nat.le_trans hr500 (by decide)) (HLW.out.keep (HBR.out.trans (hW.mono HBR.out.size))) HP.out HF.out); clear hlr5; clear hnx hb hb7 hs7 hs9)
       | (go_at_call 28; (first | (with_reducible refine (HC0.out _ (Below.refl _ _).drew).mono ?_) | (with_reducible refine (HC0.out _ (Below.refl _ _)).mono ?_)); rintro e w51 ⟨⟨v51, he, hlr5⟩, hb⟩; subst he; (try have hb := Below.trans (Below.refl _ _).drew hb); have HBR := Lib.hid (HBR.out.trans (hb.mono HBR.out.size)); have HC1 := Lib.hid (fun (W : World) (hW : Below w51.heap.size w51 W) => rkey_any v51 rs _ xs c p pl ch z HZ.out W (hlr5.keep hW) HOK.out (Nat.le_trans hr500 (by decide)) (HLW.out.keep (HBR.out.trans (hW.mono HBR.out.size))) HP.out HF.out); clear hlr5; clear hb)
       | (go_at_call 27; have hnw := HNW.out; (first | (with_reducible refine (HC1.out _ (Below.refl _ _).drew).mono ?_) | (with_reducible refine (HC1.out _ (Below.refl _ _)).mono ?_)); rintro e w52 ⟨hr, hb⟩; (try have hb := Below.trans (Below.refl _ _).drew hb); have HBR := Lib.hid (HBR.out.trans (hb.mono HBR.out.size)); have hnx : w52.heap[w6.heap.size]? = some (.cells #[.slice none 0 0, .int .i64 0, .string ⟨#[]⟩] 42 (0, 0)) := (by rw [hb.block _ (heap_lt hnw)]; exact hnw); clear hnw e0 e1 e2 f0 f1 f2; obtain ⟨⟨e0, e1, e2⟩, f0, f1, f2⟩ := three_cells hnx; rw [HKEY.out] at hr; obtain ⟨a3, n3, c3, he, hn3, ho9⟩ := hr.open HNP.out; subst he; clear hr hn3; obtain ⟨NX, hNX⟩ : ∃ NX, w6.heap.size = NX := ⟨_, rfl⟩; have HNX := Eqq.mk hNX; obtain ⟨FW, hFW⟩ : ∃ FW, (((w52.setCell ⟨w6.heap.size, 0, none⟩ (.slice a3 n3 c3)).setCell ⟨w6.heap.size, 1, none⟩ (.int .i64 nc)).setCell ⟨w6.heap.size, 2, none⟩ (.string np)) = FW := ⟨_, rfl⟩; have HFW := Eqq.mk hFW; have hrw : FW.heap[w6.heap.size]? = some (.cells #[.slice a3 n3 c3, .int .i64 nc, .string np] 42 (0, 0)) := (by rw [← hFW]; exact three_set hnx (.slice a3 n3 c3) (.int .i64 nc) (.string np)); have RY := Lib.hid (show RowIs 42 NX (.slice a3 n3 c3) (nc) (np) FW from by rw [← hNX]; exact hrw); have HBF := Lib.hid (show Below w6.heap.size w6 FW from by rw [← hFW]; exact three_below HBR.out (Nat.le_refl _) _ _ _); have HLY := Lib.hid (show LieG itemE (.slice a3 n3 c3) nx FW from by rw [← hFW]; exact (three_own8 ho9 HNL.out _ _ _).lie); clear hNX hFW hrw; clear hnx hb)
       | (go_at_call 27; (first | (with_reducible refine (HC1.out _ ((Below.refl _ _).alloc (Nat.le_refl _) (.cells #[.slice none 0 0, .int .i64 0, .string ⟨#[]⟩] 42)).drew).mono ?_) | (with_reducible refine (HC1.out _ ((Below.refl _ _).alloc (Nat.le_refl _) (.cells #[.slice none 0 0, .int .i64 0, .string ⟨#[]⟩] 42))).mono ?_)); rintro e w52 ⟨hr, hb⟩; have hs9 : (w51.alloc (.cells #[.slice none 0 0, .int .i64 0, .string ⟨#[]⟩] 42)).heap.size = w51.heap.size + 1 := World.size_alloc _ _; have hb7 : Below (w51.heap.size + 1) (w51.alloc (.cells #[.slice none 0 0, .int .i64 0, .string ⟨#[]⟩] 42)) w52 := (by first | exact Below.trans (Below.refl _ _).drew (hb.mono (Nat.le_of_eq hs9.symm)) | exact hb.mono (Nat.le_of_eq hs9.symm)); have hs7 : w51.heap.size + 1 ≤ w52.heap.size := Nat.le_trans (Nat.le_of_eq hs9.symm) hb7.size; have hb := ((Below.refl w51.heap.size w51).alloc (Nat.le_refl _) (.cells #[.slice none 0 0, .int .i64 0, .string ⟨#[]⟩] 42)).trans (hb7.mono (Nat.le_succ _)); have HNG := Lib.hid (show w6.heap.size ≤ w51.heap.size from HBR.out.size); have HBR := Lib.hid (HBR.out.trans (hb.mono HBR.out.size)); have hnx : w52.heap[w51.heap.size]? = some (.cells #[.slice none 0 0, .int .i64 0, .string ⟨#[]⟩] 42 (0, 0)) := (by rw [hb7.block _ (Nat.lt_succ_self _)]; exact (MapKept.heap_alloc w51 _).1); have HNW := Lib.hid hnx; have HNL := Lib.hid (show w51.heap.size < w52.heap.size from hs7); obtain ⟨⟨e0, e1, e2⟩, f0, f1, f2⟩ := three_cells hnx; rw [HKEY.out] at hr; obtain ⟨a3, n3, c3, he, hn3, ho9⟩ := hr.open HNP.out; subst he; clear hr hn3; obtain ⟨NX, hNX⟩ : ∃ NX, w51.heap.size = NX := ⟨_, rfl⟩; have HNX := Eqq.mk hNX; obtain ⟨FW, hFW⟩ : ∃ FW, (((w52.setCell ⟨w51.heap.size, 0, none⟩ (.slice a3 n3 c3)).setCell ⟨w51.heap.size, 1, none⟩ (.int .i64 nc)).setCell ⟨w51.heap.size, 2, none⟩ (.string np)) = FW := ⟨_, rfl⟩; have HFW := Eqq.mk hFW; have hrw : FW.heap[w51.heap.size]? = some (.cells #[.slice a3 n3 c3, .int .i64 nc, .string np] 42 (0, 0)) := (by rw [← hFW]; exact three_set hnx (.slice a3 n3 c3) (.int .i64 nc) (.string np)); have RY := Lib.hid (show RowIs 42 NX (.slice a3 n3 c3) (nc) (np) FW from by rw [← hNX]; exact hrw); have HBF := Lib.hid (show Below w6.heap.size w6 FW from by rw [← hFW]; exact three_below HBR.out HNG.out _ _ _); have HLY := Lib.hid (show LieG itemE (.slice a3 n3 c3) nx FW from by rw [← hFW]; exact (three_own8 ho9 (show w51.heap.size < _ from Nat.lt_of_lt_of_le (Nat.lt_succ_self _) (Nat.le_of_eq hs9.symm)) _ _ _).lie); clear hNX hFW hrw; clear hnx hb hb7 hs7 hs9)
       | (go_at_call 27; (first | (with_reducible refine (HC1.out _ (Below.refl _ _).drew).mono ?_) | (with_reducible refine (HC1.out _ (Below.refl _ _)).mono ?_)); rintro e w52 ⟨hr, hb⟩; (try have hb := Below.trans (Below.refl _ _).drew hb); have HBR := Lib.hid (HBR.out.trans (hb.mono HBR.out.size)); rw [HKEY.out] at hr; obtain ⟨a3, n3, c3, he, hn3, ho9⟩ := hr.open HNP.out; subst he; clear hr hn3; obtain ⟨NX, hNX⟩ : ∃ NX, w52.heap.size = NX := ⟨_, rfl⟩; have HNX := Eqq.mk hNX; obtain ⟨FW, hFW⟩ : ∃ FW, (w52.alloc (.cells #[.slice a3 n3 c3, .int .i64 nc, .string np] 42)) = FW := ⟨_, rfl⟩; have HFW := Eqq.mk hFW; have hrw : FW.heap[w52.heap.size]? = some (.cells #[.slice a3 n3 c3, .int .i64 nc, .string np] 42 (0, 0)) := (by rw [← hFW]; exact (MapKept.heap_alloc w52 _).1); have RY := Lib.hid (show RowIs 42 NX (.slice a3 n3 c3) (nc) (np) FW from by rw [← hNX]; exact hrw); have HBF := Lib.hid (show Below w6.heap.size w6 FW from by rw [← hFW]; exact HBR.out.alloc HBR.out.size _); have HLY := Lib.hid (show LieG itemE (.slice a3 n3 c3) nx FW from by rw [← hFW]; exact (ho9.alloc _).lie); clear hNX hFW hrw; clear hb))
    all_goals
      (rename_i hHeld
       clear hHeld
       try rw [HFW.out]
       rw [HNX.out]
       try clear e0 e1 e2 f0 f1 f2
       have HB := Lib.hid (HB.out.trans (HBF.out.mono HB.out.size))
       have HT := Lib.hid (HT.out.keep HBF.out)
       have HL := Lib.hid (HL.out.keep HBF.out)
       have HLR := Lib.hid (HLR.out.keep HBF.out)
       have RB := Lib.hid (RB.out.keep HBF.out)
       have HA := Lib.hid (HA.out.keep HBF.out)
       have HLW := Lib.hid (HLW.out.keep HBF.out)
       have RW := Lib.hid (RW.out.keep HBF.out)
       have HLX := Lib.hid (HLX.out.keep HBF.out)
       have RX := Lib.hid (RX.out.keep HBF.out)
       obtain ⟨⟨RXc0, RXc1, RXc2⟩, RXf0, RXf1, RXf2⟩ := three_cells RX.out
       obtain ⟨⟨RYc0, RYc1, RYc2⟩, RYf0, RYf1, RYf2⟩ := three_cells RY.out
       go_wp2_with fail
       clear RXc0 RXc1 RXc2 RXf0 RXf1 RXf2
       clear RYc0 RYc1 RYc2 RYf0 RYf1 RYf2
       with_reducible refine (same8_any _ _ nx nx nc nc np np nl nl _ HLX.out HLY.out HNI.out HNI.out HNX9.out (Nat.le_trans HNX9.out (by decide))).mono ?_
       rw [same_yes]
       rintro e w101 ⟨rfl, hb⟩
       have HB := Lib.hid (HB.out.trans (hb.mono HB.out.size))
       have HT := Lib.hid (HT.out.keep hb)
       have HL := Lib.hid (HL.out.keep hb)
       have HLR := Lib.hid (HLR.out.keep hb)
       have RB := Lib.hid (RB.out.keep hb)
       have HA := Lib.hid (HA.out.keep hb)
       have HLW := Lib.hid (HLW.out.keep hb)
       have RW := Lib.hid (RW.out.keep hb)
       have HLX := Lib.hid (HLX.out.keep hb)
       have RX := Lib.hid (RX.out.keep hb)
       have RY := Lib.hid (RY.out.keep hb)
       have HLY := Lib.hid (HLY.out.keep hb)
       clear hb
       obtain ⟨⟨RBc0, RBc1, RBc2⟩, RBf0, RBf1, RBf2⟩ := three_cells RB.out
       obtain ⟨⟨RWc0, RWc1, RWc2⟩, RWf0, RWf1, RWf2⟩ := three_cells RW.out
       go_wp2_with fail
       clear RBc0 RBc1 RBc2 RBf0 RBf1 RBf2
       clear RWc0 RWc1 RWc2 RWf0 RWf1 RWf2
       with_reducible refine (same8_any _ _ xs xs c c p p pl pl _ HL.out HLW.out HP.out HP.out hn2 (Nat.le_trans hn2 (by decide))).mono ?_
       rw [same_yes]
       rintro e w102 ⟨rfl, hb⟩
       have HB := Lib.hid (HB.out.trans (hb.mono HB.out.size))
       have HT := Lib.hid (HT.out.keep hb)
       have HL := Lib.hid (HL.out.keep hb)
       have HLR := Lib.hid (HLR.out.keep hb)
       have RB := Lib.hid (RB.out.keep hb)
       have HA := Lib.hid (HA.out.keep hb)
       have HLW := Lib.hid (HLW.out.keep hb)
       have RW := Lib.hid (RW.out.keep hb)
       have HLX := Lib.hid (HLX.out.keep hb)
       have RX := Lib.hid (RX.out.keep hb)
       have RY := Lib.hid (RY.out.keep hb)
       have HLY := Lib.hid (HLY.out.keep hb)
       clear hb
       go_wp2_with fail
       with_reducible refine (works_any _ HT.out).mono ?_
       rintro e w103 ⟨rfl, hb⟩
       have HB := Lib.hid (HB.out.trans (hb.mono HB.out.size))
       have HT := Lib.hid (HT.out.keep hb)
       have HL := Lib.hid (HL.out.keep hb)
       have HLR := Lib.hid (HLR.out.keep hb)
       have RB := Lib.hid (RB.out.keep hb)
       have HA := Lib.hid (HA.out.keep hb)
       have HLW := Lib.hid (HLW.out.keep hb)
       have RW := Lib.hid (RW.out.keep hb)
       have HLX := Lib.hid (HLX.out.keep hb)
       have RX := Lib.hid (RX.out.keep hb)
       have RY := Lib.hid (RY.out.keep hb)
       have HLY := Lib.hid (HLY.out.keep hb)
       clear hb
       go_wp2_with fail
       go_ret
       exact ⟨rfl, by first | exact HB.out | exact HB.out.drew⟩)

theorem laidOut : laidOutB Tryz.prog = true := by kernel_rfl
set_option maxRecDepth 100000 in
theorem contract (H : Type) (enc : TypeId × Value → H) (W : World) (base : Nat) (args : Array Value) (ds gs : List (DataW H)) (before : List MemPlace)
    (hval : ∀ (j : Nat) t v, Tryz.f5.params[j]? = some t → args[j]? = some v → Value.okWide Tryz.prog W .any base t v)
    (hW : DataW.Whole enc Tryz.prog Tryz.f5.params.toList Rows.composeInsertsSpec.vars false W args.toList ds gs before) (hL : laidMetH Tryz.prog Rows.composeInsertsRow.laid W) (hS : W.ShapedOpen Tryz.prog) (hC : Rows.uptoSmall H (ds ++ gs) = true)
    (hR : (DataW.weightsEach Tryz.prog (Tryz.f5.params.toList ++ (OpenSpec.ofChange Rows.composeInsertsSpec).bare.plain.varTypes Tryz.prog) (ds ++ gs)).all (· ≤ reachBytes) = true) :
    Calls Tryz.prog 5 args W fun e W' => ∃ v, e = .returned v ∧ Rows.composeInsertsSpec.post enc Tryz.prog Tryz.f5 false true false false W args v W' := by
  have hT : Tabs W := rtabs_of_laid hL hS
  have hW' := hW
  obtain ⟨p, q, hA0, hV, rfl, hfz, hnd⟩ := hW
  have hA : DataW.TrodAll enc Tryz.prog W 0 (fun _ => true) true Tryz.f5.params.toList args.toList ds p := hA0
  rw [Tryz.params5] at hA hval hR
  obtain ⟨v0, vs0, d0, ds0, p0, q0, hargs, rfl, rfl, h0, r0⟩ := trodAll_cons hA
  obtain ⟨v1, vs1, d1, ds1, p1, q1, rfl, rfl, rfl, h1, r1⟩ := trodAll_cons r0
  obtain ⟨v2, vs2, d2, ds2, p2, q2, rfl, rfl, rfl, h2, r2⟩ := trodAll_cons r1
  obtain ⟨rfl, rfl, rfl⟩ := trodAll_nil r2
  obtain rfl : args = #[v0, v1, v2] := by cases args; simp_all
  obtain ⟨rfl, rfl⟩ := trodVars_none hV
  clear hA0
  simp only [List.append_nil] at hW' hR
  have k0 := h0
  have l0 : ∀ x ∈ p0, x.block < W.heap.size := fun x hx => by simpa using hW'.lt x (by simp [hx])
  have k1 := h1
  have l1 : ∀ x ∈ p1, x.block < W.heap.size := fun x hx => by simpa using hW'.lt x (by simp [hx])
  have k2 := h2
  have l2 : ∀ x ∈ p2, x.block < W.heap.size := fun x hx => by simpa using hW'.lt x (by simp [hx])
  have hB : Rows.uptoBulkAll _ ≤ 1048576 := of_decide_eq_true hC
  simp only [List.append_nil, Rows.uptoBulkAll] at hB
  have b0 : Rows.uptoBulk d0 ≤ 1048576 := by omega
  have b1 : Rows.uptoBulk d1 ≤ 1048576 := by omega
  have b2 : Rows.uptoBulk d2 ≤ 1048576 := by omega
  obtain ⟨xs0, hl0, hn0, hz0⟩ := open_rulesB (hval 0 27 v0 rfl rfl) h0 b0
  obtain ⟨u1, xs1, c1, pb1, rfl, hl1, hf1, _, _⟩ := open_bufB (hval 1 33 v1 rfl rfl) h1 b1 (by decide)
  obtain ⟨a2, rfl, rfl, rfl, w2⟩ := open_int Tryz.underlying5 (hval 2 5 v2 rfl rfl) h2
  refine (walk W v0 xs0 hl0 hn0 hz0 u1 xs1 c1 pb1 hl1 hf1 a2 w2 hT).mono fun e W' ⟨he, bel⟩ => ?_
  subst he
  exact ⟨_, rfl, _, _, _, [], _, [], hW', trodAll_mk1 (shut_bool Tryz.underlying4 _), (trodAll_cons_mk (Below.trod laidOut (by kernel_rfl) (of_decide_eq_true (by kernel_rfl)) k0 bel l0) (trodAll_cons_mk (Below.trod laidOut (by kernel_rfl) (of_decide_eq_true (by kernel_rfl)) k1 bel l1) (trodAll_cons_mk (Below.trod laidOut (by kernel_rfl) (of_decide_eq_true (by kernel_rfl)) k2 bel l2) trodAll_mk0))), rfl, bel.frame _, fun h => by cases h⟩

theorem reads (os : Os) {H : Type} (enc : TypeId × Value → H) : ∃ places, DataW.whole enc Tryz.prog ((laidWorldR os).forCall (fun _ _ => 0) ⟨#[], #[.slice none 0 0, .agg #[.slice none 0 0, .int .i64 0, .string ⟨#[]⟩], .int .u8 0], []⟩).memory Tryz.f5.params.toList Rows.composeInsertsSpec.vars false #[.slice none 0 0, .agg #[.slice none 0 0, .int .i64 0, .string ⟨#[]⟩], .int .u8 0].toList 8 = some ([.nil, .agg [.nil, .lit (.int .i64 0), .lit (.string [])], .lit (.int .u8 0)], [], places) :=
  ⟨[], by kernel_rfl⟩

set_option maxRecDepth 100000 in
theorem lifted (os : Os) (started : os.Started) (H : Type) (enc : TypeId × Value → H) (F : Stop.Interp) :
    ReturnsInHanded {} Tryz.checked os 5 .any ((Rows.OpenSpec.upto Rows.composeInsertsSpec).preRow enc Tryz.prog Tryz.f5 Rows.composeInsertsUptoRow.domain false Rows.composeInsertsUptoRow.laid) (((Rows.OpenSpec.upto Rows.composeInsertsSpec).at F).post enc Tryz.prog Tryz.f5 false true false false) := by
  obtain ⟨places, hx⟩ := reads os enc
  refine returnsInHanded_of_row (C := Tryz.checked) (s := (Rows.OpenSpec.upto Rows.composeInsertsSpec)) own started (by kernel_rfl) Tryz.func5
    (witness_row_at (enc := enc) (C := Tryz.checked) false (laidWorldR os) #[.slice none 0 0, .agg #[.slice none 0 0, .int .i64 0, .string ⟨#[]⟩], .int .u8 0] rfl (by kernel_rfl) (by kernel_rfl) (by kernel_rfl)
      (OpenSpec.preRow_of_cond 8 hx (by kernel_rfl) (fun k hk => by cases hk; kernel_rfl) (by kernel_rfl) (laid_metR os _))) ?_
  intro W base args ds gs before hval hW _ hcond hR hL hS _
  exact contract H enc W base args ds gs before hval hW hL hS (hcond _ rfl) hR

theorem said : Rows.ComposeInsertsUptoSaid :=
  OpenClaim.holds_of_cond 5 Tryz.f5 rfl rfl rfl rfl rfl rfl rfl ⟨rfl, rfl, rfl, rfl, rfl⟩ rfl rfl rfl rfl rfl (by kernel_rfl) Tryz.func5 (by kernel_rfl)
    (of_decide_eq_true (by kernel_rfl)) (by unfold Func.isWrapper; first | (rw [if_pos (by decide +kernel)]; kernel_rfl) | (rw [if_neg (by decide +kernel)]; exact ⟨rfl, rfl⟩))
    (fun os started H enc _ F => by rw [OpenClaim.pre_eq_preRow]; exact lifted os started H enc F)

theorem plain (f : FuncId) (fn : Func) (hf : Tryz.pinned.checked.prog.funcNamed "henkan/henkanlaw08.ComposeInserts" = some f) (hfn : Tryz.pinned.checked.prog.funcs[f]? = some fn) :
    false = Tryz.pinned.checked.prog.looks [] ∧ ∀ (j : Nat) t, fn.params[j]? = some t → Tryz.pinned.checked.prog.wantsStandIn t = false := by
  obtain rfl : f = 5 := Option.some.inj ((show Tryz.prog.funcNamed "henkan/henkanlaw08.ComposeInserts" = some 5 by kernel_rfl).symm.trans hf) |>.symm
  obtain rfl : fn = Tryz.f5 := (Option.some.inj (Tryz.func5.symm.trans hfn)).symm
  refine ⟨by kernel_rfl, fun j t ht => ?_⟩
  rw [Tryz.params5] at ht
  have hm := Array.mem_of_getElem? ht
  simp only [List.mem_toArray, List.mem_cons, List.not_mem_nil, or_false] at hm
  rcases hm with rfl | rfl | rfl
  · exact (show Tryz.prog.wantsStandIn 27 = false by kernel_rfl)
  · exact (show Tryz.prog.wantsStandIn 33 = false by kernel_rfl)
  · exact (show Tryz.prog.wantsStandIn 5 = false by kernel_rfl)

/-- the card -/
theorem proved : Rows.ComposeInsertsUptoCardSaid :=
  Claim7.holds_tied_plain_at .later [] _ _ _ _ said (fun _ h => by cases h) (by kernel_rfl) (fun _ h => by cases h) composeInsertsUpto_row_tie rfl ⟨rfl, rfl⟩ (by kernel_rfl) rfl plain (by kernel_rfl)
#print axioms proved
end Go.Proofs.YtgdcffahhpeibaaGreatDoor.composeInserts
