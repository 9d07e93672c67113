/-
  caldate.Parse by its contract. No condition but the string's own bound.
-/
import Derived.Test.YtnpkcobapckhdaaGreatDoorCalThree
import Derived.Test.YtnpkcobapckhdaaGreatDoorCalForms
import Derived.Test.YtnpkcobapckhdaaGreatDoorCalRParse
import Derived.Deep.CutBlock
namespace Go.Proofs.YtnpkcobapckhdaaGreatDoor
open Go.RowKit
theorem pcut_any (s sep : ByteArray) (l t : List UInt8) (w : World) (h : Is s l) (h' : Is sep t) (hs : s.size < 4294967281) (ht : PTabs w) :
    Calls Tryz.prog 44 #[.string s, .string sep] w (CutOf (Lib.cut l t) w) := by
  obtain ⟨m, hm⟩ := ht.mx
  refine (Tryz.strings_Cut s sep m w hs hm).mono ?_
  rintro e w' ⟨rfl, n, rfl⟩
  rw [h.data, h'.data]
  exact ⟨_, _, Is.mk _, Is.mk _, rfl, bel_dw (Below.refl _ _) _⟩
theorem ptrim_any (s sep : ByteArray) (l t : List UInt8) (w : World) (h : Is s l) (h' : Is sep t) (hs : s.size < 4294967281) :
    Calls Tryz.prog 45 #[.string s, .string sep] w fun e w' => (∃ b, Is b (Lib.trimSuffix l t) ∧ e = .returned (.string b)) ∧ w = w' := by
  refine (Tryz.strings_TrimSuffix s sep w (by omega)).mono ?_
  rintro e w' ⟨rfl, rfl⟩
  rw [h.data, h'.data]
  exact ⟨⟨_, Is.mk _, rfl⟩, rfl⟩
theorem ppre_yes (s sep : ByteArray) (l t : List UInt8) (w : World) (h : Is s l) (h' : Is sep t) (hp : Lib.hasPrefix l t = true) :
    Calls Tryz.prog 47 #[.string s, .string sep] w fun e w' => (∃ b, Is b (l.drop t.length) ∧ e = .returned (.tuple #[.string b, .bool true])) ∧ w = w' := by
  refine (Tryz.strings_CutPrefix s sep w).mono ?_
  rintro e w' ⟨rfl, rfl⟩
  rw [h.data, h'.data]
  unfold Lib.trimPrefix
  rw [hp, if_pos rfl]
  exact ⟨⟨_, Is.mk _, rfl⟩, rfl⟩
theorem ppre_no (s sep : ByteArray) (l t : List UInt8) (w : World) (h : Is s l) (h' : Is sep t) (hp : Lib.hasPrefix l t = false) :
    Calls Tryz.prog 47 #[.string s, .string sep] w fun e w' => (∃ b, Is b l ∧ e = .returned (.tuple #[.string b, .bool false])) ∧ w = w' := by
  refine (Tryz.strings_CutPrefix s sep w).mono ?_
  rintro e w' ⟨rfl, rfl⟩
  rw [h.data, h'.data]
  unfold Lib.trimPrefix
  rw [hp, if_neg Bool.false_ne_true]
  exact ⟨⟨_, Is.mk _, rfl⟩, rfl⟩
theorem trim_len (l t : List UInt8) : (Lib.trimSuffix l t).length ≤ l.length := by
  unfold Lib.trimSuffix
  split
  · rw [List.length_take]; omega
  · exact Nat.le_refl _

/-! ### the eras -/
def pname (k : Nat) : List UInt8 := if k = 0 then CF.reiwaL else if k = 1 then CF.heiseiL else if k = 2 then CF.showaL else if k = 3 then CF.taishoL else CF.meijiL
def pyear (k : Nat) : Nat := if k = 0 then 2019 else if k = 1 then 1989 else if k = 2 then 1926 else if k = 3 then 1912 else 1868
theorem pyear_bd (k : Nat) : 1 ≤ pyear k ∧ pyear k ≤ 2019 := by
  unfold pyear
  repeat' split
  all_goals omega
theorem pname_len (k : Nat) : (pname k).length = 6 := by
  unfold pname
  repeat' split
  all_goals rfl
theorem eraCut_hit {T : List UInt8} {k : Nat} (hk : k < 5) (h : ∀ j, j < k → Lib.hasPrefix T (pname j) = false) (hp : Lib.hasPrefix T (pname k) = true) : CF.eraCut T = (T.drop 6, (pyear k : Int)) := by
  unfold CF.eraCut
  obtain rfl | rfl | rfl | rfl | rfl : k = 0 ∨ k = 1 ∨ k = 2 ∨ k = 3 ∨ k = 4 := by omega
  · rw [show Lib.hasPrefix T CF.reiwaL = true from hp]; rfl
  · rw [show Lib.hasPrefix T CF.reiwaL = false from h 0 (by omega), show Lib.hasPrefix T CF.heiseiL = true from hp]; rfl
  · rw [show Lib.hasPrefix T CF.reiwaL = false from h 0 (by omega), show Lib.hasPrefix T CF.heiseiL = false from h 1 (by omega), show Lib.hasPrefix T CF.showaL = true from hp]; rfl
  · rw [show Lib.hasPrefix T CF.reiwaL = false from h 0 (by omega), show Lib.hasPrefix T CF.heiseiL = false from h 1 (by omega), show Lib.hasPrefix T CF.showaL = false from h 2 (by omega), show Lib.hasPrefix T CF.taishoL = true from hp]; rfl
  · rw [show Lib.hasPrefix T CF.reiwaL = false from h 0 (by omega), show Lib.hasPrefix T CF.heiseiL = false from h 1 (by omega), show Lib.hasPrefix T CF.showaL = false from h 2 (by omega), show Lib.hasPrefix T CF.taishoL = false from h 3 (by omega), show Lib.hasPrefix T CF.meijiL = true from hp]; rfl
theorem eraCut_miss {T : List UInt8} (h : ∀ j, j < 5 → Lib.hasPrefix T (pname j) = false) : CF.eraCut T = (T, 1) := by
  unfold CF.eraCut
  rw [show Lib.hasPrefix T CF.reiwaL = false from h 0 (by omega), show Lib.hasPrefix T CF.heiseiL = false from h 1 (by omega), show Lib.hasPrefix T CF.showaL = false from h 2 (by omega), show Lib.hasPrefix T CF.taishoL = false from h 3 (by omega), show Lib.hasPrefix T CF.meijiL = false from h 4 (by omega)]; rfl
theorem era_idx (k : Nat) (hk : k < 5) : ∃ nm m d, Is nm (pname k) ∧ ∀ w, (Instr.index 65 (.agg #[.string ⟨reiwa⟩, .int .i64 2019, .int .i64 5, .int .i64 1, .string ⟨heisei⟩, .int .i64 1989, .int .i64 1, .int .i64 8, .string ⟨showa⟩, .int .i64 1926, .int .i64 12, .int .i64 25, .string ⟨taisho⟩, .int .i64 1912, .int .i64 7, .int .i64 30, .string ⟨meiji⟩, .int .i64 1868, .int .i64 1, .int .i64 25]) (.int .i64 k)).run Tryz.prog w = .ok (.agg #[.string nm, .int .i64 (pyear k), .int .i64 m, .int .i64 d]) w := by
  obtain rfl | rfl | rfl | rfl | rfl : k = 0 ∨ k = 1 ∨ k = 2 ∨ k = 3 ∨ k = 4 := by omega
  · exact ⟨⟨reiwa⟩, 5, 1, Is.mk _, idx0⟩
  · exact ⟨⟨heisei⟩, 1, 8, Is.mk _, idx1⟩
  · exact ⟨⟨showa⟩, 12, 25, Is.mk _, idx2⟩
  · exact ⟨⟨taisho⟩, 7, 30, Is.mk _, idx3⟩
  · exact ⟨⟨meiji⟩, 1, 25, Is.mk _, idx4⟩
theorem sep_idx (k : Nat) (hk : k < 3) : ∃ a b, Is a (CF.sepA k) ∧ Is b (CF.sepB k) ∧ ∀ w, (Instr.index 69 (.agg #[.string ⟨#[229, 185, 180]⟩, .string ⟨#[230, 156, 136]⟩, .string ⟨#[47]⟩, .string ⟨#[47]⟩, .string ⟨#[45]⟩, .string ⟨#[45]⟩]) (.int .i64 k)).run Tryz.prog w = .ok (.agg #[.string a, .string b]) w := by
  obtain rfl | rfl | rfl : k = 0 ∨ k = 1 ∨ k = 2 := by omega
  · exact ⟨⟨#[229, 185, 180]⟩, ⟨#[230, 156, 136]⟩, Is.mk _, Is.mk _, fun w => by kernel_rfl⟩
  · exact ⟨⟨#[47]⟩, ⟨#[47]⟩, Is.mk _, Is.mk _, fun w => by kernel_rfl⟩
  · exact ⟨⟨#[45]⟩, ⟨#[45]⟩, Is.mk _, Is.mk _, fun w => by kernel_rfl⟩

theorem eraCut_nat (T : List UInt8) : ∃ B : Nat, (CF.eraCut T).2 = B ∧ 1 ≤ B ∧ B ≤ 2019 := by
  have := CF.eraCut_bd T
  exact ⟨(CF.eraCut T).2.toNat, by omega, by omega, by omega⟩
theorem ok_nat3 {y m d : Int} (h : Cal.ok y m d = true) : ∃ n y' m' d' : Nat, y = y' ∧ m = m' ∧ d = d' ∧ Cal.num y m d = n ∧ 1 ≤ n ∧ n ≤ 3652059 := by
  have h1 := Cal.num_bd y m d h
  have h2 := (Cal.ok_iff y m d).1 h
  exact ⟨(Cal.num y m d).toNat, y.toNat, m.toNat, d.toNat, by omega, by omega, by omega, by omega, by omega, by omega⟩
/-- the pieces of a text at a pair of signs, and the three numbers -/
structure PParts (B : Nat) (T A Bb Y R M D : List UInt8) (ok is : Bool) : Prop where
  c1 : Lib.cut T A = (Y, R, ok)
  c2 : Lib.cut R Bb = (M, D, is)
  no : (ok && is) = false → CF.ptr B T A Bb = none
  yes : (ok && is) = true → CF.ptr B T A Bb = some ((B : Int) + CF.pnum Y - 1, CF.pnum M, CF.pnum D)
  l1 : Y.length ≤ T.length
  l2 : R.length ≤ T.length
  l3 : M.length ≤ R.length
  l4 : D.length ≤ R.length
theorem ptr_parts (B : Nat) (T A Bb : List UInt8) : ∃ Y R M D ok is, PParts B T A Bb Y R M D ok is := by
  refine ⟨_, _, _, _, _, _, ⟨rfl, rfl, CF.ptr_none, CF.ptr_some, (cut_len _ _).1, (cut_len _ _).2, (cut_len _ _).1, (cut_len _ _).2⟩⟩
set_option maxRecDepth 100000 in
set_option maxHeartbeats 4000000 in
theorem pparse_any (s : ByteArray) (l : List UInt8) (w : World) (h : Is s l) (hs : s.size < 4294967281) (ht : PTabs w) :
    Calls Tryz.prog 22 #[.string s] w (fun e w' => e = .returned (.tuple #[.int .i64 (CF.progCal l).1, .bool (CF.progCal l).2]) ∧ Below w.heap.size w w') := by
  have HI := Lib.hid h
  have hz := h.size
  have HT := Lib.hid ht
  have HL1 := Lib.hid (cut_len l [40])
  obtain ⟨F, hF⟩ : ∃ F, CF.progCal l = F := ⟨_, rfl⟩
  have HF := Eqq.mk hF
  rw [hF]
  clear h hF ht
  go_enter Tryz.func22, Tryz.ntmps22
  go_wp2_with fail
  refine (pcut_any s ⟨#[40]⟩ l [40] _ HI.out (Is.mk _) hs HT.out).mono ?_
  rintro e w1 ⟨x, r1, hx1, hr1, rfl, hw1⟩
  have hz1 : x.size ≤ s.size := by rw [hx1.size, hz]; exact HL1.out.1
  have HX := Lib.hid hx1
  have HT1 := Lib.hid (HT.out.keep hw1)
  have HW1 := Lib.hid hw1
  clear hx1 hr1 hw1
  go_wp2_with fail
  refine (ptrim_any x ⟨#[230, 151, 165]⟩ _ CF.nichi _ HX.out (Is.mk _) (by omega)).mono ?_
  rintro e w2 ⟨⟨y, hy, rfl⟩, rfl⟩
  have hyz : y.size ≤ s.size := by rw [hy.size]; exact Nat.le_trans (trim_len _ _) (by rw [← HX.out.size]; exact hz1)
  have HY : Hid (Is y (CF.txt l)) := Lib.hid hy
  clear hy
  go_wp2_with fail
  refine (eras_any _).mono ?_
  rintro e w3 ⟨rfl, hb⟩
  have HT3 := Lib.hid (HT1.out.keep hb)
  have HB3 := Lib.hid (HW1.out.trans (hb.mono HW1.out.size))
  clear hb
  unfold erasC
  go_upto_block 0 with fail
  go_cut [4, 7] from 34 to 48 (fun tv bv wx => ∃ t, tv = .string t ∧ bv = .int .i64 (CF.eraCut (CF.txt l)).2 ∧ Is t (CF.eraCut (CF.txt l)).1 ∧ t.size ≤ s.size ∧ Below w3.heap.size w3 wx)
  case first =>
    --{era
    go_wp2_with fail
    go_loopw [4, 7, 34] (fun tv bv iv wr => ∃ k : Nat, k ≤ 5 ∧ tv = .string y ∧ bv = .int .i64 1 ∧ iv = .int .i64 k ∧ (∀ j, j < k → Lib.hasPrefix (CF.txt l) (pname j) = false) ∧ Below w3.heap.size w3 wr) (fun _ _ iv _ => 5 - (intOf iv).toNat)
    case atStart => exact ⟨0, by omega, rfl, rfl, rfl, fun j hj => by omega, Below.refl _ _⟩
    case round =>
      obtain ⟨k, hk, rfl, rfl, rfl, hn, hb⟩ := hrel
      have HN := Lib.hid hn
      have HB := Lib.hid hb
      clear hn hb
      by_cases hk5 : k < 5
      · obtain ⟨nm, m, d, inm, hidx⟩ := era_idx k hk5
        have IN := Lib.hid inm
        clear inm
        go_wp2_with fail
        cases hp : Lib.hasPrefix (CF.txt l) (pname k)
        · have HP := Lib.hid hp
          clear hp
          with_reducible refine (ppre_no y nm (CF.txt l) (pname k) _ HY.out IN.out HP.out).mono ?_
          rintro e w4 ⟨⟨b, hb, rfl⟩, rfl⟩
          have HNX := Lib.hid (show ∀ j, j < k + 1 → Lib.hasPrefix (CF.txt l) (pname j) = false by
            intro j hj
            rcases Nat.lt_or_ge j k with h | h
            · exact HN.out j h
            · obtain rfl : j = k := by omega
              exact HP.out)
          go_wp2_with fail
          go_roundw
          case rel => exact ⟨k + 1, by omega, rfl, rfl, by go_num, HNX.out, HB.out.alloc HB.out.size _⟩
          case measure => simp [intOf]; omega
        · have HP := Lib.hid hp
          clear hp
          with_reducible refine (ppre_yes y nm (CF.txt l) (pname k) _ HY.out IN.out HP.out).mono ?_
          rintro e w4 ⟨⟨b, hb, rfl⟩, rfl⟩
          have HBB := Lib.hid hb
          clear hb
          have HE := Lib.hid (eraCut_hit hk5 HN.out HP.out)
          go_wp2_with fail
          go_quiet (fail)
          go_wp2_with fail
          go_meet
          case rel => exact ⟨b, rfl, by rw [HE.out], by rw [HE.out]; rw [pname_len] at HBB; exact HBB.out, by rw [HBB.out.size, List.length_drop, ← HY.out.size]; omega, bel_dw (HB.out.alloc HB.out.size _) _⟩
      · obtain rfl : k = 5 := by omega
        go_wp2_with fail
        go_meet
        case rel => exact ⟨y, rfl, by rw [eraCut_miss HN.out], by rw [eraCut_miss HN.out]; exact HY.out, hyz, HB.out⟩
    --}era
  case rest =>
    obtain ⟨t, rfl, rfl, ht, htz, hb⟩ := hcut
    obtain ⟨T, hT⟩ : ∃ T, (CF.eraCut (CF.txt l)).1 = T := ⟨_, rfl⟩
    have HTT := Eqq.mk hT
    rw [hT] at ht
    have HTX := Lib.hid ht
    have htl := ht.size
    have HT4 := Lib.hid (HT3.out.keep hb)
    have HB4 := Lib.hid (HB3.out.trans (hb.mono HB3.out.size))
    have hB := eraCut_nat (CF.txt l)
    obtain ⟨B, hB0, hB1, hB2⟩ := hB
    have HBB := Lib.hid hB0
    rw [hB0]
    clear ht hb hB0 hT
    have HL0 : Eqq (CF.tleft l (CF.ptr (B : Int) T) 0) F := ⟨by rw [← HF.out, CF.progCal_left, HBB.out, HTT.out]⟩
    go_wp2_with fail
    go_loopw [53] (fun iv wr => ∃ j : Nat, j ≤ 3 ∧ iv = .int .i64 j ∧ Eqq (CF.tleft l (CF.ptr (B : Int) T) j) F ∧ Below wc.heap.size wc wr) (fun iv _ => 3 - (intOf iv).toNat)
    case atStart => exact ⟨0, by omega, rfl, HL0, Below.refl _ _⟩
    case round =>
      obtain ⟨wo, rfl⟩ : ∃ wo : World, wo = wr := ⟨_, rfl⟩
      obtain ⟨j, hj, rfl, HLJ, hb⟩ := hrel
      have HBR := Lib.hid hb
      have HTR := Lib.hid (HT4.out.keep hb)
      clear hb
      by_cases hj3 : j < 3
      · obtain ⟨a, b, ia, ib, hidx⟩ := sep_idx j hj3
        have IA := Lib.hid ia
        have IB := Lib.hid ib
        obtain ⟨Y, R, M, D, ok, is, HV⟩ := ptr_parts B T (CF.sepA j) (CF.sepB j)
        have HBA := Lib.hid ((Below.refl wo.heap.size wo).alloc (Nat.le_refl _) (.cells #[.string a, .string b] 68))
        have HTA := Lib.hid (HTR.out.keep HBA.out)
        have ca : (wo.alloc (.cells #[.string a, .string b] 68)).cell? ⟨wo.heap.size, 1, none⟩ = some (.string b) := by go_simp
        have HCA := Lib.hid ca
        clear ia ib ca
        go_wp2_with fail
        with_reducible refine (pcut_any t a T (CF.sepA j) _ HTX.out IA.out (by omega) HTA.out).mono ?_
        rw [HV.c1]
        rintro e w5 ⟨x1, x2, h1, h2, rfl, hw⟩
        have hx1 : x1.size ≤ t.size := by rw [h1.size, htl]; exact HV.l1
        have hx2 : x2.size ≤ t.size := by rw [h2.size, htl]; exact HV.l2
        have hx2l := h2.size
        have c5 := (hw.cell (p := ⟨wo.heap.size, 1, none⟩) (by simp)).trans HCA.out
        have H1 : Hid (Is x1 Y) := Lib.hid h1
        have H2 : Hid (Is x2 R) := Lib.hid h2
        have HB5 := Lib.hid (HBA.out.trans (hw.mono HBA.out.size))
        have HT5 := Lib.hid (HTA.out.keep hw)
        clear h1 h2 hw
        dsimp only at hx2l ⊢
        go_wp2_with fail
        with_reducible refine (pcut_any x2 b R (CF.sepB j) _ H2.out IB.out (by omega) HT5.out).mono ?_
        rw [HV.c2]
        rintro e w6 ⟨x3, x4, h3, h4, rfl, hw⟩
        have hx3 : x3.size ≤ x2.size := by rw [h3.size, hx2l]; exact HV.l3
        have hx4 : x4.size ≤ x2.size := by rw [h4.size, hx2l]; exact HV.l4
        have H3 : Hid (Is x3 M) := Lib.hid h3
        have H4 : Hid (Is x4 D) := Lib.hid h4
        have HB6 := Lib.hid (HB5.out.trans (hw.mono HB5.out.size))
        have HT6 := Lib.hid (HT5.out.keep hw)
        clear h3 h4 hw
        dsimp only
        cases hoi : (ok && is)
        · have HNX := Eqq.mk (CF.tleft_skip (s := l) hj3 (HV.no hoi))
          cases ok
          · go_wp2_with fail
            go_roundw
            case rel => exact ⟨j + 1, by omega, by go_num, ⟨by rw [← HNX.out]; exact HLJ.out⟩, HBR.out.trans (HB6.out.mono HBR.out.size)⟩
            case measure => simp [intOf]; omega
          · cases is
            · go_wp2_with fail
              go_roundw
              case rel => exact ⟨j + 1, by omega, by go_num, ⟨by rw [← HNX.out]; exact HLJ.out⟩, HBR.out.trans (HB6.out.mono HBR.out.size)⟩
              case measure => simp [intOf]; omega
            · cases hoi
        · have HSM := Eqq.mk (HV.yes hoi)
          obtain ⟨rfl, rfl⟩ : ok = true ∧ is = true := by cases ok <;> cases is <;> simp at hoi ⊢
          clear hoi
          obtain ⟨p, hp⟩ : ∃ p, CF.pnum Y = p := ⟨_, rfl⟩
          obtain ⟨q, hq⟩ : ∃ q, CF.pnum M = q := ⟨_, rfl⟩
          obtain ⟨r, hr⟩ : ∃ r, CF.pnum D = r := ⟨_, rfl⟩
          have pb := CF.pnum_bd Y
          rw [hp] at pb
          obtain ⟨pb0, pb1⟩ := pb
          have HP := Eqq.mk hp
          have HQ := Eqq.mk hq
          have HR := Eqq.mk hr
          have HSM2 : Eqq (CF.ptr B T (CF.sepA j) (CF.sepB j)) (some ((B : Int) + p - 1, q, r)) := ⟨by rw [HSM.out, hp, hq, hr]⟩
          clear hp hq hr HSM
          go_wp2_with fail
          with_reducible refine (number_any x1 Y _ H1.out (by omega) HT6.out).mono ?_
          rw [HP.out]
          rintro e w7 ⟨rfl, hw⟩
          have HB7 := Lib.hid (HB6.out.trans (hw.mono HB6.out.size))
          have HT7 := Lib.hid (HT6.out.keep hw)
          clear hw
          go_wp2_with fail
          with_reducible refine (number_any x3 M _ H3.out (by omega) HT7.out).mono ?_
          rw [HQ.out]
          rintro e w8 ⟨rfl, hw⟩
          have HB8 := Lib.hid (HB7.out.trans (hw.mono HB7.out.size))
          have HT8 := Lib.hid (HT7.out.keep hw)
          clear hw
          go_wp2_with fail
          with_reducible refine (number_any x4 D _ H4.out (by omega) HT8.out).mono ?_
          rw [HR.out]
          rintro e w9 ⟨rfl, hw⟩
          have HB9 := Lib.hid (HB8.out.trans (hw.mono HB8.out.size))
          have HT9 := Lib.hid (HT8.out.keep hw)
          clear hw
          cases hok : Cal.ok ((B : Int) + p - 1) q r
          · have HNX := Eqq.mk (CF.tleft_miss (s := l) hj3 HSM2.out (fun h => by rw [hok] at h; cases h.1))
            have HOK := Lib.hid hok
            clear hok
            go_wp2_with fail
            with_reducible refine (day_no _ _ _ _ HOK.out).mono ?_
            rintro e w3 ⟨rfl, rfl⟩
            go_wp2_with fail
            go_roundw
            case rel => exact ⟨j + 1, by omega, by go_num, ⟨by rw [← HNX.out]; exact HLJ.out⟩, HBR.out.trans (HB9.out.mono HBR.out.size)⟩
            case measure => simp [intOf]; omega
          · obtain ⟨n, y', m', d', e1, e2, e3, hn, n1, n2⟩ := ok_nat3 hok
            have HOK := Lib.hid hok
            have HNN := Eqq.mk hn
            have HOK2 := Lib.hid (show Cal.ok (y' : Int) m' d' = true by rw [← e1, ← e2, ← e3]; exact hok)
            have HNN2 := Eqq.mk (show Cal.num (y' : Int) m' d' = n by rw [← e1, ← e2, ← e3]; exact hn)
            have HSM3 : Eqq (CF.ptr B T (CF.sepA j) (CF.sepB j)) (some ((y' : Int), (m' : Int), (d' : Int))) := ⟨by rw [HSM2.out, e1, e2, e3]⟩
            clear hok hn e1 e2 e3
            go_wp2_with fail
            with_reducible refine (day_yes _ _ _ _ HOK.out).mono ?_
            rw [HNN.out]
            rintro e w10 ⟨rfl, rfl⟩
            go_wp2_with fail
            with_reducible refine (formsC_any n y' m' d' _ n1 n2 HOK2.out HNN2.out HT9.out.cal).mono ?_
            rintro e w11 ⟨v, xs, hm, hx, rfl, hb⟩
            have h6 := CF.withYear_len n y' m' d'
            have HF2 := Eqq.mk (formsL_wy n y' m' d')
            have HWY := Lib.hid (fun k => wy_at n y' m' d' k)
            obtain ⟨L, hL⟩ : ∃ L, CF.withYear n y' m' d' = L := ⟨_, rfl⟩
            have HL := Eqq.mk hL
            rw [hL] at h6 HF2 HWY
            obtain ⟨K, hK⟩ : ∃ K, L.length = K := ⟨_, rfl⟩
            have HK := Eqq.mk hK
            rw [hK] at h6 HF2 HWY
            have hl : xs.length = K + 2 := by rw [← HF2.out, ← hm, List.length_map]
            obtain ⟨g, cap, rfl, hgB, hgl, hcap, hcell, _⟩ := hx.at (by intro e; rw [e] at hl; simp at hl)
            have HC := Lib.hid hcell
            have HM := Eqq.mk hm
            have HB11 := Lib.hid (HB9.out.trans (hb.mono HB9.out.size))
            clear hm hx hb hcell hgB hL hK
            rw [hl]
            have hcap2 : K ≤ cap := by omega
            go_wp2_with fail
            go_loop [101] (fun iv => ∃ i : Nat, i ≤ K ∧ iv = .int .i64 i ∧ (∀ j, j < i → L[j]? ≠ some l)) (fun iv => K - (intOf iv).toNat)
            case atStart => exact ⟨0, Nat.zero_le _, rfl, fun j hj => by omega⟩
            case round =>
              obtain ⟨i, hi, rfl, hno⟩ := hrel
              have HNO := Lib.hid hno
              clear hno
              by_cases hiK : i < K
              · obtain ⟨z, hz0⟩ : ∃ z, xs.getD i ⟨#[]⟩ = z := ⟨_, rfl⟩
                have hil : i < xs.length := by omega
                have hLi : L[i]? = some z.data.toList := by rw [← HWY.out i hiK, text_at HM.out i hil, hz0]
                have hci : w11.cell? ⟨g, i, none⟩ = some (.string z) := by
                  refine HC.out i z ?_
                  rw [← hz0, List.getD_eq_getElem?_getD, List.getElem?_eq_getElem hil]; rfl
                have hze : z.toList = z.data.toList := Lib.toList_data z
                have HLI := Lib.hid hLi
                clear hz0 hLi
                by_cases e : z.data.toList = l
                · have hb3 : (z.toList == s.toList) = true := by rw [hze, e, HI.out.list]; exact beq_self_eq_true _
                  have HNX : Eqq F ((n : Int), true) := ⟨by
                    rw [← HLJ.out, CF.tleft_hit (s := l) hj3 HSM3.out HOK2.out (by rw [HNN2.out]; simp only [Int.toNat_natCast]; rw [HL.out]; exact List.mem_of_getElem? (by rw [HLI.out, e])), HNN2.out]⟩
                  clear hze e
                  go_wp2_with fail
                  go_ret2
                  exact ⟨by rw [HNX.out]; rfl, HB4.out.trans ((HBR.out.trans (HB11.out.mono HBR.out.size)).mono HB4.out.size)⟩
                · have hb3 : (z.toList == s.toList) = false := by rw [hze, HI.out.list]; exact beq_eq_false_iff_ne.2 e
                  have HR2 := Lib.hid (show ∀ j, j < i + 1 → L[j]? ≠ some l by
                    intro j hj hh
                    rcases Nat.lt_or_ge j i with h3 | h3
                    · exact HNO.out j h3 hh
                    · obtain rfl : j = i := by omega
                      rw [HLI.out] at hh; injection hh with hh; exact e hh)
                  clear hze e
                  go_wp2_with fail
                  go_round
                  case rel => exact ⟨i + 1, by omega, by go_num, HR2.out⟩
                  case measure => simp [intOf]; omega
              · obtain rfl : i = K := by omega
                have HNX := Eqq.mk (CF.tleft_miss (s := l) hj3 HSM3.out (fun h => by
                  have h2 := h.2
                  rw [HNN2.out] at h2
                  simp only [Int.toNat_natCast] at h2
                  rw [HL.out] at h2
                  obtain ⟨j, hj, hje⟩ := List.getElem_of_mem h2
                  exact HNO.out j (by rw [← HK.out]; exact hj) (by rw [List.getElem?_eq_getElem hj, hje])))
                go_wp2_with fail
                go_roundw
                case rel => exact ⟨j + 1, by omega, by go_num, ⟨by rw [← HNX.out]; exact HLJ.out⟩, HBR.out.trans (HB11.out.mono HBR.out.size)⟩
                case measure => simp [intOf]; omega
      · obtain rfl : j = 3 := by omega
        have HE := Eqq.mk (show F = (0, false) from HLJ.out.symm)
        go_wp2_with fail
        go_ret2
        exact ⟨by rw [HE.out]; rfl, HB4.out.trans (HBR.out.mono HB4.out.size)⟩
end Go.Proofs.YtnpkcobapckhdaaGreatDoor
