/-
  caldate.Forms by its contract: all ways of writing a day. Written by wip/tools/gencalforms.py. No condition but the tables.
-/
import Derived.Test.YtnpkcobapckhdaaGreatDoorCalWords
import Derived.Outline
namespace Go.Proofs.YtnpkcobapckhdaaGreatDoor
open Go.RowKit
theorem parts_at (w : World) (ps : List ByteArray) : ∀ (j : Nat) (x : ByteArray), ps[j]? = some x → (w.alloc (.cells (ps.map Value.string).toArray 9)).cell? ⟨w.heap.size, j, none⟩ = some (.string x) := by
  intro j x hx
  rw [Lib.cell_of_heap (MapKept.heap_alloc w (.cells (ps.map Value.string).toArray 9)).1]
  simp [hx]

theorem sep0 (w : World) : (Instr.index 68 (.agg #[.string ⟨#[47]⟩, .string ⟨#[45]⟩]) (.int .i64 0)).run Tryz.prog w = .ok (.string ⟨#[47]⟩) w := by kernel_rfl
theorem sep1 (w : World) : (Instr.index 68 (.agg #[.string ⟨#[47]⟩, .string ⟨#[45]⟩]) (.int .i64 1)).run Tryz.prog w = .ok (.string ⟨#[45]⟩) w := by kernel_rfl
set_option maxHeartbeats 400000 in
theorem forms_no (n : Int) (w : World) (h : n < 1 ∨ 3652059 < n) :
    Calls Tryz.prog 25 #[.int .i64 n] w fun e w' => e = .returned (.slice none 0 0) ∧ w = w' := by
  go_enter Tryz.func25, Tryz.ntmps25
  go_wp2_with fail
  refine (date_no _ _ h).mono ?_
  rintro e w' ⟨rfl, rfl⟩
  go_wp2_with fail
  go_ret
  exact ⟨rfl, rfl⟩

set_option maxRecDepth 100000 in
set_option maxHeartbeats 8000000 in
theorem formsC_any (n y m d : Nat) (w : World) (h1 : 1 ≤ n) (h2 : n ≤ 3652059) (hok : Cal.ok y m d = true) (hnum : Cal.num y m d = n) (ht : CTabs w) :
    Calls Tryz.prog 25 #[.int .i64 n] w (GivesC (CF.formsL n y m d) w) := by
  have HO := Lib.hid hok
  have HN := Lib.hid hnum
  have HT := Lib.hid ht
  clear hok hnum ht
  go_enter Tryz.func25, Tryz.ntmps25
  go_wp2_with fail
  refine (date_yes n _ (by omega) (by omega)).mono ?_
  rintro e w0 hd0
  obtain ⟨y', m', d', ho', hn', q1, q2, q3, q4, q5, q6, rfl, rfl⟩ := dateN hd0
  obtain ⟨ey, em, ed⟩ := Cal.num_inj y' m' d' y m d ho' HO.out (hn'.trans HN.out.symm)
  obtain rfl : y' = y := by omega
  obtain rfl : m' = m := by omega
  obtain rfl : d' = d := by omega
  clear hd0 ho' hn' ey em ed
  go_wp2_with fail
  refine (wd_yes n _ (by omega) (by omega)).mono ?_
  rintro e wa ⟨rfl, hba⟩
  obtain ⟨wn, hwn⟩ : ∃ wn, wdName ((n : Int) % 7) = wn := ⟨_, rfl⟩
  have HWN := Lib.hid (show Is wn (CF.wd (n % 7)) by rw [← hwn]; exact wd_is n)
  have hwnz : wn.size = 3 := by rw [HWN.out.size]; exact CF.wd_len _
  rw [hwn]
  clear hwn
  have HO0 := Lib.hid (show OutIs w0.heap.size w0.heap.size [] (w0.alloc (.cells #[.slice none 0 0] 23)) from ⟨Nat.le_refl _, _, (MapKept.heap_alloc w0 _).1, Strs.nil _ _⟩)
  have HOa := Lib.hid (HO0.out.below hba (Nat.le_refl _))
  have HBa := Lib.hid (((Below.refl w0.heap.size w0).alloc (Nat.le_refl _) (.cells #[.slice none 0 0] 23)).trans (hba.mono (by simp)))
  clear hba HO0
  go_wp2_with fail
  refine (itoa_any m' _ (by omega) (HT.out.below HBa.out (Nat.le_refl _))).mono ?_
  rintro e w1 ⟨b1, hb1, rfl, hw1⟩
  have hz1 : b1.size ≤ 4 := by rw [hb1.size]; exact (Num.digs_len m').2
  have HI1 := Lib.hid hb1
  have HB1 := Lib.hid (HBa.out.trans (hw1.mono HBa.out.size))
  have HO1 := Lib.hid (HOa.out.below hw1 (Nat.le_refl _))
  clear hb1 hw1
  clear HOa
  clear HBa
  go_wp2_with fail
  refine (itoa_any d' _ (by omega) (HT.out.below HB1.out (Nat.le_refl _))).mono ?_
  rintro e w2 ⟨b2, hb2, rfl, hw2⟩
  have hz2 : b2.size ≤ 4 := by rw [hb2.size]; exact (Num.digs_len d').2
  have HI2 := Lib.hid hb2
  have HB2 := Lib.hid (HB1.out.trans (hw2.mono HB1.out.size))
  have HO2 := Lib.hid (HO1.out.below hw2 (Nat.le_refl _))
  clear hb2 hw2
  clear HO1
  clear HB1
  go_wp2_with fail
  generalize hL : b1 ++ (⟨#[230, 156, 136]⟩ : ByteArray) ++ b2 ++ (⟨#[230, 151, 165]⟩ : ByteArray) = lg
  have HL := Lib.hid (show Is lg (CF.short m' d') by rw [← hL]; exact ((HI1.out.append is_ga).append HI2.out).append is_ni)
  have hlz : lg.size ≤ 14 := by rw [HL.out.size]; exact CF.short_len _ _
  clear hL HI1 HI2 hz1 hz2
  refine (itoa_any y' _ (by omega) (HT.out.below HB2.out (Nat.le_refl _))).mono ?_
  rintro e w3 ⟨b3, hb3, rfl, hw3⟩
  have hz3 : b3.size ≤ 4 := by rw [hb3.size]; exact (Num.digs_len y').2
  have HI3 := Lib.hid hb3
  have HB3 := Lib.hid (HB2.out.trans (hw3.mono HB2.out.size))
  have HO3 := Lib.hid (HO2.out.below hw3 (Nat.le_refl _))
  clear hb3 hw3
  clear HO2
  clear HB2
  go_wp2_with fail
  have hal4 : Below w3.heap.size w3 (w3.alloc (.cells #[.string b3, .string (⟨#[229, 185, 180]⟩ : ByteArray), .string lg] 9)) := (Below.refl _ _).alloc (Nat.le_refl _) _
  have hX4 : ([b3, (⟨#[229, 185, 180]⟩ : ByteArray), lg].map (·.data.toList)).flatten = CF.form1 y' m' d' := by
    show [(b3).data.toList, ((⟨#[229, 185, 180]⟩ : ByteArray)).data.toList, (lg).data.toList].flatten = _
    rw [Is.data HI3.out, Is.data is_nen, Is.data HL.out]
    exact CF.flat3_form1
  refine (add_any w0.heap.size w0.heap.size w3.heap.size 3 3 [b3, (⟨#[229, 185, 180]⟩ : ByteArray), lg] [] (CF.form1 y' m' d') _ (HO3.out.below hal4 (Nat.le_refl _)) (Nat.le_trans HB3.out.size hal4.size) rfl (parts_at w3 _) (by simp) hX4 (Nat.le_trans (CF.form1_len y' m' d') (by decide)) (by decide) (by decide) (by simp)).mono ?_
  rintro e w4 ⟨rfl, ⟨t4, ht4, ho4⟩, hw4⟩
  have HT4 := Lib.hid ht4
  have HO4 : Hid (OutIs w0.heap.size w0.heap.size [t4] w4) := Lib.hid ho4
  have HB4 := Lib.hid ((HB3.out.alloc HB3.out.size (.cells #[.string b3, .string (⟨#[229, 185, 180]⟩ : ByteArray), .string lg] 9)).trans hw4)
  clear ht4 ho4 hw4 hX4 hal4 HO3 HB3
  go_wp2_with fail
  refine (itoa_any y' _ (by omega) (HT.out.below HB4.out (Nat.le_refl _))).mono ?_
  rintro e w5 ⟨b5, hb5, rfl, hw5⟩
  have hz5 : b5.size ≤ 4 := by rw [hb5.size]; exact (Num.digs_len y').2
  have HI5 := Lib.hid hb5
  have HB5 := Lib.hid (HB4.out.trans (hw5.mono HB4.out.size))
  have HO5 := Lib.hid (HO4.out.below hw5 (Nat.le_refl _))
  clear hb5 hw5
  clear HO4
  clear HB4
  go_wp2_with fail
  have hal6 : Below w5.heap.size w5 (w5.alloc (.cells #[.string b5, .string (⟨#[229, 185, 180]⟩ : ByteArray), .string lg, .string (⟨#[40]⟩ : ByteArray), .string wn, .string (⟨#[41]⟩ : ByteArray)] 9)) := (Below.refl _ _).alloc (Nat.le_refl _) _
  have hX6 : ([b5, (⟨#[229, 185, 180]⟩ : ByteArray), lg, (⟨#[40]⟩ : ByteArray), wn, (⟨#[41]⟩ : ByteArray)].map (·.data.toList)).flatten = CF.form2 n y' m' d' := by
    show [(b5).data.toList, ((⟨#[229, 185, 180]⟩ : ByteArray)).data.toList, (lg).data.toList, ((⟨#[40]⟩ : ByteArray)).data.toList, (wn).data.toList, ((⟨#[41]⟩ : ByteArray)).data.toList].flatten = _
    rw [Is.data HI5.out, Is.data is_nen, Is.data HL.out, Is.data (Is.mk [40]), Is.data HWN.out, Is.data (Is.mk [41])]
    exact CF.flat6_form2
  refine (add_any w0.heap.size w0.heap.size w5.heap.size 6 6 [b5, (⟨#[229, 185, 180]⟩ : ByteArray), lg, (⟨#[40]⟩ : ByteArray), wn, (⟨#[41]⟩ : ByteArray)] [t4] (CF.form2 n y' m' d') _ (HO5.out.below hal6 (Nat.le_refl _)) (Nat.le_trans HB5.out.size hal6.size) rfl (parts_at w5 _) (by simp) hX6 (Nat.le_trans (CF.form2_len n y' m' d') (by decide)) (by decide) (by decide) (by simp)).mono ?_
  rintro e w6 ⟨rfl, ⟨t6, ht6, ho6⟩, hw6⟩
  have HT6 := Lib.hid ht6
  have HO6 : Hid (OutIs w0.heap.size w0.heap.size [t4, t6] w6) := Lib.hid ho6
  have HB6 := Lib.hid ((HB5.out.alloc HB5.out.size (.cells #[.string b5, .string (⟨#[229, 185, 180]⟩ : ByteArray), .string lg, .string (⟨#[40]⟩ : ByteArray), .string wn, .string (⟨#[41]⟩ : ByteArray)] 9)).trans hw6)
  clear ht6 ho6 hw6 hX6 hal6 HO5 HB5
  go_wp2_with fail
  go_loopw [56] (fun iv wr => ∃ (k : Nat) (xs : List ByteArray), k ≤ 2 ∧ iv = .int .i64 k ∧ xs.length = 2 + k ∧ xs.map (·.data.toList) = [CF.form1 y' m' d', CF.form2 n y' m' d', CF.form3 y' m' d', CF.form4 y' m' d'].take (2 + k) ∧ OutIs w0.heap.size w0.heap.size xs wr ∧ Below w0.heap.size w0 wr) (fun iv _ => 2 - (intOf iv).toNat)
  case atStart => exact ⟨0, [t4, t6], by decide, rfl, rfl, by show [t4.data.toList, t6.data.toList] = _; rw [HT4.out.data, HT6.out.data]; rfl, HO6.out, HB6.out⟩
  case round =>
    obtain ⟨k, xs, hk, rfl, hxl, hxm, hxo, hxb⟩ := hrel
    clear HO6 HB6
    have HOr := Lib.hid hxo
    have HBr := Lib.hid hxb
    have HM := Lib.hid hxm
    clear hxo hxb hxm
    have hk3 : k = 0 ∨ k = 1 ∨ k = 2 := by omega
    rcases hk3 with rfl | rfl | rfl
    · have hsx := sep0 wr
      go_wp2_with fail
      refine (padded_any y' 4 _ (by omega) (by decide) (HT.out.below HBr.out (Nat.le_refl _))).mono ?_
      rintro e w7 ⟨b7, hb7, rfl, hw7⟩
      have hz7 : b7.size ≤ 8 := by rw [hb7.size]; exact CF.pad_len 4 y'
      have HI7 := Lib.hid hb7
      have HB7 := Lib.hid (HBr.out.trans (hw7.mono HBr.out.size))
      have HO7 := Lib.hid (HOr.out.below hw7 (Nat.le_refl _))
      clear hb7 hw7
      clear HOr
      clear HBr
      go_wp2_with fail
      refine (padded_any m' 2 _ (by omega) (by decide) (HT.out.below HB7.out (Nat.le_refl _))).mono ?_
      rintro e w8 ⟨b8, hb8, rfl, hw8⟩
      have hz8 : b8.size ≤ 6 := by rw [hb8.size]; exact CF.pad_len 2 m'
      have HI8 := Lib.hid hb8
      have HB8 := Lib.hid (HB7.out.trans (hw8.mono HB7.out.size))
      have HO8 := Lib.hid (HO7.out.below hw8 (Nat.le_refl _))
      clear hb8 hw8
      clear HO7
      clear HB7
      go_wp2_with fail
      refine (padded_any d' 2 _ (by omega) (by decide) (HT.out.below HB8.out (Nat.le_refl _))).mono ?_
      rintro e w9 ⟨b9, hb9, rfl, hw9⟩
      have hz9 : b9.size ≤ 6 := by rw [hb9.size]; exact CF.pad_len 2 d'
      have HI9 := Lib.hid hb9
      have HB9 := Lib.hid (HB8.out.trans (hw9.mono HB8.out.size))
      have HO9 := Lib.hid (HO8.out.below hw9 (Nat.le_refl _))
      clear hb9 hw9
      clear HO8
      clear HB8
      go_wp2_with fail
      have hal10 : Below w9.heap.size w9 (w9.alloc (.cells #[.string b7, .string (⟨#[47]⟩ : ByteArray), .string b8, .string (⟨#[47]⟩ : ByteArray), .string b9] 9)) := (Below.refl _ _).alloc (Nat.le_refl _) _
      have hX10 : ([b7, (⟨#[47]⟩ : ByteArray), b8, (⟨#[47]⟩ : ByteArray), b9].map (·.data.toList)).flatten = CF.form3 y' m' d' := by
        show [(b7).data.toList, ((⟨#[47]⟩ : ByteArray)).data.toList, (b8).data.toList, ((⟨#[47]⟩ : ByteArray)).data.toList, (b9).data.toList].flatten = _
        rw [Is.data HI7.out, Is.data (Is.mk [47]), Is.data HI8.out, Is.data HI9.out]
        exact CF.flat5_form3
      refine (add_any w0.heap.size w0.heap.size w9.heap.size 5 5 [b7, (⟨#[47]⟩ : ByteArray), b8, (⟨#[47]⟩ : ByteArray), b9] xs (CF.form3 y' m' d') _ (HO9.out.below hal10 (Nat.le_refl _)) (Nat.le_trans HB9.out.size hal10.size) rfl (parts_at w9 _) (by simp) hX10 (Nat.le_trans (CF.form3_len y' m' d') (by decide)) (by decide) (by decide) (by rw [hxl]; decide)).mono ?_
      rintro e w10 ⟨rfl, ⟨t10, ht10, ho10⟩, hw10⟩
      have HT10 := Lib.hid ht10
      have HO10 : Hid (OutIs w0.heap.size w0.heap.size (xs ++ [t10]) w10) := Lib.hid ho10
      have HB10 := Lib.hid ((HB9.out.alloc HB9.out.size (.cells #[.string b7, .string (⟨#[47]⟩ : ByteArray), .string b8, .string (⟨#[47]⟩ : ByteArray), .string b9] 9)).trans hw10)
      clear ht10 ho10 hw10 hX10 hal10 HO9 HB9
      go_wp2_with fail
      go_roundw
      case rel => exact ⟨1, xs ++ [t10], by decide, by go_num, by rw [List.length_append, hxl]; rfl, by rw [List.map_append, HM.out, List.map_cons, List.map_nil, HT10.out.data]; rfl, HO10.out, HB10.out⟩
      case measure => simp [intOf]
    · have hsx := sep1 wr
      go_wp2_with fail
      refine (padded_any y' 4 _ (by omega) (by decide) (HT.out.below HBr.out (Nat.le_refl _))).mono ?_
      rintro e w7 ⟨b7, hb7, rfl, hw7⟩
      have hz7 : b7.size ≤ 8 := by rw [hb7.size]; exact CF.pad_len 4 y'
      have HI7 := Lib.hid hb7
      have HB7 := Lib.hid (HBr.out.trans (hw7.mono HBr.out.size))
      have HO7 := Lib.hid (HOr.out.below hw7 (Nat.le_refl _))
      clear hb7 hw7
      clear HOr
      clear HBr
      go_wp2_with fail
      refine (padded_any m' 2 _ (by omega) (by decide) (HT.out.below HB7.out (Nat.le_refl _))).mono ?_
      rintro e w8 ⟨b8, hb8, rfl, hw8⟩
      have hz8 : b8.size ≤ 6 := by rw [hb8.size]; exact CF.pad_len 2 m'
      have HI8 := Lib.hid hb8
      have HB8 := Lib.hid (HB7.out.trans (hw8.mono HB7.out.size))
      have HO8 := Lib.hid (HO7.out.below hw8 (Nat.le_refl _))
      clear hb8 hw8
      clear HO7
      clear HB7
      go_wp2_with fail
      refine (padded_any d' 2 _ (by omega) (by decide) (HT.out.below HB8.out (Nat.le_refl _))).mono ?_
      rintro e w9 ⟨b9, hb9, rfl, hw9⟩
      have hz9 : b9.size ≤ 6 := by rw [hb9.size]; exact CF.pad_len 2 d'
      have HI9 := Lib.hid hb9
      have HB9 := Lib.hid (HB8.out.trans (hw9.mono HB8.out.size))
      have HO9 := Lib.hid (HO8.out.below hw9 (Nat.le_refl _))
      clear hb9 hw9
      clear HO8
      clear HB8
      go_wp2_with fail
      have hal10 : Below w9.heap.size w9 (w9.alloc (.cells #[.string b7, .string (⟨#[45]⟩ : ByteArray), .string b8, .string (⟨#[45]⟩ : ByteArray), .string b9] 9)) := (Below.refl _ _).alloc (Nat.le_refl _) _
      have hX10 : ([b7, (⟨#[45]⟩ : ByteArray), b8, (⟨#[45]⟩ : ByteArray), b9].map (·.data.toList)).flatten = CF.form4 y' m' d' := by
        show [(b7).data.toList, ((⟨#[45]⟩ : ByteArray)).data.toList, (b8).data.toList, ((⟨#[45]⟩ : ByteArray)).data.toList, (b9).data.toList].flatten = _
        rw [Is.data HI7.out, Is.data (Is.mk [45]), Is.data HI8.out, Is.data HI9.out]
        exact CF.flat5_form4
      refine (add_any w0.heap.size w0.heap.size w9.heap.size 5 5 [b7, (⟨#[45]⟩ : ByteArray), b8, (⟨#[45]⟩ : ByteArray), b9] xs (CF.form4 y' m' d') _ (HO9.out.below hal10 (Nat.le_refl _)) (Nat.le_trans HB9.out.size hal10.size) rfl (parts_at w9 _) (by simp) hX10 (Nat.le_trans (CF.form4_len y' m' d') (by decide)) (by decide) (by decide) (by rw [hxl]; decide)).mono ?_
      rintro e w10 ⟨rfl, ⟨t10, ht10, ho10⟩, hw10⟩
      have HT10 := Lib.hid ht10
      have HO10 : Hid (OutIs w0.heap.size w0.heap.size (xs ++ [t10]) w10) := Lib.hid ho10
      have HB10 := Lib.hid ((HB9.out.alloc HB9.out.size (.cells #[.string b7, .string (⟨#[45]⟩ : ByteArray), .string b8, .string (⟨#[45]⟩ : ByteArray), .string b9] 9)).trans hw10)
      clear ht10 ho10 hw10 hX10 hal10 HO9 HB9
      go_wp2_with fail
      go_roundw
      case rel => exact ⟨2, xs ++ [t10], by decide, by go_num, by rw [List.length_append, hxl]; rfl, by rw [List.map_append, HM.out, List.map_cons, List.map_nil, HT10.out.data]; rfl, HO10.out, HB10.out⟩
      case measure => simp [intOf]
    · skip
      go_wp2_with fail
      refine (era_yes n _ (by omega) (by omega)).mono ?_
      rintro e we he
      rcases eraN n y' m' d' HO.out HN.out he with ⟨hE, rfl, hbe⟩ | ⟨sn, en, eb, ek, hE, hyk, hk1, hsn, hsnz, rfl, hbe⟩
      · have HE := Lib.hid hE
        have HOe := Lib.hid (HOr.out.below hbe (Nat.le_refl _))
        have HBe := Lib.hid (HBr.out.trans (hbe.mono HBr.out.size))
        clear he hE hbe HOr HBr
        go_wp2_with fail
        have hal11 : Below we.heap.size we (we.alloc (.cells #[.string lg] 9)) := (Below.refl _ _).alloc (Nat.le_refl _) _
        have hX11 : ([lg].map (·.data.toList)).flatten = CF.short m' d' := by
          show [(lg).data.toList].flatten = _
          rw [Is.data HL.out]
          exact CF.flat1_short
        refine (add_any w0.heap.size w0.heap.size we.heap.size 1 1 [lg] xs (CF.short m' d') _ (HOe.out.below hal11 (Nat.le_refl _)) (Nat.le_trans HBe.out.size hal11.size) rfl (parts_at we _) (by simp) hX11 (Nat.le_trans (Nat.le_trans (CF.short_len m' d') (by decide : 14 ≤ 100)) (by decide)) (by decide) (by decide) (by rw [hxl]; decide)).mono ?_
        rintro e w11 ⟨rfl, ⟨t11, ht11, ho11⟩, hw11⟩
        have HT11 := Lib.hid ht11
        have HO11 : Hid (OutIs w0.heap.size w0.heap.size (xs ++ [t11]) w11) := Lib.hid ho11
        have HB11 := Lib.hid ((HBe.out.alloc HBe.out.size (.cells #[.string lg] 9)).trans hw11)
        clear ht11 ho11 hw11 hX11 hal11 HOe HBe
        go_wp2_with fail
        refine (itoa_any m' _ (by omega) (HT.out.below HB11.out (Nat.le_refl _))).mono ?_
        rintro e w12 ⟨b12, hb12, rfl, hw12⟩
        have hz12 : b12.size ≤ 4 := by rw [hb12.size]; exact (Num.digs_len m').2
        have HI12 := Lib.hid hb12
        have HB12 := Lib.hid (HB11.out.trans (hw12.mono HB11.out.size))
        have HO12 := Lib.hid (HO11.out.below hw12 (Nat.le_refl _))
        clear hb12 hw12
        clear HO11
        clear HB11
        go_wp2_with fail
        refine (itoa_any d' _ (by omega) (HT.out.below HB12.out (Nat.le_refl _))).mono ?_
        rintro e w13 ⟨b13, hb13, rfl, hw13⟩
        have hz13 : b13.size ≤ 4 := by rw [hb13.size]; exact (Num.digs_len d').2
        have HI13 := Lib.hid hb13
        have HB13 := Lib.hid (HB12.out.trans (hw13.mono HB12.out.size))
        have HO13 := Lib.hid (HO12.out.below hw13 (Nat.le_refl _))
        clear hb13 hw13
        clear HO12
        clear HB12
        go_wp2_with fail
        have hal14 : Below w13.heap.size w13 (w13.alloc (.cells #[.string b12, .string (⟨#[47]⟩ : ByteArray), .string b13] 9)) := (Below.refl _ _).alloc (Nat.le_refl _) _
        have hX14 : ([b12, (⟨#[47]⟩ : ByteArray), b13].map (·.data.toList)).flatten = CF.slash m' d' := by
          show [(b12).data.toList, ((⟨#[47]⟩ : ByteArray)).data.toList, (b13).data.toList].flatten = _
          rw [Is.data HI12.out, Is.data (Is.mk [47]), Is.data HI13.out]
          exact CF.flat3_slash
        refine (add_any w0.heap.size w0.heap.size w13.heap.size 3 3 [b12, (⟨#[47]⟩ : ByteArray), b13] (xs ++ [t11]) (CF.slash m' d') _ (HO13.out.below hal14 (Nat.le_refl _)) (Nat.le_trans HB13.out.size hal14.size) rfl (parts_at w13 _) (by simp) hX14 (Nat.le_trans (CF.slash_len m' d') (by decide)) (by decide) (by decide) (by rw [List.length_append]; show _ + 1 ≤ _; rw [hxl]; decide)).mono ?_
        rintro e w14 ⟨rfl, ⟨t14, ht14, ho14⟩, hw14⟩
        have HT14 := Lib.hid ht14
        have HO14 : Hid (OutIs w0.heap.size w0.heap.size ((xs ++ [t11]) ++ [t14]) w14) := Lib.hid ho14
        have HB14 := Lib.hid ((HB13.out.alloc HB13.out.size (.cells #[.string b12, .string (⟨#[47]⟩ : ByteArray), .string b13] 9)).trans hw14)
        clear ht14 ho14 hw14 hX14 hal14 HO13 HB13
        obtain ⟨_, v, hv, hx⟩ := HO14.out
        have cv : w14.cell? ⟨w0.heap.size, 0, none⟩ = some v := by rw [Lib.cell_of_heap hv]; rfl
        have HXF := Lib.hid hx
        clear hv hx
        go_wp2_with fail
        go_ret
        refine ⟨v, _, ?_, HXF.out, rfl, HB14.out⟩
        rw [CF.formsL, CF.withYear, HE.out]
        simp only [List.map_append, HM.out, List.map_cons, List.map_nil, HT11.out.data, HT14.out.data]
        rfl
      · have HE := Lib.hid hE
        have HOe := Lib.hid (HOr.out.below hbe (Nat.le_refl _))
        have HBe := Lib.hid (HBr.out.trans (hbe.mono HBr.out.size))
        clear he hE hbe HOr HBr
        have HSN := Lib.hid hsn
        have hk9 : ek < 10000 := by omega
        clear hsn
        go_wp2_with fail
        refine (itoa_any ek _ (by omega) (HT.out.below HBe.out (Nat.le_refl _))).mono ?_
        rintro e w15 ⟨b15, hb15, rfl, hw15⟩
        have hz15 : b15.size ≤ 4 := by rw [hb15.size]; exact (Num.digs_len ek).2
        have HI15 := Lib.hid hb15
        have HB15 := Lib.hid (HBe.out.trans (hw15.mono HBe.out.size))
        have HO15 := Lib.hid (HOe.out.below hw15 (Nat.le_refl _))
        clear hb15 hw15
        clear HOe
        clear HBe
        go_wp2_with fail
        refine (kanjiC_any ek _ (by omega) (HT.out.below HB15.out (Nat.le_refl _))).mono ?_
        rintro e w16 ⟨b16, hb16, rfl, hw16⟩
        have hz16 : b16.size ≤ 40 := by rw [hb16.size]; exact CF.kan_len ek
        have HI16 := Lib.hid hb16
        have HB16 := Lib.hid (HB15.out.trans (hw16.mono HB15.out.size))
        have HO16 := Lib.hid (HO15.out.below hw16 (Nat.le_refl _))
        clear hb16 hw16
        clear HO15
        clear HB15
        by_cases c1 : ek = 1
        · have c1I : (ek : Int) = 1 := by omega
          have HYA := Lib.hid (show Is (⟨#[229, 133, 131]⟩ : ByteArray) (CF.yearA ek) by unfold CF.yearA; rw [if_pos c1]; exact Is.mk _)
          have HYB := Lib.hid (show Is (⟨#[229, 133, 131]⟩ : ByteArray) (CF.yearB ek) by unfold CF.yearB; rw [if_pos c1]; exact Is.mk _)
          go_wp2_with fail
          have hal17 : Below w16.heap.size w16 (w16.alloc (.cells #[.string sn, .string (⟨#[229, 133, 131]⟩ : ByteArray), .string (⟨#[229, 185, 180]⟩ : ByteArray), .string lg] 9)) := (Below.refl _ _).alloc (Nat.le_refl _) _
          have hX17 : ([sn, (⟨#[229, 133, 131]⟩ : ByteArray), (⟨#[229, 185, 180]⟩ : ByteArray), lg].map (·.data.toList)).flatten = CF.form5 en ek m' d' := by
            show [(sn).data.toList, ((⟨#[229, 133, 131]⟩ : ByteArray)).data.toList, ((⟨#[229, 185, 180]⟩ : ByteArray)).data.toList, (lg).data.toList].flatten = _
            rw [Is.data HSN.out, Is.data HYA.out, Is.data is_nen, Is.data HL.out]
            exact CF.flat4_form5
          refine (add_any w0.heap.size w0.heap.size w16.heap.size 4 4 [sn, (⟨#[229, 133, 131]⟩ : ByteArray), (⟨#[229, 185, 180]⟩ : ByteArray), lg] xs (CF.form5 en ek m' d') _ (HO16.out.below hal17 (Nat.le_refl _)) (Nat.le_trans HB16.out.size hal17.size) rfl (parts_at w16 _) (by simp) hX17 (Nat.le_trans (CF.form5_len HE.out ek m' d') (by decide)) (by decide) (by decide) (by rw [hxl]; decide)).mono ?_
          rintro e w17 ⟨rfl, ⟨t17, ht17, ho17⟩, hw17⟩
          have HT17 := Lib.hid ht17
          have HO17 : Hid (OutIs w0.heap.size w0.heap.size (xs ++ [t17]) w17) := Lib.hid ho17
          have HB17 := Lib.hid ((HB16.out.alloc HB16.out.size (.cells #[.string sn, .string (⟨#[229, 133, 131]⟩ : ByteArray), .string (⟨#[229, 185, 180]⟩ : ByteArray), .string lg] 9)).trans hw17)
          clear ht17 ho17 hw17 hX17 hal17 HO16 HB16
          go_wp2_with fail
          refine (kanjiC_any m' _ (by omega) (HT.out.below HB17.out (Nat.le_refl _))).mono ?_
          rintro e w18 ⟨b18, hb18, rfl, hw18⟩
          have hz18 : b18.size ≤ 40 := by rw [hb18.size]; exact CF.kan_len m'
          have HI18 := Lib.hid hb18
          have HB18 := Lib.hid (HB17.out.trans (hw18.mono HB17.out.size))
          have HO18 := Lib.hid (HO17.out.below hw18 (Nat.le_refl _))
          clear hb18 hw18
          clear HO17
          clear HB17
          go_wp2_with fail
          refine (kanjiC_any d' _ (by omega) (HT.out.below HB18.out (Nat.le_refl _))).mono ?_
          rintro e w19 ⟨b19, hb19, rfl, hw19⟩
          have hz19 : b19.size ≤ 40 := by rw [hb19.size]; exact CF.kan_len d'
          have HI19 := Lib.hid hb19
          have HB19 := Lib.hid (HB18.out.trans (hw19.mono HB18.out.size))
          have HO19 := Lib.hid (HO18.out.below hw19 (Nat.le_refl _))
          clear hb19 hw19
          clear HO18
          clear HB18
          go_wp2_with fail
          have hal20 : Below w19.heap.size w19 (w19.alloc (.cells #[.string sn, .string (⟨#[229, 133, 131]⟩ : ByteArray), .string (⟨#[229, 185, 180]⟩ : ByteArray), .string b18, .string (⟨#[230, 156, 136]⟩ : ByteArray), .string b19, .string (⟨#[230, 151, 165]⟩ : ByteArray)] 9)) := (Below.refl _ _).alloc (Nat.le_refl _) _
          have hX20 : ([sn, (⟨#[229, 133, 131]⟩ : ByteArray), (⟨#[229, 185, 180]⟩ : ByteArray), b18, (⟨#[230, 156, 136]⟩ : ByteArray), b19, (⟨#[230, 151, 165]⟩ : ByteArray)].map (·.data.toList)).flatten = CF.form6 en ek m' d' := by
            show [(sn).data.toList, ((⟨#[229, 133, 131]⟩ : ByteArray)).data.toList, ((⟨#[229, 185, 180]⟩ : ByteArray)).data.toList, (b18).data.toList, ((⟨#[230, 156, 136]⟩ : ByteArray)).data.toList, (b19).data.toList, ((⟨#[230, 151, 165]⟩ : ByteArray)).data.toList].flatten = _
            rw [Is.data HSN.out, Is.data HYB.out, Is.data is_nen, Is.data HI18.out, Is.data is_ga, Is.data HI19.out, Is.data is_ni]
            exact CF.flat7_form6
          refine (add_any w0.heap.size w0.heap.size w19.heap.size 7 7 [sn, (⟨#[229, 133, 131]⟩ : ByteArray), (⟨#[229, 185, 180]⟩ : ByteArray), b18, (⟨#[230, 156, 136]⟩ : ByteArray), b19, (⟨#[230, 151, 165]⟩ : ByteArray)] (xs ++ [t17]) (CF.form6 en ek m' d') _ (HO19.out.below hal20 (Nat.le_refl _)) (Nat.le_trans HB19.out.size hal20.size) rfl (parts_at w19 _) (by simp) hX20 (Nat.le_trans (CF.form6_len HE.out ek m' d') (by decide)) (by decide) (by decide) (by simp [hxl])).mono ?_
          rintro e w20 ⟨rfl, ⟨t20, ht20, ho20⟩, hw20⟩
          have HT20 := Lib.hid ht20
          have HO20 : Hid (OutIs w0.heap.size w0.heap.size ((xs ++ [t17]) ++ [t20]) w20) := Lib.hid ho20
          have HB20 := Lib.hid ((HB19.out.alloc HB19.out.size (.cells #[.string sn, .string (⟨#[229, 133, 131]⟩ : ByteArray), .string (⟨#[229, 185, 180]⟩ : ByteArray), .string b18, .string (⟨#[230, 156, 136]⟩ : ByteArray), .string b19, .string (⟨#[230, 151, 165]⟩ : ByteArray)] 9)).trans hw20)
          clear ht20 ho20 hw20 hX20 hal20 HO19 HB19
          go_wp2_with fail
          have hal21 : Below w20.heap.size w20 (w20.alloc (.cells #[.string lg] 9)) := (Below.refl _ _).alloc (Nat.le_refl _) _
          have hX21 : ([lg].map (·.data.toList)).flatten = CF.short m' d' := by
            show [(lg).data.toList].flatten = _
            rw [Is.data HL.out]
            exact CF.flat1_short
          refine (add_any w0.heap.size w0.heap.size w20.heap.size 1 1 [lg] ((xs ++ [t17]) ++ [t20]) (CF.short m' d') _ (HO20.out.below hal21 (Nat.le_refl _)) (Nat.le_trans HB20.out.size hal21.size) rfl (parts_at w20 _) (by simp) hX21 (Nat.le_trans (Nat.le_trans (CF.short_len m' d') (by decide : 14 ≤ 100)) (by decide)) (by decide) (by decide) (by simp [hxl])).mono ?_
          rintro e w21 ⟨rfl, ⟨t21, ht21, ho21⟩, hw21⟩
          have HT21 := Lib.hid ht21
          have HO21 : Hid (OutIs w0.heap.size w0.heap.size (((xs ++ [t17]) ++ [t20]) ++ [t21]) w21) := Lib.hid ho21
          have HB21 := Lib.hid ((HB20.out.alloc HB20.out.size (.cells #[.string lg] 9)).trans hw21)
          clear ht21 ho21 hw21 hX21 hal21 HO20 HB20
          go_wp2_with fail
          refine (itoa_any m' _ (by omega) (HT.out.below HB21.out (Nat.le_refl _))).mono ?_
          rintro e w22 ⟨b22, hb22, rfl, hw22⟩
          have hz22 : b22.size ≤ 4 := by rw [hb22.size]; exact (Num.digs_len m').2
          have HI22 := Lib.hid hb22
          have HB22 := Lib.hid (HB21.out.trans (hw22.mono HB21.out.size))
          have HO22 := Lib.hid (HO21.out.below hw22 (Nat.le_refl _))
          clear hb22 hw22
          clear HO21
          clear HB21
          go_wp2_with fail
          refine (itoa_any d' _ (by omega) (HT.out.below HB22.out (Nat.le_refl _))).mono ?_
          rintro e w23 ⟨b23, hb23, rfl, hw23⟩
          have hz23 : b23.size ≤ 4 := by rw [hb23.size]; exact (Num.digs_len d').2
          have HI23 := Lib.hid hb23
          have HB23 := Lib.hid (HB22.out.trans (hw23.mono HB22.out.size))
          have HO23 := Lib.hid (HO22.out.below hw23 (Nat.le_refl _))
          clear hb23 hw23
          clear HO22
          clear HB22
          go_wp2_with fail
          have hal24 : Below w23.heap.size w23 (w23.alloc (.cells #[.string b22, .string (⟨#[47]⟩ : ByteArray), .string b23] 9)) := (Below.refl _ _).alloc (Nat.le_refl _) _
          have hX24 : ([b22, (⟨#[47]⟩ : ByteArray), b23].map (·.data.toList)).flatten = CF.slash m' d' := by
            show [(b22).data.toList, ((⟨#[47]⟩ : ByteArray)).data.toList, (b23).data.toList].flatten = _
            rw [Is.data HI22.out, Is.data (Is.mk [47]), Is.data HI23.out]
            exact CF.flat3_slash
          refine (add_any w0.heap.size w0.heap.size w23.heap.size 3 3 [b22, (⟨#[47]⟩ : ByteArray), b23] (((xs ++ [t17]) ++ [t20]) ++ [t21]) (CF.slash m' d') _ (HO23.out.below hal24 (Nat.le_refl _)) (Nat.le_trans HB23.out.size hal24.size) rfl (parts_at w23 _) (by simp) hX24 (Nat.le_trans (CF.slash_len m' d') (by decide)) (by decide) (by decide) (by rw [List.length_append]; show _ + 1 ≤ _; simp [hxl])).mono ?_
          rintro e w24 ⟨rfl, ⟨t24, ht24, ho24⟩, hw24⟩
          have HT24 := Lib.hid ht24
          have HO24 : Hid (OutIs w0.heap.size w0.heap.size ((((xs ++ [t17]) ++ [t20]) ++ [t21]) ++ [t24]) w24) := Lib.hid ho24
          have HB24 := Lib.hid ((HB23.out.alloc HB23.out.size (.cells #[.string b22, .string (⟨#[47]⟩ : ByteArray), .string b23] 9)).trans hw24)
          clear ht24 ho24 hw24 hX24 hal24 HO23 HB23
          obtain ⟨_, v, hv, hx⟩ := HO24.out
          have cv : w24.cell? ⟨w0.heap.size, 0, none⟩ = some v := by rw [Lib.cell_of_heap hv]; rfl
          have HXF := Lib.hid hx
          clear hv hx
          go_wp2_with fail
          go_ret
          refine ⟨v, _, ?_, HXF.out, rfl, HB24.out⟩
          rw [CF.formsL, CF.withYear, HE.out]
          simp only [List.map_append, HM.out, List.map_cons, List.map_nil, HT17.out.data, HT20.out.data, HT21.out.data, HT24.out.data]
          rw [hyk]; try dsimp only
          rw [Nat.add_sub_cancel_left]
          rfl
        · have c1I : ¬ (ek : Int) = 1 := by omega
          have HYA := Lib.hid (show Is b15 (CF.yearA ek) by unfold CF.yearA; rw [if_neg c1]; exact HI15.out)
          have HYB := Lib.hid (show Is b16 (CF.yearB ek) by unfold CF.yearB; rw [if_neg c1]; exact HI16.out)
          go_wp2_with fail
          have hal17 : Below w16.heap.size w16 (w16.alloc (.cells #[.string sn, .string b15, .string (⟨#[229, 185, 180]⟩ : ByteArray), .string lg] 9)) := (Below.refl _ _).alloc (Nat.le_refl _) _
          have hX17 : ([sn, b15, (⟨#[229, 185, 180]⟩ : ByteArray), lg].map (·.data.toList)).flatten = CF.form5 en ek m' d' := by
            show [(sn).data.toList, (b15).data.toList, ((⟨#[229, 185, 180]⟩ : ByteArray)).data.toList, (lg).data.toList].flatten = _
            rw [Is.data HSN.out, Is.data HYA.out, Is.data is_nen, Is.data HL.out]
            exact CF.flat4_form5
          refine (add_any w0.heap.size w0.heap.size w16.heap.size 4 4 [sn, b15, (⟨#[229, 185, 180]⟩ : ByteArray), lg] xs (CF.form5 en ek m' d') _ (HO16.out.below hal17 (Nat.le_refl _)) (Nat.le_trans HB16.out.size hal17.size) rfl (parts_at w16 _) (by simp) hX17 (Nat.le_trans (CF.form5_len HE.out ek m' d') (by decide)) (by decide) (by decide) (by rw [hxl]; decide)).mono ?_
          rintro e w17 ⟨rfl, ⟨t17, ht17, ho17⟩, hw17⟩
          have HT17 := Lib.hid ht17
          have HO17 : Hid (OutIs w0.heap.size w0.heap.size (xs ++ [t17]) w17) := Lib.hid ho17
          have HB17 := Lib.hid ((HB16.out.alloc HB16.out.size (.cells #[.string sn, .string b15, .string (⟨#[229, 185, 180]⟩ : ByteArray), .string lg] 9)).trans hw17)
          clear ht17 ho17 hw17 hX17 hal17 HO16 HB16
          go_wp2_with fail
          refine (kanjiC_any m' _ (by omega) (HT.out.below HB17.out (Nat.le_refl _))).mono ?_
          rintro e w18 ⟨b18, hb18, rfl, hw18⟩
          have hz18 : b18.size ≤ 40 := by rw [hb18.size]; exact CF.kan_len m'
          have HI18 := Lib.hid hb18
          have HB18 := Lib.hid (HB17.out.trans (hw18.mono HB17.out.size))
          have HO18 := Lib.hid (HO17.out.below hw18 (Nat.le_refl _))
          clear hb18 hw18
          clear HO17
          clear HB17
          go_wp2_with fail
          refine (kanjiC_any d' _ (by omega) (HT.out.below HB18.out (Nat.le_refl _))).mono ?_
          rintro e w19 ⟨b19, hb19, rfl, hw19⟩
          have hz19 : b19.size ≤ 40 := by rw [hb19.size]; exact CF.kan_len d'
          have HI19 := Lib.hid hb19
          have HB19 := Lib.hid (HB18.out.trans (hw19.mono HB18.out.size))
          have HO19 := Lib.hid (HO18.out.below hw19 (Nat.le_refl _))
          clear hb19 hw19
          clear HO18
          clear HB18
          go_wp2_with fail
          have hal20 : Below w19.heap.size w19 (w19.alloc (.cells #[.string sn, .string b16, .string (⟨#[229, 185, 180]⟩ : ByteArray), .string b18, .string (⟨#[230, 156, 136]⟩ : ByteArray), .string b19, .string (⟨#[230, 151, 165]⟩ : ByteArray)] 9)) := (Below.refl _ _).alloc (Nat.le_refl _) _
          have hX20 : ([sn, b16, (⟨#[229, 185, 180]⟩ : ByteArray), b18, (⟨#[230, 156, 136]⟩ : ByteArray), b19, (⟨#[230, 151, 165]⟩ : ByteArray)].map (·.data.toList)).flatten = CF.form6 en ek m' d' := by
            show [(sn).data.toList, (b16).data.toList, ((⟨#[229, 185, 180]⟩ : ByteArray)).data.toList, (b18).data.toList, ((⟨#[230, 156, 136]⟩ : ByteArray)).data.toList, (b19).data.toList, ((⟨#[230, 151, 165]⟩ : ByteArray)).data.toList].flatten = _
            rw [Is.data HSN.out, Is.data HYB.out, Is.data is_nen, Is.data HI18.out, Is.data is_ga, Is.data HI19.out, Is.data is_ni]
            exact CF.flat7_form6
          refine (add_any w0.heap.size w0.heap.size w19.heap.size 7 7 [sn, b16, (⟨#[229, 185, 180]⟩ : ByteArray), b18, (⟨#[230, 156, 136]⟩ : ByteArray), b19, (⟨#[230, 151, 165]⟩ : ByteArray)] (xs ++ [t17]) (CF.form6 en ek m' d') _ (HO19.out.below hal20 (Nat.le_refl _)) (Nat.le_trans HB19.out.size hal20.size) rfl (parts_at w19 _) (by simp) hX20 (Nat.le_trans (CF.form6_len HE.out ek m' d') (by decide)) (by decide) (by decide) (by simp [hxl])).mono ?_
          rintro e w20 ⟨rfl, ⟨t20, ht20, ho20⟩, hw20⟩
          have HT20 := Lib.hid ht20
          have HO20 : Hid (OutIs w0.heap.size w0.heap.size ((xs ++ [t17]) ++ [t20]) w20) := Lib.hid ho20
          have HB20 := Lib.hid ((HB19.out.alloc HB19.out.size (.cells #[.string sn, .string b16, .string (⟨#[229, 185, 180]⟩ : ByteArray), .string b18, .string (⟨#[230, 156, 136]⟩ : ByteArray), .string b19, .string (⟨#[230, 151, 165]⟩ : ByteArray)] 9)).trans hw20)
          clear ht20 ho20 hw20 hX20 hal20 HO19 HB19
          go_wp2_with fail
          have hal21 : Below w20.heap.size w20 (w20.alloc (.cells #[.string lg] 9)) := (Below.refl _ _).alloc (Nat.le_refl _) _
          have hX21 : ([lg].map (·.data.toList)).flatten = CF.short m' d' := by
            show [(lg).data.toList].flatten = _
            rw [Is.data HL.out]
            exact CF.flat1_short
          refine (add_any w0.heap.size w0.heap.size w20.heap.size 1 1 [lg] ((xs ++ [t17]) ++ [t20]) (CF.short m' d') _ (HO20.out.below hal21 (Nat.le_refl _)) (Nat.le_trans HB20.out.size hal21.size) rfl (parts_at w20 _) (by simp) hX21 (Nat.le_trans (Nat.le_trans (CF.short_len m' d') (by decide : 14 ≤ 100)) (by decide)) (by decide) (by decide) (by simp [hxl])).mono ?_
          rintro e w21 ⟨rfl, ⟨t21, ht21, ho21⟩, hw21⟩
          have HT21 := Lib.hid ht21
          have HO21 : Hid (OutIs w0.heap.size w0.heap.size (((xs ++ [t17]) ++ [t20]) ++ [t21]) w21) := Lib.hid ho21
          have HB21 := Lib.hid ((HB20.out.alloc HB20.out.size (.cells #[.string lg] 9)).trans hw21)
          clear ht21 ho21 hw21 hX21 hal21 HO20 HB20
          go_wp2_with fail
          refine (itoa_any m' _ (by omega) (HT.out.below HB21.out (Nat.le_refl _))).mono ?_
          rintro e w22 ⟨b22, hb22, rfl, hw22⟩
          have hz22 : b22.size ≤ 4 := by rw [hb22.size]; exact (Num.digs_len m').2
          have HI22 := Lib.hid hb22
          have HB22 := Lib.hid (HB21.out.trans (hw22.mono HB21.out.size))
          have HO22 := Lib.hid (HO21.out.below hw22 (Nat.le_refl _))
          clear hb22 hw22
          clear HO21
          clear HB21
          go_wp2_with fail
          refine (itoa_any d' _ (by omega) (HT.out.below HB22.out (Nat.le_refl _))).mono ?_
          rintro e w23 ⟨b23, hb23, rfl, hw23⟩
          have hz23 : b23.size ≤ 4 := by rw [hb23.size]; exact (Num.digs_len d').2
          have HI23 := Lib.hid hb23
          have HB23 := Lib.hid (HB22.out.trans (hw23.mono HB22.out.size))
          have HO23 := Lib.hid (HO22.out.below hw23 (Nat.le_refl _))
          clear hb23 hw23
          clear HO22
          clear HB22
          go_wp2_with fail
          have hal24 : Below w23.heap.size w23 (w23.alloc (.cells #[.string b22, .string (⟨#[47]⟩ : ByteArray), .string b23] 9)) := (Below.refl _ _).alloc (Nat.le_refl _) _
          have hX24 : ([b22, (⟨#[47]⟩ : ByteArray), b23].map (·.data.toList)).flatten = CF.slash m' d' := by
            show [(b22).data.toList, ((⟨#[47]⟩ : ByteArray)).data.toList, (b23).data.toList].flatten = _
            rw [Is.data HI22.out, Is.data (Is.mk [47]), Is.data HI23.out]
            exact CF.flat3_slash
          refine (add_any w0.heap.size w0.heap.size w23.heap.size 3 3 [b22, (⟨#[47]⟩ : ByteArray), b23] (((xs ++ [t17]) ++ [t20]) ++ [t21]) (CF.slash m' d') _ (HO23.out.below hal24 (Nat.le_refl _)) (Nat.le_trans HB23.out.size hal24.size) rfl (parts_at w23 _) (by simp) hX24 (Nat.le_trans (CF.slash_len m' d') (by decide)) (by decide) (by decide) (by rw [List.length_append]; show _ + 1 ≤ _; simp [hxl])).mono ?_
          rintro e w24 ⟨rfl, ⟨t24, ht24, ho24⟩, hw24⟩
          have HT24 := Lib.hid ht24
          have HO24 : Hid (OutIs w0.heap.size w0.heap.size ((((xs ++ [t17]) ++ [t20]) ++ [t21]) ++ [t24]) w24) := Lib.hid ho24
          have HB24 := Lib.hid ((HB23.out.alloc HB23.out.size (.cells #[.string b22, .string (⟨#[47]⟩ : ByteArray), .string b23] 9)).trans hw24)
          clear ht24 ho24 hw24 hX24 hal24 HO23 HB23
          obtain ⟨_, v, hv, hx⟩ := HO24.out
          have cv : w24.cell? ⟨w0.heap.size, 0, none⟩ = some v := by rw [Lib.cell_of_heap hv]; rfl
          have HXF := Lib.hid hx
          clear hv hx
          go_wp2_with fail
          go_ret
          refine ⟨v, _, ?_, HXF.out, rfl, HB24.out⟩
          rw [CF.formsL, CF.withYear, HE.out]
          simp only [List.map_append, HM.out, List.map_cons, List.map_nil, HT17.out.data, HT20.out.data, HT21.out.data, HT24.out.data]
          rw [hyk]; try dsimp only
          rw [Nat.add_sub_cancel_left]
          rfl
end Go.Proofs.YtnpkcobapckhdaaGreatDoor
