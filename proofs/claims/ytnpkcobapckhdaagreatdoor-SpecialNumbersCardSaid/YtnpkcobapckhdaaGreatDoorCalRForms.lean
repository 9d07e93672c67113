/-
  henkanref04.Forms by its contract: all ways of writing a day. Written by wip/tools/gencalref.py. No condition.
-/
import Derived.Test.YtnpkcobapckhdaaGreatDoorCalWords
import Derived.Outline
namespace Go.Proofs.YtnpkcobapckhdaaGreatDoor
open Go.RowKit

set_option maxHeartbeats 400000 in
theorem rforms_no (n : Int) (w : World) (h : n < 1 ∨ 3652059 < n) :
    Calls Tryz.prog 38 #[.int .i64 n] w fun e w' => e = .returned (.slice none 0 0) ∧ w = w' := by
  go_enter Tryz.func38, Tryz.ntmps38
  go_wp2_with fail
  refine (rdate_no _ _ h).mono ?_
  rintro e w' ⟨rfl, rfl⟩
  go_wp2_with fail
  go_ret
  exact ⟨rfl, rfl⟩

set_option maxRecDepth 100000 in
set_option maxHeartbeats 8000000 in
theorem rformsC_any (n y m d : Nat) (w : World) (h1 : 1 ≤ n) (h2 : n ≤ 3652059) (hok : Cal.ok y m d = true) (hnum : Cal.num y m d = n) :
    Calls Tryz.prog 38 #[.int .i64 n] w (GivesC (CF.formsL n y m d) w) := by
  obtain ⟨i0, hi, hz0, hz1, hz2⟩ := info_parts infoStr
  have HO := Lib.hid hok
  have HN := Lib.hid hnum
  clear hok hnum
  go_enter Tryz.func38, Tryz.ntmps38
  go_wp2_with fail
  refine (rdate_yes n _ (by omega) (by omega)).mono ?_
  rintro e w0 hd0
  obtain ⟨y', m', d', ho', hn', q1, q2, q3, q4, q5, q6, rfl, rfl⟩ := dateN hd0
  obtain ⟨ey, em, ed⟩ := Cal.num_inj y' m' d' y m d ho' HO.out (hn'.trans HN.out.symm)
  obtain rfl : y' = y := by omega
  obtain rfl : m' = m := by omega
  obtain rfl : d' = d := by omega
  clear hd0 ho' hn' ey em ed
  go_wp2_with fail
  refine (rwd_yes n _ (by omega) (by omega)).mono ?_
  rintro e wa ⟨rfl, hba⟩
  obtain ⟨wn, hwn⟩ : ∃ wn, wdName ((n : Int) % 7) = wn := ⟨_, rfl⟩
  have HWN := Lib.hid (show Is wn (CF.wd (n % 7)) by rw [← hwn]; exact wd_is n)
  have hwnz : wn.size = 3 := by rw [HWN.out.size]; exact CF.wd_len _
  rw [hwn]
  clear hwn
  have HBa := Lib.hid hba
  clear hba
  go_wp2_with fail
  refine (rnum1_any m' _ (by omega) (by omega)).mono ?_
  rintro e w1 ⟨b1, hb1, rfl, hw1⟩
  have hz1 : b1.size ≤ 4 := by rw [hb1.size]; exact (Num.digs_len m').2
  have HI1 := Lib.hid hb1
  have HB1 := Lib.hid (HBa.out.trans (hw1.mono HBa.out.size))
  have HK1 := Lib.hid hw1
  clear hb1 hw1
  go_wp2_with fail
  refine (rnum1_any d' _ (by omega) (by omega)).mono ?_
  rintro e w2 ⟨b2, hb2, rfl, hw2⟩
  have hz2 : b2.size ≤ 4 := by rw [hb2.size]; exact (Num.digs_len d').2
  have HI2 := Lib.hid hb2
  have HB2 := Lib.hid (HB1.out.trans (hw2.mono HB1.out.size))
  have HK2 := Lib.hid hw2
  clear hb2 hw2
  go_wp2_with fail
  generalize hL : b1 ++ (⟨#[230, 156, 136]⟩ : ByteArray) ++ b2 ++ (⟨#[230, 151, 165]⟩ : ByteArray) = lg
  have HhL := Lib.hid (show Is lg (CF.short m' d') by rw [← hL]; exact ((HI1.out.append is_ga).append HI2.out).append is_ni)
  have hLz : lg.size ≤ 14 := by rw [HhL.out.size]; exact CF.short_len _ _
  clear hL
  refine (rnum1_any y' _ (by omega) (by omega)).mono ?_
  rintro e w3 ⟨b3, hb3, rfl, hw3⟩
  have hz3 : b3.size ≤ 4 := by rw [hb3.size]; exact (Num.digs_len y').2
  have HI3 := Lib.hid hb3
  have HB3 := Lib.hid (HB2.out.trans (hw3.mono HB2.out.size))
  have HK3 := Lib.hid hw3
  clear hb3 hw3
  go_wp2_with fail
  refine (rnum1_any y' _ (by omega) (by omega)).mono ?_
  rintro e w4 ⟨b4, hb4, rfl, hw4⟩
  have hz4 : b4.size ≤ 4 := by rw [hb4.size]; exact (Num.digs_len y').2
  have HI4 := Lib.hid hb4
  have HB4 := Lib.hid (HB3.out.trans (hw4.mono HB3.out.size))
  have HK4 := Lib.hid hw4
  clear hb4 hw4
  go_wp2_with fail
  refine (rnumber_any y' 4 _ (by omega) (by omega) (by decide)).mono ?_
  rintro e w5 ⟨b5, hb5, rfl, hw5⟩
  have hz5 : b5.size ≤ 8 := by rw [hb5.size]; exact CF.pad_len 4 y'
  have HI5 := Lib.hid hb5
  have HB5 := Lib.hid (HB4.out.trans (hw5.mono HB4.out.size))
  have HK5 := Lib.hid hw5
  clear hb5 hw5
  go_wp2_with fail
  refine (rnumber_any m' 2 _ (by omega) (by omega) (by decide)).mono ?_
  rintro e w6 ⟨b6, hb6, rfl, hw6⟩
  have hz6 : b6.size ≤ 6 := by rw [hb6.size]; exact CF.pad_len 2 m'
  have HI6 := Lib.hid hb6
  have HB6 := Lib.hid (HB5.out.trans (hw6.mono HB5.out.size))
  have HK6 := Lib.hid hw6
  clear hb6 hw6
  go_wp2_with fail
  refine (rnumber_any d' 2 _ (by omega) (by omega) (by decide)).mono ?_
  rintro e w7 ⟨b7, hb7, rfl, hw7⟩
  have hz7 : b7.size ≤ 6 := by rw [hb7.size]; exact CF.pad_len 2 d'
  have HI7 := Lib.hid hb7
  have HB7 := Lib.hid (HB6.out.trans (hw7.mono HB6.out.size))
  have HK7 := Lib.hid hw7
  clear hb7 hw7
  go_wp2_with fail
  refine (rnumber_any y' 4 _ (by omega) (by omega) (by decide)).mono ?_
  rintro e w8 ⟨b8, hb8, rfl, hw8⟩
  have hz8 : b8.size ≤ 8 := by rw [hb8.size]; exact CF.pad_len 4 y'
  have HI8 := Lib.hid hb8
  have HB8 := Lib.hid (HB7.out.trans (hw8.mono HB7.out.size))
  have HK8 := Lib.hid hw8
  clear hb8 hw8
  go_wp2_with fail
  refine (rnumber_any m' 2 _ (by omega) (by omega) (by decide)).mono ?_
  rintro e w9 ⟨b9, hb9, rfl, hw9⟩
  have hz9 : b9.size ≤ 6 := by rw [hb9.size]; exact CF.pad_len 2 m'
  have HI9 := Lib.hid hb9
  have HB9 := Lib.hid (HB8.out.trans (hw9.mono HB8.out.size))
  have HK9 := Lib.hid hw9
  clear hb9 hw9
  go_wp2_with fail
  refine (rnumber_any d' 2 _ (by omega) (by omega) (by decide)).mono ?_
  rintro e w10 ⟨b10, hb10, rfl, hw10⟩
  have hz10 : b10.size ≤ 6 := by rw [hb10.size]; exact CF.pad_len 2 d'
  have HI10 := Lib.hid hb10
  have HB10 := Lib.hid (HB9.out.trans (hw10.mono HB9.out.size))
  have HK10 := Lib.hid hw10
  clear hb10 hw10
  go_wp2_with fail
  generalize hF1 : b3 ++ (⟨#[229, 185, 180]⟩ : ByteArray) ++ lg = f1
  have HhF1 := Lib.hid (show Is f1 (CF.form1 y' m' d') by rw [← hF1]; exact (HI3.out.append is_nen).append HhL.out)
  have hF1z : f1.size ≤ 100 := by rw [HhF1.out.size]; exact CF.form1_len _ _ _
  clear hF1
  generalize hF2 : b4 ++ (⟨#[229, 185, 180]⟩ : ByteArray) ++ lg ++ (⟨#[40]⟩ : ByteArray) ++ wn ++ (⟨#[41]⟩ : ByteArray) = f2
  have HhF2 := Lib.hid (show Is f2 (CF.form2 n y' m' d') by rw [← hF2]; exact ((((HI4.out.append is_nen).append HhL.out).append (Is.mk [40])).append HWN.out).append (Is.mk [41]))
  have hF2z : f2.size ≤ 100 := by rw [HhF2.out.size]; exact CF.form2_len _ _ _ _
  clear hF2
  generalize hF3 : b5 ++ (⟨#[47]⟩ : ByteArray) ++ b6 ++ (⟨#[47]⟩ : ByteArray) ++ b7 = f3
  have HhF3 := Lib.hid (show Is f3 (CF.form3 y' m' d') by rw [← hF3]; exact (((HI5.out.append (Is.mk [47])).append HI6.out).append (Is.mk [47])).append HI7.out)
  have hF3z : f3.size ≤ 100 := by rw [HhF3.out.size]; exact CF.form3_len _ _ _
  clear hF3
  generalize hF4 : b8 ++ (⟨#[45]⟩ : ByteArray) ++ b9 ++ (⟨#[45]⟩ : ByteArray) ++ b10 = f4
  have HhF4 := Lib.hid (show Is f4 (CF.form4 y' m' d') by rw [← hF4]; exact (((HI8.out.append (Is.mk [45])).append HI9.out).append (Is.mk [45])).append HI10.out)
  have hF4z : f4.size ≤ 100 := by rw [HhF4.out.size]; exact CF.form4_len _ _ _
  clear hF4
  have hz := HB10.out.size
  have HOWN := Lib.hid (World.ownsRow_lit (base := w0.heap.size) (e := 9) (size := 1) w10 #[.string f1, .string f2, .string f3, .string f4] 4 hz (by decide) rfl)
  have HBe := Lib.hid (HB10.out.alloc hz (.cells #[.string f1, .string f2, .string f3, .string f4] 9))
  clear HI1 HI2 HI3 HI4 HI5 HI6 HI7 HI8 HI9 HI10 HWN hz1 hz2 hz3 hz4 hz5 hz6 hz7 hz8 hz9 hz10 HBa HB1 HB2 HB3 HB4 HB5 HB6 HB7 HB8 HB9 HB10
  refine (rera_any n _ (by omega)).mono ?_
  rintro e we he
  have hsa : (w10.alloc (.cells #[.string f1, .string f2, .string f3, .string f4] 9)).heap.size = w10.heap.size + 1 := by simp
  rcases eraN n y' m' d' HO.out HN.out he with ⟨hE, rfl, hbe⟩ | ⟨sn, en, eb, ek, hE, hyk, hk1, hsn, hsnz, rfl, hbe⟩
  · have HE := Lib.hid hE
    have HB := Lib.hid (HBe.out.trans (hbe.mono HBe.out.size))
    have HX := Lib.hid (ownsRow_below HOWN.out hbe)
    have hs := HB.out.size
    clear he hE hbe hsa HBe HOWN
    go_wp2_with fail
    refine (rnum1_any m' _ (by omega) (by omega)).mono ?_
    rintro e w11 ⟨b11, hb11, rfl, hw11⟩
    have hz11 : b11.size ≤ 4 := by rw [hb11.size]; exact (Num.digs_len m').2
    have HI11 := Lib.hid hb11
    have HB11 := Lib.hid (HB.out.trans (hw11.mono HB.out.size))
    have HK11 := Lib.hid hw11
    clear hb11 hw11
    go_wp2_with fail
    refine (rnum1_any d' _ (by omega) (by omega)).mono ?_
    rintro e w12 ⟨b12, hb12, rfl, hw12⟩
    have hz12 : b12.size ≤ 4 := by rw [hb12.size]; exact (Num.digs_len d').2
    have HI12 := Lib.hid hb12
    have HB12 := Lib.hid (HB11.out.trans (hw12.mono HB11.out.size))
    have HK12 := Lib.hid hw12
    clear hb12 hw12
    have HX2 := Lib.hid (World.ownsRow.alloc (ownsRow_below (ownsRow_below HX.out HK11.out) HK12.out) (.cells #[.string lg, .string (b11 ++ (⟨#[47]⟩ : ByteArray) ++ b12)] 9))
    have hsz := HB12.out.size
    go_wp2_with (at_builtin; refine wpList_append_own _ rfl _ _ 23 rfl w0.heap.size 9 i0 (.string ⟨#[]⟩) 1 16 Tryz.underlying23 hi hz0 hz1 hz2 rfl (by decide) _ _ _ rfl HX2.out ⟨w12.heap.size, 0, none⟩ 2 2 [.string lg, .string (b11 ++ (⟨#[47]⟩ : ByteArray) ++ b12)] rfl rfl ?c1 ?c2 ?c3 ?c4 ?c5 ?_)
    case c1 => exact two_new _ _ _
    case c2 => simp [Value.oneCell']
    case c3 => decide
    case c4 => decide
    case c5 => simp; omega
    intro v' w5 hown5 hgrow _
    have HB5 := Lib.hid (((HB12.out.alloc hsz (.cells #[.string lg, .string (b11 ++ (⟨#[47]⟩ : ByteArray) ++ b12)] 9)).grown hgrow (by simp; omega) (fun k hk => (HX2.out.lt k hk).1)))
    have HO5 := Lib.hid hown5
    clear hown5 hgrow
    go_wp2
    go_ret
    refine ⟨v', [f1, f2, f3, f4, lg, b11 ++ (⟨#[47]⟩ : ByteArray) ++ b12], ?_, HO5.out, rfl, HB5.out⟩
    rw [CF.formsL, CF.withYear, HE.out]
    show [f1.data.toList, f2.data.toList, f3.data.toList, f4.data.toList, lg.data.toList, (b11 ++ (⟨#[47]⟩ : ByteArray) ++ b12).data.toList] = _
    rw [HhF1.out.data, HhF2.out.data, HhF3.out.data, HhF4.out.data, HhL.out.data, ((HI11.out.append (Is.mk [47])).append HI12.out).data]
    rfl
  · have HE := Lib.hid hE
    have HSN := Lib.hid hsn
    have HB := Lib.hid (HBe.out.trans (hbe.mono HBe.out.size))
    have HX0 := Lib.hid (ownsRow_below HOWN.out hbe)
    have hs := HB.out.size
    have hk9 : ek < 10000 := by omega
    clear he hE hbe hsa HBe HOWN hsn
    go_wp2_with fail
    refine (rnum1_any ek _ hk1 hk9).mono ?_
    rintro e w13 ⟨b13, hb13, rfl, hw13⟩
    have hz13 : b13.size ≤ 4 := by rw [hb13.size]; exact (Num.digs_len ek).2
    have HI13 := Lib.hid hb13
    have HB13 := Lib.hid (HB.out.trans (hw13.mono HB.out.size))
    have HK13 := Lib.hid hw13
    clear hb13 hw13
    go_wp2_with fail
    refine (rkanjiC_any ek _ hk1 hk9).mono ?_
    rintro e w14 ⟨b14, hb14, rfl, hw14⟩
    have hz14 : b14.size ≤ 40 := by rw [hb14.size]; exact CF.kan_len ek
    have HI14 := Lib.hid hb14
    have HB14 := Lib.hid (HB13.out.trans (hw14.mono HB13.out.size))
    have HK14 := Lib.hid hw14
    clear hb14 hw14
    have HX9 := Lib.hid (ownsRow_below (ownsRow_below HX0.out HK13.out) HK14.out)
    clear HX0
    by_cases c1 : ek = 1
    · have c1I : (ek : Int) = 1 := by omega
      have HYA := Lib.hid (show Is (⟨#[229, 133, 131]⟩ : ByteArray) (CF.yearA ek) by unfold CF.yearA; rw [if_pos c1]; exact Is.mk _)
      have HYB := Lib.hid (show Is (⟨#[229, 133, 131]⟩ : ByteArray) (CF.yearB ek) by unfold CF.yearB; rw [if_pos c1]; exact Is.mk _)
      go_wp2_with fail
      refine (rkanjiC_any m' _ (by omega) (by omega)).mono ?_
      rintro e w15 ⟨b15, hb15, rfl, hw15⟩
      have hz15 : b15.size ≤ 40 := by rw [hb15.size]; exact CF.kan_len m'
      have HI15 := Lib.hid hb15
      have HB15 := Lib.hid (HB14.out.trans (hw15.mono HB14.out.size))
      have HK15 := Lib.hid hw15
      clear hb15 hw15
      go_wp2_with fail
      refine (rkanjiC_any d' _ (by omega) (by omega)).mono ?_
      rintro e w16 ⟨b16, hb16, rfl, hw16⟩
      have hz16 : b16.size ≤ 40 := by rw [hb16.size]; exact CF.kan_len d'
      have HI16 := Lib.hid hb16
      have HB16 := Lib.hid (HB15.out.trans (hw16.mono HB15.out.size))
      have HK16 := Lib.hid hw16
      clear hb16 hw16
      have h5z : (sn ++ (⟨#[229, 133, 131]⟩ : ByteArray) ++ (⟨#[229, 185, 180]⟩ : ByteArray) ++ lg).size ≤ 100 := by rw [((HSN.out.append HYA.out).append is_nen).append HhL.out |>.size]; exact CF.form5_len HE.out ek m' d'
      have HX2 := Lib.hid (World.ownsRow.alloc (ownsRow_below (ownsRow_below HX9.out HK15.out) HK16.out) (.cells #[.string (sn ++ (⟨#[229, 133, 131]⟩ : ByteArray) ++ (⟨#[229, 185, 180]⟩ : ByteArray) ++ lg), .string (sn ++ (⟨#[229, 133, 131]⟩ : ByteArray) ++ (⟨#[229, 185, 180]⟩ : ByteArray) ++ b15 ++ (⟨#[230, 156, 136]⟩ : ByteArray) ++ b16 ++ (⟨#[230, 151, 165]⟩ : ByteArray))] 9))
      have hsz := HB16.out.size
      go_wp2_with (at_builtin; refine wpList_append_own _ rfl _ _ 23 rfl w0.heap.size 9 i0 (.string ⟨#[]⟩) 1 16 Tryz.underlying23 hi hz0 hz1 hz2 rfl (by decide) _ _ _ rfl HX2.out ⟨w16.heap.size, 0, none⟩ 2 2 [.string (sn ++ (⟨#[229, 133, 131]⟩ : ByteArray) ++ (⟨#[229, 185, 180]⟩ : ByteArray) ++ lg), .string (sn ++ (⟨#[229, 133, 131]⟩ : ByteArray) ++ (⟨#[229, 185, 180]⟩ : ByteArray) ++ b15 ++ (⟨#[230, 156, 136]⟩ : ByteArray) ++ b16 ++ (⟨#[230, 151, 165]⟩ : ByteArray))] rfl rfl ?c1 ?c2 ?c3 ?c4 ?c5 ?_)
      case c1 => exact two_new _ _ _
      case c2 => simp [Value.oneCell']
      case c3 => decide
      case c4 => decide
      case c5 => simp; omega
      intro v6 w6 hown6 hgrow _
      have HB6 := Lib.hid (((HB16.out.alloc hsz (.cells #[.string (sn ++ (⟨#[229, 133, 131]⟩ : ByteArray) ++ (⟨#[229, 185, 180]⟩ : ByteArray) ++ lg), .string (sn ++ (⟨#[229, 133, 131]⟩ : ByteArray) ++ (⟨#[229, 185, 180]⟩ : ByteArray) ++ b15 ++ (⟨#[230, 156, 136]⟩ : ByteArray) ++ b16 ++ (⟨#[230, 151, 165]⟩ : ByteArray))] 9)).grown hgrow (by simp; omega) (fun k hk => (HX2.out.lt k hk).1)))
      have HX := Lib.hid hown6
      obtain ⟨ao6, cap6, rfl⟩ : ∃ ao cap, v6 = .slice ao 6 cap := by
        obtain ⟨_, ⟨q1, q2⟩ | ⟨g, cap, cur, q1, _⟩⟩ := hown6
        · exact absurd q2 (by decide)
        · exact ⟨_, _, q1⟩
      clear hown6 hgrow
      go_wp2_with fail
      refine (rnum1_any m' _ (by omega) (by omega)).mono ?_
      rintro e w17 ⟨b17, hb17, rfl, hw17⟩
      have hz17 : b17.size ≤ 4 := by rw [hb17.size]; exact (Num.digs_len m').2
      have HI17 := Lib.hid hb17
      have HB17 := Lib.hid (HB6.out.trans (hw17.mono HB6.out.size))
      have HK17 := Lib.hid hw17
      clear hb17 hw17
      go_wp2_with fail
      refine (rnum1_any d' _ (by omega) (by omega)).mono ?_
      rintro e w18 ⟨b18, hb18, rfl, hw18⟩
      have hz18 : b18.size ≤ 4 := by rw [hb18.size]; exact (Num.digs_len d').2
      have HI18 := Lib.hid hb18
      have HB18 := Lib.hid (HB17.out.trans (hw18.mono HB17.out.size))
      have HK18 := Lib.hid hw18
      clear hb18 hw18
      have HX2 := Lib.hid (World.ownsRow.alloc (ownsRow_below (ownsRow_below HX.out HK17.out) HK18.out) (.cells #[.string lg, .string (b17 ++ (⟨#[47]⟩ : ByteArray) ++ b18)] 9))
      have hsz := HB18.out.size
      go_wp2_with (at_builtin; refine wpList_append_own _ rfl _ _ 23 rfl w0.heap.size 9 i0 (.string ⟨#[]⟩) 1 16 Tryz.underlying23 hi hz0 hz1 hz2 rfl (by decide) _ _ _ rfl HX2.out ⟨w18.heap.size, 0, none⟩ 2 2 [.string lg, .string (b17 ++ (⟨#[47]⟩ : ByteArray) ++ b18)] rfl rfl ?c1 ?c2 ?c3 ?c4 ?c5 ?_)
      case c1 => exact two_new _ _ _
      case c2 => simp [Value.oneCell']
      case c3 => decide
      case c4 => decide
      case c5 => simp; omega
      intro v' w5 hown5 hgrow _
      have HB5 := Lib.hid (((HB18.out.alloc hsz (.cells #[.string lg, .string (b17 ++ (⟨#[47]⟩ : ByteArray) ++ b18)] 9)).grown hgrow (by simp; omega) (fun k hk => (HX2.out.lt k hk).1)))
      have HO5 := Lib.hid hown5
      clear hown5 hgrow
      go_wp2
      go_ret
      refine ⟨v', [f1, f2, f3, f4, (sn ++ (⟨#[229, 133, 131]⟩ : ByteArray) ++ (⟨#[229, 185, 180]⟩ : ByteArray) ++ lg), (sn ++ (⟨#[229, 133, 131]⟩ : ByteArray) ++ (⟨#[229, 185, 180]⟩ : ByteArray) ++ b15 ++ (⟨#[230, 156, 136]⟩ : ByteArray) ++ b16 ++ (⟨#[230, 151, 165]⟩ : ByteArray)), lg, b17 ++ (⟨#[47]⟩ : ByteArray) ++ b18], ?_, HO5.out, rfl, HB5.out⟩
      rw [CF.formsL, CF.withYear, HE.out]
      show [f1.data.toList, f2.data.toList, f3.data.toList, f4.data.toList, (sn ++ (⟨#[229, 133, 131]⟩ : ByteArray) ++ (⟨#[229, 185, 180]⟩ : ByteArray) ++ lg).data.toList, (sn ++ (⟨#[229, 133, 131]⟩ : ByteArray) ++ (⟨#[229, 185, 180]⟩ : ByteArray) ++ b15 ++ (⟨#[230, 156, 136]⟩ : ByteArray) ++ b16 ++ (⟨#[230, 151, 165]⟩ : ByteArray)).data.toList, lg.data.toList, (b17 ++ (⟨#[47]⟩ : ByteArray) ++ b18).data.toList] = _
      rw [HhF1.out.data, HhF2.out.data, HhF3.out.data, HhF4.out.data, (((HSN.out.append HYA.out).append is_nen).append HhL.out).data, ((((((HSN.out.append HYB.out).append is_nen).append HI15.out).append is_ga).append HI16.out).append is_ni).data, HhL.out.data, ((HI17.out.append (Is.mk [47])).append HI18.out).data]
      rw [hyk]; dsimp only; rw [Nat.add_sub_cancel_left]
      rfl
    · have c1I : ¬ (ek : Int) = 1 := by omega
      have HYA := Lib.hid (show Is b13 (CF.yearA ek) by unfold CF.yearA; rw [if_neg c1]; exact HI13.out)
      have HYB := Lib.hid (show Is b14 (CF.yearB ek) by unfold CF.yearB; rw [if_neg c1]; exact HI14.out)
      go_wp2_with fail
      refine (rkanjiC_any m' _ (by omega) (by omega)).mono ?_
      rintro e w15 ⟨b15, hb15, rfl, hw15⟩
      have hz15 : b15.size ≤ 40 := by rw [hb15.size]; exact CF.kan_len m'
      have HI15 := Lib.hid hb15
      have HB15 := Lib.hid (HB14.out.trans (hw15.mono HB14.out.size))
      have HK15 := Lib.hid hw15
      clear hb15 hw15
      go_wp2_with fail
      refine (rkanjiC_any d' _ (by omega) (by omega)).mono ?_
      rintro e w16 ⟨b16, hb16, rfl, hw16⟩
      have hz16 : b16.size ≤ 40 := by rw [hb16.size]; exact CF.kan_len d'
      have HI16 := Lib.hid hb16
      have HB16 := Lib.hid (HB15.out.trans (hw16.mono HB15.out.size))
      have HK16 := Lib.hid hw16
      clear hb16 hw16
      have h5z : (sn ++ b13 ++ (⟨#[229, 185, 180]⟩ : ByteArray) ++ lg).size ≤ 100 := by rw [((HSN.out.append HYA.out).append is_nen).append HhL.out |>.size]; exact CF.form5_len HE.out ek m' d'
      have HX2 := Lib.hid (World.ownsRow.alloc (ownsRow_below (ownsRow_below HX9.out HK15.out) HK16.out) (.cells #[.string (sn ++ b13 ++ (⟨#[229, 185, 180]⟩ : ByteArray) ++ lg), .string (sn ++ b14 ++ (⟨#[229, 185, 180]⟩ : ByteArray) ++ b15 ++ (⟨#[230, 156, 136]⟩ : ByteArray) ++ b16 ++ (⟨#[230, 151, 165]⟩ : ByteArray))] 9))
      have hsz := HB16.out.size
      go_wp2_with (at_builtin; refine wpList_append_own _ rfl _ _ 23 rfl w0.heap.size 9 i0 (.string ⟨#[]⟩) 1 16 Tryz.underlying23 hi hz0 hz1 hz2 rfl (by decide) _ _ _ rfl HX2.out ⟨w16.heap.size, 0, none⟩ 2 2 [.string (sn ++ b13 ++ (⟨#[229, 185, 180]⟩ : ByteArray) ++ lg), .string (sn ++ b14 ++ (⟨#[229, 185, 180]⟩ : ByteArray) ++ b15 ++ (⟨#[230, 156, 136]⟩ : ByteArray) ++ b16 ++ (⟨#[230, 151, 165]⟩ : ByteArray))] rfl rfl ?c1 ?c2 ?c3 ?c4 ?c5 ?_)
      case c1 => exact two_new _ _ _
      case c2 => simp [Value.oneCell']
      case c3 => decide
      case c4 => decide
      case c5 => simp; omega
      intro v6 w6 hown6 hgrow _
      have HB6 := Lib.hid (((HB16.out.alloc hsz (.cells #[.string (sn ++ b13 ++ (⟨#[229, 185, 180]⟩ : ByteArray) ++ lg), .string (sn ++ b14 ++ (⟨#[229, 185, 180]⟩ : ByteArray) ++ b15 ++ (⟨#[230, 156, 136]⟩ : ByteArray) ++ b16 ++ (⟨#[230, 151, 165]⟩ : ByteArray))] 9)).grown hgrow (by simp; omega) (fun k hk => (HX2.out.lt k hk).1)))
      have HX := Lib.hid hown6
      obtain ⟨ao6, cap6, rfl⟩ : ∃ ao cap, v6 = .slice ao 6 cap := by
        obtain ⟨_, ⟨q1, q2⟩ | ⟨g, cap, cur, q1, _⟩⟩ := hown6
        · exact absurd q2 (by decide)
        · exact ⟨_, _, q1⟩
      clear hown6 hgrow
      go_wp2_with fail
      refine (rnum1_any m' _ (by omega) (by omega)).mono ?_
      rintro e w17 ⟨b17, hb17, rfl, hw17⟩
      have hz17 : b17.size ≤ 4 := by rw [hb17.size]; exact (Num.digs_len m').2
      have HI17 := Lib.hid hb17
      have HB17 := Lib.hid (HB6.out.trans (hw17.mono HB6.out.size))
      have HK17 := Lib.hid hw17
      clear hb17 hw17
      go_wp2_with fail
      refine (rnum1_any d' _ (by omega) (by omega)).mono ?_
      rintro e w18 ⟨b18, hb18, rfl, hw18⟩
      have hz18 : b18.size ≤ 4 := by rw [hb18.size]; exact (Num.digs_len d').2
      have HI18 := Lib.hid hb18
      have HB18 := Lib.hid (HB17.out.trans (hw18.mono HB17.out.size))
      have HK18 := Lib.hid hw18
      clear hb18 hw18
      have HX2 := Lib.hid (World.ownsRow.alloc (ownsRow_below (ownsRow_below HX.out HK17.out) HK18.out) (.cells #[.string lg, .string (b17 ++ (⟨#[47]⟩ : ByteArray) ++ b18)] 9))
      have hsz := HB18.out.size
      go_wp2_with (at_builtin; refine wpList_append_own _ rfl _ _ 23 rfl w0.heap.size 9 i0 (.string ⟨#[]⟩) 1 16 Tryz.underlying23 hi hz0 hz1 hz2 rfl (by decide) _ _ _ rfl HX2.out ⟨w18.heap.size, 0, none⟩ 2 2 [.string lg, .string (b17 ++ (⟨#[47]⟩ : ByteArray) ++ b18)] rfl rfl ?c1 ?c2 ?c3 ?c4 ?c5 ?_)
      case c1 => exact two_new _ _ _
      case c2 => simp [Value.oneCell']
      case c3 => decide
      case c4 => decide
      case c5 => simp; omega
      intro v' w5 hown5 hgrow _
      have HB5 := Lib.hid (((HB18.out.alloc hsz (.cells #[.string lg, .string (b17 ++ (⟨#[47]⟩ : ByteArray) ++ b18)] 9)).grown hgrow (by simp; omega) (fun k hk => (HX2.out.lt k hk).1)))
      have HO5 := Lib.hid hown5
      clear hown5 hgrow
      go_wp2
      go_ret
      refine ⟨v', [f1, f2, f3, f4, (sn ++ b13 ++ (⟨#[229, 185, 180]⟩ : ByteArray) ++ lg), (sn ++ b14 ++ (⟨#[229, 185, 180]⟩ : ByteArray) ++ b15 ++ (⟨#[230, 156, 136]⟩ : ByteArray) ++ b16 ++ (⟨#[230, 151, 165]⟩ : ByteArray)), lg, b17 ++ (⟨#[47]⟩ : ByteArray) ++ b18], ?_, HO5.out, rfl, HB5.out⟩
      rw [CF.formsL, CF.withYear, HE.out]
      show [f1.data.toList, f2.data.toList, f3.data.toList, f4.data.toList, (sn ++ b13 ++ (⟨#[229, 185, 180]⟩ : ByteArray) ++ lg).data.toList, (sn ++ b14 ++ (⟨#[229, 185, 180]⟩ : ByteArray) ++ b15 ++ (⟨#[230, 156, 136]⟩ : ByteArray) ++ b16 ++ (⟨#[230, 151, 165]⟩ : ByteArray)).data.toList, lg.data.toList, (b17 ++ (⟨#[47]⟩ : ByteArray) ++ b18).data.toList] = _
      rw [HhF1.out.data, HhF2.out.data, HhF3.out.data, HhF4.out.data, (((HSN.out.append HYA.out).append is_nen).append HhL.out).data, ((((((HSN.out.append HYB.out).append is_nen).append HI15.out).append is_ga).append HI16.out).append is_ni).data, HhL.out.data, ((HI17.out.append (Is.mk [47])).append HI18.out).data]
      rw [hyk]; dsimp only; rw [Nat.add_sub_cancel_left]
      rfl
end Go.Proofs.YtnpkcobapckhdaaGreatDoor
