/-
  henkanlaw03.NumeralKnown answers true: the examples of the chapter. No condition but what the row lists.
-/
import Derived.Test.YtcgfcedlllmbhaaDoorFormLaw
import Derived.Carry
import Derived.Laws.AppendOwnNone
namespace Go.Proofs.YtcgfcedlllmbhaaDoor.numeralKnown
open Go.ChangeShapes Go.WideShapes Go.ChangeAt Go.RowKit
open Go.ChangeMaps (open_string)
set_option linter.unusedVariables false

theorem lies_lit {g : Nat} {T : TypeId} (xs : List ByteArray) {cs : Array Value} {w : World} (hcs : (xs.map Value.string).toArray = cs) (n : Nat) (hn : xs.length = n) (h : w.heap[g]? = some (.cells cs T (0, 0))) : Lies (.slice (some ⟨g, 0, none⟩) n n) xs w := by
  subst hcs
  subst hn
  refine ⟨_, _, rfl, fun k hk => ⟨g, rfl, ?_⟩⟩
  rw [Lib.cell_of_heap h, List.getElem?_toArray, List.getElem?_map, List.getD_eq_getElem?_getD, List.getElem?_eq_getElem hk]
  rfl
set_option maxRecDepth 100000 in
set_option maxHeartbeats 2000000 in
theorem all_yes (d k p f c : ByteArray) (D K P F C : List UInt8) (w : World) (hd : Is d D) (hk : Is k K) (hp : Is p P) (hf : Is f F) (hc : Is c C) (hs : d.size ≤ 9223372036854775807) (ht : Tabs w)
    (h1 : wrt false D = K) (h2 : (if Num.valid D = true then Num.pos D else []) = P) (h3 : wrt true D = F) (h4 : (if Num.valid D = true then Num.com true D else []) = C) (h5 : Num.valid D = !K.isEmpty) :
    Calls Tryd.prog 28 #[.string d, .string k, .string p, .string f, .string c] w fun e w' => e = .returned (.bool true) ∧ Below w.heap.size w w' := by
  have HT := Lib.hid ht
  have HD := Lib.hid hd
  have HK := Lib.hid hk
  have HP := Lib.hid hp
  have HF := Lib.hid hf
  have HC := Lib.hid hc
  have H1 := Lib.hid h1
  have H2 := Lib.hid h2
  have H3 := Lib.hid h3
  have H4 := Lib.hid h4
  have he : k.toList.isEmpty = !(Num.valid D) := by rw [hk.list, h5, Bool.not_not]
  obtain ⟨v, hv⟩ : ∃ v, Num.valid D = v := ⟨_, rfl⟩
  rw [hv] at he
  have HV := Lib.hid hv
  clear ht hd hk hp hf hc h1 h2 h3 h4 h5 hv
  go_enter Tryd.func28, Tryd.ntmps28
  go_wp2_with fail
  refine (kanji_any d D _ HD.out hs HT.out).mono ?_
  rintro e w1 ⟨a1, ha1, rfl, hb1⟩
  obtain rfl : k = a1 := HK.out.eq (by rw [← H1.out]; exact ha1)
  have HB1 := Lib.hid hb1
  have HT1 := Lib.hid (HT.out.keep hb1)
  rw [HV.out]
  clear ha1 hb1
  go_wp2_with fail
  refine (positional_any d D _ HD.out hs HT1.out).mono ?_
  rintro e w2 ⟨a2, ha2, rfl, hb2⟩
  obtain rfl : p = a2 := HP.out.eq (by rw [← H2.out]; exact ha2)
  have HB2 := Lib.hid (HB1.out.trans (hb2.mono HB1.out.size))
  have HT2 := Lib.hid (HT1.out.keep hb2)
  rw [HV.out]
  clear ha2 hb2
  go_wp2_with fail
  refine (formal_any d D _ HD.out hs HT2.out).mono ?_
  rintro e w3 ⟨a3, ha3, rfl, hb3⟩
  obtain rfl : f = a3 := HF.out.eq (by rw [← H3.out]; exact ha3)
  have HB3 := Lib.hid (HB2.out.trans (hb3.mono HB2.out.size))
  have HT3 := Lib.hid (HT2.out.keep hb3)
  rw [HV.out]
  clear ha3 hb3
  go_wp2_with fail
  refine (commas_any d D _ HD.out hs).mono ?_
  rintro e w4 ⟨a4, ha4, rfl, hb4⟩
  obtain rfl : c = a4 := HC.out.eq (by rw [← H4.out]; exact ha4)
  have HB4 := Lib.hid (HB3.out.trans (hb4.mono HB3.out.size))
  rw [HV.out]
  clear ha4 hb4
  cases v
  · have e2 : k.toList.isEmpty = true := he
    clear he
    go_wp2_with fail
    go_ret
    exact ⟨rfl, HB4.out⟩
  · have e2 : k.toList.isEmpty = false := he
    clear he
    go_wp2_with fail
    go_ret
    exact ⟨rfl, HB4.out⟩

set_option maxRecDepth 100000 in
set_option maxHeartbeats 8000000 in
theorem walk (w : World) (ht : Tabs w) :
    Calls Tryd.prog 11 #[] w fun e w' => e = .returned (.bool true) ∧ Below w.heap.size w w' := by
  have HT0 := Lib.hid ht
  have HB0 := Lib.hid (Below.refl w.heap.size w)
  clear ht
  go_enter Tryd.func11, Tryd.ntmps11
  go_wp2_with fail
  refine (all_yes _ _ _ _ _ [48] [233, 155, 182] [227, 128, 135] [233, 155, 182] [48] _ (Is.mk _) (Is.mk _) (Is.mk _) (Is.mk _) (Is.mk _) (by decide) HT0.out (by decide) (by decide) (by decide) (by decide) (by decide)).mono ?_
  rintro e wn ⟨rfl, hb⟩
  have HB1 := Lib.hid (HB0.out.trans (hb.mono HB0.out.size))
  have HT1 := Lib.hid (HT0.out.below HB1.out (Nat.le_refl _))
  clear hb
  go_wp2_with fail
  refine (all_yes _ _ _ _ _ [49, 49] [229, 141, 129, 228, 184, 128] [228, 184, 128, 228, 184, 128] [229, 163, 177, 230, 139, 190, 229, 163, 177] [49, 49] _ (Is.mk _) (Is.mk _) (Is.mk _) (Is.mk _) (Is.mk _) (by decide) HT1.out (by decide) (by decide) (by decide) (by decide) (by decide)).mono ?_
  rintro e wn ⟨rfl, hb⟩
  have HB2 := Lib.hid (HB1.out.trans (hb.mono HB1.out.size))
  have HT2 := Lib.hid (HT0.out.below HB2.out (Nat.le_refl _))
  clear hb
  go_wp2_with fail
  refine (all_yes _ _ _ _ _ [49, 49, 49, 48] [229, 141, 131, 231, 153, 190, 229, 141, 129] [228, 184, 128, 228, 184, 128, 228, 184, 128, 227, 128, 135] [229, 163, 177, 229, 141, 131, 229, 163, 177, 231, 153, 190, 229, 163, 177, 230, 139, 190] [49, 44, 49, 49, 48] _ (Is.mk _) (Is.mk _) (Is.mk _) (Is.mk _) (Is.mk _) (by decide) HT2.out (by decide) (by decide) (by decide) (by decide) (by decide)).mono ?_
  rintro e wn ⟨rfl, hb⟩
  have HB3 := Lib.hid (HB2.out.trans (hb.mono HB2.out.size))
  have HT3 := Lib.hid (HT0.out.below HB3.out (Nat.le_refl _))
  clear hb
  go_wp2_with fail
  refine (all_yes _ _ _ _ _ [49, 48, 48, 48, 48, 48, 48, 48] [229, 141, 131, 228, 184, 135] [228, 184, 128, 227, 128, 135, 227, 128, 135, 227, 128, 135, 227, 128, 135, 227, 128, 135, 227, 128, 135, 227, 128, 135] [229, 163, 177, 229, 141, 131, 228, 184, 135] [49, 48, 44, 48, 48, 48, 44, 48, 48, 48] _ (Is.mk _) (Is.mk _) (Is.mk _) (Is.mk _) (Is.mk _) (by decide) HT3.out (by decide) (by decide) (by decide) (by decide) (by decide)).mono ?_
  rintro e wn ⟨rfl, hb⟩
  have HB4 := Lib.hid (HB3.out.trans (hb.mono HB3.out.size))
  have HT4 := Lib.hid (HT0.out.below HB4.out (Nat.le_refl _))
  clear hb
  go_wp2_with fail
  refine (all_yes _ _ _ _ _ [49, 48, 48, 48, 49, 48, 48, 48, 48] [228, 184, 128, 229, 132, 132, 228, 184, 128, 228, 184, 135] [228, 184, 128, 227, 128, 135, 227, 128, 135, 227, 128, 135, 228, 184, 128, 227, 128, 135, 227, 128, 135, 227, 128, 135, 227, 128, 135] [229, 163, 177, 229, 132, 132, 229, 163, 177, 228, 184, 135] [49, 48, 48, 44, 48, 49, 48, 44, 48, 48, 48] _ (Is.mk _) (Is.mk _) (Is.mk _) (Is.mk _) (Is.mk _) (by decide) HT4.out (by decide) (by decide) (by decide) (by decide) (by decide)).mono ?_
  rintro e wn ⟨rfl, hb⟩
  have HB5 := Lib.hid (HB4.out.trans (hb.mono HB4.out.size))
  have HT5 := Lib.hid (HT0.out.below HB5.out (Nat.le_refl _))
  clear hb
  go_wp2_with fail
  refine (all_yes _ _ _ _ _ [48, 48] [] [] [] [] _ (Is.mk _) (Is.mk _) (Is.mk _) (Is.mk _) (Is.mk _) (by decide) HT5.out (by decide) (by decide) (by decide) (by decide) (by decide)).mono ?_
  rintro e wn ⟨rfl, hb⟩
  have HB6 := Lib.hid (HB5.out.trans (hb.mono HB5.out.size))
  have HT6 := Lib.hid (HT0.out.below HB6.out (Nat.le_refl _))
  clear hb
  go_wp2_with fail
  refine (all_yes _ _ _ _ _ [49, 97] [] [] [] [] _ (Is.mk _) (Is.mk _) (Is.mk _) (Is.mk _) (Is.mk _) (by decide) HT6.out (by decide) (by decide) (by decide) (by decide) (by decide)).mono ?_
  rintro e wn ⟨rfl, hb⟩
  have HB7 := Lib.hid (HB6.out.trans (hb.mono HB6.out.size))
  have HT7 := Lib.hid (HT0.out.below HB7.out (Nat.le_refl _))
  clear hb
  go_wp2_with fail
  refine (all_yes _ _ _ _ _ [] [] [] [] [] _ (Is.mk _) (Is.mk _) (Is.mk _) (Is.mk _) (Is.mk _) (by decide) HT7.out (by decide) (by decide) (by decide) (by decide) (by decide)).mono ?_
  rintro e wn ⟨rfl, hb⟩
  have HB8 := Lib.hid (HB7.out.trans (hb.mono HB7.out.size))
  have HT8 := Lib.hid (HT0.out.below HB8.out (Nat.le_refl _))
  clear hb
  go_wp2_with fail
  refine (all_yes _ _ _ _ _ [49, 49, 49, 49, 49, 49, 49, 49, 49, 49, 49, 49, 49, 49, 49, 49, 49, 49, 49, 49, 49] [] [] [] [] _ (Is.mk _) (Is.mk _) (Is.mk _) (Is.mk _) (Is.mk _) (by decide) HT8.out (by decide) (by decide) (by decide) (by decide) (by decide)).mono ?_
  rintro e wn ⟨rfl, hb⟩
  have HB9 := Lib.hid (HB8.out.trans (hb.mono HB8.out.size))
  have HT9 := Lib.hid (HT0.out.below HB9.out (Nat.le_refl _))
  clear hb
  go_wp2_with fail
  refine (all_yes _ _ _ _ _ [49, 48, 48, 48, 48, 48, 48, 48, 48, 48, 48, 48, 48, 48, 48, 48, 48, 48, 48, 48] [229, 141, 131, 228, 186, 172] [228, 184, 128, 227, 128, 135, 227, 128, 135, 227, 128, 135, 227, 128, 135, 227, 128, 135, 227, 128, 135, 227, 128, 135, 227, 128, 135, 227, 128, 135, 227, 128, 135, 227, 128, 135, 227, 128, 135, 227, 128, 135, 227, 128, 135, 227, 128, 135, 227, 128, 135, 227, 128, 135, 227, 128, 135, 227, 128, 135] [229, 163, 177, 229, 141, 131, 228, 186, 172] [49, 48, 44, 48, 48, 48, 44, 48, 48, 48, 44, 48, 48, 48, 44, 48, 48, 48, 44, 48, 48, 48, 44, 48, 48, 48] _ (Is.mk _) (Is.mk _) (Is.mk _) (Is.mk _) (Is.mk _) (by decide) HT9.out (by decide) (by decide) (by decide) (by decide) (by decide)).mono ?_
  rintro e wn ⟨rfl, hb⟩
  have HB10 := Lib.hid (HB9.out.trans (hb.mono HB9.out.size))
  have HT10 := Lib.hid (HT0.out.below HB10.out (Nat.le_refl _))
  clear hb
  go_wp2_with fail
  refine (parse_any _ [228, 184, 128, 227, 128, 135, 227, 128, 135, 228, 184, 128] _ (Is.mk _) (by decide) HT10.out).mono ?_
  rintro e wn ⟨n0, hn, rfl, hb⟩
  have hp : Num.progParse [228, 184, 128, 227, 128, 135, 227, 128, 135, 228, 184, 128] = ([49, 48, 48, 49], true) := by decide
  rw [hp] at *
  have e0 : (n0.toList == [49, 48, 48, 49]) = true := by rw [hn.list]; decide
  clear hn hp
  have HB11 := Lib.hid (HB10.out.trans (hb.mono HB10.out.size))
  have HT11 := Lib.hid (HT0.out.below HB11.out (Nat.le_refl _))
  clear hb
  go_wp2_with fail
  refine (parse_any _ [229, 163, 177, 229, 141, 131, 229, 163, 177] _ (Is.mk _) (by decide) HT11.out).mono ?_
  rintro e wn ⟨n1, hn, rfl, hb⟩
  have hp : Num.progParse [229, 163, 177, 229, 141, 131, 229, 163, 177] = ([49, 48, 48, 49], true) := by decide
  rw [hp] at *
  have e1 : (n1.toList == [49, 48, 48, 49]) = true := by rw [hn.list]; decide
  clear hn hp
  have HB12 := Lib.hid (HB11.out.trans (hb.mono HB11.out.size))
  have HT12 := Lib.hid (HT0.out.below HB12.out (Nat.le_refl _))
  clear hb
  go_wp2_with fail
  refine (parse_any _ [228, 184, 128, 229, 141, 131, 228, 184, 128] _ (Is.mk _) (by decide) HT12.out).mono ?_
  rintro e wn ⟨n2, hn, rfl, hb⟩
  have hp : Num.progParse [228, 184, 128, 229, 141, 131, 228, 184, 128] = ([], false) := by decide
  rw [hp] at *
  clear hn hp
  have HB13 := Lib.hid (HB12.out.trans (hb.mono HB12.out.size))
  have HT13 := Lib.hid (HT0.out.below HB13.out (Nat.le_refl _))
  clear hb
  go_wp2_with fail
  refine (parse_any _ [227, 128, 135, 228, 184, 128] _ (Is.mk _) (by decide) HT13.out).mono ?_
  rintro e wn ⟨n3, hn, rfl, hb⟩
  have hp : Num.progParse [227, 128, 135, 228, 184, 128] = ([], false) := by decide
  rw [hp] at *
  clear hn hp
  have HB14 := Lib.hid (HB13.out.trans (hb.mono HB13.out.size))
  have HT14 := Lib.hid (HT0.out.below HB14.out (Nat.le_refl _))
  clear hb
  go_wp2_with fail
  refine (parse_any _ [] _ (Is.mk _) (by decide) HT14.out).mono ?_
  rintro e wn ⟨n4, hn, rfl, hb⟩
  have hp : Num.progParse [] = ([], false) := by decide
  rw [hp] at *
  clear hn hp
  have HB15 := Lib.hid (HB14.out.trans (hb.mono HB14.out.size))
  have HT15 := Lib.hid (HT0.out.below HB15.out (Nat.le_refl _))
  clear hb
  go_wp2_with fail
  refine (parse_any _ [229, 141, 131, 228, 184] _ (Is.mk _) (by decide) HT15.out).mono ?_
  rintro e wn ⟨n5, hn, rfl, hb⟩
  have hp : Num.progParse [229, 141, 131, 228, 184] = ([], false) := by decide
  rw [hp] at *
  clear hn hp
  have HB16 := Lib.hid (HB15.out.trans (hb.mono HB15.out.size))
  have HT16 := Lib.hid (HT0.out.below HB16.out (Nat.le_refl _))
  clear hb
  go_wp2_with fail
  refine (forms_any _ [53] _ (Is.mk _) (by decide) HT16.out).mono ?_
  rintro e wn ⟨v, xs, hm, hx, rfl, hb⟩
  have hxs : xs = [⟨#[53]⟩, ⟨#[239, 188, 149]⟩, ⟨#[228, 186, 148]⟩] := bas_inj (by rw [hm]; decide)
  subst hxs
  have HL := Lib.hid hx.lies
  clear hm hx
  have HB17 := Lib.hid (HB16.out.trans (hb.mono HB16.out.size))
  have HT17 := Lib.hid (HT0.out.below HB17.out (Nat.le_refl _))
  clear hb
  go_wp2_with fail
  refine (same_yes _ _ [⟨#[53]⟩, ⟨#[239, 188, 149]⟩, ⟨#[228, 186, 148]⟩] _ (HL.out.below ((Below.refl _ wn).alloc (Nat.le_refl _) _) (Nat.le_refl _)) (lies_lit [⟨#[53]⟩, ⟨#[239, 188, 149]⟩, ⟨#[228, 186, 148]⟩] (cs := #[.string ⟨#[53]⟩, .string ⟨#[239, 188, 149]⟩, .string ⟨#[228, 186, 148]⟩]) rfl 3 rfl (MapKept.heap_alloc wn _).1) (by simp)).mono ?_
  rintro e wm ⟨rfl, hb⟩
  have hb' := ((Below.refl _ wn).alloc (Nat.le_refl _) _).trans (hb.mono (by simp))
  clear hb HL
  have HB18 := Lib.hid (HB17.out.trans (hb'.mono HB17.out.size))
  have HT18 := Lib.hid (HT0.out.below HB18.out (Nat.le_refl _))
  clear hb'
  go_wp2_with fail
  refine (forms_any _ [239, 188, 145, 48] _ (Is.mk _) (by decide) HT18.out).mono ?_
  rintro e wn ⟨v, xs, hm, hx, rfl, hb⟩
  have hxs : xs = [⟨#[49, 48]⟩, ⟨#[239, 188, 145, 239, 188, 144]⟩, ⟨#[228, 184, 128, 227, 128, 135]⟩, ⟨#[229, 141, 129]⟩, ⟨#[229, 163, 177, 230, 139, 190]⟩] := bas_inj (by rw [hm]; decide)
  subst hxs
  have HL := Lib.hid hx.lies
  clear hm hx
  have HB19 := Lib.hid (HB18.out.trans (hb.mono HB18.out.size))
  have HT19 := Lib.hid (HT0.out.below HB19.out (Nat.le_refl _))
  clear hb
  go_wp2_with fail
  refine (same_yes _ _ [⟨#[49, 48]⟩, ⟨#[239, 188, 145, 239, 188, 144]⟩, ⟨#[228, 184, 128, 227, 128, 135]⟩, ⟨#[229, 141, 129]⟩, ⟨#[229, 163, 177, 230, 139, 190]⟩] _ (HL.out.below ((Below.refl _ wn).alloc (Nat.le_refl _) _) (Nat.le_refl _)) (lies_lit [⟨#[49, 48]⟩, ⟨#[239, 188, 145, 239, 188, 144]⟩, ⟨#[228, 184, 128, 227, 128, 135]⟩, ⟨#[229, 141, 129]⟩, ⟨#[229, 163, 177, 230, 139, 190]⟩] (cs := #[.string ⟨#[49, 48]⟩, .string ⟨#[239, 188, 145, 239, 188, 144]⟩, .string ⟨#[228, 184, 128, 227, 128, 135]⟩, .string ⟨#[229, 141, 129]⟩, .string ⟨#[229, 163, 177, 230, 139, 190]⟩]) rfl 5 rfl (MapKept.heap_alloc wn _).1) (by simp)).mono ?_
  rintro e wm ⟨rfl, hb⟩
  have hb' := ((Below.refl _ wn).alloc (Nat.le_refl _) _).trans (hb.mono (by simp))
  clear hb HL
  have HB20 := Lib.hid (HB19.out.trans (hb'.mono HB19.out.size))
  have HT20 := Lib.hid (HT0.out.below HB20.out (Nat.le_refl _))
  clear hb'
  go_wp2_with fail
  refine (forms_any _ [49, 50, 51, 52] _ (Is.mk _) (by decide) HT20.out).mono ?_
  rintro e wn ⟨v, xs, hm, hx, rfl, hb⟩
  have hxs : xs = [⟨#[49, 50, 51, 52]⟩, ⟨#[239, 188, 145, 239, 188, 146, 239, 188, 147, 239, 188, 148]⟩, ⟨#[49, 44, 50, 51, 52]⟩, ⟨#[228, 184, 128, 228, 186, 140, 228, 184, 137, 229, 155, 155]⟩, ⟨#[229, 141, 131, 228, 186, 140, 231, 153, 190, 228, 184, 137, 229, 141, 129, 229, 155, 155]⟩, ⟨#[229, 163, 177, 229, 141, 131, 229, 188, 144, 231, 153, 190, 229, 143, 130, 230, 139, 190, 229, 155, 155]⟩] := bas_inj (by rw [hm]; decide)
  subst hxs
  have HL := Lib.hid hx.lies
  clear hm hx
  have HB21 := Lib.hid (HB20.out.trans (hb.mono HB20.out.size))
  have HT21 := Lib.hid (HT0.out.below HB21.out (Nat.le_refl _))
  clear hb
  go_wp2_with fail
  refine (same_yes _ _ [⟨#[49, 50, 51, 52]⟩, ⟨#[239, 188, 145, 239, 188, 146, 239, 188, 147, 239, 188, 148]⟩, ⟨#[49, 44, 50, 51, 52]⟩, ⟨#[228, 184, 128, 228, 186, 140, 228, 184, 137, 229, 155, 155]⟩, ⟨#[229, 141, 131, 228, 186, 140, 231, 153, 190, 228, 184, 137, 229, 141, 129, 229, 155, 155]⟩, ⟨#[229, 163, 177, 229, 141, 131, 229, 188, 144, 231, 153, 190, 229, 143, 130, 230, 139, 190, 229, 155, 155]⟩] _ (HL.out.below ((Below.refl _ wn).alloc (Nat.le_refl _) _) (Nat.le_refl _)) (lies_lit [⟨#[49, 50, 51, 52]⟩, ⟨#[239, 188, 145, 239, 188, 146, 239, 188, 147, 239, 188, 148]⟩, ⟨#[49, 44, 50, 51, 52]⟩, ⟨#[228, 184, 128, 228, 186, 140, 228, 184, 137, 229, 155, 155]⟩, ⟨#[229, 141, 131, 228, 186, 140, 231, 153, 190, 228, 184, 137, 229, 141, 129, 229, 155, 155]⟩, ⟨#[229, 163, 177, 229, 141, 131, 229, 188, 144, 231, 153, 190, 229, 143, 130, 230, 139, 190, 229, 155, 155]⟩] (cs := #[.string ⟨#[49, 50, 51, 52]⟩, .string ⟨#[239, 188, 145, 239, 188, 146, 239, 188, 147, 239, 188, 148]⟩, .string ⟨#[49, 44, 50, 51, 52]⟩, .string ⟨#[228, 184, 128, 228, 186, 140, 228, 184, 137, 229, 155, 155]⟩, .string ⟨#[229, 141, 131, 228, 186, 140, 231, 153, 190, 228, 184, 137, 229, 141, 129, 229, 155, 155]⟩, .string ⟨#[229, 163, 177, 229, 141, 131, 229, 188, 144, 231, 153, 190, 229, 143, 130, 230, 139, 190, 229, 155, 155]⟩]) rfl 6 rfl (MapKept.heap_alloc wn _).1) (by simp)).mono ?_
  rintro e wm ⟨rfl, hb⟩
  have hb' := ((Below.refl _ wn).alloc (Nat.le_refl _) _).trans (hb.mono (by simp))
  clear hb HL
  have HB22 := Lib.hid (HB21.out.trans (hb'.mono HB21.out.size))
  have HT22 := Lib.hid (HT0.out.below HB22.out (Nat.le_refl _))
  clear hb'
  go_wp2_with fail
  refine (forms_any _ [48, 49] _ (Is.mk _) (by decide) HT22.out).mono ?_
  rintro e wn ⟨v, xs, hm, hx, rfl, hb⟩
  have hxs : xs = [] := bas_inj (by rw [hm]; decide)
  subst hxs
  obtain ⟨ao, cap, rfl⟩ := hx.frame
  clear hm hx
  have HB23 := Lib.hid (HB22.out.trans (hb.mono HB22.out.size))
  have HT23 := Lib.hid (HT0.out.below HB23.out (Nat.le_refl _))
  clear hb
  go_wp2_with fail
  refine (forms_any _ [] _ (Is.mk _) (by decide) HT23.out).mono ?_
  rintro e wn ⟨v, xs, hm, hx, rfl, hb⟩
  have hxs : xs = [] := bas_inj (by rw [hm]; decide)
  subst hxs
  obtain ⟨ao, cap, rfl⟩ := hx.frame
  clear hm hx
  have HB24 := Lib.hid (HB23.out.trans (hb.mono HB23.out.size))
  have HT24 := Lib.hid (HT0.out.below HB24.out (Nat.le_refl _))
  clear hb
  go_wp2_with fail
  refine (forms_any _ [228, 184, 128] _ (Is.mk _) (by decide) HT24.out).mono ?_
  rintro e wn ⟨v, xs, hm, hx, rfl, hb⟩
  have hxs : xs = [] := bas_inj (by rw [hm]; decide)
  subst hxs
  obtain ⟨ao, cap, rfl⟩ := hx.frame
  clear hm hx
  have HB25 := Lib.hid (HB24.out.trans (hb.mono HB24.out.size))
  have HT25 := Lib.hid (HT0.out.below HB25.out (Nat.le_refl _))
  clear hb
  go_wp2_with fail
  refine (works_any _ HT25.out).mono ?_
  rintro e wn ⟨rfl, hb⟩
  have HB26 := Lib.hid (HB25.out.trans (hb.mono HB25.out.size))
  have HT26 := Lib.hid (HT0.out.below HB26.out (Nat.le_refl _))
  clear hb
  go_wp2_with fail
  go_ret
  exact ⟨rfl, HB26.out⟩

theorem laidOut : laidOutB Tryd.prog = true := by kernel_rfl
theorem contract (H : Type) (enc : TypeId × Value → H) (W : World) (base : Nat) (args : Array Value) (ds gs : List (DataW H)) (before : List MemPlace)
    (hval : ∀ (j : Nat) t v, Tryd.f11.params[j]? = some t → args[j]? = some v → Value.okWide Tryd.prog W .any base t v)
    (hW : DataW.Whole enc Tryd.prog Tryd.f11.params.toList Rows.numeralKnownSpec.vars false W args.toList ds gs before) (hL : laidMetH Tryd.prog Rows.numeralKnownRow.laid W)
    (hR : (DataW.weightsEach Tryd.prog (Tryd.f11.params.toList ++ (OpenSpec.ofChange Rows.numeralKnownSpec).bare.plain.varTypes Tryd.prog) (ds ++ gs)).all (· ≤ reachBytes) = true) :
    Calls Tryd.prog 11 args W fun e W' => ∃ v, e = .returned v ∧ Rows.numeralKnownSpec.post enc Tryd.prog Tryd.f11 false true false false W args v W' := by
  have hT : Tabs W := tabs_of_laid hL
  have hW' := hW
  obtain ⟨p, q, hA0, hV, rfl, hfz, hnd⟩ := hW
  have hA : DataW.TrodAll enc Tryd.prog W 0 (fun _ => true) true Tryd.f11.params.toList args.toList ds p := hA0
  rw [Tryd.params11] at hA hval hR
  obtain ⟨hargs, rfl, rfl⟩ := trodAll_nil hA
  obtain rfl : args = #[] := by cases args; simp_all
  obtain ⟨rfl, rfl⟩ := trodVars_none hV
  clear hA0
  simp only [List.append_nil] at hW' hR
  refine (walk W hT).mono fun e W' ⟨he, bel⟩ => ?_
  subst he
  exact ⟨_, rfl, _, _, _, [], _, [], hW', trodAll_mk1 (shut_bool Tryd.underlying4 _), trodAll_mk0, rfl, bel.frame _, fun h => by cases h⟩

theorem reads (os : Os) {H : Type} (enc : TypeId × Value → H) : ∃ places, DataW.whole enc Tryd.prog ((laidWorld os).forCall (fun _ _ => 0) ⟨#[], #[], []⟩).memory Tryd.f11.params.toList Rows.numeralKnownSpec.vars false #[].toList 8 = some ([], [], places) :=
  ⟨[], by kernel_rfl⟩

set_option maxRecDepth 100000 in
theorem lifted (os : Os) (started : os.Started) (H : Type) (enc : TypeId × Value → H) (F : Stop.Interp) :
    ReturnsInHanded {} Tryd.checked os 11 .any ((OpenSpec.ofChange Rows.numeralKnownSpec).preRow enc Tryd.prog Tryd.f11 Rows.numeralKnownRow.domain false Rows.numeralKnownRow.laid) (((OpenSpec.ofChange Rows.numeralKnownSpec).at F).post enc Tryd.prog Tryd.f11 false true false false) := by
  obtain ⟨places, hx⟩ := reads os enc
  refine returnsInHanded_of_row (C := Tryd.checked) (s := OpenSpec.ofChange Rows.numeralKnownSpec) own started (by kernel_rfl) Tryd.func11
    (witness_row_at (enc := enc) (C := Tryd.checked) false (laidWorld os) #[] rfl (by kernel_rfl) (by kernel_rfl) (by kernel_rfl)
      (OpenSpec.preRow_of_cond 8 hx (by kernel_rfl) (fun k hk => by cases hk) (by kernel_rfl) (laid_met os _))) ?_
  intro W base args ds gs before hval hW _ _ hR hL _ _
  exact contract H enc W base args ds gs before hval hW hL hR

theorem said : Rows.NumeralKnownSaid :=
  OpenClaim.holds_of_cond 11 Tryd.f11 rfl rfl rfl rfl rfl rfl rfl ⟨rfl, rfl, rfl, rfl, rfl⟩ rfl rfl rfl rfl rfl (by kernel_rfl) Tryd.func11 (by kernel_rfl)
    (of_decide_eq_true (by kernel_rfl)) (by unfold Func.isWrapper; first | (rw [if_pos (by decide +kernel)]; kernel_rfl) | (rw [if_neg (by decide +kernel)]; exact ⟨rfl, rfl⟩))
    (fun os started H enc _ F => by rw [OpenClaim.pre_eq_preRow]; exact lifted os started H enc F)

theorem plain (f : FuncId) (fn : Func) (hf : Tryd.pinned.checked.prog.funcNamed "henkan/henkanlaw03.NumeralKnown" = some f) (hfn : Tryd.pinned.checked.prog.funcs[f]? = some fn) :
    false = Tryd.pinned.checked.prog.looks [] ∧ ∀ (j : Nat) t, fn.params[j]? = some t → Tryd.pinned.checked.prog.wantsStandIn t = false := by
  obtain rfl : f = 11 := Option.some.inj ((show Tryd.prog.funcNamed "henkan/henkanlaw03.NumeralKnown" = some 11 by kernel_rfl).symm.trans hf) |>.symm
  obtain rfl : fn = Tryd.f11 := (Option.some.inj (Tryd.func11.symm.trans hfn)).symm
  refine ⟨by kernel_rfl, fun j t ht => ?_⟩
  rw [Tryd.params11] at ht
  simp at ht

/-- the card -/
theorem proved : Rows.NumeralKnownCardSaid :=
  Claim7.holds_tied_plain_at .later [] _ _ _ _ said (fun _ h => by cases h) (by kernel_rfl) (fun _ h => by cases h) numeralKnown_row_tie rfl ⟨rfl, rfl⟩ (by kernel_rfl) rfl plain (by kernel_rfl)
#print axioms proved
end Go.Proofs.YtcgfcedlllmbhaaDoor.numeralKnown
