/-
  numeral.Commas and henkanref03.Commas by their contracts. No condition but the string's own bound.
-/
import Derived.Test.YtnpkcobapckhdaaGreatDoorNumRef
import Derived.Test.YtnpkcobapckhdaaGreatDoorStrs
import Derived.Test.YtnpkcobapckhdaaGreatDoorComMath
namespace Go.Proofs.YtnpkcobapckhdaaGreatDoor
open Go.RowKit

theorem Is.from {t : ByteArray} {a : List UInt8} (h : Is t a) (i : Nat) : Is (t.extract i t.size) (a.drop i) := by
  unfold Is at *
  rw [Lib.extract_data, ← h]
  apply List.take_of_length_le
  rw [List.length_drop]
  have : t.data.toList.length = t.size := rfl
  omega
theorem Is.upto {t : ByteArray} {a : List UInt8} (h : Is t a) (j : Nat) : Is (t.extract 0 j) (a.take j) := by
  unfold Is at *
  rw [Lib.extract_data, ← h]
  rfl
theorem joinC_len (l a : List UInt8) (xs : List (List UInt8)) (h : Num.ComRel l a xs) (h3 : a.length ≤ 3) (h20 : l.length ≤ 20) : (Lib.join (xs ++ [a]).reverse [44]).length ≤ 40 := by
  rw [Num.comRel_end h h3]
  have := Num.com_len true l
  omega

set_option maxHeartbeats 2000000 in
set_option maxRecDepth 100000 in
theorem commas_yes (s : ByteArray) (l : List UInt8) (w : World) (h : Is s l) (hs : s.size ≤ 9223372036854775807) (hv : Num.valid l = true) :
    Calls Tryz.prog 68 #[.string s] w (Gives true (Num.com true l) w) := by
  have HI := Lib.hid h
  have HV := Lib.hid hv
  have h20 : s.size ≤ 20 := by rw [h.size]; exact ((Num.valid_iff l).1 hv).2.1
  clear h hv
  go_enter Tryz.func68, Tryz.ntmps68
  go_wp2_with fail
  refine (valid_any s l _ HI.out hs).mono ?_
  rintro e w2 ⟨rfl, hb⟩
  rw [HV.out]
  have HB := Lib.hid hb
  have hsz := hb.size
  clear hb
  go_wp2_with fail
  obtain ⟨i0, hi, hz0, hz1, hz2⟩ := info_parts infoStr
  go_loopw [4, 5] (fun v tv wr => ∃ (xs : List ByteArray) (t : ByteArray) (a : List UInt8), tv = .string t ∧ Is t a ∧ a ≠ [] ∧ a.length ≤ 20 ∧ a.length + xs.length ≤ 20 ∧ Strs w.heap.size v xs wr ∧ Num.ComRel l a (xs.map (·.data.toList)) ∧ Below w.heap.size w wr) (fun _ tv _ => match tv with | .string t => t.size | _ => 0)
  case atStart => exact ⟨[], s, l, rfl, HI.out, ((Num.valid_iff l).1 HV.out).1, ((Num.valid_iff l).1 HV.out).2.1, ((Num.valid_iff l).1 HV.out).2.1, Strs.nil _ _, Num.comRel_start l, HB.out⟩
  case round =>
    obtain ⟨xs, t, a, rfl, ht, ha0, ha20, hax, hx, hr, hb⟩ := hrel
    have hown : wr.ownsRow w.heap.size 9 1 _ xs.length (xs.map Value.string) := hx
    obtain ⟨ao, cap, rfl⟩ := hx.frame
    have HT := Lib.hid ht
    have HR := Lib.hid hr
    have HBe := Lib.hid hb
    have hsw := hb.size
    have htl : t.size = a.length := ht.size
    have HTL := Lib.hid htl
    have HA0 := Lib.hid ha0
    have ha1 : 1 ≤ a.length := by cases a with | nil => exact absurd rfl ha0 | cons x y => simp
    by_cases h3 : t.size ≤ 3
    · have h3b : a.length ≤ 3 := by omega
      clear ht hr hb hx htl ha0
      go_wp2_with (at_builtin; refine wpList_append_own _ rfl _ _ 23 rfl w.heap.size 9 i0 (.string ⟨#[]⟩) 1 16 Tryz.underlying23 hi hz0 hz1 hz2 rfl (by decide) _ _ _ rfl (hown.alloc _) ⟨wr.heap.size, 0, none⟩ 1 1 [.string t] rfl rfl ?c1 ?c2 ?c3 ?c4 ?c5 ?_)
      case c1 => exact cell_one_new _ _ _
      case c2 => intro u hu; simp at hu; subst hu; rfl
      case c3 => unfold maxLen; omega
      case c4 => omega
      case c5 => simp; omega
      intro v' w3 hown' hgrow _
      have hx3 := strs_snoc hown'
      have hb3 : Below w.heap.size w w3 := (HBe.out.alloc hsw _).grown hgrow (by simp; omega) (fun k hk => (hown.lt k hk).1)
      obtain ⟨g, cap', rfl, hgB, hgs, hcap, hcells, hfr, _⟩ := hx3.at (by simp)
      have HB3 := Lib.hid hb3
      have hs3 := hb3.size
      have HC := Lib.hid hcells
      have HF := Lib.hid hfr
      have hn : (xs ++ [t]).length ≤ 20 := by rw [List.length_append]; simp; omega
      clear hx3 hb3 hown' hgrow hcells hfr hown
      generalize hys : xs ++ [t] = ys at *
      have HY := Lib.hid hys
      clear hys
      go_wp2_with fail
      refine (reverse_any g cap' _ ys _ rfl HC.out HF.out (by omega)).mono ?_
      rintro e w4 ⟨rfl, hc4, hb4⟩
      have HC4 := Lib.hid hc4
      have HB4 := Lib.hid (HB3.out.trans (hb4.mono hgB))
      have hs4 := hb4.size
      clear hc4 hb4
      go_wp2_with fail
      have hlen := joinC_len l a (xs.map (·.data.toList)) HR.out h3b ((Num.valid_iff l).1 HV.out).2.1
      have hjoin : Lib.join (ys.reverse.map (·.data.toList)) [44] = Num.com true l := by
        rw [← HY.out, List.map_reverse, List.map_append]
        have e1 : [t].map (·.data.toList) = [a] := by rw [List.map_cons, List.map_nil, HT.out.data]
        rw [e1]
        exact Num.comRel_end HR.out h3b
      have HJ := Lib.hid hjoin
      have hlen2 : (Num.com true l).length ≤ 40 := by rw [Num.comRel_end HR.out h3b] at hlen; exact hlen
      clear hjoin hlen
      refine (join_any g cap' _ ys.reverse ⟨#[44]⟩ _ (by rw [List.length_reverse]) HC4.out (by omega) (by omega) hcap (by show (Lib.join _ [44]).length ≤ _; rw [HJ.out]; omega)).mono ?_
      rintro e w5 ⟨⟨b, hb1, rfl⟩, hb5⟩
      have H1 := Lib.hid (show Is b (Num.com true l) by have h5 : Is b (Lib.join (ys.reverse.map (·.data.toList)) [44]) := hb1
                                                        rw [← HJ.out]; exact h5)
      have HB5 := Lib.hid (HB4.out.trans (hb5.mono (by omega)))
      clear hb1 hb5
      go_wp2_with fail
      go_ret2
      exact ⟨b, H1.out, rfl, HB5.out⟩
    · have h3b : 3 < a.length := by omega
      have h3c : 3 < t.size := by omega
      have ht20 : t.size ≤ 20 := by omega
      clear ht hr hb hx htl ha0 h3
      go_wp2_with (at_builtin; refine wpList_append_own _ rfl _ _ 23 rfl w.heap.size 9 i0 (.string ⟨#[]⟩) 1 16 Tryz.underlying23 hi hz0 hz1 hz2 rfl (by decide) _ _ _ rfl (hown.alloc _) ⟨wr.heap.size, 0, none⟩ 1 1 [.string (t.extract (t.size - 3) t.size)] rfl rfl ?c1 ?c2 ?c3 ?c4 ?c5 ?_)
      case c1 => exact cell_one_new _ _ _
      case c2 => intro u hu; simp at hu; subst hu; rfl
      case c3 => unfold maxLen; omega
      case c4 => omega
      case c5 => simp; omega
      intro v' w3 hown' hgrow _
      have hx3 := strs_snoc hown'
      have HB3 := Lib.hid (show Below w.heap.size w w3 from (HBe.out.alloc hsw _).grown hgrow (by simp; omega) (fun k hk => (hown.lt k hk).1))
      have HX3 := Lib.hid hx3
      clear hx3 hown' hgrow hown
      go_wp2_with fail
      go_roundw
      case rel =>
        refine ⟨xs ++ [t.extract (t.size - 3) t.size], t.extract 0 (t.size - 3), a.take (a.length - 3), rfl, ?_, ?_, ?_, ?_, HX3.out, ?_, HB3.out⟩
        · rw [HTL.out]; exact HT.out.upto _
        · intro e
          have := congrArg List.length e
          rw [List.length_take] at this
          simp at this
          omega
        · rw [List.length_take]; omega
        · rw [List.length_take, List.length_append]; simp; omega
        · rw [List.map_append]
          have e1 : [t.extract (t.size - 3) t.size].map (·.data.toList) = [a.drop (a.length - 3)] := by
            rw [List.map_cons, List.map_nil, (HT.out.from _).data, HTL.out]
          rw [e1]
          exact Num.comRel_step HR.out h3b
      case measure =>
        show (t.extract 0 (t.size - 3)).size < t.size
        rw [(HT.out.upto _).size, List.length_take]
        omega

set_option maxHeartbeats 1000000 in
set_option maxRecDepth 100000 in
theorem commas_any (s : ByteArray) (l : List UInt8) (w : World) (h : Is s l) (hs : s.size ≤ 9223372036854775807) :
    Calls Tryz.prog 68 #[.string s] w (Gives (Num.valid l) (if Num.valid l = true then Num.com true l else []) w) := by
  cases hv : Num.valid l
  · have HI := Lib.hid h
    have HV := Lib.hid hv
    clear h hv
    go_enter Tryz.func68, Tryz.ntmps68
    go_wp2_with fail
    refine (valid_any s l _ HI.out hs).mono ?_
    rintro e w2 ⟨rfl, hb⟩
    rw [HV.out]
    have HB := Lib.hid hb
    clear hb
    go_wp2_with fail
    go_ret2
    exact ⟨_, Is.mk [], rfl, HB.out⟩
  · exact commas_yes s l w h hs hv

/-- what the reference's loop has written: k digits are done -/
def ComDone (l : List UInt8) (k : Nat) (acc : List UInt8) : Prop := acc ++ Num.com (decide (k = 0)) (l.drop k) = Num.com true l
theorem comDone_step {l acc : List UInt8} {k : Nat} {c : UInt8} (h : ComDone l k acc) (hc : l[k]? = some c) : ComDone l (k + 1) (acc ++ ((if k ≠ 0 ∧ (l.length - k) % 3 = 0 then [44] else []) ++ [c])) := by
  unfold ComDone at *
  have hk : k < l.length := by
    rcases Nat.lt_or_ge k l.length with h' | h'
    · exact h'
    · rw [List.getElem?_eq_none h'] at hc; cases hc
  have hd : l.drop k = c :: l.drop (k + 1) := by
    rw [List.drop_eq_getElem_cons hk]
    congr 1
    rw [List.getElem?_eq_getElem hk] at hc
    exact Option.some.inj hc
  have hl : (l.drop (k + 1)).length + 1 = l.length - k := by rw [List.length_drop]; omega
  rw [hd, Num.com_cons, hl] at h
  have e1 : decide (k + 1 = 0) = false := by simp
  have e2 : (decide (k = 0) = false ∧ (l.length - k) % 3 = 0) ↔ (k ≠ 0 ∧ (l.length - k) % 3 = 0) := by simp
  rw [e1]
  simp only [e2] at h
  rw [← h]
  simp
theorem comDone_len {l acc : List UInt8} {k : Nat} (h : ComDone l k acc) (h20 : l.length ≤ 20) : acc.length ≤ 40 := by
  unfold ComDone at h
  have a := congrArg List.length h
  rw [List.length_append] at a
  have b := Num.com_len true l
  omega

set_option maxHeartbeats 2000000 in
set_option maxRecDepth 100000 in
theorem rcommas_any (s : ByteArray) (l : List UInt8) (w : World) (h : Is s l) (hs : s.size ≤ 9223372036854775807) :
    Calls Tryz.prog 81 #[.string s] w (Gives (Num.valid l) (if Num.valid l = true then Num.com true l else []) w) := by
  have HI := Lib.hid h
  cases hv : Num.valid l
  · have HV := Lib.hid hv
    clear h hv
    go_enter Tryz.func81, Tryz.ntmps81
    go_wp2_with fail
    refine (digits_any s l _ HI.out hs).mono ?_
    rintro e w2 ⟨rfl, rfl⟩
    rw [HV.out]
    go_wp2_with fail
    go_ret2
    exact ⟨_, Is.mk [], rfl, Below.refl _ _⟩
  · have HV := Lib.hid hv
    have HZ := Lib.hid h.size
    have h20 : s.size ≤ 20 := by rw [h.size]; exact ((Num.valid_iff l).1 hv).2.1
    clear h hv
    go_enter Tryz.func81, Tryz.ntmps81
    go_wp2_with fail
    refine (digits_any s l _ HI.out hs).mono ?_
    rintro e w2 ⟨rfl, rfl⟩
    rw [HV.out]
    go_wp2_with fail
    go_loop [4, 5] (fun ov i => ∃ (k : Nat) (acc : List UInt8) (t : ByteArray), k ≤ s.size ∧ i = .int .i64 k ∧ ov = .string t ∧ Is t acc ∧ ComDone l k acc) (fun _ i => s.size - (intOf i).toNat)
    case atStart => exact ⟨0, [], _, by omega, rfl, rfl, rfl, rfl⟩
    case round =>
      obtain ⟨k, acc, t, hk, rfl, rfl, ht, hr⟩ := hrel
      have HRel := Lib.hid hr
      have HX := Lib.hid ht
      have htl : t.size ≤ 40 := by rw [ht.size]; exact comDone_len hr (by rw [← HZ.out]; exact h20)
      clear hr ht
      by_cases hlt : k < s.size
      · have HG := Lib.hid (HI.out.get k hlt)
        have HC := Lib.hid (show Is (s.extract k (k + 1)) [s[k]] by
          unfold Is
          rw [Lib.extract_data, show k + 1 - k = 1 by omega]
          have h1 := HI.out.data
          have h2 := HG.out
          have hk2 : k < l.length := by rw [← HZ.out]; exact hlt
          rw [h1, List.drop_eq_getElem_cons hk2]
          rw [List.getElem?_eq_getElem hk2] at h2
          rw [Option.some.inj h2]
          rfl)
        have hc1 : (s.extract k (k + 1)).size = 1 := by rw [HC.out.size]; rfl
        have HC1 := Lib.hid hc1
        clear hc1
        have hs1 : (s.extract k (k + 1)).size ≤ 1 := by rw [HC1.out]; omega
        by_cases hz : k = 0
        · have h0 : ¬ (0 < (k : Int)) := by omega
          have HZ0 := Lib.hid hz
          clear hz
          have hd : decide (0 < (k : Int)) = false := by simp; omega
          go_wp2_with fail
          go_round
          case rel => exact ⟨k + 1, acc ++ ([] ++ [s[k]]), _, by omega, by go_num, rfl, HX.out.append HC.out, by have := comDone_step HRel.out HG.out; rw [if_neg (fun h => h.1 HZ0.out)] at this; exact this⟩
          case measure => simp [intOf]; omega
        · have h0 : 0 < (k : Int) := by omega
          have HZ0 := Lib.hid hz
          clear hz
          by_cases h3 : (s.size - k) % 3 = 0
          · have h3b : (((s.size : Int) - (k : Int)) % 3 == 0) = true := by rw [beq_iff_eq]; omega
            have H3 := Lib.hid h3
            clear h3
            go_wp2_with fail
            go_round
            case rel => exact ⟨k + 1, acc ++ ([44] ++ [s[k]]), _, by omega, by go_num, rfl, by rw [← List.append_assoc]; exact (HX.out.append (Is.mk [44])).append HC.out, by have := comDone_step HRel.out HG.out; rw [if_pos ⟨HZ0.out, by rw [← HZ.out]; exact H3.out⟩] at this; exact this⟩
            case measure => simp [intOf]; omega
          · have h3b : (((s.size : Int) - (k : Int)) % 3 == 0) = false := by rw [beq_eq_false_iff_ne]; omega
            have H3 := Lib.hid h3
            clear h3
            go_wp2_with fail
            go_round
            case rel => exact ⟨k + 1, acc ++ ([] ++ [s[k]]), _, by omega, by go_num, rfl, HX.out.append HC.out, by have := comDone_step HRel.out HG.out; rw [if_neg (fun h => H3.out (by rw [HZ.out]; exact h.2))] at this; exact this⟩
            case measure => simp [intOf]; omega
      · obtain rfl : k = s.size := by omega
        have HE := Lib.hid (show acc = Num.com true l by
          have := HRel.out
          unfold ComDone at this
          rw [HZ.out, List.drop_length, Num.com, List.append_nil] at this
          exact this)
        go_wp2_with fail
        go_ret2
        exact ⟨t, by first | (rw [← HE.out]; exact HX.out) | (simp only [if_true]; rw [← HE.out]; exact HX.out), rfl, Below.refl _ _⟩
end Go.Proofs.YtnpkcobapckhdaaGreatDoor
