/-
  numeral.Forms by its contract: the list of all ways of writing a number, in memory of the call's own. No condition but the string's own bound and the tables.
-/
import Derived.Test.YtnpkcobapckhdaaGreatDoorFormHelp
namespace Go.Proofs.YtnpkcobapckhdaaGreatDoor
open Go.RowKit

theorem enc_dig (d : Nat) (h : d < 10) : Lib.encodeRune (48 + (d : Int)) = [UInt8.ofNat (48 + d)] := by
  have h1 : d = 0 ∨ d = 1 ∨ d = 2 ∨ d = 3 ∨ d = 4 ∨ d = 5 ∨ d = 6 ∨ d = 7 ∨ d = 8 ∨ d = 9 := by omega
  rcases h1 with rfl | rfl | rfl | rfl | rfl | rfl | rfl | rfl | rfl | rfl <;> decide
/-- what Forms hands back -/
def GivesList (L : List (List UInt8)) (w : World) (e : Ending) (w' : World) : Prop :=
  ∃ (v : Value) (xs : List ByteArray), xs.map (·.data.toList) = L ∧ Strs w.heap.size v xs w' ∧ e = .returned v ∧ Below w.heap.size w w'
/-- the list behind k of the four writings -/
def formsAt (d : List UInt8) (k : Nat) : List (List UInt8) := ((Num.four d).take k).foldl Num.addU [d, Num.wide d]
theorem formsAt_step (d : List UInt8) (k : Nat) (x : List UInt8) (h : (Num.four d)[k]? = some x) : formsAt d (k + 1) = Num.addU (formsAt d k) x := by
  unfold formsAt
  rw [List.take_add_one, h]
  simp [List.foldl_append]
theorem formsAt_len (d : List UInt8) (k : Nat) : (formsAt d k).length ≤ 2 + k := by
  induction k with
  | zero => simp [formsAt]
  | succ k ih =>
    cases h : (Num.four d)[k]? with
    | none =>
      have : formsAt d (k + 1) = formsAt d k := by unfold formsAt; rw [List.take_add_one, h]; simp
      rw [this]; omega
    | some x => rw [formsAt_step d k x h]; have := Num.addU_len (formsAt d k) x; omega

abbrev fnCells : Array Value := #[.func (.func 68) #[] #[], .func (.func 69) #[] #[], .func (.func 60) #[] #[], .func (.func 70) #[] #[]]
set_option maxRecDepth 100000 in
set_option maxHeartbeats 4000000 in
theorem forms_any (s : ByteArray) (l : List UInt8) (w : World) (h : Is s l) (hs : s.size ≤ 140737488351232) (ht : Tabs w) :
    Calls Tryz.prog 29 #[.string s] w (GivesList (Num.forms l) w) := by
  have HI := Lib.hid h
  have HT := Lib.hid ht
  have HL := Lib.hid h.size
  clear h ht
  go_enter Tryz.func29, Tryz.ntmps29
  go_wp2_with fail
  go_loopw [] (fun wr => ∃ (pos fuel : Nat) (acc : List UInt8), acc.length ≤ pos ∧ pos ≤ s.size ∧ Num.NarL l acc fuel pos ∧ s.size ≤ pos + fuel ∧ Bldr w.heap.size w.heap.size acc wr ∧ wr.heap[w.heap.size + 1]? = some (.stringIter s pos) ∧ Below w.heap.size w wr) (fun wr => s.size - wr.iterPos (w.heap.size + 1))
  case atStart =>
    refine ⟨0, s.size, [], by simp, by omega, by rw [HL.out]; exact Num.narL_start l, by omega, ?_, ?_, ?_⟩
    · exact Bldr.alloc' (Lib.IsBuilderF.of (Lib.fresh_isBuilder 86 5 w)) _
    · have e1 : (w.alloc (.cells #[.pointer none, .slice none 0 0] 86)).heap.size = w.heap.size + 1 := by simp
      rw [← e1]; exact World.iter_heap _ s 0
    · exact ((Below.refl _ w).alloc (Nat.le_refl _) _).alloc (by simp) _
  case round =>
    obtain ⟨pos, fuel, acc, hacc, hpos, hleft, hfu, hI, mi, hb⟩ := hrel
    by_cases hp : pos < s.size
    · have hnx : ∀ ty, (Instr.next (.pointer (some ⟨w.heap.size + 1, 0, none⟩)) true ty).run Tryz.prog wr = _ := fun ty => Lib.run_next_any_at wr (w.heap.size + 1) s pos ty mi hp
      have hdl : Lib.decodeL (l.drop pos) = Utf8.decode s pos := by rw [← HI.out.data]; exact Lib.decodeL_drop s pos
      obtain ⟨r, hr⟩ : ∃ r, (Utf8.decode s pos).1 = r := ⟨_, rfl⟩
      obtain ⟨p2, hp2⟩ : ∃ p2, pos + (Utf8.decode s pos).2 = p2 := ⟨_, rfl⟩
      have hwp := Lib.decode_width_pos s pos hp
      obtain ⟨w1, hw1⟩ : ∃ w1, wr.iterAt (w.heap.size + 1) s p2 = w1 := ⟨_, rfl⟩
      have mi1 : w1.heap[w.heap.size + 1]? = some (.stringIter s p2) := by rw [← hw1]; exact Lib.iterAt_heap wr _ s pos p2 mi
      have mb1 : Below w.heap.size w w1 := by rw [← hw1]; exact Lib.below_iterAt hb (by omega) s p2
      have hI1 : Bldr w.heap.size w.heap.size acc w1 := by rw [← hw1]; exact hI.iterAt mi p2
      have HPOS := Lib.hid (iterPos_of mi)
      have hp3 : pos < p2 := by omega
      have HP := Lib.hid hp
      have hfu2 : s.size ≤ p2 + (fuel - 1) := by omega
      have T1 := Lib.hid (HT.out.below mb1 (Nat.le_refl _))
      have MI := Lib.hid mi1
      have MB := Lib.hid mb1
      have HBl := Lib.hid hI1
      have hsz := mb1.size
      have hplen : pos < l.length := by rw [← HL.out]; exact hp
      have hflen : l.length ≤ pos + fuel := by rw [← HL.out]; exact hfu
      cases hnd : Num.nd (l.drop pos) with
      | none =>
        have hN := Num.nd_none hnd (by intro e; rw [e] at hnd; have := congrArg List.length e; rw [List.length_drop] at this; simp at this; omega)
        rw [hdl, hr] at hN
        have HF := Lib.hid (show Num.forms l = [] by unfold Num.forms; rw [Num.narL_none hleft hnd hplen hflen])
        have hN1 : (r : Int) < 48 ∨ (57 < (r : Int) ∧ (r : Int) < 65296) ∨ 65305 < (r : Int) := by omega
        clear mi hb hI hleft mi1 mb1 hI1 hfu hwp hp hN hnd hdl hplen hflen
        rcases hN1 with h1 | ⟨h1, h2⟩ | h1
        · go_wp2_with fail
          go_ret
          exact ⟨_, [], HF.out.symm ▸ rfl, Strs.nil _ _, rfl, MB.out⟩
        · have h3 : (48 : Int) ≤ (r : Int) := by omega
          have d1 : decide ((r : Int) ≤ 57) = false := by simp; omega
          have d2 : decide ((65296 : Int) ≤ (r : Int)) = false := by simp; omega
          clear h1 h2
          go_wp2_with fail
          go_ret
          exact ⟨_, [], HF.out.symm ▸ rfl, Strs.nil _ _, rfl, MB.out⟩
        · go_wp2_with fail
          go_ret
          exact ⟨_, [], HF.out.symm ▸ rfl, Strs.nil _ _, rfl, MB.out⟩
      | some dk =>
        obtain ⟨d, k⟩ := dk
        have hsome := Num.nd_some hnd
        have hrune := Num.nd_rune hnd
        rw [hdl] at hrune
        rw [hr] at hrune
        obtain ⟨hd10, hk13, _, hkl⟩ := hsome
        obtain ⟨hk2, hrd⟩ := hrune
        rw [List.length_drop] at hkl
        have hp4 : p2 ≤ s.size := by have := HL.out; omega
        have HSTEP := Lib.hid (Num.narL_step hleft hnd hflen)
        have hpk : p2 = pos + k := by omega
        have HPK := Lib.hid hpk
        have HENC := Lib.hid (enc_dig d hd10)
        clear mi hb hI hleft mi1 mb1 hI1 hfu hwp hp hnd hdl hplen hflen hkl hk2
        rcases hk13 with rfl | rfl
        · rw [if_pos rfl] at hrd
          subst hrd
          have h1 : (48 : Int) ≤ ((48 + d : Nat) : Int) := by omega
          have h2 : ((48 + d : Nat) : Int) ≤ 57 := by omega
          clear hpk
          go_wp2_with fail
          refine (write_rune w.heap.size w.heap.size acc (48 + (d : Int)) (by omega) (by omega) _ HBl.out (by have := HP.out; omega) hsz).mono ?_
          rintro e w2 ⟨⟨n, rfl⟩, hI2, hb2, hk2⟩
          rw [HENC.out] at hI2
          have HB2 := Lib.hid hI2
          have HE2 := Lib.hid (MB.out.trans hb2)
          have HI2 := Lib.hid (hk2.iter MI.out (by omega))
          clear hI2 hb2 hk2 hw1 hr hp2 hnx
          go_wp2_with fail
          go_roundw
          case rel => exact ⟨p2, fuel - 1, acc ++ [UInt8.ofNat (48 + d)], by rw [List.length_append]; show acc.length + 1 ≤ p2; omega, hp4, by rw [HPK.out]; exact HSTEP.out, hfu2, HB2.out, HI2.out, HE2.out⟩
          case measure =>
            rw [iterPos_of HI2.out, HPOS.out]
            have := HP.out
            omega
        · rw [if_neg (by decide)] at hrd
          subst hrd
          clear hpk
          go_wp2_with fail
          rw [show ((65296 : Int) + (d : Int) - 65296 + 48) = 48 + (d : Int) from by omega]
          refine (write_rune w.heap.size w.heap.size acc (48 + (d : Int)) (by omega) (by omega) _ HBl.out (by have := HP.out; omega) hsz).mono ?_
          rintro e w2 ⟨⟨n, rfl⟩, hI2, hb2, hk2⟩
          rw [HENC.out] at hI2
          have HB2 := Lib.hid hI2
          have HE2 := Lib.hid (MB.out.trans hb2)
          have HI2 := Lib.hid (hk2.iter MI.out (by omega))
          clear hI2 hb2 hk2 hw1 hr hp2 hnx
          go_wp2_with fail
          go_roundw
          case rel => exact ⟨p2, fuel - 1, acc ++ [UInt8.ofNat (48 + d)], by rw [List.length_append]; show acc.length + 1 ≤ p2; omega, hp4, by rw [HPK.out]; exact HSTEP.out, hfu2, HB2.out, HI2.out, HE2.out⟩
          case measure =>
            rw [iterPos_of HI2.out, HPOS.out]
            have := HP.out
            omega
    · have hnx : ∀ ty, (Instr.next (.pointer (some ⟨w.heap.size + 1, 0, none⟩)) true ty).run Tryz.prog wr = _ := fun ty => Lib.run_next_end_at wr (w.heap.size + 1) s pos ty mi hp
      have HNAR := Lib.hid (Num.narL_end hleft (by rw [← HL.out]; exact hp))
      have HBl := Lib.hid hI
      have HB := Lib.hid hb
      have hsz := hb.size
      obtain ⟨b, hbx⟩ : ∃ b, Is b acc := ⟨_, Is.mk _⟩
      have HBX := Lib.hid hbx
      have hbs : b.size ≤ s.size := by rw [hbx.size]; omega
      have HXL := Lib.hid (show (⟨acc.toArray⟩ : ByteArray) = b from (Is.mk acc).eq hbx)
      clear mi hb hI hleft hbx hp
      go_wp2_with fail
      refine (bld_string w.heap.size w.heap.size _ _ HBl.out hsz).mono ?_
      rintro e w2 ⟨rfl, hI2, hb2, _⟩
      rw [HXL.out]
      have HB2 := Lib.hid (HB.out.trans hb2)
      have T2 := Lib.hid (HT.out.below (HB.out.trans hb2) (Nat.le_refl _))
      clear hI2 hb2 hnx
      go_wp2_with fail
      refine (valid_any b acc _ HBX.out (by omega)).mono ?_
      rintro e w3 ⟨rfl, hb3⟩
      have HB3 := Lib.hid (HB2.out.trans (hb3.mono HB2.out.size))
      have T3 := Lib.hid (T2.out.below hb3 (Nat.le_refl _))
      clear hb3
      cases hv : Num.valid acc
      · have HF := Lib.hid (show Num.forms l = [] by unfold Num.forms; rw [HNAR.out]; dsimp only; rw [hv]; rfl)
        clear hv
        go_wp2_with fail
        go_ret
        exact ⟨_, [], HF.out.symm ▸ rfl, Strs.nil _ _, rfl, HB3.out⟩
      · have HV := Lib.hid hv
        have HF := Lib.hid (show Num.forms l = Num.formsOf acc by unfold Num.forms; rw [HNAR.out]; dsimp only; rw [hv]; rfl)
        have hb20 : b.size ≤ 20 := by rw [HBX.out.size]; exact ((Num.valid_iff acc).1 hv).2.1
        clear hv
        go_wp2_with fail
        refine (each2 b acc _ HBX.out T3.out HV.out).mono ?_
        rintro e w4 ⟨⟨x, hx, rfl⟩, hb4⟩
        have HX := Lib.hid (show Is x (Num.wide acc) from hx)
        have HB4 := Lib.hid (HB3.out.trans (hb4.mono HB3.out.size))
        have T4 := Lib.hid (T3.out.below hb4 (Nat.le_refl _))
        clear hx hb4
        go_wp2_with fail
        obtain ⟨i0, hi, hz0, hz1, hz2⟩ := info_parts infoStr
        have hs4 := HB4.out.size
        go_loopw [7, 47] (fun lv iv wr => ∃ (k : Nat) (xs : List ByteArray), k ≤ 4 ∧ iv = .int .i64 k ∧ xs.map (·.data.toList) = formsAt acc k ∧ Strs w.heap.size lv xs wr ∧ wr.heap[w4.heap.size + 1]? = some (.cells fnCells 80 (0, 0)) ∧ Below w.heap.size w wr) (fun _ iv _ => 4 - (intOf iv).toNat)
        case atStart =>
          refine ⟨0, [b, x], by omega, rfl, ?_, (strs_two hs4 (MapKept.heap_alloc w4 _).1).alloc _, ?_, (HB4.out.alloc hs4 _).alloc (by simp; omega) _⟩
          · show [b.data.toList, x.data.toList] = [acc, Num.wide acc]
            rw [HBX.out.data, HX.out.data]
          · have := (MapKept.heap_alloc (w4.alloc (.cells #[.string b, .string x] 9)) (.cells fnCells 80)).1
            rw [show (w4.alloc (.cells #[.string b, .string x] 9)).heap.size = w4.heap.size + 1 from by simp] at this
            exact this
        case round =>
          obtain ⟨k, xs, hk, rfl, hm, hx, hfn, hb⟩ := hrel
          have hxl : xs.length ≤ 2 + k := by have := formsAt_len acc k; rw [← hm, List.length_map] at this; exact this
          have hx0 : xs ≠ [] := by
            intro e
            rw [e] at hm
            have : formsAt acc k ≠ [] := by
              have key : ∀ (L M : List (List UInt8)), M ≠ [] → L.foldl Num.addU M ≠ [] := by
                intro L
                induction L with
                | nil => exact fun M h => h
                | cons y L ih =>
                  intro M h
                  refine ih _ ?_
                  unfold Num.addU
                  split
                  · exact h
                  · simp
              exact key _ _ (by simp)
            exact this hm.symm
          obtain ⟨ao, cap, rfl⟩ := hx.frame
          have HX0 := Lib.hid hx0
          have HM := Lib.hid hm
          have HXX := Lib.hid hx
          have HFN := Lib.hid hfn
          have HB := Lib.hid hb
          have hsw := hb.size
          have Tr := Lib.hid (HT.out.below hb (Nat.le_refl _))
          have hcell : ∀ (j : Nat) (u : Value), fnCells[j]? = some u → wr.cell? ⟨w4.heap.size + 1, j, none⟩ = some u := fun j u hu => by rw [Lib.cell_of_heap hfn]; exact hu
          have hflt := heap_lt hfn
          clear hm hx hfn hb hx0
          by_cases hk4 : k < 4
          · have hk' : k = 0 ∨ k = 1 ∨ k = 2 ∨ k = 3 := by omega
            clear hk hk4
            rcases hk' with rfl | rfl | rfl | rfl
            · have hc0 := hcell 0 _ rfl
              clear hcell
              go_wp2_with fail
              refine (commas_any b acc _ HBX.out (by omega)).mono ?_
              rintro e w5 ⟨t, ht, rfl, hb5⟩
              have HTX := Lib.hid (show Is t (Num.com true acc) from (by have := ht; rwa [if_pos HV.out] at this))
              have X5 := HXX.out.below hb5 (Nat.le_refl _)
              have F5 := Lib.hid (show w5.heap[w4.heap.size + 1]? = some (.cells fnCells 80 (0, 0)) by rw [hb5.block _ hflt]; exact HFN.out)
              have HX5 := Lib.hid X5
              have HB5 := Lib.hid (HB.out.trans (hb5.mono hsw))
              have hs5 := HB5.out.size
              have hown : w5.ownsRow w.heap.size 9 1 _ xs.length (xs.map Value.string) := X5
              have HSTEP := Lib.hid (formsAt_step acc 0 _ (show (Num.four acc)[0]? = some (Num.com true acc) from rfl))
              have HOWN := Lib.hid hown
              clear ht hb5 X5 hc0 hown
              go_wp2_with fail
              refine (contains_any w.heap.size _ xs t (Num.com true acc) _ HTX.out HX5.out HX0.out (by omega)).mono ?_
              rintro e w6 ⟨rfl, rfl⟩
              rw [HM.out]
              by_cases hin : Num.com true acc ∈ formsAt acc 0
              · rw [decide_eq_true hin]
                have HE := Lib.hid (show formsAt acc (0 + 1) = formsAt acc 0 by rw [HSTEP.out]; unfold Num.addU; rw [if_pos hin])
                clear hin
                go_wp2_with fail
                go_roundw
                case rel => exact ⟨0 + 1, xs, by omega, rfl, by rw [HE.out]; exact HM.out, HX5.out, F5.out, HB5.out⟩
                case measure => simp [intOf]
              · rw [decide_eq_false hin]
                have HE := Lib.hid (show formsAt acc (0 + 1) = formsAt acc 0 ++ [Num.com true acc] by rw [HSTEP.out]; unfold Num.addU; rw [if_neg hin])
                clear hin
                go_wp2_with (at_builtin; refine wpList_append_own _ rfl _ _ 23 rfl w.heap.size 9 i0 (.string ⟨#[]⟩) 1 16 Tryz.underlying23 hi hz0 hz1 hz2 rfl (by decide) _ _ _ rfl (HOWN.out.alloc _) ⟨w6.heap.size, 0, none⟩ 1 1 [.string t] rfl rfl ?c1 ?c2 ?c3 ?c4 ?c5 ?_)
                case c1 => exact cell_one_new _ _ _
                case c2 => intro u hu; simp at hu; subst hu; rfl
                case c3 => unfold maxLen; omega
                case c4 => omega
                case c5 => simp; omega
                intro v' w7 hown' hgrow _
                have HX7 := Lib.hid (strs_snoc hown')
                have HB7 := Lib.hid (show Below w.heap.size w w7 from (HB5.out.alloc hs5 _).grown hgrow (by simp; omega) (fun k hk => (HOWN.out.lt k hk).1))
                have F7 := Lib.hid (show w7.heap[w4.heap.size + 1]? = some (.cells fnCells 80 (0, 0)) by
                  have f5 := F5.out
                  have hlt := heap_lt f5
                  rw [hgrow.block _ (by simp; omega) (Ne.symm (Lib.ownBlock_ne HOWN.out f5 (by decide))), Lib.alloc_old _ _ _ hlt]
                  exact f5)
                clear hown' hgrow
                go_wp2_with fail
                go_roundw
                case rel => exact ⟨0 + 1, xs ++ [t], by omega, rfl, by rw [List.map_append, HM.out, HE.out, List.map_cons, List.map_nil, HTX.out.data], HX7.out, F7.out, HB7.out⟩
                case measure => simp [intOf]
            · have hc0 := hcell 1 _ rfl
              clear hcell
              go_wp2_with fail
              refine (positional_any b acc _ HBX.out (by omega) Tr.out).mono ?_
              rintro e w5 ⟨t, ht, rfl, hb5⟩
              have HTX := Lib.hid (show Is t (Num.pos acc) from (by have := ht; rwa [if_pos HV.out] at this))
              have X5 := HXX.out.below hb5 (Nat.le_refl _)
              have F5 := Lib.hid (show w5.heap[w4.heap.size + 1]? = some (.cells fnCells 80 (0, 0)) by rw [hb5.block _ hflt]; exact HFN.out)
              have HX5 := Lib.hid X5
              have HB5 := Lib.hid (HB.out.trans (hb5.mono hsw))
              have hs5 := HB5.out.size
              have hown : w5.ownsRow w.heap.size 9 1 _ xs.length (xs.map Value.string) := X5
              have HSTEP := Lib.hid (formsAt_step acc 1 _ (show (Num.four acc)[1]? = some (Num.pos acc) from rfl))
              have HOWN := Lib.hid hown
              clear ht hb5 X5 hc0 hown
              go_wp2_with fail
              refine (contains_any w.heap.size _ xs t (Num.pos acc) _ HTX.out HX5.out HX0.out (by omega)).mono ?_
              rintro e w6 ⟨rfl, rfl⟩
              rw [HM.out]
              by_cases hin : Num.pos acc ∈ formsAt acc 1
              · rw [decide_eq_true hin]
                have HE := Lib.hid (show formsAt acc (1 + 1) = formsAt acc 1 by rw [HSTEP.out]; unfold Num.addU; rw [if_pos hin])
                clear hin
                go_wp2_with fail
                go_roundw
                case rel => exact ⟨1 + 1, xs, by omega, rfl, by rw [HE.out]; exact HM.out, HX5.out, F5.out, HB5.out⟩
                case measure => simp [intOf]
              · rw [decide_eq_false hin]
                have HE := Lib.hid (show formsAt acc (1 + 1) = formsAt acc 1 ++ [Num.pos acc] by rw [HSTEP.out]; unfold Num.addU; rw [if_neg hin])
                clear hin
                go_wp2_with (at_builtin; refine wpList_append_own _ rfl _ _ 23 rfl w.heap.size 9 i0 (.string ⟨#[]⟩) 1 16 Tryz.underlying23 hi hz0 hz1 hz2 rfl (by decide) _ _ _ rfl (HOWN.out.alloc _) ⟨w6.heap.size, 0, none⟩ 1 1 [.string t] rfl rfl ?c1 ?c2 ?c3 ?c4 ?c5 ?_)
                case c1 => exact cell_one_new _ _ _
                case c2 => intro u hu; simp at hu; subst hu; rfl
                case c3 => unfold maxLen; omega
                case c4 => omega
                case c5 => simp; omega
                intro v' w7 hown' hgrow _
                have HX7 := Lib.hid (strs_snoc hown')
                have HB7 := Lib.hid (show Below w.heap.size w w7 from (HB5.out.alloc hs5 _).grown hgrow (by simp; omega) (fun k hk => (HOWN.out.lt k hk).1))
                have F7 := Lib.hid (show w7.heap[w4.heap.size + 1]? = some (.cells fnCells 80 (0, 0)) by
                  have f5 := F5.out
                  have hlt := heap_lt f5
                  rw [hgrow.block _ (by simp; omega) (Ne.symm (Lib.ownBlock_ne HOWN.out f5 (by decide))), Lib.alloc_old _ _ _ hlt]
                  exact f5)
                clear hown' hgrow
                go_wp2_with fail
                go_roundw
                case rel => exact ⟨1 + 1, xs ++ [t], by omega, rfl, by rw [List.map_append, HM.out, HE.out, List.map_cons, List.map_nil, HTX.out.data], HX7.out, F7.out, HB7.out⟩
                case measure => simp [intOf]
            · have hc0 := hcell 2 _ rfl
              clear hcell
              go_wp2_with fail
              refine (kanji_any b acc _ HBX.out (by omega) Tr.out).mono ?_
              rintro e w5 ⟨t, ht, rfl, hb5⟩
              have HTX := Lib.hid (show Is t (Num.writ false acc) from (by have := ht; unfold wrt at this; rwa [if_pos HV.out] at this))
              have X5 := HXX.out.below hb5 (Nat.le_refl _)
              have F5 := Lib.hid (show w5.heap[w4.heap.size + 1]? = some (.cells fnCells 80 (0, 0)) by rw [hb5.block _ hflt]; exact HFN.out)
              have HX5 := Lib.hid X5
              have HB5 := Lib.hid (HB.out.trans (hb5.mono hsw))
              have hs5 := HB5.out.size
              have hown : w5.ownsRow w.heap.size 9 1 _ xs.length (xs.map Value.string) := X5
              have HSTEP := Lib.hid (formsAt_step acc 2 _ (show (Num.four acc)[2]? = some (Num.writ false acc) from rfl))
              have HOWN := Lib.hid hown
              clear ht hb5 X5 hc0 hown
              go_wp2_with fail
              refine (contains_any w.heap.size _ xs t (Num.writ false acc) _ HTX.out HX5.out HX0.out (by omega)).mono ?_
              rintro e w6 ⟨rfl, rfl⟩
              rw [HM.out]
              by_cases hin : Num.writ false acc ∈ formsAt acc 2
              · rw [decide_eq_true hin]
                have HE := Lib.hid (show formsAt acc (2 + 1) = formsAt acc 2 by rw [HSTEP.out]; unfold Num.addU; rw [if_pos hin])
                clear hin
                go_wp2_with fail
                go_roundw
                case rel => exact ⟨2 + 1, xs, by omega, rfl, by rw [HE.out]; exact HM.out, HX5.out, F5.out, HB5.out⟩
                case measure => simp [intOf]
              · rw [decide_eq_false hin]
                have HE := Lib.hid (show formsAt acc (2 + 1) = formsAt acc 2 ++ [Num.writ false acc] by rw [HSTEP.out]; unfold Num.addU; rw [if_neg hin])
                clear hin
                go_wp2_with (at_builtin; refine wpList_append_own _ rfl _ _ 23 rfl w.heap.size 9 i0 (.string ⟨#[]⟩) 1 16 Tryz.underlying23 hi hz0 hz1 hz2 rfl (by decide) _ _ _ rfl (HOWN.out.alloc _) ⟨w6.heap.size, 0, none⟩ 1 1 [.string t] rfl rfl ?c1 ?c2 ?c3 ?c4 ?c5 ?_)
                case c1 => exact cell_one_new _ _ _
                case c2 => intro u hu; simp at hu; subst hu; rfl
                case c3 => unfold maxLen; omega
                case c4 => omega
                case c5 => simp; omega
                intro v' w7 hown' hgrow _
                have HX7 := Lib.hid (strs_snoc hown')
                have HB7 := Lib.hid (show Below w.heap.size w w7 from (HB5.out.alloc hs5 _).grown hgrow (by simp; omega) (fun k hk => (HOWN.out.lt k hk).1))
                have F7 := Lib.hid (show w7.heap[w4.heap.size + 1]? = some (.cells fnCells 80 (0, 0)) by
                  have f5 := F5.out
                  have hlt := heap_lt f5
                  rw [hgrow.block _ (by simp; omega) (Ne.symm (Lib.ownBlock_ne HOWN.out f5 (by decide))), Lib.alloc_old _ _ _ hlt]
                  exact f5)
                clear hown' hgrow
                go_wp2_with fail
                go_roundw
                case rel => exact ⟨2 + 1, xs ++ [t], by omega, rfl, by rw [List.map_append, HM.out, HE.out, List.map_cons, List.map_nil, HTX.out.data], HX7.out, F7.out, HB7.out⟩
                case measure => simp [intOf]
            · have hc0 := hcell 3 _ rfl
              clear hcell
              go_wp2_with fail
              refine (formal_any b acc _ HBX.out (by omega) Tr.out).mono ?_
              rintro e w5 ⟨t, ht, rfl, hb5⟩
              have HTX := Lib.hid (show Is t (Num.writ true acc) from (by have := ht; unfold wrt at this; rwa [if_pos HV.out] at this))
              have X5 := HXX.out.below hb5 (Nat.le_refl _)
              have F5 := Lib.hid (show w5.heap[w4.heap.size + 1]? = some (.cells fnCells 80 (0, 0)) by rw [hb5.block _ hflt]; exact HFN.out)
              have HX5 := Lib.hid X5
              have HB5 := Lib.hid (HB.out.trans (hb5.mono hsw))
              have hs5 := HB5.out.size
              have hown : w5.ownsRow w.heap.size 9 1 _ xs.length (xs.map Value.string) := X5
              have HSTEP := Lib.hid (formsAt_step acc 3 _ (show (Num.four acc)[3]? = some (Num.writ true acc) from rfl))
              have HOWN := Lib.hid hown
              clear ht hb5 X5 hc0 hown
              go_wp2_with fail
              refine (contains_any w.heap.size _ xs t (Num.writ true acc) _ HTX.out HX5.out HX0.out (by omega)).mono ?_
              rintro e w6 ⟨rfl, rfl⟩
              rw [HM.out]
              by_cases hin : Num.writ true acc ∈ formsAt acc 3
              · rw [decide_eq_true hin]
                have HE := Lib.hid (show formsAt acc (3 + 1) = formsAt acc 3 by rw [HSTEP.out]; unfold Num.addU; rw [if_pos hin])
                clear hin
                go_wp2_with fail
                go_roundw
                case rel => exact ⟨3 + 1, xs, by omega, rfl, by rw [HE.out]; exact HM.out, HX5.out, F5.out, HB5.out⟩
                case measure => simp [intOf]
              · rw [decide_eq_false hin]
                have HE := Lib.hid (show formsAt acc (3 + 1) = formsAt acc 3 ++ [Num.writ true acc] by rw [HSTEP.out]; unfold Num.addU; rw [if_neg hin])
                clear hin
                go_wp2_with (at_builtin; refine wpList_append_own _ rfl _ _ 23 rfl w.heap.size 9 i0 (.string ⟨#[]⟩) 1 16 Tryz.underlying23 hi hz0 hz1 hz2 rfl (by decide) _ _ _ rfl (HOWN.out.alloc _) ⟨w6.heap.size, 0, none⟩ 1 1 [.string t] rfl rfl ?c1 ?c2 ?c3 ?c4 ?c5 ?_)
                case c1 => exact cell_one_new _ _ _
                case c2 => intro u hu; simp at hu; subst hu; rfl
                case c3 => unfold maxLen; omega
                case c4 => omega
                case c5 => simp; omega
                intro v' w7 hown' hgrow _
                have HX7 := Lib.hid (strs_snoc hown')
                have HB7 := Lib.hid (show Below w.heap.size w w7 from (HB5.out.alloc hs5 _).grown hgrow (by simp; omega) (fun k hk => (HOWN.out.lt k hk).1))
                have F7 := Lib.hid (show w7.heap[w4.heap.size + 1]? = some (.cells fnCells 80 (0, 0)) by
                  have f5 := F5.out
                  have hlt := heap_lt f5
                  rw [hgrow.block _ (by simp; omega) (Ne.symm (Lib.ownBlock_ne HOWN.out f5 (by decide))), Lib.alloc_old _ _ _ hlt]
                  exact f5)
                clear hown' hgrow
                go_wp2_with fail
                go_roundw
                case rel => exact ⟨3 + 1, xs ++ [t], by omega, rfl, by rw [List.map_append, HM.out, HE.out, List.map_cons, List.map_nil, HTX.out.data], HX7.out, F7.out, HB7.out⟩
                case measure => simp [intOf]
          · obtain rfl : k = 4 := by omega
            clear hcell
            go_wp2_with fail
            go_ret
            exact ⟨_, xs, by rw [HF.out, HM.out]; rfl, HXX.out, rfl, HB.out⟩
end Go.Proofs.YtnpkcobapckhdaaGreatDoor
