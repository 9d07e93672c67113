/-
  numeral.Parse by its contract: progParse. No condition but the string's own bound and the tables.
-/
import Derived.Test.YtnpkcobapckhdaaGreatDoorNumRd
import Derived.Outline
import Derived.BigCall
import Derived.Deep.MidRow
namespace Go.Proofs.YtnpkcobapckhdaaGreatDoor
open Go.RowKit

/-- what is left of the string -/
def LeftP (l : List UInt8) (acc : List UInt8) (fuel pos : Nat) : Prop := acc ++ (Ru.toksF fuel (l.drop pos)).flatMap Num.dw1 = Num.dwp l
set_option maxRecDepth 100000 in
theorem leftP_step {l acc : List UInt8} {s : ByteArray} {fuel pos : Nat} (hs : Is s l) (h : LeftP l acc fuel pos) (hp : pos < s.size) (hf : s.size ≤ pos + fuel) :
    LeftP l (acc ++ Num.dw1 (Utf8.encode ((Utf8.decode s pos).1 : Int)).data.toList) (fuel - 1) (pos + (Utf8.decode s pos).2) := by
  unfold LeftP at *
  have hz := hs.size
  obtain ⟨n, rfl⟩ : ∃ n, fuel = n + 1 := ⟨fuel - 1, by omega⟩
  have hne : l.drop pos ≠ [] := by
    intro e
    have := congrArg List.length e
    rw [List.length_drop] at this
    simp at this
    omega
  have hd : Lib.decodeL (l.drop pos) = Utf8.decode s pos := by rw [← hs.data]; exact Lib.decodeL_drop s pos
  rw [Ru.toksF, if_neg hne, List.flatMap_cons, hd, List.drop_drop, ← List.append_assoc] at h
  rw [Nat.add_sub_cancel, ← h]
  unfold Ru.enc
  rfl
theorem leftP_end {l acc : List UInt8} {s : ByteArray} {fuel pos : Nat} (hs : Is s l) (h : LeftP l acc fuel pos) (hp : ¬ pos < s.size) : acc = Num.dwp l := by
  unfold LeftP at h
  have hz := hs.size
  rw [List.drop_eq_nil_of_le (by omega), Ru.toksF_nil, List.flatMap_nil, List.append_nil] at h
  exact h
theorem dg_plain (w : World) (h : Row 0 plainC w) : ∀ j, j < 10 → w.cell? ⟨0, 0 + j, none⟩ = some (.string ⟨(Num.dgP.getD j []).toArray⟩) := dg_cells false w _ h

def bothC : Array Value := plainC ++ formalC
abbrev zeros15 : Array Value := #[.string ⟨#[]⟩, .string ⟨#[]⟩, .string ⟨#[]⟩, .string ⟨#[]⟩, .string ⟨#[]⟩, .string ⟨#[]⟩, .string ⟨#[]⟩, .string ⟨#[]⟩, .string ⟨#[]⟩, .string ⟨#[]⟩, .string ⟨#[]⟩, .string ⟨#[]⟩, .string ⟨#[]⟩, .string ⟨#[]⟩, .bool false]
theorem both_0 (w : World) (b : Nat) (h : Row b bothC w) : w.rangeAt b 0 plainC.toList := by
  intro j v hv
  rw [h.cell, Nat.zero_add]
  have hj : j < 15 := by
    rcases Nat.lt_or_ge j 15 with h' | h'
    · exact h'
    · rw [List.getElem?_eq_none (by simpa [plainC, strC, Num.dgP, Num.unP] using h')] at hv; cases hv
  rw [← hv, Array.getElem?_toList]
  unfold bothC
  rw [Array.getElem?_append_left (by simpa [plainC, strC, Num.dgP, Num.unP] using hj)]
theorem both_1 (w : World) (b : Nat) (h : Row b bothC w) : w.rangeAt b 15 formalC.toList := by
  intro j v hv
  rw [h.cell]
  rw [← hv, Array.getElem?_toList]
  unfold bothC
  rw [Array.getElem?_append_right (by simp [plainC, strC, Num.dgP, Num.unP])]
  congr 1
  simp [plainC, strC, Num.dgP, Num.unP]
theorem builderAt_below {T e : TypeId} {B b : Nat} {p : Value} {bs : List Value} {w w' : World} (h : Lib.BuilderAtF T e B b p bs w) (hb : Below w.heap.size w w') : Lib.BuilderAtF T e B b p bs w' := by
  have hlt := h.lt
  obtain ⟨hB, v, hbk, hown, hne⟩ := h
  exact ⟨hB, v, (hb.block b hlt).trans hbk, hown.kept (row := none) ⟨hb.os, hb.tape, hb.output, hb.size, fun k hk _ => hb.block k hk⟩ (by cases hv : v.ownBlock <;> simp), hne⟩
theorem Bldr.below' {B b : Nat} {l : List UInt8} {w w' : World} (h : Bldr B b l w) (hb : Below w.heap.size w w') : Bldr B b l w' :=
  h.elim (fun x => .inl (builderAt_below x hb)) (fun x => .inr (builderAt_below x hb))
theorem Bldr.alloc' {B b : Nat} {l : List UInt8} {w : World} (h : Bldr B b l w) (o : Obj) : Bldr B b l (w.alloc o) := h.alloc o
set_option maxRecDepth 100000 in
set_option maxHeartbeats 4000000 in
theorem parse_any (s : ByteArray) (l : List UInt8) (w : World) (h : Is s l) (hs : s.size ≤ 140737488351232) (ht : Tabs w) :
    Calls Tryz.prog 97 #[.string s] w (Gives (Num.progParse l).2 (Num.progParse l).1 w) := by
  have HI := Lib.hid h
  have HT := Lib.hid ht
  clear h ht
  go_enter Tryz.func97, Tryz.ntmps97
  go_wp2_with fail
  go_loopw [] (fun wr => ∃ (pos fuel : Nat) (acc : List UInt8), acc.length ≤ pos ∧ acc.length ≤ s.size ∧ LeftP l acc fuel pos ∧ s.size ≤ pos + fuel ∧ Bldr w.heap.size w.heap.size acc wr ∧ wr.heap[w.heap.size + 1]? = some (.stringIter s pos) ∧ Below w.heap.size w wr) (fun wr => s.size - wr.iterPos (w.heap.size + 1))
  case atStart =>
    refine ⟨0, s.size, [], by simp, by simp, ?_, by omega, ?_, ?_, ?_⟩
    · unfold LeftP Num.dwp Ru.toks
      rw [List.drop_zero, HI.out.size, List.nil_append]
    · exact Bldr.alloc' (Lib.IsBuilderF.of (Lib.fresh_isBuilder 86 5 w)) _
    · have e1 : (w.alloc (.cells #[.pointer none, .slice none 0 0] 86)).heap.size = w.heap.size + 1 := by simp
      rw [← e1]; exact World.iter_heap _ s 0
    · exact ((Below.refl _ w).alloc (Nat.le_refl _) _).alloc (by simp) _
  case round =>
    obtain ⟨pos, fuel, acc, hacc, hpos, hleft, hfu, hI, mi, hb⟩ := hrel
    by_cases hp : pos < s.size
    · have hnx : ∀ ty, (Instr.next (.pointer (some ⟨w.heap.size + 1, 0, none⟩)) true ty).run Tryz.prog wr = _ := fun ty => Lib.run_next_any_at wr (w.heap.size + 1) s pos ty mi hp
      obtain ⟨t, ht⟩ : ∃ t : ByteArray, Utf8.encode ((Utf8.decode s pos).1 : Int) = t := ⟨_, rfl⟩
      obtain ⟨T, hT⟩ : ∃ T, Is t T := ⟨_, rfl⟩
      obtain ⟨p2, hp2⟩ : ∃ p2, pos + (Utf8.decode s pos).2 = p2 := ⟨_, rfl⟩
      have hwp := Lib.decode_width_pos s pos hp
      obtain ⟨w1, hw1⟩ : ∃ w1, wr.iterAt (w.heap.size + 1) s p2 = w1 := ⟨_, rfl⟩
      have hstep := leftP_step HI.out hleft hp hfu
      rw [ht, hT.data, hp2] at hstep
      have mi1 : w1.heap[w.heap.size + 1]? = some (.stringIter s p2) := by rw [← hw1]; exact Lib.iterAt_heap wr _ s pos p2 mi
      have mb1 : Below w.heap.size w w1 := by rw [← hw1]; exact Lib.below_iterAt hb (by omega) s p2
      have hI1 : Bldr w.heap.size w.heap.size acc w1 := by rw [← hw1]; exact hI.iterAt mi p2
      have HPOS := Lib.hid (iterPos_of mi)
      have hp3 : pos < p2 := by omega
      have HP := Lib.hid hp
      have hfu2 : s.size ≤ p2 + (fuel - 1) := by omega
      have T1 := Lib.hid (HT.out.below mb1 (Nat.le_refl _))
      have MI := Lib.hid mi1
      have MB := Lib.hid mb1
      have HBl := Lib.hid hI1
      have HL := Lib.hid hstep
      have HTT := Lib.hid hT
      have hsz := mb1.size
      clear mi hb hI hleft hstep hT mi1 mb1 hI1 hfu hwp hp
      go_wp2_with fail
      refine (index_any _ 0 10 10 Num.dgP t T _ HTT.out rfl (by decide) (dg_plain _ T1.out.plain)).mono ?_
      rintro e w2 ⟨rfl, rfl⟩
      have hxb : -1 ≤ Num.ix Num.dgP T ∧ Num.ix Num.dgP T < 10 := ix_dg false T
      obtain ⟨k, hk⟩ : ∃ k, Num.ix Num.dgP T = k := ⟨_, rfl⟩
      rw [hk]
      rw [hk] at hxb
      by_cases hk0 : 0 ≤ k
      · obtain ⟨g, rfl⟩ : ∃ g : Nat, k = (g : Int) := ⟨k.toNat, by omega⟩
        have hg10 : g < 10 := Int.ofNat_lt.1 hxb.2
        obtain ⟨c, hc⟩ : ∃ c : UInt8, c = UInt8.ofNat (48 + g) := ⟨_, rfl⟩
        have hcw : IntKind.u8.wrap (48 + (g : Int)) = (c.toNat : Int) := by
          rw [hc, UInt8.toNat_ofNat', IntKind.wrap_u8]; omega
        have HD := Lib.hid (show Num.dw1 T = [c] by unfold Num.dw1; rw [hk, if_pos hk0, hc]; rfl)
        clear hc hk hk0 hxb hp2 ht hw1 hnx
        go_wp2_with fail
        refine (write_byte w.heap.size w.heap.size _ c _ HBl.out (by have := HP.out; omega) hsz).mono ?_
        rintro e w3 ⟨rfl, hB3, hb3, hk3⟩
        rw [← HD.out] at hB3
        have HB3 := Lib.hid hB3
        have HE3 := Lib.hid (MB.out.trans hb3)
        have HI3 := Lib.hid (hk3.iter MI.out (by omega))
        clear hB3 hb3 hk3
        go_wp2_with fail
        go_roundw
        case rel => exact ⟨p2, fuel - 1, acc ++ Num.dw1 T, by rw [List.length_append, HD.out]; show acc.length + 1 ≤ p2; omega, by rw [List.length_append, HD.out]; show acc.length + 1 ≤ s.size; have := HP.out; omega, HL.out, hfu2, HB3.out, HI3.out, HE3.out⟩
        case measure =>
          rw [iterPos_of HI3.out, HPOS.out]
          have := HP.out
          omega
      · have HD := Lib.hid (show Num.dw1 T = [] by unfold Num.dw1; rw [hk, if_neg hk0])
        obtain rfl : k = -1 := by omega
        clear hk hk0 hxb hp2 ht hw1 hnx
        go_wp2_with fail
        go_roundw
        case rel => exact ⟨p2, fuel - 1, acc ++ Num.dw1 T, by rw [HD.out, List.append_nil]; omega, by rw [HD.out, List.append_nil]; omega, HL.out, hfu2, by rw [HD.out, List.append_nil]; exact HBl.out, MI.out, MB.out⟩
        case measure =>
          rw [iterPos_of MI.out, HPOS.out]
          have := HP.out
          omega
    · have hnx : ∀ ty, (Instr.next (.pointer (some ⟨w.heap.size + 1, 0, none⟩)) true ty).run Tryz.prog wr = _ := fun ty => Lib.run_next_end_at wr (w.heap.size + 1) s pos ty mi hp
      obtain ⟨X, hX⟩ : ∃ X, Num.dwp l = X := ⟨_, rfl⟩
      have he := leftP_end HI.out hleft hp
      rw [hX] at he
      subst he
      have HX := Lib.hid hX
      have HBl := Lib.hid hI
      have HB := Lib.hid hb
      have hsz := hb.size
      obtain ⟨b, hbx⟩ : ∃ b, Is b acc := ⟨_, Is.mk _⟩
      have HBX := Lib.hid hbx
      have hbs : b.size ≤ s.size := by rw [hbx.size]; exact hpos
      have HXL := Lib.hid (show (⟨acc.toArray⟩ : ByteArray) = b from (Is.mk acc).eq hbx)
      clear mi hb hI hleft hX hbx hp
      go_wp2_with fail
      refine (bld_string w.heap.size w.heap.size _ _ HBl.out hsz).mono ?_
      rintro e w2 ⟨rfl, hI2, hb2, _⟩
      rw [HXL.out]
      have HBl2 := Lib.hid hI2
      have HB2 := Lib.hid (HB.out.trans hb2)
      have T2 := Lib.hid (HT.out.below HB2.out (Nat.le_refl _))
      have hsz2 := HB2.out.size
      clear hI2 hb2
      go_wp2_with fail
      refine (positional_any b acc _ HBX.out (by omega) T2.out).mono ?_
      rintro e w3 ⟨t, ht, rfl, hb3⟩
      have HTX := Lib.hid ht
      have HBl3 := Lib.hid (HBl2.out.below' hb3)
      have HB3 := Lib.hid (HB2.out.trans (hb3.mono hsz2))
      have hsz3 := HB3.out.size
      have T3 := Lib.hid (T2.out.below hb3 (Nat.le_refl _))
      clear ht hb3
      by_cases hok : Num.digOk acc l
      · have HP := Lib.hid (show Num.progParse l = (acc, true) by unfold Num.progParse; rw [HX.out, if_pos hok])
        have hv := hok.1
        obtain rfl : t = s := HTX.out.eq (by rw [if_pos hv, hok.2]; exact HI.out)
        rw [hv]
        clear hok hv
        go_wp2_with fail
        refine (bld_string w.heap.size w.heap.size _ _ HBl3.out hsz3).mono ?_
        rintro e w4 ⟨rfl, _, hb4, _⟩
        rw [HXL.out]
        have HB4 := Lib.hid (HB3.out.trans hb4)
        clear hb4
        go_wp2_with fail
        go_ret2
        exact ⟨b, by rw [HP.out]; exact HBX.out, by rw [HP.out]; rfl, HB4.out⟩
      · have hne : (Num.valid acc && (t.toList == s.toList)) = false := by
          rw [HTX.out.list, HI.out.list, Bool.and_eq_false_iff, beq_eq_false_iff_ne]
          cases hv : Num.valid acc
          · exact Or.inl rfl
          · rw [if_pos rfl]; exact Or.inr fun e => hok ⟨hv, e⟩
        have HP := Lib.hid (show Num.progParse l = (if (Num.rd false l).2 = true then ((Num.rd false l).1, true) else if (Num.rd true l).2 = true then ((Num.rd true l).1, true) else ([], false)) by unfold Num.progParse; rw [HX.out, if_neg hok])
        clear hok
        obtain ⟨ty1, fr1, hr1⟩ := T3.out.plain
        obtain ⟨ty2, fr2, hr2⟩ := T3.out.formal
        have HR1 := Lib.hid hr1
        have HR2 := Lib.hid hr2
        clear hr1 hr2
        obtain ⟨v, hv⟩ : ∃ v, Num.valid acc = v := ⟨_, rfl⟩
        rw [hv] at hne
        rw [hv]
        clear hv
        cases v
        · clear hne
          go_wp2_with (first | ((with_reducible refine wpList_load_row rfl 111 _ rfl 0 ?e1 ty1 plainC fr1 _ HR1.out Tryz.underlying111 ?e2 ?e3 ?_); (case e1 => rfl); (case e2 => rfl); (case e3 => kernel_rfl)) | ((with_reducible refine wpList_load_row rfl 111 _ rfl 1 ?e1 ty2 formalC fr2 _ HR2.out Tryz.underlying111 ?e2 ?e3 ?_); (case e1 => rfl); (case e2 => rfl); (case e3 => kernel_rfl)))
          go_loopw [46] (fun iv wl => ∃ k : Nat, k ≤ 2 ∧ iv = .int .i64 k ∧ (1 ≤ k → (Num.rd false l).2 = false) ∧ (2 ≤ k → (Num.rd true l).2 = false) ∧ wl.heap[w3.heap.size]? = some (.cells bothC 111 (0, 0)) ∧ Below w.heap.size w wl) (fun iv _ => 2 - (intOf iv).toNat)
          case atStart =>
            refine ⟨0, by omega, rfl, fun h => absurd h (by omega), fun h => absurd h (by omega), ?_, HB3.out.alloc hsz3 _⟩
            refine (MapKept.heap_alloc w3 _).1.trans (congrArg some (congrArg (fun c => Obj.cells c 111 (0, 0)) ?_))
            kernel_rfl
          case round =>
            obtain ⟨k, hk, rfl, hk1, hk2, hrow, hb⟩ := hrel
            have h012 : k = 0 ∨ k = 1 ∨ k = 2 := by omega
            rcases h012 with rfl | rfl | rfl
            · have HRK := Lib.hid (both_0 wr _ ⟨_, _, hrow⟩)
              have HST := Lib.hid (MapKept.heap_alloc wr (.cells zeros15 111 (0, 0))).1
              have HSR := Lib.hid (setRow_heap (wr.alloc (.cells zeros15 111 (0, 0))) wr.heap.size zeros15 plainC _ _ (MapKept.heap_alloc wr (.cells zeros15 111 (0, 0))).1)
              have HROW := Lib.hid hrow
              have HBw := Lib.hid hb
              have hszw := hb.size
              have hlt := heap_lt hrow
              have HK1 := Lib.hid hk1
              have HK2 := Lib.hid hk2
              clear hrow hb hk1 hk2 hnx
              go_wp2_with (first | ((with_reducible refine wpList_load_mid rfl 111 _ rfl w3.heap.size 0 ?e1 plainC.toList _ HRK.out Tryz.underlying111 ?e2 ?e3 ?_); (case e1 => rfl); (case e2 => rfl); (case e3 => kernel_rfl)) | ((with_reducible refine wpList_store_row rfl 111 _ _ rfl wr.heap.size plainC ?e1 ?e2 111 zeros15 HST.out ?e3 ?e4 ?e5 ?_); (case e1 => rfl); (case e2 => rfl); (case e3 => kernel_rfl); (case e4 => rfl); (case e5 => kernel_rfl)) | ((with_reducible refine wpList_load_row rfl 111 _ rfl wr.heap.size ?e1 111 plainC (0, 0) _ HSR.out Tryz.underlying111 ?e2 ?e3 ?_); (case e1 => rfl); (case e2 => rfl); (case e3 => kernel_rfl)))
              refine (read_any false s l _ HI.out (by omega) (HT.out.below ((HBw.out.alloc hszw _).trans (below_setRow' (Below.refl _ _) (g := wr.heap.size) hszw _)) (Nat.le_refl _))).mono ?_
              rintro e w5 ⟨d, hd, rfl, hb5⟩
              have MB := (HBw.out.alloc hszw (.cells zeros15 111 (0, 0))).trans (below_setRow' (Below.refl _ _) (g := wr.heap.size) hszw plainC)
              have HB5 := Lib.hid (MB.trans (hb5.mono (by have := MB.size; omega)))
              have HROW5 := Lib.hid (show w5.heap[w3.heap.size]? = some (.cells bothC 111 (0, 0)) by
                rw [hb5.block _ (by simp; omega), setRow_other _ _ _ _ (by omega), Lib.alloc_old _ _ _ hlt]; exact HROW.out)
              have HDD := Lib.hid hd
              clear hb5 hd MB
              cases hr : (Num.rd false l).2
              · have HR := Lib.hid hr
                clear hr
                go_wp2_with fail
                go_roundw
                case rel => exact ⟨1, by omega, by go_num, fun _ => HR.out, fun h => absurd h (by omega), HROW5.out, HB5.out⟩
                case measure => simp [intOf]
              · have HR := Lib.hid (show Num.progParse l = ((Num.rd false l).1, true) by rw [HP.out]; rw [hr, if_pos rfl])
                clear hr
                go_wp2_with fail
                go_ret2
                exact ⟨d, by rw [HR.out]; exact HDD.out, by rw [HR.out]; rfl, HB5.out⟩
            · have HRK := Lib.hid (both_1 wr _ ⟨_, _, hrow⟩)
              have HST := Lib.hid (MapKept.heap_alloc wr (.cells zeros15 111 (0, 0))).1
              have HSR := Lib.hid (setRow_heap (wr.alloc (.cells zeros15 111 (0, 0))) wr.heap.size zeros15 formalC _ _ (MapKept.heap_alloc wr (.cells zeros15 111 (0, 0))).1)
              have HROW := Lib.hid hrow
              have HBw := Lib.hid hb
              have hszw := hb.size
              have hlt := heap_lt hrow
              have HK1 := Lib.hid hk1
              have HK2 := Lib.hid hk2
              clear hrow hb hk1 hk2 hnx
              go_wp2_with (first | ((with_reducible refine wpList_load_mid rfl 111 _ rfl w3.heap.size 15 ?e1 formalC.toList _ HRK.out Tryz.underlying111 ?e2 ?e3 ?_); (case e1 => rfl); (case e2 => rfl); (case e3 => kernel_rfl)) | ((with_reducible refine wpList_store_row rfl 111 _ _ rfl wr.heap.size formalC ?e1 ?e2 111 zeros15 HST.out ?e3 ?e4 ?e5 ?_); (case e1 => rfl); (case e2 => rfl); (case e3 => kernel_rfl); (case e4 => rfl); (case e5 => kernel_rfl)) | ((with_reducible refine wpList_load_row rfl 111 _ rfl wr.heap.size ?e1 111 formalC (0, 0) _ HSR.out Tryz.underlying111 ?e2 ?e3 ?_); (case e1 => rfl); (case e2 => rfl); (case e3 => kernel_rfl)))
              refine (read_any true s l _ HI.out (by omega) (HT.out.below ((HBw.out.alloc hszw _).trans (below_setRow' (Below.refl _ _) (g := wr.heap.size) hszw _)) (Nat.le_refl _))).mono ?_
              rintro e w5 ⟨d, hd, rfl, hb5⟩
              have MB := (HBw.out.alloc hszw (.cells zeros15 111 (0, 0))).trans (below_setRow' (Below.refl _ _) (g := wr.heap.size) hszw formalC)
              have HB5 := Lib.hid (MB.trans (hb5.mono (by have := MB.size; omega)))
              have HROW5 := Lib.hid (show w5.heap[w3.heap.size]? = some (.cells bothC 111 (0, 0)) by
                rw [hb5.block _ (by simp; omega), setRow_other _ _ _ _ (by omega), Lib.alloc_old _ _ _ hlt]; exact HROW.out)
              have HDD := Lib.hid hd
              clear hb5 hd MB
              cases hr : (Num.rd true l).2
              · have HR := Lib.hid hr
                clear hr
                go_wp2_with fail
                go_roundw
                case rel => exact ⟨2, by omega, by go_num, fun _ => HK1.out (by omega), fun _ => HR.out, HROW5.out, HB5.out⟩
                case measure => simp [intOf]
              · have HR := Lib.hid (show Num.progParse l = ((Num.rd true l).1, true) by rw [HP.out]; rw [HK1.out (by omega), if_neg (by decide), hr, if_pos rfl])
                clear hr
                go_wp2_with fail
                go_ret2
                exact ⟨d, by rw [HR.out]; exact HDD.out, by rw [HR.out]; rfl, HB5.out⟩
            · have HR := Lib.hid (show Num.progParse l = ([], false) by rw [HP.out, hk1 (by omega), if_neg (by decide), hk2 (by omega), if_neg (by decide)])
              have HBw := Lib.hid hb
              clear hk1 hk2 hrow hb hnx
              go_wp2_with fail
              go_ret2
              exact ⟨⟨#[]⟩, by rw [HR.out]; exact Is.mk [], by rw [HR.out]; rfl, HBw.out⟩
        · rw [Bool.true_and] at hne
          go_wp2_with (first | ((with_reducible refine wpList_load_row rfl 111 _ rfl 0 ?e1 ty1 plainC fr1 _ HR1.out Tryz.underlying111 ?e2 ?e3 ?_); (case e1 => rfl); (case e2 => rfl); (case e3 => kernel_rfl)) | ((with_reducible refine wpList_load_row rfl 111 _ rfl 1 ?e1 ty2 formalC fr2 _ HR2.out Tryz.underlying111 ?e2 ?e3 ?_); (case e1 => rfl); (case e2 => rfl); (case e3 => kernel_rfl)))
          go_loopw [46] (fun iv wl => ∃ k : Nat, k ≤ 2 ∧ iv = .int .i64 k ∧ (1 ≤ k → (Num.rd false l).2 = false) ∧ (2 ≤ k → (Num.rd true l).2 = false) ∧ wl.heap[w3.heap.size]? = some (.cells bothC 111 (0, 0)) ∧ Below w.heap.size w wl) (fun iv _ => 2 - (intOf iv).toNat)
          case atStart =>
            refine ⟨0, by omega, rfl, fun h => absurd h (by omega), fun h => absurd h (by omega), ?_, HB3.out.alloc hsz3 _⟩
            refine (MapKept.heap_alloc w3 _).1.trans (congrArg some (congrArg (fun c => Obj.cells c 111 (0, 0)) ?_))
            kernel_rfl
          case round =>
            obtain ⟨k, hk, rfl, hk1, hk2, hrow, hb⟩ := hrel
            have h012 : k = 0 ∨ k = 1 ∨ k = 2 := by omega
            rcases h012 with rfl | rfl | rfl
            · have HRK := Lib.hid (both_0 wr _ ⟨_, _, hrow⟩)
              have HST := Lib.hid (MapKept.heap_alloc wr (.cells zeros15 111 (0, 0))).1
              have HSR := Lib.hid (setRow_heap (wr.alloc (.cells zeros15 111 (0, 0))) wr.heap.size zeros15 plainC _ _ (MapKept.heap_alloc wr (.cells zeros15 111 (0, 0))).1)
              have HROW := Lib.hid hrow
              have HBw := Lib.hid hb
              have hszw := hb.size
              have hlt := heap_lt hrow
              have HK1 := Lib.hid hk1
              have HK2 := Lib.hid hk2
              clear hrow hb hk1 hk2 hnx
              go_wp2_with (first | ((with_reducible refine wpList_load_mid rfl 111 _ rfl w3.heap.size 0 ?e1 plainC.toList _ HRK.out Tryz.underlying111 ?e2 ?e3 ?_); (case e1 => rfl); (case e2 => rfl); (case e3 => kernel_rfl)) | ((with_reducible refine wpList_store_row rfl 111 _ _ rfl wr.heap.size plainC ?e1 ?e2 111 zeros15 HST.out ?e3 ?e4 ?e5 ?_); (case e1 => rfl); (case e2 => rfl); (case e3 => kernel_rfl); (case e4 => rfl); (case e5 => kernel_rfl)) | ((with_reducible refine wpList_load_row rfl 111 _ rfl wr.heap.size ?e1 111 plainC (0, 0) _ HSR.out Tryz.underlying111 ?e2 ?e3 ?_); (case e1 => rfl); (case e2 => rfl); (case e3 => kernel_rfl)))
              refine (read_any false s l _ HI.out (by omega) (HT.out.below ((HBw.out.alloc hszw _).trans (below_setRow' (Below.refl _ _) (g := wr.heap.size) hszw _)) (Nat.le_refl _))).mono ?_
              rintro e w5 ⟨d, hd, rfl, hb5⟩
              have MB := (HBw.out.alloc hszw (.cells zeros15 111 (0, 0))).trans (below_setRow' (Below.refl _ _) (g := wr.heap.size) hszw plainC)
              have HB5 := Lib.hid (MB.trans (hb5.mono (by have := MB.size; omega)))
              have HROW5 := Lib.hid (show w5.heap[w3.heap.size]? = some (.cells bothC 111 (0, 0)) by
                rw [hb5.block _ (by simp; omega), setRow_other _ _ _ _ (by omega), Lib.alloc_old _ _ _ hlt]; exact HROW.out)
              have HDD := Lib.hid hd
              clear hb5 hd MB
              cases hr : (Num.rd false l).2
              · have HR := Lib.hid hr
                clear hr
                go_wp2_with fail
                go_roundw
                case rel => exact ⟨1, by omega, by go_num, fun _ => HR.out, fun h => absurd h (by omega), HROW5.out, HB5.out⟩
                case measure => simp [intOf]
              · have HR := Lib.hid (show Num.progParse l = ((Num.rd false l).1, true) by rw [HP.out]; rw [hr, if_pos rfl])
                clear hr
                go_wp2_with fail
                go_ret2
                exact ⟨d, by rw [HR.out]; exact HDD.out, by rw [HR.out]; rfl, HB5.out⟩
            · have HRK := Lib.hid (both_1 wr _ ⟨_, _, hrow⟩)
              have HST := Lib.hid (MapKept.heap_alloc wr (.cells zeros15 111 (0, 0))).1
              have HSR := Lib.hid (setRow_heap (wr.alloc (.cells zeros15 111 (0, 0))) wr.heap.size zeros15 formalC _ _ (MapKept.heap_alloc wr (.cells zeros15 111 (0, 0))).1)
              have HROW := Lib.hid hrow
              have HBw := Lib.hid hb
              have hszw := hb.size
              have hlt := heap_lt hrow
              have HK1 := Lib.hid hk1
              have HK2 := Lib.hid hk2
              clear hrow hb hk1 hk2 hnx
              go_wp2_with (first | ((with_reducible refine wpList_load_mid rfl 111 _ rfl w3.heap.size 15 ?e1 formalC.toList _ HRK.out Tryz.underlying111 ?e2 ?e3 ?_); (case e1 => rfl); (case e2 => rfl); (case e3 => kernel_rfl)) | ((with_reducible refine wpList_store_row rfl 111 _ _ rfl wr.heap.size formalC ?e1 ?e2 111 zeros15 HST.out ?e3 ?e4 ?e5 ?_); (case e1 => rfl); (case e2 => rfl); (case e3 => kernel_rfl); (case e4 => rfl); (case e5 => kernel_rfl)) | ((with_reducible refine wpList_load_row rfl 111 _ rfl wr.heap.size ?e1 111 formalC (0, 0) _ HSR.out Tryz.underlying111 ?e2 ?e3 ?_); (case e1 => rfl); (case e2 => rfl); (case e3 => kernel_rfl)))
              refine (read_any true s l _ HI.out (by omega) (HT.out.below ((HBw.out.alloc hszw _).trans (below_setRow' (Below.refl _ _) (g := wr.heap.size) hszw _)) (Nat.le_refl _))).mono ?_
              rintro e w5 ⟨d, hd, rfl, hb5⟩
              have MB := (HBw.out.alloc hszw (.cells zeros15 111 (0, 0))).trans (below_setRow' (Below.refl _ _) (g := wr.heap.size) hszw formalC)
              have HB5 := Lib.hid (MB.trans (hb5.mono (by have := MB.size; omega)))
              have HROW5 := Lib.hid (show w5.heap[w3.heap.size]? = some (.cells bothC 111 (0, 0)) by
                rw [hb5.block _ (by simp; omega), setRow_other _ _ _ _ (by omega), Lib.alloc_old _ _ _ hlt]; exact HROW.out)
              have HDD := Lib.hid hd
              clear hb5 hd MB
              cases hr : (Num.rd true l).2
              · have HR := Lib.hid hr
                clear hr
                go_wp2_with fail
                go_roundw
                case rel => exact ⟨2, by omega, by go_num, fun _ => HK1.out (by omega), fun _ => HR.out, HROW5.out, HB5.out⟩
                case measure => simp [intOf]
              · have HR := Lib.hid (show Num.progParse l = ((Num.rd true l).1, true) by rw [HP.out]; rw [HK1.out (by omega), if_neg (by decide), hr, if_pos rfl])
                clear hr
                go_wp2_with fail
                go_ret2
                exact ⟨d, by rw [HR.out]; exact HDD.out, by rw [HR.out]; rfl, HB5.out⟩
            · have HR := Lib.hid (show Num.progParse l = ([], false) by rw [HP.out, hk1 (by omega), if_neg (by decide), hk2 (by omega), if_neg (by decide)])
              have HBw := Lib.hid hb
              clear hk1 hk2 hrow hb hnx
              go_wp2_with fail
              go_ret2
              exact ⟨⟨#[]⟩, by rw [HR.out]; exact Is.mk [], by rw [HR.out]; rfl, HBw.out⟩
end Go.Proofs.YtnpkcobapckhdaaGreatDoor
