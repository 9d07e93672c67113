/-
  (numeral.style).read by its contract. No condition but the string's own bound and the tables.
-/
import Derived.Test.YtnpkcobapckhdaaGreatDoorNumRdMem
import Derived.Great.BuildSlice
namespace Go.Proofs.YtnpkcobapckhdaaGreatDoor
open Go.RowKit

theorem w64_small (n : Nat) (h : n < 1000) : wrap64 ((n : Int) + 1) = ((n + 1 : Nat) : Int) := by unfold wrap64; omega
theorem iterPos_of {w : World} {k p : Nat} {s : ByteArray} (h : w.heap[k]? = some (.stringIter s p)) : w.iterPos k = p := by simp [World.iterPos, h]
theorem below_setRow' {B : Nat} {a w : World} (h : Below B a w) {g : Nat} (hg : B ≤ g) (cs : Array Value) : Below B a (w.setRow g cs) :=
  h.trans ⟨rfl, rfl, rfl, by simp [World.setRow], fun k hk => setRow_other _ _ _ _ (by omega)⟩
theorem ix_un (f : Bool) (T : List UInt8) : -1 ≤ Num.ix (Num.un f).tail T ∧ Num.ix (Num.un f).tail T < 3 := by
  have e : (Num.un f).tail.length = 3 := by cases f <;> rfl
  have h := ix_bd (Num.un f).tail T
  rw [e] at h
  exact h
theorem ix_dg (f : Bool) (T : List UInt8) : -1 ≤ Num.ix (Num.dg f) T ∧ Num.ix (Num.dg f) T < 10 := by
  have e : (Num.dg f).length = 10 := by cases f <;> rfl
  have h := ix_bd (Num.dg f) T
  rw [e] at h
  exact h
theorem upd_upd (d : Nat → Nat) (i a b : Nat) : Num.upd (Num.upd d i a) i b = Num.upd d i b := by funext q; unfold Num.upd; split <;> rfl
theorem four (w : World) (a b c d : Obj) : ((((w.alloc a).alloc b).alloc c).alloc d).heap[w.heap.size + 1]? = some b ∧ ((((w.alloc a).alloc b).alloc c).alloc d).heap[w.heap.size + 1 + 1]? = some c ∧ ((((w.alloc a).alloc b).alloc c).alloc d).heap[w.heap.size + 1 + 1 + 1]? = some d ∧ Below (w.heap.size + 1) (w.alloc a) ((((w.alloc a).alloc b).alloc c).alloc d) := by
  have e1 : (w.alloc a).heap.size = w.heap.size + 1 := by simp
  have e2 : ((w.alloc a).alloc b).heap.size = w.heap.size + 1 + 1 := by simp
  have e3 : (((w.alloc a).alloc b).alloc c).heap.size = w.heap.size + 1 + 1 + 1 := by simp
  refine ⟨?_, ?_, ?_, ?_⟩
  · rw [Lib.alloc_old _ _ _ (by rw [e3]; omega), Lib.alloc_old _ _ _ (by rw [e2]; omega), ← e1]; exact (MapKept.heap_alloc _ _).1
  · rw [Lib.alloc_old _ _ _ (by rw [e3]; omega), ← e2]; exact (MapKept.heap_alloc _ _).1
  · rw [← e3]; exact (MapKept.heap_alloc _ _).1
  · exact (((Below.refl _ _).alloc (by rw [e1]; exact Nat.le_refl _) _).alloc (by rw [e2]; omega) _).alloc (by rw [e3]; omega) _
theorem built4 : Tryz.prog.built 145 [] = some #[.int .u8 0, .int .u8 0, .int .u8 0, .int .u8 0] := by kernel_rfl
theorem w64_four (n : Nat) (h : n < 5) : wrap64 (4 * (n : Int)) = ((4 * n : Nat) : Int) := by unfold wrap64; omega
set_option maxRecDepth 100000 in
set_option maxHeartbeats 4000000 in
theorem read_long (f : Bool) (s : ByteArray) (l : List UInt8) (w : World) (h : Is s l) (hs : s.size ≤ 9223372036854775807) (ht : Tabs w) (h0 : l ≠ Num.zero) :
    Calls Tryz.prog 127 #[.agg (styleC f), .string s] w (Gives (decide (Num.rdOk f l)) (Num.rdTry f l) w) := by
  have HI := Lib.hid h
  have d2 : (s.toList == [233, 155, 182]) = false := by rw [h.list, beq_eq_false_iff_ne]; exact h0
  have HT := Lib.hid ht
  clear h h0 ht
  go_enter Tryz.func127, Tryz.ntmps127
  go_wp2_with fail
  go_loopw [8, 9] (fun gv lv wr => ∃ (pos fuel : Nat) (st : Num.RS) (lo : Nat), gv = .int .i64 st.dig ∧ lv = .int .i64 lo ∧ 1 ≤ lo ∧ lo ≤ 20 ∧ Small st ∧ Left f l st fuel pos ∧ s.size ≤ pos + fuel ∧ Mem w.heap.size s st pos (w.alloc (.cells (styleC f) 111)) wr) (fun _ _ wr => s.size - wr.iterPos (w.heap.size + 1 + 1 + 1))
  case atStart =>
    refine ⟨0, s.size, Num.rs0, 20, rfl, rfl, by omega, by omega, small_0, ?_, by omega, ?_, ?_, ?_, ?_⟩
    · unfold Left Ru.toks
      rw [List.drop_zero, HI.out.size]
    · exact (four w _ _ _ _).1
    · exact (four w _ _ _ _).2.1
    · exact (four w _ _ _ _).2.2.1
    · exact (four w _ _ _ _).2.2.2
  case round =>
    obtain ⟨pos, fuel, st, lo, rfl, rfl, hlo1, hlo2, hsm, hleft, hfu, hmem⟩ := hrel
    obtain ⟨md, mn, mi, mf⟩ := hmem
    by_cases hp : pos < s.size
    · have hnx : ∀ ty, (Instr.next (.pointer (some ⟨w.heap.size + 1 + 1 + 1, 0, none⟩)) true ty).run Tryz.prog wr = _ := fun ty => Lib.run_next_any_at wr (w.heap.size + 1 + 1 + 1) s pos ty mi hp
      obtain ⟨t, ht⟩ : ∃ t : ByteArray, Utf8.encode ((Utf8.decode s pos).1 : Int) = t := ⟨_, rfl⟩
      obtain ⟨T, hT⟩ : ∃ T, Is t T := ⟨_, rfl⟩
      obtain ⟨p2, hp2⟩ : ∃ p2, pos + (Utf8.decode s pos).2 = p2 := ⟨_, rfl⟩
      have hpos := Lib.decode_width_pos s pos hp
      obtain ⟨w1, hw1⟩ : ∃ w1, wr.iterAt (w.heap.size + 1 + 1 + 1) s p2 = w1 := ⟨_, rfl⟩
      have hstep := left_step HI.out hleft hp hfu
      rw [ht, hT.data, hp2] at hstep
      have hlt := heap_lt md
      have HPOS := Lib.hid (iterPos_of mi)
      have mi1 : w1.heap[w.heap.size + 1 + 1 + 1]? = some (.stringIter s p2) := by rw [← hw1]; exact Lib.iterAt_heap wr _ s pos p2 mi
      have md1 : w1.heap[w.heap.size + 1]? = some (.cells (dC 20 st.d) 144 (0, 0)) := by rw [← hw1, Lib.iterAt_other _ _ _ _ _ (by omega)]; exact md
      have mn1 : w1.heap[w.heap.size + 1 + 1]? = some (.cells (dC 4 st.now) 145 (0, 0)) := by rw [← hw1, Lib.iterAt_other _ _ _ _ _ (by omega)]; exact mn
      have mf1 : Below (w.heap.size + 1) (w.alloc (.cells (styleC f) 111)) w1 := by rw [← hw1]; exact Lib.below_iterAt mf (by omega) s p2
      have HP := Lib.hid hp
      have hp3 : pos < p2 := by omega
      have hfu2 : s.size ≤ p2 + (fuel - 1) := by omega
      have hd1 := hsm.lo
      have hd2 := hsm.hi
      have T0 := HT.out.below ((Below.refl _ w).alloc (Nat.le_refl _) (.cells (styleC f) 111)) (Nat.le_refl _)
      have T1 := Lib.hid (T0.below mf1 (by simp))
      have S1 := Lib.hid (show Row w.heap.size (styleC f) w1 from ⟨_, _, by rw [mf1.block w.heap.size (by omega)]; exact (MapKept.heap_alloc w _).1⟩)
      have MD := Lib.hid md1
      have MN := Lib.hid mn1
      have MI := Lib.hid mi1
      have MF := Lib.hid mf1
      have HL := Lib.hid hstep
      have HSM := Lib.hid hsm
      have hgt := HT.out.groups.lt
      have HTT := Lib.hid hT
      clear md mn mi mf hleft hsm hT md1 mn1 mi1 mf1 hstep T0
      go_wp2_with fail
      refine (index_any _ 1 4 4 Num.grp.tail t T _ HTT.out rfl (by decide) (grp_cells _ T1.out.groups)).mono ?_
      rintro e w2 ⟨rfl, rfl⟩
      have hxb : -1 ≤ Num.ix Num.grp.tail T ∧ Num.ix Num.grp.tail T < 4 := ix_bd Num.grp.tail T
      obtain ⟨k, hk⟩ : ∃ k, Num.ix Num.grp.tail T = k := ⟨_, rfl⟩
      rw [hk]
      rw [hk] at hxb
      by_cases hk0 : 0 ≤ k
      · have hk4 : k < 4 := hxb.2
        obtain ⟨g, rfl⟩ : ∃ g : Nat, k = (g : Int) := ⟨k.toNat, by omega⟩
        have hstep : Num.rdStep f st T = ⟨Num.put4 st.d (Num.pend st.now st.dig) (g + 1), fun _ => 0, -1⟩ := by
          unfold Num.rdStep; rw [hk, if_pos hk0, Int.toNat_natCast]
        by_cases hdg : 0 ≤ st.dig
        · obtain ⟨dg, hdge⟩ : ∃ dg : Nat, st.dig = (dg : Int) := ⟨st.dig.toNat, by omega⟩
          have hwr : IntKind.u8.wrap (dg : Int) = (dg : Int) := by rw [IntKind.wrap_u8]; omega
          have hdg10 : dg < 10 := by omega
          obtain ⟨PN, hPN⟩ : ∃ PN, Num.upd st.now 0 dg = PN := ⟨_, rfl⟩
          have HPN := Lib.hid (show Num.pend st.now st.dig = PN by unfold Num.pend; rw [if_pos hdg, hdge, ← hPN]; rfl)
          rw [hdge]
          have cn : w2.cell? ⟨w.heap.size + 1 + 1, 0, none⟩ = some (.int .u8 (st.now 0)) := by rw [Lib.cell_of_heap MN.out]; exact dC_get 4 _ 0 (by omega)
          have cf : w2.frozen? ⟨w.heap.size + 1 + 1, 0, none⟩ = false := Lib.frozen_of_heap MN.out 0
          have HR := Lib.hid (show (w2.setCell ⟨w.heap.size + 1 + 1, 0, none⟩ (.int .u8 (dg : Int))).heap[w.heap.size + 1 + 1]? = some (.cells #[.int .u8 (PN 0), .int .u8 (PN 1), .int .u8 (PN 2), .int .u8 (PN 3)] 145 (0, 0)) by rw [row_set MN.out, dC_set, hPN]; rfl)
          have HD3 := Lib.hid (show (w2.setCell ⟨w.heap.size + 1 + 1, 0, none⟩ (.int .u8 (dg : Int))).heap[w.heap.size + 1]? = some (.cells (dC 20 st.d) 144 (0, 0)) by rw [Below.heap_setCell _ _ _ _ (by show _ ≠ w.heap.size + 1 + 1; omega)]; exact MD.out)
          have HI3 := Lib.hid (show (w2.setCell ⟨w.heap.size + 1 + 1, 0, none⟩ (.int .u8 (dg : Int))).heap[w.heap.size + 1 + 1 + 1]? = some (.stringIter s p2) by rw [Below.heap_setCell _ _ _ _ (by show _ ≠ w.heap.size + 1 + 1; omega)]; exact MI.out)
          have MF3 := Lib.hid (MF.out.setCell (p := ⟨w.heap.size + 1 + 1, 0, none⟩) (by show w.heap.size + 1 ≤ w.heap.size + 1 + 1; omega) (.int .u8 (dg : Int)))
          clear hdge hdg hPN
          have HS := Lib.hid hstep
          have HK := Lib.hid hk
          have HLT := Lib.hid hlt
          have hg4 : (g : Nat) < 4 := Int.ofNat_lt.1 hk4
          obtain ⟨G, hG⟩ : ∃ G : Nat, G = g + 1 := ⟨_, rfl⟩
          have hw64 : wrap64 ((g : Int) + 1) = (G : Int) := by rw [hG]; exact w64_small g (Nat.lt_trans hg4 (by decide))
          have hG5 : G < 5 := by rw [hG]; exact Nat.succ_lt_succ hg4
          have HG := Lib.hid hG
          clear hG hg4
          clear hstep hxb hk4 hk hd1 hd2 hk0 hnx hgt
          go_wp2_with (first | ((with_reducible refine wpList_load_row rfl 145 _ rfl (w.heap.size + 1 + 1) ?e1 145 #[.int .u8 (PN 0), .int .u8 (PN 1), .int .u8 (PN 2), .int .u8 (PN 3)] (0, 0) _ HR.out Tryz.underlying145 ?e2 ?e3 ?_); (case e1 => rfl); (case e2 => rfl); (case e3 => kernel_rfl)) | (go_at_call 157; refine (copy4_any (w.heap.size + 1) st.d PN G _ hG5 HD3.out).mono ?_))
          rintro e w4 ⟨rfl, hd4, hgr⟩
          have HR4 := Lib.hid (hgr.block _ (heap_lt HR.out) (fun e => absurd (Option.some.inj e) (by omega)) |>.trans HR.out)
          have HI4 := Lib.hid (hgr.block _ (heap_lt HI3.out) (fun e => absurd (Option.some.inj e) (by omega)) |>.trans HI3.out)
          have MF4 := Lib.hid (MF3.out.grown hgr (by have := heap_lt HD3.out; omega) (fun k hk => by cases hk; omega))
          have HD4 := Lib.hid hd4
          obtain ⟨LO, hLO⟩ : ∃ LO : Nat, LO = 4 * G := ⟨_, rfl⟩
          have HLO := Lib.hid hLO
          clear hd4 hgr HR HD3 HI3 MF3 hLO
          dsimp only
          go_wp2_with (first | ((with_reducible refine wpList_buildTo rfl 145 #[] rfl _ rfl #[.int .u8 0, .int .u8 0, .int .u8 0, .int .u8 0] ?e1 ?_); (case e1 => simp; exact built4)) | ((with_reducible refine wpList_store_row rfl 145 _ _ rfl (w.heap.size + 1 + 1) #[.int .u8 0, .int .u8 0, .int .u8 0, .int .u8 0] ?e1 ?e2 145 _ HR4.out ?e3 ?e4 ?e5 ?_); (case e1 => rfl); (case e2 => rfl); (case e3 => kernel_rfl); (case e4 => rfl); (case e5 => kernel_rfl)))
          go_roundw
          case rel =>
            refine ⟨p2, fuel - 1, Num.rdStep f st T, LO, by rw [HS.out], by rw [HLO.out, Int.natCast_mul]; rfl, by rw [HLO.out, HG.out]; omega, by rw [HLO.out]; omega, small_step f st T HSM.out, HL.out, hfu2, ⟨?_, ?_, ?_, ?_⟩⟩
            · rw [setRow_other _ _ _ _ (by omega), HD4.out, HS.out, HPN.out, HG.out]
            · rw [setRow_heap _ _ _ _ _ _ HR4.out, HS.out]; rfl
            · rw [setRow_other _ _ _ _ (by omega)]; exact HI4.out
            · exact below_setRow' MF4.out (by omega) _
          case measure =>
            rw [iterPos_of (show (w4.setRow (w.heap.size + 1 + 1) _).heap[w.heap.size + 1 + 1 + 1]? = _ from (setRow_other _ _ _ _ (by omega)).trans HI4.out), HPOS.out]
            have := HP.out
            omega
        · have hdge : st.dig = -1 := by omega
          obtain ⟨PN, hPN⟩ : ∃ PN, st.now = PN := ⟨_, rfl⟩
          have HPN := Lib.hid (show Num.pend st.now st.dig = PN by unfold Num.pend; rw [if_neg hdg, ← hPN])
          rw [hdge]
          have HR := Lib.hid (show w2.heap[w.heap.size + 1 + 1]? = some (.cells #[.int .u8 (PN 0), .int .u8 (PN 1), .int .u8 (PN 2), .int .u8 (PN 3)] 145 (0, 0)) by rw [MN.out, hPN]; rfl)
          have HD3 := MD
          have HI3 := MI
          have MF3 := MF
          clear hdge hdg hPN
          have HS := Lib.hid hstep
          have HK := Lib.hid hk
          have HLT := Lib.hid hlt
          have hg4 : (g : Nat) < 4 := Int.ofNat_lt.1 hk4
          obtain ⟨G, hG⟩ : ∃ G : Nat, G = g + 1 := ⟨_, rfl⟩
          have hw64 : wrap64 ((g : Int) + 1) = (G : Int) := by rw [hG]; exact w64_small g (Nat.lt_trans hg4 (by decide))
          have hG5 : G < 5 := by rw [hG]; exact Nat.succ_lt_succ hg4
          have HG := Lib.hid hG
          clear hG hg4
          clear hstep hxb hk4 hk hd1 hd2 hk0 hnx hgt
          go_wp2_with (first | ((with_reducible refine wpList_load_row rfl 145 _ rfl (w.heap.size + 1 + 1) ?e1 145 #[.int .u8 (PN 0), .int .u8 (PN 1), .int .u8 (PN 2), .int .u8 (PN 3)] (0, 0) _ HR.out Tryz.underlying145 ?e2 ?e3 ?_); (case e1 => rfl); (case e2 => rfl); (case e3 => kernel_rfl)) | (go_at_call 157; refine (copy4_any (w.heap.size + 1) st.d PN G _ hG5 HD3.out).mono ?_))
          rintro e w4 ⟨rfl, hd4, hgr⟩
          have HR4 := Lib.hid (hgr.block _ (heap_lt HR.out) (fun e => absurd (Option.some.inj e) (by omega)) |>.trans HR.out)
          have HI4 := Lib.hid (hgr.block _ (heap_lt HI3.out) (fun e => absurd (Option.some.inj e) (by omega)) |>.trans HI3.out)
          have MF4 := Lib.hid (MF3.out.grown hgr (by have := heap_lt HD3.out; omega) (fun k hk => by cases hk; omega))
          have HD4 := Lib.hid hd4
          obtain ⟨LO, hLO⟩ : ∃ LO : Nat, LO = 4 * G := ⟨_, rfl⟩
          have HLO := Lib.hid hLO
          clear hd4 hgr HR HD3 HI3 MF3 hLO
          dsimp only
          go_wp2_with (first | ((with_reducible refine wpList_buildTo rfl 145 #[] rfl _ rfl #[.int .u8 0, .int .u8 0, .int .u8 0, .int .u8 0] ?e1 ?_); (case e1 => simp; exact built4)) | ((with_reducible refine wpList_store_row rfl 145 _ _ rfl (w.heap.size + 1 + 1) #[.int .u8 0, .int .u8 0, .int .u8 0, .int .u8 0] ?e1 ?e2 145 _ HR4.out ?e3 ?e4 ?e5 ?_); (case e1 => rfl); (case e2 => rfl); (case e3 => kernel_rfl); (case e4 => rfl); (case e5 => kernel_rfl)))
          go_roundw
          case rel =>
            refine ⟨p2, fuel - 1, Num.rdStep f st T, LO, by rw [HS.out], by rw [HLO.out, Int.natCast_mul]; rfl, by rw [HLO.out, HG.out]; omega, by rw [HLO.out]; omega, small_step f st T HSM.out, HL.out, hfu2, ⟨?_, ?_, ?_, ?_⟩⟩
            · rw [setRow_other _ _ _ _ (by omega), HD4.out, HS.out, HPN.out, HG.out]
            · rw [setRow_heap _ _ _ _ _ _ HR4.out, HS.out]; rfl
            · rw [setRow_other _ _ _ _ (by omega)]; exact HI4.out
            · exact below_setRow' MF4.out (by omega) _
          case measure =>
            rw [iterPos_of (show (w4.setRow (w.heap.size + 1 + 1) _).heap[w.heap.size + 1 + 1 + 1]? = _ from (setRow_other _ _ _ _ (by omega)).trans HI4.out), HPOS.out]
            have := HP.out
            omega
      · have hstepG : ¬ 0 ≤ Num.ix Num.grp.tail T := by rw [hk]; exact hk0
        obtain rfl : k = -1 := by omega
        clear hk0 hxb hgt
        go_wp2_with fail
        refine (index_any _ 11 3 3 (Num.un f).tail t T _ HTT.out (by cases f <;> rfl) (by decide) (un_cells f _ _ S1.out)).mono ?_
        rintro e w3 ⟨rfl, rfl⟩
        have hxb : -1 ≤ Num.ix (Num.un f).tail T ∧ Num.ix (Num.un f).tail T < 3 := ix_un f T
        obtain ⟨j, hj⟩ : ∃ j, Num.ix (Num.un f).tail T = j := ⟨_, rfl⟩
        rw [hj]
        rw [hj] at hxb
        by_cases hj0 : 0 ≤ j
        · obtain ⟨g, rfl⟩ : ∃ g : Nat, j = (g : Int) := ⟨j.toNat, by omega⟩
          have hg3 : g < 3 := Int.ofNat_lt.1 hxb.2
          have hstep : Num.rdStep f st T = ⟨st.d, Num.upd st.now (g + 1) (if st.dig < 0 then 1 else st.dig.toNat), -1⟩ := by
            unfold Num.rdStep; rw [if_neg (Int.not_le.2 hstepG), hj, if_pos hj0, Int.toNat_natCast]
          have cn : w3.cell? ⟨w.heap.size + 1 + 1, g + 1, none⟩ = some (.int .u8 (st.now (g + 1))) := by rw [Lib.cell_of_heap MN.out]; exact dC_get 4 _ (g + 1) (Nat.succ_lt_succ hg3)
          have cf : w3.frozen? ⟨w.heap.size + 1 + 1, g + 1, none⟩ = false := Lib.frozen_of_heap MN.out (g + 1)
          by_cases hdg : 0 ≤ st.dig
          · obtain ⟨dg, hdge⟩ : ∃ dg : Nat, st.dig = (dg : Int) := ⟨st.dig.toNat, by omega⟩
            have hdg10 : dg < 10 := by omega
            have hwr : IntKind.u8.wrap (dg : Int) = (dg : Int) := by rw [IntKind.wrap_u8]; omega
            have HS := Lib.hid (show Num.rdStep f st T = ⟨st.d, Num.upd st.now (g + 1) dg, -1⟩ by rw [hstep, if_neg (by omega), hdge]; rfl)
            rw [hdge]
            clear hj hj0 hp2 ht hw1 hd1 hd2 hdge hdg hstep hnx hk hstepG
            go_wp2_with fail
            go_roundw
            case rel =>
              refine ⟨p2, fuel - 1, Num.rdStep f st T, lo, by rw [HS.out], rfl, hlo1, hlo2, small_step f st T HSM.out, HL.out, hfu2, ⟨?_, ?_, ?_, ?_⟩⟩
              · rw [Below.heap_setCell _ _ _ _ (by show _ ≠ w.heap.size + 1 + 1; omega), MD.out, HS.out]
              · rw [row_set MN.out, dC_set, HS.out]
              · rw [Below.heap_setCell _ _ _ _ (by show _ ≠ w.heap.size + 1 + 1; omega)]; exact MI.out
              · exact MF.out.setCell (p := ⟨w.heap.size + 1 + 1, g + 1, none⟩) (by show w.heap.size + 1 ≤ w.heap.size + 1 + 1; omega) _
            case measure =>
              rw [iterPos_of (show (World.heap _)[w.heap.size + 1 + 1 + 1]? = _ from (Below.heap_setCell _ _ _ _ (by show _ ≠ w.heap.size + 1 + 1; omega)).trans MI.out), HPOS.out]
              have := HP.out
              omega
          · have hdge : st.dig = -1 := by omega
            have HS := Lib.hid (show Num.rdStep f st T = ⟨st.d, Num.upd st.now (g + 1) 1, -1⟩ by rw [hstep, if_pos (by omega)])
            rw [hdge]
            have cn2 : (w3.setCell ⟨w.heap.size + 1 + 1, g + 1, none⟩ (.int .u8 0)).cell? ⟨w.heap.size + 1 + 1, g + 1, none⟩ = some (.int .u8 0) := by
              show (w3.setCell ⟨w.heap.size + 1 + 1, g + 1, none⟩ (.int .u8 ((0 : Nat) : Int))).cell? ⟨w.heap.size + 1 + 1, g + 1, none⟩ = _
              rw [Lib.cell_of_heap (row_set MN.out (g + 1) (.int .u8 ((0 : Nat) : Int))), dC_set]
              exact (dC_get 4 _ (g + 1) (Nat.succ_lt_succ hg3)).trans (by rw [Num.upd_same]; rfl)
            have cf2 : (w3.setCell ⟨w.heap.size + 1 + 1, g + 1, none⟩ (.int .u8 0)).frozen? ⟨w.heap.size + 1 + 1, g + 1, none⟩ = false := Lib.frozen_of_heap (row_set MN.out (g + 1) _) (g + 1)
            clear hj hj0 hp2 ht hw1 hd1 hd2 hdge hdg hstep hnx hk hstepG
            go_wp2_with fail
            go_roundw
            case rel =>
              refine ⟨p2, fuel - 1, Num.rdStep f st T, lo, by rw [HS.out], rfl, hlo1, hlo2, small_step f st T HSM.out, HL.out, hfu2, ⟨?_, ?_, ?_, ?_⟩⟩
              · rw [Below.heap_setCell _ _ _ _ (by show _ ≠ w.heap.size + 1 + 1; omega), Below.heap_setCell _ _ _ _ (by show _ ≠ w.heap.size + 1 + 1; omega), MD.out, HS.out]
              · show ((w3.setCell ⟨w.heap.size + 1 + 1, g + 1, none⟩ (.int .u8 ((0 : Nat) : Int))).setCell ⟨w.heap.size + 1 + 1, g + 1, none⟩ (.int .u8 ((1 : Nat) : Int))).heap[w.heap.size + 1 + 1]? = _
                rw [row_set (row_set MN.out _ _), dC_set, dC_set, upd_upd, HS.out]
              · rw [Below.heap_setCell _ _ _ _ (by show _ ≠ w.heap.size + 1 + 1; omega), Below.heap_setCell _ _ _ _ (by show _ ≠ w.heap.size + 1 + 1; omega)]; exact MI.out
              · exact (MF.out.setCell (p := ⟨w.heap.size + 1 + 1, g + 1, none⟩) (by show w.heap.size + 1 ≤ w.heap.size + 1 + 1; omega) _).setCell (p := ⟨w.heap.size + 1 + 1, g + 1, none⟩) (by show w.heap.size + 1 ≤ w.heap.size + 1 + 1; omega) _
            case measure =>
              rw [iterPos_of (show (World.heap _)[w.heap.size + 1 + 1 + 1]? = _ from (Below.heap_setCell _ _ _ _ (by show _ ≠ w.heap.size + 1 + 1; omega)).trans ((Below.heap_setCell _ _ _ _ (by show _ ≠ w.heap.size + 1 + 1; omega)).trans MI.out)), HPOS.out]
              have := HP.out
              omega
        · have hstepJ : Num.rdStep f st T = ⟨st.d, st.now, Num.ix (Num.dg f) T⟩ := by
            unfold Num.rdStep; rw [if_neg (Int.not_le.2 hstepG), hj, if_neg hj0]
          obtain rfl : j = -1 := by omega
          clear hj hj0 hp2 ht hw1 hd1 hd2 hnx hk hstepG hxb
          go_wp2_with fail
          refine (index_any _ 0 10 10 (Num.dg f) t T _ HTT.out (by cases f <;> rfl) (by decide) (dg_cells f _ _ S1.out)).mono ?_
          rintro e w4 ⟨rfl, rfl⟩
          obtain ⟨z, hz⟩ : ∃ z, Num.ix (Num.dg f) T = z := ⟨_, rfl⟩
          rw [hz]
          have HS := Lib.hid (show Num.rdStep f st T = ⟨st.d, st.now, z⟩ by rw [hstepJ, hz])
          clear hstepJ hz
          go_wp2_with fail
          go_roundw
          case rel => exact ⟨p2, fuel - 1, Num.rdStep f st T, lo, by rw [HS.out], rfl, hlo1, hlo2, small_step f st T HSM.out, HL.out, hfu2, ⟨by rw [MD.out, HS.out], by rw [MN.out, HS.out], MI.out, MF.out⟩⟩
          case measure =>
            rw [iterPos_of MI.out, HPOS.out]
            have := HP.out
            omega
    · have hnx : ∀ ty, (Instr.next (.pointer (some ⟨w.heap.size + 1 + 1 + 1, 0, none⟩)) true ty).run Tryz.prog wr = _ := fun ty => Lib.run_next_end_at wr (w.heap.size + 1 + 1 + 1) s pos ty mi hp
      have HE := Lib.hid (left_end HI.out hleft hp)
      have hd1 := hsm.lo
      have hd2 := hsm.hi
      have hlt := heap_lt md
      have HSM := Lib.hid hsm
      have MD := Lib.hid md
      have MN := Lib.hid mn
      have MF := Lib.hid mf
      clear md mn mi mf hleft hsm hp
      by_cases hdg : 0 ≤ st.dig
      · obtain ⟨dg, hdge⟩ : ∃ dg : Nat, st.dig = (dg : Int) := ⟨st.dig.toNat, by omega⟩
        have hwr : IntKind.u8.wrap (dg : Int) = (dg : Int) := by rw [IntKind.wrap_u8]; omega
        have hdg10 : dg < 10 := by omega
        obtain ⟨PN, hPN⟩ : ∃ PN, Num.upd st.now 0 dg = PN := ⟨_, rfl⟩
        have HPN := Lib.hid (show Num.pend st.now st.dig = PN by unfold Num.pend; rw [if_pos hdg, hdge, ← hPN]; rfl)
        rw [hdge]
        have cn : wr.cell? ⟨w.heap.size + 1 + 1, 0, none⟩ = some (.int .u8 (st.now 0)) := by rw [Lib.cell_of_heap MN.out]; exact dC_get 4 _ 0 (by omega)
        have cf : wr.frozen? ⟨w.heap.size + 1 + 1, 0, none⟩ = false := Lib.frozen_of_heap MN.out 0
        have HR := Lib.hid (show (wr.setCell ⟨w.heap.size + 1 + 1, 0, none⟩ (.int .u8 (dg : Int))).heap[w.heap.size + 1 + 1]? = some (.cells #[.int .u8 (PN 0), .int .u8 (PN 1), .int .u8 (PN 2), .int .u8 (PN 3)] 145 (0, 0)) by rw [row_set MN.out, dC_set, hPN]; rfl)
        have HD3 := Lib.hid (show (wr.setCell ⟨w.heap.size + 1 + 1, 0, none⟩ (.int .u8 (dg : Int))).heap[w.heap.size + 1]? = some (.cells (dC 20 st.d) 144 (0, 0)) by rw [Below.heap_setCell _ _ _ _ (by show _ ≠ w.heap.size + 1 + 1; omega)]; exact MD.out)
        have MF3 := Lib.hid (MF.out.setCell (p := ⟨w.heap.size + 1 + 1, 0, none⟩) (by show w.heap.size + 1 ≤ w.heap.size + 1 + 1; omega) (.int .u8 (dg : Int)))
        clear hdge hdg hPN hd1 hd2
        go_wp2_with (first | ((with_reducible refine wpList_load_row rfl 145 _ rfl (w.heap.size + 1 + 1) ?e1 145 #[.int .u8 (PN 0), .int .u8 (PN 1), .int .u8 (PN 2), .int .u8 (PN 3)] (0, 0) _ HR.out Tryz.underlying145 ?e2 ?e3 ?_); (case e1 => rfl); (case e2 => rfl); (case e3 => kernel_rfl)) | (go_at_call 157; refine (copy4_any (w.heap.size + 1) st.d PN 0 _ (by decide) HD3.out).mono ?_))
        rintro e w4 ⟨rfl, hd4, hgr⟩
        have MF4 := Lib.hid (MF3.out.grown hgr (by have := heap_lt HD3.out; omega) (fun k hk => by cases hk; omega))
        have hpn : ∀ j, PN j < 10 := fun j => by rw [← HPN.out]; exact pend_small HSM.out.now HSM.out.hi j
        have hds : ∀ q, Num.put4 st.d PN 0 q < 10 := put4_small HSM.out.d hpn 0
        have hdef : Num.put4 st.d PN 0 = Num.put4 st.d (Num.pend st.now st.dig) 0 := by rw [HPN.out]
        obtain ⟨D, hD⟩ : ∃ D, Num.put4 st.d PN 0 = D := ⟨_, rfl⟩
        rw [hD] at hd4 hds hdef
        have HDS := Lib.hid hds
        have HDD := Lib.hid hdef
        have HD4 := Lib.hid hd4
        have hs4 := heap_lt hd4
        clear hd4 hgr HR HD3 MF3 hD hdef hds hpn
        go_wp2_with fail
        go_loopw [78] (fun iv wl => ∃ k : Nat, k ≤ 20 ∧ iv = .int .i64 k ∧ Bldr w4.heap.size w4.heap.size ((List.range k).map fun i => UInt8.ofNat (48 + D (19 - i))) wl ∧ Below w4.heap.size w4 wl) (fun iv _ => 20 - (intOf iv).toNat)
        case atStart => exact ⟨0, by omega, rfl, Lib.IsBuilderF.of (Lib.fresh_isBuilder 86 5 w4), (Below.refl _ _).alloc (Nat.le_refl _) _⟩
        case round =>
          obtain ⟨k, hk, rfl, hI, hb⟩ := hrel
          have HBl := Lib.hid hI
          have HBe := Lib.hid hb
          have hsw := hb.size
          clear hI hb
          by_cases hk20 : k < 20
          · obtain ⟨q, hq⟩ : ∃ q : Nat, q = 19 - k := ⟨_, rfl⟩
            have hqi : (19 : Int) - (k : Int) = (q : Int) := by omega
            have hq20 : q < 20 := by omega
            have hdq := HDS.out q
            obtain ⟨c, hc⟩ : ∃ c : UInt8, c = UInt8.ofNat (48 + D q) := ⟨_, rfl⟩
            have hcw : IntKind.u8.wrap (48 + (D q : Int)) = (c.toNat : Int) := by
              rw [hc, UInt8.toNat_ofNat', IntKind.wrap_u8]; omega
            have cn : wr.cell? ⟨w.heap.size + 1, q, none⟩ = some (.int .u8 (D q)) := by rw [Lib.cell_of_heap ((HBe.out.block _ hs4).trans HD4.out)]; exact dC_get 20 _ q hq20
            have HC := Lib.hid (show (List.range (k + 1)).map (fun i => UInt8.ofNat (48 + D (19 - i))) = (List.range k).map (fun i => UInt8.ofNat (48 + D (19 - i))) ++ [c] by rw [List.range_succ, List.map_append, hc, hq]; rfl)
            have hll : ((List.range k).map (fun i => UInt8.ofNat (48 + D (19 - i)))).length = k := by simp
            clear hc hq hdq
            go_wp2_with fail
            refine (write_byte w4.heap.size w4.heap.size _ c _ HBl.out (by rw [hll]; omega) hsw).mono ?_
            rintro e w5 ⟨rfl, hB5, hb5, _⟩
            rw [← HC.out] at hB5
            have HB5 := Lib.hid hB5
            have HE5 := Lib.hid (HBe.out.trans hb5)
            clear hB5 hb5
            go_wp2_with fail
            go_roundw
            case rel => exact ⟨k + 1, by omega, by go_num, HB5.out, HE5.out⟩
            case measure => simp [intOf]; omega
          · obtain rfl : k = 20 := by omega
            obtain ⟨L, hL⟩ : ∃ L, (List.range 20).map (fun i => UInt8.ofNat (48 + D (19 - i))) = L := ⟨_, rfl⟩
            have hbl := HBl.out
            rw [hL] at hbl
            have HBl2 := Lib.hid hbl
            obtain ⟨X, hX⟩ : ∃ X, Num.rdTry f l = X := ⟨_, rfl⟩
            obtain ⟨b, hbx⟩ : ∃ b, Is b X := ⟨_, Is.mk _⟩
            have hXL : Lib.trimLeftB L 48 = X := by rw [← hX, ← hL]; unfold Num.rdTry Num.rdOut; rw [← HE.out, ← HDD.out]; rfl
            have HXL := Lib.hid (show (⟨(Lib.trimLeftB (⟨L.toArray⟩ : ByteArray).data.toList 48).toArray⟩ : ByteArray) = b by
              show (⟨(Lib.trimLeftB L.toArray.toList 48).toArray⟩ : ByteArray) = b
              rw [List.toList_toArray, hXL]; exact (Is.mk X).eq hbx)
            have hbs : b.size ≤ 20 := by
              rw [hbx.size, ← hXL, ← hL]
              exact Nat.le_trans (List.dropWhile_sublist _).length_le (by simp)
            have HBX := Lib.hid hbx
            have HX := Lib.hid hX
            clear hL hbl hbx hX hXL HBl
            go_wp2_with fail
            refine (bld_string w4.heap.size w4.heap.size _ _ HBl2.out hsw).mono ?_
            rintro e w5 ⟨rfl, _, hb5, _⟩
            have HE5 := Lib.hid (HBe.out.trans hb5)
            have MF5 := Lib.hid (MF4.out.trans (HE5.out.mono (by omega)))
            have T5 := Lib.hid ((HT.out.below ((Below.refl _ w).alloc (Nat.le_refl _) (.cells (styleC f) 111)) (Nat.le_refl _)).below MF5.out (by simp))
            have S5 := Lib.hid (show w5.heap[w.heap.size]? = some (.cells (styleC f) 111 (0, 0)) by rw [MF5.out.block w.heap.size (by omega)]; exact (MapKept.heap_alloc w _).1)
            clear hb5
            go_wp2_with fail
            refine (Tryz.strings_TrimLeft_one _ 48 (by decide) _).mono ?_
            rintro e w6 ⟨rfl, rfl⟩
            rw [HXL.out]
            go_wp2_with (((with_reducible refine wpList_load_row rfl 111 _ rfl w.heap.size ?e1 111 (styleC f) (0, 0) _ S5.out Tryz.underlying111 ?e2 ?e3 ?_); (case e1 => rfl); (case e2 => rfl); (case e3 => cases f <;> kernel_rfl)))
            refine (write_any f b X _ HBX.out (by omega) T5.out).mono ?_
            rintro e w7 ⟨t, ht, rfl, hb7⟩
            have HB7 := Lib.hid ((MF5.out.trans (hb7.mono (by have := MF5.out.size; simp at this; omega))))
            have HTX := Lib.hid ht
            clear ht hb7
            cases hv : Num.valid X
            · have HO := Lib.hid (show decide (Num.rdOk f l) = false by rw [decide_eq_false_iff_not]; unfold Num.rdOk; rw [HX.out, hv]; simp)
              clear hv
              go_wp2_with fail
              go_ret2
              exact ⟨b, by rw [HX.out]; exact HBX.out, by rw [HO.out]; rfl, ((Below.refl _ w).alloc (Nat.le_refl _) _).trans (HB7.out.mono (by omega))⟩
            · by_cases he : Num.writ f X = l
              · have HO := Lib.hid (show decide (Num.rdOk f l) = true by rw [decide_eq_true_iff]; unfold Num.rdOk; rw [HX.out]; exact ⟨hv, he⟩)
                obtain rfl : t = s := HTX.out.eq (by unfold wrt; rw [if_pos hv, he]; exact HI.out)
                clear hv he
                go_wp2_with fail
                go_ret2
                exact ⟨b, by rw [HX.out]; exact HBX.out, by rw [HO.out]; rfl, ((Below.refl _ w).alloc (Nat.le_refl _) _).trans (HB7.out.mono (by omega))⟩
              · have HO := Lib.hid (show decide (Num.rdOk f l) = false by rw [decide_eq_false_iff_not]; unfold Num.rdOk; rw [HX.out]; exact fun h => he h.2)
                have hne : (t.toList == s.toList) = false := by
                  rw [HTX.out.list, HI.out.list, beq_eq_false_iff_ne]
                  unfold wrt
                  rw [if_pos hv]
                  exact he
                clear hv he
                go_wp2_with fail
                go_ret2
                exact ⟨b, by rw [HX.out]; exact HBX.out, by rw [HO.out]; rfl, ((Below.refl _ w).alloc (Nat.le_refl _) _).trans (HB7.out.mono (by omega))⟩
      · have hdge : st.dig = -1 := by omega
        obtain ⟨PN, hPN⟩ : ∃ PN, st.now = PN := ⟨_, rfl⟩
        have HPN := Lib.hid (show Num.pend st.now st.dig = PN by unfold Num.pend; rw [if_neg hdg, ← hPN])
        rw [hdge]
        have HR := Lib.hid (show wr.heap[w.heap.size + 1 + 1]? = some (.cells #[.int .u8 (PN 0), .int .u8 (PN 1), .int .u8 (PN 2), .int .u8 (PN 3)] 145 (0, 0)) by rw [MN.out, hPN]; rfl)
        have HD3 := MD
        have MF3 := MF
        clear hdge hdg hPN hd1 hd2
        go_wp2_with (first | ((with_reducible refine wpList_load_row rfl 145 _ rfl (w.heap.size + 1 + 1) ?e1 145 #[.int .u8 (PN 0), .int .u8 (PN 1), .int .u8 (PN 2), .int .u8 (PN 3)] (0, 0) _ HR.out Tryz.underlying145 ?e2 ?e3 ?_); (case e1 => rfl); (case e2 => rfl); (case e3 => kernel_rfl)) | (go_at_call 157; refine (copy4_any (w.heap.size + 1) st.d PN 0 _ (by decide) HD3.out).mono ?_))
        rintro e w4 ⟨rfl, hd4, hgr⟩
        have MF4 := Lib.hid (MF3.out.grown hgr (by have := heap_lt HD3.out; omega) (fun k hk => by cases hk; omega))
        have hpn : ∀ j, PN j < 10 := fun j => by rw [← HPN.out]; exact pend_small HSM.out.now HSM.out.hi j
        have hds : ∀ q, Num.put4 st.d PN 0 q < 10 := put4_small HSM.out.d hpn 0
        have hdef : Num.put4 st.d PN 0 = Num.put4 st.d (Num.pend st.now st.dig) 0 := by rw [HPN.out]
        obtain ⟨D, hD⟩ : ∃ D, Num.put4 st.d PN 0 = D := ⟨_, rfl⟩
        rw [hD] at hd4 hds hdef
        have HDS := Lib.hid hds
        have HDD := Lib.hid hdef
        have HD4 := Lib.hid hd4
        have hs4 := heap_lt hd4
        clear hd4 hgr HR HD3 MF3 hD hdef hds hpn
        go_wp2_with fail
        go_loopw [78] (fun iv wl => ∃ k : Nat, k ≤ 20 ∧ iv = .int .i64 k ∧ Bldr w4.heap.size w4.heap.size ((List.range k).map fun i => UInt8.ofNat (48 + D (19 - i))) wl ∧ Below w4.heap.size w4 wl) (fun iv _ => 20 - (intOf iv).toNat)
        case atStart => exact ⟨0, by omega, rfl, Lib.IsBuilderF.of (Lib.fresh_isBuilder 86 5 w4), (Below.refl _ _).alloc (Nat.le_refl _) _⟩
        case round =>
          obtain ⟨k, hk, rfl, hI, hb⟩ := hrel
          have HBl := Lib.hid hI
          have HBe := Lib.hid hb
          have hsw := hb.size
          clear hI hb
          by_cases hk20 : k < 20
          · obtain ⟨q, hq⟩ : ∃ q : Nat, q = 19 - k := ⟨_, rfl⟩
            have hqi : (19 : Int) - (k : Int) = (q : Int) := by omega
            have hq20 : q < 20 := by omega
            have hdq := HDS.out q
            obtain ⟨c, hc⟩ : ∃ c : UInt8, c = UInt8.ofNat (48 + D q) := ⟨_, rfl⟩
            have hcw : IntKind.u8.wrap (48 + (D q : Int)) = (c.toNat : Int) := by
              rw [hc, UInt8.toNat_ofNat', IntKind.wrap_u8]; omega
            have cn : wr.cell? ⟨w.heap.size + 1, q, none⟩ = some (.int .u8 (D q)) := by rw [Lib.cell_of_heap ((HBe.out.block _ hs4).trans HD4.out)]; exact dC_get 20 _ q hq20
            have HC := Lib.hid (show (List.range (k + 1)).map (fun i => UInt8.ofNat (48 + D (19 - i))) = (List.range k).map (fun i => UInt8.ofNat (48 + D (19 - i))) ++ [c] by rw [List.range_succ, List.map_append, hc, hq]; rfl)
            have hll : ((List.range k).map (fun i => UInt8.ofNat (48 + D (19 - i)))).length = k := by simp
            clear hc hq hdq
            go_wp2_with fail
            refine (write_byte w4.heap.size w4.heap.size _ c _ HBl.out (by rw [hll]; omega) hsw).mono ?_
            rintro e w5 ⟨rfl, hB5, hb5, _⟩
            rw [← HC.out] at hB5
            have HB5 := Lib.hid hB5
            have HE5 := Lib.hid (HBe.out.trans hb5)
            clear hB5 hb5
            go_wp2_with fail
            go_roundw
            case rel => exact ⟨k + 1, by omega, by go_num, HB5.out, HE5.out⟩
            case measure => simp [intOf]; omega
          · obtain rfl : k = 20 := by omega
            obtain ⟨L, hL⟩ : ∃ L, (List.range 20).map (fun i => UInt8.ofNat (48 + D (19 - i))) = L := ⟨_, rfl⟩
            have hbl := HBl.out
            rw [hL] at hbl
            have HBl2 := Lib.hid hbl
            obtain ⟨X, hX⟩ : ∃ X, Num.rdTry f l = X := ⟨_, rfl⟩
            obtain ⟨b, hbx⟩ : ∃ b, Is b X := ⟨_, Is.mk _⟩
            have hXL : Lib.trimLeftB L 48 = X := by rw [← hX, ← hL]; unfold Num.rdTry Num.rdOut; rw [← HE.out, ← HDD.out]; rfl
            have HXL := Lib.hid (show (⟨(Lib.trimLeftB (⟨L.toArray⟩ : ByteArray).data.toList 48).toArray⟩ : ByteArray) = b by
              show (⟨(Lib.trimLeftB L.toArray.toList 48).toArray⟩ : ByteArray) = b
              rw [List.toList_toArray, hXL]; exact (Is.mk X).eq hbx)
            have hbs : b.size ≤ 20 := by
              rw [hbx.size, ← hXL, ← hL]
              exact Nat.le_trans (List.dropWhile_sublist _).length_le (by simp)
            have HBX := Lib.hid hbx
            have HX := Lib.hid hX
            clear hL hbl hbx hX hXL HBl
            go_wp2_with fail
            refine (bld_string w4.heap.size w4.heap.size _ _ HBl2.out hsw).mono ?_
            rintro e w5 ⟨rfl, _, hb5, _⟩
            have HE5 := Lib.hid (HBe.out.trans hb5)
            have MF5 := Lib.hid (MF4.out.trans (HE5.out.mono (by omega)))
            have T5 := Lib.hid ((HT.out.below ((Below.refl _ w).alloc (Nat.le_refl _) (.cells (styleC f) 111)) (Nat.le_refl _)).below MF5.out (by simp))
            have S5 := Lib.hid (show w5.heap[w.heap.size]? = some (.cells (styleC f) 111 (0, 0)) by rw [MF5.out.block w.heap.size (by omega)]; exact (MapKept.heap_alloc w _).1)
            clear hb5
            go_wp2_with fail
            refine (Tryz.strings_TrimLeft_one _ 48 (by decide) _).mono ?_
            rintro e w6 ⟨rfl, rfl⟩
            rw [HXL.out]
            go_wp2_with (((with_reducible refine wpList_load_row rfl 111 _ rfl w.heap.size ?e1 111 (styleC f) (0, 0) _ S5.out Tryz.underlying111 ?e2 ?e3 ?_); (case e1 => rfl); (case e2 => rfl); (case e3 => cases f <;> kernel_rfl)))
            refine (write_any f b X _ HBX.out (by omega) T5.out).mono ?_
            rintro e w7 ⟨t, ht, rfl, hb7⟩
            have HB7 := Lib.hid ((MF5.out.trans (hb7.mono (by have := MF5.out.size; simp at this; omega))))
            have HTX := Lib.hid ht
            clear ht hb7
            cases hv : Num.valid X
            · have HO := Lib.hid (show decide (Num.rdOk f l) = false by rw [decide_eq_false_iff_not]; unfold Num.rdOk; rw [HX.out, hv]; simp)
              clear hv
              go_wp2_with fail
              go_ret2
              exact ⟨b, by rw [HX.out]; exact HBX.out, by rw [HO.out]; rfl, ((Below.refl _ w).alloc (Nat.le_refl _) _).trans (HB7.out.mono (by omega))⟩
            · by_cases he : Num.writ f X = l
              · have HO := Lib.hid (show decide (Num.rdOk f l) = true by rw [decide_eq_true_iff]; unfold Num.rdOk; rw [HX.out]; exact ⟨hv, he⟩)
                obtain rfl : t = s := HTX.out.eq (by unfold wrt; rw [if_pos hv, he]; exact HI.out)
                clear hv he
                go_wp2_with fail
                go_ret2
                exact ⟨b, by rw [HX.out]; exact HBX.out, by rw [HO.out]; rfl, ((Below.refl _ w).alloc (Nat.le_refl _) _).trans (HB7.out.mono (by omega))⟩
              · have HO := Lib.hid (show decide (Num.rdOk f l) = false by rw [decide_eq_false_iff_not]; unfold Num.rdOk; rw [HX.out]; exact fun h => he h.2)
                have hne : (t.toList == s.toList) = false := by
                  rw [HTX.out.list, HI.out.list, beq_eq_false_iff_ne]
                  unfold wrt
                  rw [if_pos hv]
                  exact he
                clear hv he
                go_wp2_with fail
                go_ret2
                exact ⟨b, by rw [HX.out]; exact HBX.out, by rw [HO.out]; rfl, ((Below.refl _ w).alloc (Nat.le_refl _) _).trans (HB7.out.mono (by omega))⟩

set_option maxHeartbeats 1000000 in
theorem read_zero (f : Bool) (s : ByteArray) (l : List UInt8) (w : World) (h : Is s l) (h0 : l = Num.zero) :
    Calls Tryz.prog 127 #[.agg (styleC f), .string s] w (Gives true [48] w) := by
  have d2 : (s.toList == [233, 155, 182]) = true := by rw [h.list, beq_iff_eq]; exact h0
  clear h h0
  go_enter Tryz.func127, Tryz.ntmps127
  go_wp2_with fail
  go_ret2
  exact ⟨_, Is.mk [48], rfl, (Below.refl _ w).alloc (Nat.le_refl _) _⟩
theorem read_any (f : Bool) (s : ByteArray) (l : List UInt8) (w : World) (h : Is s l) (hs : s.size ≤ 9223372036854775807) (ht : Tabs w) :
    Calls Tryz.prog 127 #[.agg (styleC f), .string s] w (Gives (Num.rd f l).2 (Num.rd f l).1 w) := by
  by_cases h0 : l = Num.zero
  · have e : Num.rd f l = ([48], true) := by unfold Num.rd; rw [if_pos h0]
    rw [e]; exact read_zero f s l w h h0
  · have e : Num.rd f l = (Num.rdTry f l, decide (Num.rdOk f l)) := by unfold Num.rd; rw [if_neg h0]
    rw [e]; exact read_long f s l w h hs ht h0
end Go.Proofs.YtnpkcobapckhdaaGreatDoor
