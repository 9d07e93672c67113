/-
  henkanref03.Forms by its contract. No condition but the string's own bound.
-/
import Derived.Test.YtnpkcobapckhdaaGreatDoorNarrow
import Derived.Test.YtnpkcobapckhdaaGreatDoorForms
import Derived.Test.YtnpkcobapckhdaaGreatDoorCalLaw
import Derived.Lib.SlBytesRow
namespace Go.Proofs.YtnpkcobapckhdaaGreatDoor
open Go.RowKit

theorem Strs.mono {B B' : Nat} {v : Value} {xs : List ByteArray} {w : World} (h : Strs B v xs w) (hB : B' ≤ B) : Strs B' v xs w := by
  obtain ⟨h1, h2 | ⟨g, cap, cur, hv, hB', r⟩⟩ := h
  · exact ⟨h1, .inl h2⟩
  · exact ⟨h1, .inr ⟨g, cap, cur, hv, Nat.le_trans hB hB', r⟩⟩
theorem dig_val {c : UInt8} (h : Num.isD c = true) : (c.toNat : Int) = (Num.val c : Int) + 48 ∧ Num.val c < 10 := by
  rw [isD_iff] at h
  unfold Num.val
  omega

theorem bel_dr {B : Nat} {a w : World} (h : Below B a w) (q : Nat) : Below B a (w.drewN q) := h.trans ⟨rfl, rfl, rfl, Nat.le_refl _, fun _ _ => rfl⟩
/-- once: the text Y is none of the first j -/
def Once (o : Bool) (Y : List UInt8) (outs : List ByteArray) (j : Nat) : Prop := o = true ↔ Y ∉ (outs.take j).map (·.data.toList)
theorem once_0 (Y : List UInt8) (outs : List ByteArray) : Once true Y outs 0 := by unfold Once; simp
theorem once_step {o : Bool} {Y : List UInt8} {outs : List ByteArray} {j : Nat} {z : ByteArray} (hz : outs[j]? = some z) (h : Once o Y outs j) : Once (o && !(decide (z.data.toList = Y))) Y outs (j + 1) := by
  unfold Once at *
  rw [List.take_add_one, hz, List.map_append, List.mem_append, not_or, ← h, Bool.and_eq_true, Bool.not_eq_true', decide_eq_false_iff_not]
  simp only [Option.toList_some, List.map_cons, List.map_nil, List.mem_singleton]
  constructor
  · rintro ⟨a, b⟩; exact ⟨a, fun e => b e.symm⟩
  · rintro ⟨a, b⟩; exact ⟨a, fun e => b e.symm⟩
theorem fold_step (six : List (List UInt8)) (k : Nat) (x : List UInt8) (h : six[k]? = some x) : (six.take (k + 1)).foldl Num.addU [] = Num.addU ((six.take k).foldl Num.addU []) x := by
  rw [List.take_add_one, h]
  simp [List.foldl_append]
theorem addU_new {L : List (List UInt8)} {x : List UInt8} (h : x ∉ L) : Num.addU L x = L ++ [x] := if_neg h
theorem addU_old {L : List (List UInt8)} {x : List UInt8} (h : x ∈ L) : Num.addU L x = L := if_pos h
theorem conv3 (w : World) (a b c : UInt8) : (Go.convert 84 9 (.slice (some ⟨w.heap.size, 0, none⟩) 3 3)).run Tryz.prog (w.alloc (.cells #[.int .u8 (a.toNat : Int), .int .u8 (b.toNat : Int), .int .u8 (c.toNat : Int)] 5)) = .ok (.string ⟨#[a, b, c]⟩) (w.alloc (.cells #[.int .u8 (a.toNat : Int), .int .u8 (b.toNat : Int), .int .u8 (c.toNat : Int)] 5)) := by
  have hb := (MapKept.heap_alloc w (.cells #[.int .u8 (a.toNat : Int), .int .u8 (b.toNat : Int), .int .u8 (c.toNat : Int)] 5)).1
  refine Lib.run_convert_whole (P := Tryz.prog) _ 84 5 9 Tryz.underlying84 Tryz.underlying5 Tryz.underlying9 w.heap.size 0 (⟨#[a, b, c]⟩ : ByteArray) (fun i hi => ?_) 3
  have h3 : i < 3 := hi
  rw [Lib.cell_of_heap hb, Nat.zero_add]
  have h1 : i = 0 ∨ i = 1 ∨ i = 2 := by omega
  rcases h1 with rfl | rfl | rfl <;> rfl
theorem conv_wide (w : World) (n : Nat) (hn : n < 10) : (Go.convert 84 9 (.slice (some ⟨w.heap.size, 0, none⟩) 3 3)).run Tryz.prog (w.alloc (.cells #[.int .u8 239, .int .u8 188, .int .u8 (144 + ((n : Int) + 48) - 48)] 5)) = .ok (.string ⟨#[239, 188, (144 + n).toUInt8]⟩) (w.alloc (.cells #[.int .u8 239, .int .u8 188, .int .u8 (144 + ((n : Int) + 48) - 48)] 5)) := by
  have h := conv3 w 239 188 (144 + n).toUInt8
  have e : (((144 + n).toUInt8.toNat : Nat) : Int) = 144 + ((n : Int) + 48) - 48 := by
    have : (144 + n).toUInt8.toNat = (144 + n) % 256 := rfl
    omega
  rw [e] at h
  exact h
set_option maxRecDepth 100000 in
set_option maxHeartbeats 4000000 in
theorem rforms_any (s : ByteArray) (l : List UInt8) (w : World) (h : Is s l) (hs : s.size ≤ 140737488351232) :
    Calls Tryz.prog 36 #[.string s] w (GivesList (Num.forms l) w) := by
  have HI := Lib.hid h
  clear h
  go_enter Tryz.func36, Tryz.ntmps36
  go_wp2_with fail
  refine (narrow_any s l _ HI.out hs).mono ?_
  rintro e w1 ⟨b, ok, rfl, rfl, hn⟩
  cases hnar : Num.nar l with
  | none =>
    rw [hnar] at hn
    dsimp only at hn
    subst hn
    have HF := Lib.hid (show Num.forms l = [] by unfold Num.forms; rw [hnar])
    clear hnar
    go_wp2_with fail
    go_ret
    exact ⟨_, [], HF.out.symm ▸ rfl, Strs.nil _ _, rfl, Below.refl _ _⟩
  | some d =>
    rw [hnar] at hn
    dsimp only at hn
    obtain ⟨hbd, rfl⟩ := hn
    have HBD := Lib.hid hbd
    cases hv : Num.valid d
    · have HF := Lib.hid (show Num.forms l = [] by unfold Num.forms; rw [hnar]; dsimp only; rw [hv]; rfl)
      clear hv hnar hbd
      go_wp2_with fail
      go_ret
      exact ⟨_, [], HF.out.symm ▸ rfl, Strs.nil _ _, rfl, Below.refl _ _⟩
    · have HV := Lib.hid hv
      have HF := Lib.hid (show Num.forms l = Num.formsOf d by unfold Num.forms; rw [hnar]; dsimp only; rw [hv]; rfl)
      have HZ := Lib.hid hbd.size
      have hb20 : b.size ≤ 20 := by rw [hbd.size]; exact ((Num.valid_iff d).1 hv).2.1
      clear hv hnar hbd
      go_wp2_with fail
      go_loopw [5, 6] (fun xv iv wr => ∃ (k : Nat) (acc : List UInt8) (x : ByteArray), k ≤ b.size ∧ iv = .int .i64 k ∧ xv = .string x ∧ Is x acc ∧ MapRel wideCh d k acc ∧ Below w.heap.size w wr) (fun _ iv _ => b.size - (intOf iv).toNat)
      case atStart => exact ⟨0, [], ⟨#[]⟩, by omega, rfl, rfl, Is.mk [], rfl, Below.refl _ _⟩
      case round =>
        obtain ⟨k, acc, x, hk, rfl, rfl, hx, hr, hb⟩ := hrel
        have HX := Lib.hid hx
        have HR := Lib.hid hr
        have HB := Lib.hid hb
        have hsw := hb.size
        have hxz : x.size ≤ 60 := by rw [hx.size]; exact mapRel_len (fun _ => Nat.le_refl _) hr (by rw [← HZ.out]; exact hb20)
        clear hx hr hb
        by_cases hlt : k < b.size
        · have hg := HBD.out.get k hlt
          have hdig := List.all_eq_true.1 ((Num.valid_iff d).1 HV.out).2.2.1 _ (List.mem_of_getElem? hg)
          obtain ⟨hn0, hn9⟩ := dig_val hdig
          obtain ⟨n, hn⟩ : ∃ n, Num.val b[k] = n := ⟨_, rfl⟩
          rw [hn] at hn0 hn9
          have HST := Lib.hid (mapRel_step HR.out hg hn)
          clear hn hdig hg
          have hcv := conv_wide wr n hn9
          obtain ⟨c8, hc8⟩ : ∃ c8 : UInt8, (144 + n).toUInt8 = c8 := ⟨_, rfl⟩
          have HCW := Lib.hid (show Is ⟨#[239, 188, c8]⟩ (wideCh n) by rw [← hc8]; exact Is.mk (wideCh n))
          rw [hc8] at hcv
          clear hc8
          go_wp2_with fail
          go_roundw
          case rel => exact ⟨k + 1, acc ++ wideCh n, _, by omega, by go_num, rfl, HX.out.append HCW.out, HST.out, HB.out.alloc hsw _⟩
          case measure => simp [intOf]; omega
        · obtain rfl : k = b.size := by omega
          have HXW := Lib.hid (show Is x (Num.wide d) by
            have hm := HR.out
            rw [HZ.out] at hm
            have := mapRel_end hm
            rw [this] at HX
            exact HX.out)
          have h63 : b.size ≤ 9223372036854775807 := by omega
          go_wp2_with fail
          refine (rcommas_any b d _ HBD.out h63).mono ?_
          rintro e w2 ⟨c, hc, rfl, hb2⟩
          have HC := Lib.hid (show Is c (Num.com true d) by rwa [if_pos HV.out] at hc)
          have HB2 := Lib.hid (HB.out.trans (hb2.mono hsw))
          clear hc hb2
          go_wp2_with fail
          refine (rpositional_any b d _ HBD.out h63).mono ?_
          rintro e w3 ⟨p, hp, rfl, hb3⟩
          have HP := Lib.hid (show Is p (Num.pos d) by rwa [if_pos HV.out] at hp)
          have HB3 := Lib.hid (HB2.out.trans (hb3.mono HB2.out.size))
          clear hp hb3
          go_wp2_with fail
          refine (rkanji_any b d _ HBD.out h63).mono ?_
          rintro e w4 ⟨kk, hkk, rfl, hb4⟩
          have HK := Lib.hid (show Is kk (Num.writ false d) by unfold wrt at hkk; rwa [if_pos HV.out] at hkk)
          have HB4 := Lib.hid (HB3.out.trans (hb4.mono HB3.out.size))
          clear hkk hb4
          go_wp2_with fail
          refine (rformal_any b d _ HBD.out h63).mono ?_
          rintro e w5 ⟨f, hf, rfl, hb5⟩
          have HFF := Lib.hid (show Is f (Num.writ true d) by unfold wrt at hf; rwa [if_pos HV.out] at hf)
          have HB5 := Lib.hid (HB4.out.trans (hb5.mono HB4.out.size))
          clear hf hb5
          go_wp2_with fail
          obtain ⟨i0, hi, hz0, hz1, hz2⟩ := info_parts infoStr
          have hs5 := HB5.out.size
          obtain ⟨ys, hys⟩ : ∃ ys : List ByteArray, ys = [b, x, c, p, kk, f] := ⟨_, rfl⟩
          have HYS := Lib.hid hys
          have HYM := Lib.hid (show ys.map (·.data.toList) = d :: Num.wide d :: Num.four d by
            rw [hys]
            show [b.data.toList, x.data.toList, c.data.toList, p.data.toList, kk.data.toList, f.data.toList] = _
            rw [HBD.out.data, HXW.out.data, HC.out.data, HP.out.data, HK.out.data, HFF.out.data]
            rfl)
          have hyl : ys.length = 6 := by rw [hys]; rfl
          have HYL := Lib.hid hyl
          have HEND := Lib.hid (show (d :: Num.wide d :: Num.four d).foldl Num.addU [] = Num.formsOf d from Num.ref_forms d ((Num.valid_iff d).1 HV.out).1)
          clear hys hyl
          go_loopw [16, 17] (fun ov iv wq => ∃ (k : Nat) (outs : List ByteArray), k ≤ 6 ∧ iv = .int .i64 k ∧ outs.map (·.data.toList) = ((d :: Num.wide d :: Num.four d).take k).foldl Num.addU [] ∧ outs.length ≤ k ∧ Strs (w5.heap.size + 1) ov outs wq ∧ wq.heap[w5.heap.size]? = some (.cells (ys.map Value.string).toArray 9 (0, 0)) ∧ Below w.heap.size w wq) (fun _ iv _ => 6 - (intOf iv).toNat)
          case atStart =>
            exact ⟨0, [], by omega, rfl, rfl, by simp, Strs.nil _ _, by rw [HYS.out]; exact (MapKept.heap_alloc w5 _).1, HB5.out.alloc hs5 _⟩
          case round =>
            obtain ⟨wo, rfl⟩ : ∃ wo : World, wo = wr := ⟨_, rfl⟩
            obtain ⟨k, outs, hk, rfl, hm, hol, ho, hl, hb⟩ := hrel
            have HM := Lib.hid hm
            have HB := Lib.hid hb
            have hsw2 := hb.size
            have HLB := Lib.hid hl
            have HO := Lib.hid ho
            have hl5 := heap_lt hl
            obtain ⟨ao, cap, rfl⟩ := ho.frame
            by_cases hk6 : k < 6
            · obtain ⟨y, hy⟩ : ∃ y, ys[k]? = some y := ⟨_, List.getElem?_eq_getElem (by rw [HYL.out]; exact hk6)⟩
              have hcell : wo.cell? ⟨w5.heap.size, k, none⟩ = some (.string y) := by
                rw [Lib.cell_of_heap hl, List.getElem?_toArray, List.getElem?_map, hy]; rfl
              have HLIES := Lib.hid ho.lies
              have HY := Lib.hid hy
              have HSTEP := Lib.hid (fold_step (d :: Num.wide d :: Num.four d) k y.data.toList (by rw [← HYM.out, List.getElem?_map, hy]; rfl))
              have hown : wo.ownsRow (w5.heap.size + 1) 9 1 _ outs.length (outs.map Value.string) := ho
              have HOWN := Lib.hid hown
              clear hm ho hl hb hy hown
              obtain ⟨n, hn⟩ : ∃ n, outs.length = n := ⟨_, rfl⟩
              have HN := Lib.hid hn
              have hn6 : n ≤ 6 := by omega
              have hkd : decide ((k : Int) < 6) = true := by simp; omega
              rw [hn]
              have HOL := Lib.hid hol
              clear hn hol
              go_wp2_with fail
              go_loopw [18, 19] (fun ov iv wq => ∃ (j : Nat) (o : Bool) (q : Nat), j ≤ n ∧ iv = .int .i64 j ∧ ov = .bool o ∧ Once o y.data.toList outs j ∧ wq = wo.drewN q) (fun _ iv _ => n - (intOf iv).toNat)
              case atStart => exact ⟨0, true, 0, by omega, rfl, rfl, once_0 _ _, rfl⟩
              case round =>
                obtain ⟨j, o, q, hj, rfl, rfl, hoj, rfl⟩ := hrel
                have HOJ := Lib.hid hoj
                clear hoj
                by_cases hjn : j < n
                · obtain ⟨ao2, cap2, hv2, hc2⟩ := HLIES.out
                  obtain ⟨g, hg, hgc⟩ := hc2 j (by rw [HN.out]; exact hjn)
                  injection hv2 with hv3 hv4 hv5
                  subst hv3
                  subst hv5
                  subst hg
                  clear hv4
                  obtain ⟨z, hz⟩ : ∃ z, outs.getD j ⟨#[]⟩ = z := ⟨_, rfl⟩
                  rw [hz] at hgc
                  have HZJ := Lib.hid (show outs[j]? = some z by
                    have hjl : j < outs.length := by rw [HN.out]; exact hjn
                    rw [← hz, List.getD_eq_getElem?_getD, List.getElem?_eq_getElem hjl]; rfl)
                  clear hz hc2
                  cases o
                  · go_wp2_with fail
                    go_quiet (fail)
                    go_wp2_with fail
                    go_roundw
                    case rel => exact ⟨j + 1, false, _, by omega, by go_num, rfl, once_step HZJ.out HOJ.out, rfl⟩
                    case measure => simp [intOf]; omega
                  · by_cases hzy : z.data.toList = y.data.toList
                    · have hb1 : (z.toList == y.toList) = true := by rw [Lib.toList_data, Lib.toList_data, hzy]; exact beq_self_eq_true _
                      go_wp2_with fail
                      go_quiet (fail)
                      have HIFF := Lib.hid (show Once false y.data.toList outs (j + 1) by
                        have h := once_step HZJ.out HOJ.out
                        rw [decide_eq_true hzy] at h
                        exact h)
                      go_wp2_with fail
                      go_roundw
                      case rel => exact ⟨j + 1, false, _, by omega, by go_num, rfl, HIFF.out, rfl⟩
                      case measure => simp [intOf]; omega
                    · have hb1 : (z.toList == y.toList) = false := by rw [Lib.toList_data, Lib.toList_data, beq_eq_false_iff_ne]; exact hzy
                      have HIFF := Lib.hid (show Once true y.data.toList outs (j + 1) by
                        have h := once_step HZJ.out HOJ.out
                        rw [decide_eq_false hzy] at h
                        exact h)
                      go_wp2_with fail
                      go_quiet (fail)
                      go_wp2_with fail
                      go_roundw
                      case rel => exact ⟨j + 1, true, _, by omega, by go_num, rfl, HIFF.out, rfl⟩
                      case measure => simp [intOf]; omega
                · have HOE := Lib.hid (show o = true ↔ y.data.toList ∉ ((d :: Num.wide d :: Num.four d).take k).foldl Num.addU [] by
                    have h := HOJ.out
                    unfold Once at h
                    rw [List.take_of_length_le (by rw [HN.out]; omega), HM.out] at h
                    exact h)
                  cases o
                  · have HE := Lib.hid (show ((d :: Num.wide d :: Num.four d).take (k + 1)).foldl Num.addU [] = ((d :: Num.wide d :: Num.four d).take k).foldl Num.addU [] by
                      rw [HSTEP.out, addU_old (by
                        have h := HOE.out
                        simp only [Bool.false_eq_true, false_iff, Classical.not_not] at h
                        exact h)])
                    go_wp2_with fail
                    go_roundw
                    case rel => exact ⟨k + 1, outs, by omega, by go_num, by rw [HE.out]; exact HM.out, by have := HOL.out; omega, (by have := HO.out.drewN q; rw [HN.out] at this; exact this), HLB.out, bel_dr HB.out q⟩
                    case measure => simp [intOf]; omega
                  · have HE := Lib.hid (show ((d :: Num.wide d :: Num.four d).take (k + 1)).foldl Num.addU [] = ((d :: Num.wide d :: Num.four d).take k).foldl Num.addU [] ++ [y.data.toList] by
                      rw [HSTEP.out, addU_new (HOE.out.1 rfl)])
                    have hown : (wo.drewN q).ownsRow (w5.heap.size + 1) 9 1 (.slice ao n cap) n (outs.map Value.string) := by have h := HOWN.out; rw [HN.out] at h; exact h
                    have HOWN2 := Lib.hid hown
                    have hwoq : (wo.drewN q).heap.size = wo.heap.size := rfl
                    clear hown
                    go_wp2_with (at_builtin; refine wpList_append_own _ rfl _ _ 23 rfl (w5.heap.size + 1) 9 i0 (.string ⟨#[]⟩) 1 16 Tryz.underlying23 hi hz0 hz1 hz2 rfl (by decide) _ _ _ rfl (HOWN2.out.alloc _) ⟨wo.heap.size, 0, none⟩ 1 1 [.string y] rfl rfl ?c1 ?c2 ?c3 ?c4 ?c5 ?_)
                    case c1 =>
                      intro j u hj
                      match j, hj with
                      | 0, hj =>
                        simp at hj
                        subst hj
                        exact Lib.cell_of_heap (MapKept.heap_alloc (wo.drewN q) (.cells #[.string y] 9)).1 0
                    case c2 => first | rfl | (intro u hu; simp at hu; subst hu; rfl)
                    case c3 => unfold maxLen; omega
                    case c4 => omega
                    case c5 => first | omega | (simp; omega)
                    intro v' w7 hown' hgrow _
                    have HX7 := Lib.hid (show Strs (w5.heap.size + 1) v' (outs ++ [y]) w7 by
                      refine strs_snoc ?_
                      rw [HN.out]; exact hown')
                    have HB7 := Lib.hid (show Below w.heap.size w w7 from ((bel_dr HB.out q).alloc hsw2 _).grown hgrow (by simp; omega) (fun k hk => by have := (HOWN2.out.lt k hk).1; omega))
                    have F7 := Lib.hid (show w7.heap[w5.heap.size]? = some (.cells (ys.map Value.string).toArray 9 (0, 0)) by
                      rw [hgrow.block _ (by simp; omega) (fun e => by have := (HOWN2.out.lt _ e.symm).1; omega), Lib.alloc_old (wo.drewN q) _ _ hl5]
                      exact HLB.out)
                    clear hown' hgrow
                    go_wp2_with fail
                    go_roundw
                    case rel => exact ⟨k + 1, outs ++ [y], by omega, by go_num, by rw [List.map_append, HM.out, HE.out]; rfl, by rw [List.length_append]; have := HOL.out; simp; omega, HX7.out, F7.out, HB7.out⟩
                    case measure => simp [intOf]; omega
            · obtain rfl : k = 6 := by omega
              go_wp2_with fail
              go_ret
              exact ⟨_, outs, by rw [HF.out, HM.out, ← HEND.out]; rfl, HO.out.mono (by omega), rfl, HB.out⟩
end Go.Proofs.YtnpkcobapckhdaaGreatDoor
