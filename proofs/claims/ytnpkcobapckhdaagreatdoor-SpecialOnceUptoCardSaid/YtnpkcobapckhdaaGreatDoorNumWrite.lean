/-
  (numeral.style).write by its contract, at both styles: the number's text; Kanji and Formal. No condition but the string's own bound and the tables.
-/
import Derived.Test.YtnpkcobapckhdaaGreatDoorNumDig
import Derived.BigQuiet
import Derived.Deep.QuietTactic
namespace Go.Proofs.YtnpkcobapckhdaaGreatDoor
open Go.RowKit
def styleC (f : Bool) : Array Value := if f then formalC else plainC

theorem strC_get (l : List (List UInt8)) (i : Nat) (h : i < l.length) : ∃ t, (strC l)[i]? = some (.string t) ∧ Is t (l.getD i []) := by
  refine ⟨⟨(l.getD i []).toArray⟩, ?_, Is.mk _⟩
  unfold strC
  rw [List.getElem?_map, List.getElem?_eq_getElem h, List.getD_eq_getElem?_getD, List.getElem?_eq_getElem h]
  rfl
theorem style_dg (f : Bool) (n : Nat) (h : n < 10) : ∃ t, (styleC f)[n]? = some (.string t) ∧ Is t (Num.dch f n) := by
  have h1 : n = 0 ∨ n = 1 ∨ n = 2 ∨ n = 3 ∨ n = 4 ∨ n = 5 ∨ n = 6 ∨ n = 7 ∨ n = 8 ∨ n = 9 := by omega
  cases f <;> rcases h1 with rfl | rfl | rfl | rfl | rfl | rfl | rfl | rfl | rfl | rfl <;> exact ⟨_, rfl, rfl⟩
theorem style_un (f : Bool) (k : Nat) (h : k < 4) : ∃ t, (styleC f)[10 + k]? = some (.string t) ∧ Is t (Num.uch f k) := by
  have h1 : k = 0 ∨ k = 1 ∨ k = 2 ∨ k = 3 := by omega
  cases f <;> rcases h1 with rfl | rfl | rfl | rfl <;> exact ⟨_, rfl, rfl⟩
theorem style_one (f : Bool) : (styleC f)[14]? = some (.bool f) := by cases f <;> rfl
theorem groups_at (k : Nat) (h : k < 5) : ∃ t, groupsC[k]? = some (.string t) ∧ Is t (Num.gch k) := by
  have h1 : k = 0 ∨ k = 1 ∨ k = 2 ∨ k = 3 ∨ k = 4 := by omega
  rcases h1 with rfl | rfl | rfl | rfl | rfl <;> exact ⟨_, rfl, rfl⟩

/-- what the loop knows of the text: k digits are done -/
def WrRel (f : Bool) (l : List UInt8) (k : Nat) (acc : List UInt8) (sm : Bool) : Prop := acc ++ Num.wr f (l.drop k) sm = Num.wr f l false
theorem wrRel_len {f : Bool} {l : List UInt8} {k : Nat} {acc : List UInt8} {sm : Bool} (h : WrRel f l k acc sm) (h20 : l.length ≤ 20) : acc.length ≤ 180 := by
  have a := congrArg List.length h
  rw [List.length_append] at a
  have b := Num.wr_len f l false
  omega
theorem wrRel_step {f : Bool} {l : List UInt8} {k n p : Nat} {acc out : List UInt8} {sm sm' : Bool} {c : UInt8} (h : WrRel f l k acc sm) (hc : l[k]? = some c) (hn : Num.val c = n) (hp : l.length = k + 1 + p)
    (ho : Num.stepOut f n p ++ Num.stepG n p sm = out) (hs : Num.stepS n p sm = sm') : WrRel f l (k + 1) (acc ++ out) sm' := by
  unfold WrRel at *
  have hk : k < l.length := by omega
  have hd : l.drop k = c :: l.drop (k + 1) := by
    rw [List.drop_eq_getElem_cons hk]
    congr 1
    rw [List.getElem?_eq_getElem hk] at hc
    exact Option.some.inj hc
  have hl : (l.drop (k + 1)).length = p := by rw [List.length_drop]; omega
  rw [hd, Num.wr, hl, hn, ho, hs] at h
  rw [List.append_assoc]; exact h

theorem bldr_drewN {B b : Nat} {l : List UInt8} {w : World} (h : Bldr B b l w) (q : Nat) : Bldr B b l (w.drewN q) := h
theorem lt_of_below {B : Nat} {w w' w'' : World} (h : Below B w w') (h2 : Below B w' w'') (g : B ≤ w.heap.size) : B ≤ w''.heap.size := Nat.le_trans g (Nat.le_trans h.size h2.size)

set_option maxHeartbeats 4000000 in
theorem write_long (f : Bool) (s : ByteArray) (l : List UInt8) (w : World) (h : Is s l) (hs : s.size ≤ 9223372036854775807) (ht : Tabs w) (hv : Num.valid l = true) (h0 : (l == [48]) = false) :
    Calls Tryz.prog 106 #[.agg (styleC f), .string s] w fun e w' => e = .returned (.tuple #[.string ⟨(Num.wr f l false).toArray⟩, .bool true]) ∧ Below w.heap.size w w' := by
  have HI := Lib.hid h
  have HZ := Lib.hid h.size
  have d2 : (s.toList == [48]) = false := by rw [h.list]; exact h0
  have HV := Lib.hid hv
  have HT := Lib.hid ht
  have h20 : s.size ≤ 20 := by rw [h.size]; exact ((Num.valid_iff l).1 hv).2.1
  clear h h0 hv ht
  go_enter Tryz.func106, Tryz.ntmps106
  go_wp2_with fail
  refine (valid_any s l _ HI.out hs).mono ?_
  rintro e w2 ⟨rfl, hb⟩
  rw [HV.out]
  have hsz := hb.size
  have e1 : (w.alloc (.cells (styleC f) 111)).heap.size = w.heap.size + 1 := by simp
  rw [e1] at hsz
  have HR := Lib.hid (show w2.heap[w.heap.size]? = some (.cells (styleC f) 111 (0, 0)) by
    rw [hb.block w.heap.size (by rw [e1]; omega)]; exact (MapKept.heap_alloc w _).1)
  have HT2 := Lib.hid ((HT.out.below ((Below.refl _ w).alloc (Nat.le_refl _) (.cells (styleC f) 111)) (Nat.le_refl _)).below hb (Nat.le_refl _))
  have HB := Lib.hid (((Below.refl _ w).alloc (Nat.le_refl _) (.cells (styleC f) 111)).trans (hb.mono (by rw [e1]; omega)))
  have hg := HT2.out.groups.lt
  clear hb HT e1
  go_wp2_with fail
  go_loopw [7, 18] (fun sv i wr => ∃ (k : Nat) (acc : List UInt8) (sm : Bool), k ≤ s.size ∧ i = .int .i64 k ∧ sv = .bool sm ∧ WrRel f l k acc sm ∧ Bldr w2.heap.size w2.heap.size acc wr ∧ Below w2.heap.size w2 wr) (fun _ i _ => s.size - (intOf i).toNat)
  case atStart => exact ⟨0, [], false, by omega, rfl, rfl, rfl, Lib.IsBuilderF.of (Lib.fresh_isBuilder 86 5 w2), (Below.refl _ _).alloc (Nat.le_refl _) _⟩
  case round =>
    obtain ⟨k, acc, sm, hk, rfl, rfl, hr, hI, hb⟩ := hrel
    have HRel := Lib.hid hr
    have HBl := Lib.hid hI
    have HBe := Lib.hid hb
    have hsw := hb.size
    clear hr hI hb
    have hal : acc.length ≤ 180 := wrRel_len HRel.out (by rw [← HZ.out]; exact h20)
    by_cases hlt : k < s.size
    · have HG := Lib.hid (HI.out.get k hlt)
      have hdig := List.all_eq_true.1 ((Num.valid_iff l).1 HV.out).2.2.1 _ (List.mem_of_getElem? HG.out)
      rw [isD_iff] at hdig
      obtain ⟨n, hn⟩ : ∃ n, Num.val s[k] = n := ⟨_, rfl⟩
      have hn0 : (s[k].toNat : Int) = (n : Int) + 48 := by unfold Num.val at hn; omega
      have hn9 : n < 10 := by omega
      obtain ⟨p, hp⟩ : ∃ p, s.size = k + 1 + p := ⟨s.size - (k + 1), by omega⟩
      have hp0 : (s.size : Int) - 1 - (k : Int) = (p : Int) := by omega
      have hp20 : p < 20 := by omega
      have HP := Lib.hid (show l.length = k + 1 + p by rw [← HZ.out]; exact hp)
      have HN := Lib.hid hn
      obtain ⟨D, hD1, hD2⟩ := style_dg f n hn9
      obtain ⟨U, hU1, hU2⟩ := style_un f (p % 4) (by omega)
      obtain ⟨G, hG1, hG2⟩ := groups_at (p / 4) (by omega)
      have hDl : D.size ≤ 3 := by rw [hD2.size]; exact Num.dch_len _ _
      have hUl : U.size ≤ 3 := by rw [hU2.size]; exact Num.uch_len _ _
      have hGl : G.size ≤ 3 := by rw [hG2.size]; exact Num.gch_len _
      have HD2 := Lib.hid hD2
      have HU2 := Lib.hid hU2
      have HG2 := Lib.hid hG2
      have rowx : wr.heap[w.heap.size]? = some (.cells (styleC f) 111 (0, 0)) := by rw [HBe.out.block _ (by omega)]; exact HR.out
      have cD : wr.cell? ⟨w.heap.size, n, none⟩ = some (.string D) := by rw [Lib.cell_of_heap rowx]; exact hD1
      have cU : wr.cell? ⟨w.heap.size, 10 + p % 4, none⟩ = some (.string U) := by rw [Lib.cell_of_heap rowx]; exact hU1
      have cO : wr.cell? ⟨w.heap.size, 14, none⟩ = some (.bool f) := by rw [Lib.cell_of_heap rowx]; exact style_one f
      have cG : wr.cell? ⟨2, p / 4, none⟩ = some (.string G) := by rw [((HT2.out.groups).below HBe.out hg).cell]; exact hG1
      have hx : w.heap.size < w2.heap.size := by omega
      have hg2 : 2 < w2.heap.size := hg
      clear hn hp hD1 hU1 hG1 hdig rowx hD2 hU2 hG2
      have HD3 : D.data.toList = Num.dch f n := HD2.out
      have HU3 : U.data.toList = Num.uch f (p % 4) := HU2.out
      have HG3 : G.data.toList = Num.gch (p / 4) := HG2.out
      have KD := Lib.hid HD3; have KU := Lib.hid HU3; have KG := Lib.hid HG3
      clear HD3 HU3 HG3
      by_cases hz : n = 0
      · subst hz
        by_cases hp4 : p % 4 = 0
        · have hq : (((p : Int) % 4) == 0) = true := by rw [beq_iff_eq]; omega
          have KP := Lib.hid hp4; clear hp4
          cases sm
          · go_wp2_with fail
            go_quiet (fail)
            go_wp2_with fail
            have HI2 := Lib.hid (bldr_drewN HBl.out nq)
            have HB2 := Lib.hid (below_drewN HBe.out nq)
            have hs2 : w2.heap.size ≤ wr.heap.size := hsw
            have cD2 := cD
            have cU2 := cU
            have cG2 := cG
            go_roundw
            case rel => exact ⟨k + 1, acc ++ ([]), false, by omega, by go_num, rfl, wrRel_step HRel.out HG.out HN.out HP.out (by rw [Num.stepOut, if_pos rfl, Num.stepG, if_neg (by simp)]; rfl) (by rw [Num.stepS, if_pos KP.out]), by rw [List.append_nil]; exact HI2.out, HB2.out⟩
            case measure => simp [intOf]; omega
          · go_wp2_with fail
            go_quiet (fail)
            go_wp2_with fail
            have HI2 := Lib.hid (bldr_drewN HBl.out nq)
            have HB2 := Lib.hid (below_drewN HBe.out nq)
            have hs2 : w2.heap.size ≤ wr.heap.size := hsw
            have cD2 := cD
            have cU2 := cU
            have cG2 := cG
            refine (write_string w2.heap.size w2.heap.size _ G _ HI2.out (by (try simp only [List.length_append]); omega) (by first | exact hs2 | omega)).mono ?_
            rintro e w3 ⟨rfl, hI3, hb3, hk3⟩
            have HI3 := Lib.hid hI3
            have HB3 := Lib.hid (HB2.out.trans hb3)
            have hs3 : w2.heap.size ≤ w3.heap.size := Nat.le_trans hs2 hb3.size
            clear hI3 hb3 hk3
            go_wp2_with fail
            go_roundw
            case rel => exact ⟨k + 1, acc ++ (G.data.toList), false, by omega, by go_num, rfl, wrRel_step HRel.out HG.out HN.out HP.out (by rw [Num.stepOut, if_pos rfl, Num.stepG, if_pos ⟨KP.out, Or.inl rfl⟩, KG.out]; rfl) (by rw [Num.stepS, if_pos KP.out]), HI3.out, HB3.out⟩
            case measure => simp [intOf]; omega
        · have hq : (((p : Int) % 4) == 0) = false := by rw [beq_eq_false_iff_ne]; omega
          have KP := Lib.hid hp4; clear hp4
          go_wp2_with fail
          go_quiet (fail)
          go_wp2_with fail
          have HI2 := Lib.hid (bldr_drewN HBl.out nq)
          have HB2 := Lib.hid (below_drewN HBe.out nq)
          have hs2 : w2.heap.size ≤ wr.heap.size := hsw
          have cD2 := cD
          have cU2 := cU
          have cG2 := cG
          go_roundw
          case rel => exact ⟨k + 1, acc ++ ([]), sm, by omega, by go_num, rfl, wrRel_step HRel.out HG.out HN.out HP.out (by rw [Num.stepOut, if_pos rfl, Num.stepG, if_neg (fun h => KP.out h.1)]; rfl) (by rw [Num.stepS, if_neg KP.out]; simp), by rw [List.append_nil]; exact HI2.out, HB2.out⟩
          case measure => simp [intOf]; omega
      · have hz1 : ((n : Int) != 0) = true := by rw [bne_iff_ne]; omega
        have KZ := Lib.hid hz; clear hz
        by_cases h1 : 1 < n
        · have K1 := Lib.hid h1
          by_cases hp4 : p % 4 = 0
          · have hq : (((p : Int) % 4) == 0) = true := by rw [beq_iff_eq]; omega
            have KP := Lib.hid hp4; clear hp4
            go_wp2_with fail
            go_quiet (fail)
            go_wp2_with fail
            have HI2 := Lib.hid (bldr_drewN HBl.out nq)
            have HB2 := Lib.hid (below_drewN HBe.out nq)
            have hs2 : w2.heap.size ≤ wr.heap.size := hsw
            have cD2 := cD
            have cU2 := cU
            have cG2 := cG
            refine (write_string w2.heap.size w2.heap.size _ D _ HI2.out (by (try simp only [List.length_append]); omega) (by first | exact hs2 | omega)).mono ?_
            rintro e w3 ⟨rfl, hI3, hb3, hk3⟩
            have HI3 := Lib.hid hI3
            have HB3 := Lib.hid (HB2.out.trans hb3)
            have hs3 : w2.heap.size ≤ w3.heap.size := Nat.le_trans hs2 hb3.size
            have cU3 := (hb3.cell (p := ⟨w.heap.size, 10 + p % 4, none⟩) hx).trans cU2
            have cG3 := (hb3.cell (p := ⟨2, p / 4, none⟩) hg2).trans cG2
            clear hI3 hb3 hk3
            go_wp2_with fail
            refine (write_string w2.heap.size w2.heap.size _ U _ HI3.out (by (try simp only [List.length_append]); have : D.data.toList.length = D.size := rfl; omega) (by first | exact hs3 | omega)).mono ?_
            rintro e w4 ⟨rfl, hI4, hb4, hk4⟩
            have HI4 := Lib.hid hI4
            have HB4 := Lib.hid (HB3.out.trans hb4)
            have hs4 : w2.heap.size ≤ w4.heap.size := Nat.le_trans hs3 hb4.size
            have cG4 := (hb4.cell (p := ⟨2, p / 4, none⟩) hg2).trans cG3
            clear hI4 hb4 hk4
            go_wp2_with fail
            refine (write_string w2.heap.size w2.heap.size _ G _ HI4.out (by (try simp only [List.length_append]); have : D.data.toList.length = D.size := rfl; have : U.data.toList.length = U.size := rfl; omega) (by first | exact hs4 | omega)).mono ?_
            rintro e w5 ⟨rfl, hI5, hb5, hk5⟩
            have HI5 := Lib.hid hI5
            have HB5 := Lib.hid (HB4.out.trans hb5)
            have hs5 : w2.heap.size ≤ w5.heap.size := Nat.le_trans hs4 hb5.size
            clear hI5 hb5 hk5
            go_wp2_with fail
            go_roundw
            case rel => exact ⟨k + 1, acc ++ (D.data.toList ++ U.data.toList ++ G.data.toList), false, by omega, by go_num, rfl, wrRel_step HRel.out HG.out HN.out HP.out (by rw [Num.stepOut, if_neg KZ.out, if_pos (Or.inl K1.out), Num.stepG, if_pos ⟨KP.out, Or.inr KZ.out⟩, KD.out, KU.out, KG.out] <;> simp) (by rw [Num.stepS, if_pos KP.out]), by simpa only [List.append_assoc] using HI5.out, HB5.out⟩
            case measure => simp [intOf]; omega
          · have hq : (((p : Int) % 4) == 0) = false := by rw [beq_eq_false_iff_ne]; omega
            have KP := Lib.hid hp4; clear hp4
            go_wp2_with fail
            go_quiet (fail)
            go_wp2_with fail
            have HI2 := Lib.hid (bldr_drewN HBl.out nq)
            have HB2 := Lib.hid (below_drewN HBe.out nq)
            have hs2 : w2.heap.size ≤ wr.heap.size := hsw
            have cD2 := cD
            have cU2 := cU
            have cG2 := cG
            refine (write_string w2.heap.size w2.heap.size _ D _ HI2.out (by (try simp only [List.length_append]); omega) (by first | exact hs2 | omega)).mono ?_
            rintro e w3 ⟨rfl, hI3, hb3, hk3⟩
            have HI3 := Lib.hid hI3
            have HB3 := Lib.hid (HB2.out.trans hb3)
            have hs3 : w2.heap.size ≤ w3.heap.size := Nat.le_trans hs2 hb3.size
            have cU3 := (hb3.cell (p := ⟨w.heap.size, 10 + p % 4, none⟩) hx).trans cU2
            clear hI3 hb3 hk3
            go_wp2_with fail
            refine (write_string w2.heap.size w2.heap.size _ U _ HI3.out (by (try simp only [List.length_append]); have : D.data.toList.length = D.size := rfl; omega) (by first | exact hs3 | omega)).mono ?_
            rintro e w4 ⟨rfl, hI4, hb4, hk4⟩
            have HI4 := Lib.hid hI4
            have HB4 := Lib.hid (HB3.out.trans hb4)
            have hs4 : w2.heap.size ≤ w4.heap.size := Nat.le_trans hs3 hb4.size
            clear hI4 hb4 hk4
            go_wp2_with fail
            go_roundw
            case rel => exact ⟨k + 1, acc ++ (D.data.toList ++ U.data.toList), true, by omega, by go_num, rfl, wrRel_step HRel.out HG.out HN.out HP.out (by rw [Num.stepOut, if_neg KZ.out, if_pos (Or.inl K1.out), Num.stepG, if_neg (fun h => KP.out h.1), KD.out, KU.out] <;> simp) (by rw [Num.stepS, if_neg KP.out]; simp [KZ.out]), by simpa only [List.append_assoc] using HI4.out, HB4.out⟩
            case measure => simp [intOf]; omega
        · have h1b : n ≤ 1 := by omega
          have K1 := Lib.hid h1; clear h1
          cases f
          · by_cases hp4 : p % 4 = 0
            · have hq : (((p : Int) % 4) == 0) = true := by rw [beq_iff_eq]; omega
              have KP := Lib.hid hp4; clear hp4
              go_wp2_with fail
              go_quiet (fail)
              go_wp2_with fail
              have HI2 := Lib.hid (bldr_drewN HBl.out nq)
              have HB2 := Lib.hid (below_drewN HBe.out nq)
              have hs2 : w2.heap.size ≤ wr.heap.size := hsw
              have cD2 := cD
              have cU2 := cU
              have cG2 := cG
              refine (write_string w2.heap.size w2.heap.size _ D _ HI2.out (by (try simp only [List.length_append]); omega) (by first | exact hs2 | omega)).mono ?_
              rintro e w3 ⟨rfl, hI3, hb3, hk3⟩
              have HI3 := Lib.hid hI3
              have HB3 := Lib.hid (HB2.out.trans hb3)
              have hs3 : w2.heap.size ≤ w3.heap.size := Nat.le_trans hs2 hb3.size
              have cU3 := (hb3.cell (p := ⟨w.heap.size, 10 + p % 4, none⟩) hx).trans cU2
              have cG3 := (hb3.cell (p := ⟨2, p / 4, none⟩) hg2).trans cG2
              clear hI3 hb3 hk3
              go_wp2_with fail
              refine (write_string w2.heap.size w2.heap.size _ U _ HI3.out (by (try simp only [List.length_append]); have : D.data.toList.length = D.size := rfl; omega) (by first | exact hs3 | omega)).mono ?_
              rintro e w4 ⟨rfl, hI4, hb4, hk4⟩
              have HI4 := Lib.hid hI4
              have HB4 := Lib.hid (HB3.out.trans hb4)
              have hs4 : w2.heap.size ≤ w4.heap.size := Nat.le_trans hs3 hb4.size
              have cG4 := (hb4.cell (p := ⟨2, p / 4, none⟩) hg2).trans cG3
              clear hI4 hb4 hk4
              go_wp2_with fail
              refine (write_string w2.heap.size w2.heap.size _ G _ HI4.out (by (try simp only [List.length_append]); have : D.data.toList.length = D.size := rfl; have : U.data.toList.length = U.size := rfl; omega) (by first | exact hs4 | omega)).mono ?_
              rintro e w5 ⟨rfl, hI5, hb5, hk5⟩
              have HI5 := Lib.hid hI5
              have HB5 := Lib.hid (HB4.out.trans hb5)
              have hs5 : w2.heap.size ≤ w5.heap.size := Nat.le_trans hs4 hb5.size
              clear hI5 hb5 hk5
              go_wp2_with fail
              go_roundw
              case rel => exact ⟨k + 1, acc ++ (D.data.toList ++ U.data.toList ++ G.data.toList), false, by omega, by go_num, rfl, wrRel_step HRel.out HG.out HN.out HP.out (by rw [Num.stepOut, if_neg KZ.out, if_pos (Or.inr (Or.inr KP.out)), Num.stepG, if_pos ⟨KP.out, Or.inr KZ.out⟩, KD.out, KU.out, KG.out] <;> simp) (by rw [Num.stepS, if_pos KP.out]), by simpa only [List.append_assoc] using HI5.out, HB5.out⟩
              case measure => simp [intOf]; omega
            · have hq : (((p : Int) % 4) == 0) = false := by rw [beq_eq_false_iff_ne]; omega
              have KP := Lib.hid hp4; clear hp4
              go_wp2_with fail
              go_quiet (fail)
              go_wp2_with fail
              have HI2 := Lib.hid (bldr_drewN HBl.out nq)
              have HB2 := Lib.hid (below_drewN HBe.out nq)
              have hs2 : w2.heap.size ≤ wr.heap.size := hsw
              have cD2 := cD
              have cU2 := cU
              have cG2 := cG
              refine (write_string w2.heap.size w2.heap.size _ U _ HI2.out (by (try simp only [List.length_append]); omega) (by first | exact hs2 | omega)).mono ?_
              rintro e w3 ⟨rfl, hI3, hb3, hk3⟩
              have HI3 := Lib.hid hI3
              have HB3 := Lib.hid (HB2.out.trans hb3)
              have hs3 : w2.heap.size ≤ w3.heap.size := Nat.le_trans hs2 hb3.size
              clear hI3 hb3 hk3
              go_wp2_with fail
              go_roundw
              case rel => exact ⟨k + 1, acc ++ (U.data.toList), true, by omega, by go_num, rfl, wrRel_step HRel.out HG.out HN.out HP.out (by rw [Num.stepOut, if_neg KZ.out, if_neg (by rintro (h | h | h); exact K1.out h; cases h; exact KP.out h), Num.stepG, if_neg (fun h => KP.out h.1), KU.out] <;> simp) (by rw [Num.stepS, if_neg KP.out]; simp [KZ.out]), HI3.out, HB3.out⟩
              case measure => simp [intOf]; omega
          · by_cases hp4 : p % 4 = 0
            · have hq : (((p : Int) % 4) == 0) = true := by rw [beq_iff_eq]; omega
              have KP := Lib.hid hp4; clear hp4
              go_wp2_with fail
              go_quiet (fail)
              go_wp2_with fail
              have HI2 := Lib.hid (bldr_drewN HBl.out nq)
              have HB2 := Lib.hid (below_drewN HBe.out nq)
              have hs2 : w2.heap.size ≤ wr.heap.size := hsw
              have cD2 := cD
              have cU2 := cU
              have cG2 := cG
              refine (write_string w2.heap.size w2.heap.size _ D _ HI2.out (by (try simp only [List.length_append]); omega) (by first | exact hs2 | omega)).mono ?_
              rintro e w3 ⟨rfl, hI3, hb3, hk3⟩
              have HI3 := Lib.hid hI3
              have HB3 := Lib.hid (HB2.out.trans hb3)
              have hs3 : w2.heap.size ≤ w3.heap.size := Nat.le_trans hs2 hb3.size
              have cU3 := (hb3.cell (p := ⟨w.heap.size, 10 + p % 4, none⟩) hx).trans cU2
              have cG3 := (hb3.cell (p := ⟨2, p / 4, none⟩) hg2).trans cG2
              clear hI3 hb3 hk3
              go_wp2_with fail
              refine (write_string w2.heap.size w2.heap.size _ U _ HI3.out (by (try simp only [List.length_append]); have : D.data.toList.length = D.size := rfl; omega) (by first | exact hs3 | omega)).mono ?_
              rintro e w4 ⟨rfl, hI4, hb4, hk4⟩
              have HI4 := Lib.hid hI4
              have HB4 := Lib.hid (HB3.out.trans hb4)
              have hs4 : w2.heap.size ≤ w4.heap.size := Nat.le_trans hs3 hb4.size
              have cG4 := (hb4.cell (p := ⟨2, p / 4, none⟩) hg2).trans cG3
              clear hI4 hb4 hk4
              go_wp2_with fail
              refine (write_string w2.heap.size w2.heap.size _ G _ HI4.out (by (try simp only [List.length_append]); have : D.data.toList.length = D.size := rfl; have : U.data.toList.length = U.size := rfl; omega) (by first | exact hs4 | omega)).mono ?_
              rintro e w5 ⟨rfl, hI5, hb5, hk5⟩
              have HI5 := Lib.hid hI5
              have HB5 := Lib.hid (HB4.out.trans hb5)
              have hs5 : w2.heap.size ≤ w5.heap.size := Nat.le_trans hs4 hb5.size
              clear hI5 hb5 hk5
              go_wp2_with fail
              go_roundw
              case rel => exact ⟨k + 1, acc ++ (D.data.toList ++ U.data.toList ++ G.data.toList), false, by omega, by go_num, rfl, wrRel_step HRel.out HG.out HN.out HP.out (by rw [Num.stepOut, if_neg KZ.out, if_pos (Or.inr (Or.inl rfl)), Num.stepG, if_pos ⟨KP.out, Or.inr KZ.out⟩, KD.out, KU.out, KG.out] <;> simp) (by rw [Num.stepS, if_pos KP.out]), by simpa only [List.append_assoc] using HI5.out, HB5.out⟩
              case measure => simp [intOf]; omega
            · have hq : (((p : Int) % 4) == 0) = false := by rw [beq_eq_false_iff_ne]; omega
              have KP := Lib.hid hp4; clear hp4
              go_wp2_with fail
              go_quiet (fail)
              go_wp2_with fail
              have HI2 := Lib.hid (bldr_drewN HBl.out nq)
              have HB2 := Lib.hid (below_drewN HBe.out nq)
              have hs2 : w2.heap.size ≤ wr.heap.size := hsw
              have cD2 := cD
              have cU2 := cU
              have cG2 := cG
              refine (write_string w2.heap.size w2.heap.size _ D _ HI2.out (by (try simp only [List.length_append]); omega) (by first | exact hs2 | omega)).mono ?_
              rintro e w3 ⟨rfl, hI3, hb3, hk3⟩
              have HI3 := Lib.hid hI3
              have HB3 := Lib.hid (HB2.out.trans hb3)
              have hs3 : w2.heap.size ≤ w3.heap.size := Nat.le_trans hs2 hb3.size
              have cU3 := (hb3.cell (p := ⟨w.heap.size, 10 + p % 4, none⟩) hx).trans cU2
              clear hI3 hb3 hk3
              go_wp2_with fail
              refine (write_string w2.heap.size w2.heap.size _ U _ HI3.out (by (try simp only [List.length_append]); have : D.data.toList.length = D.size := rfl; omega) (by first | exact hs3 | omega)).mono ?_
              rintro e w4 ⟨rfl, hI4, hb4, hk4⟩
              have HI4 := Lib.hid hI4
              have HB4 := Lib.hid (HB3.out.trans hb4)
              have hs4 : w2.heap.size ≤ w4.heap.size := Nat.le_trans hs3 hb4.size
              clear hI4 hb4 hk4
              go_wp2_with fail
              go_roundw
              case rel => exact ⟨k + 1, acc ++ (D.data.toList ++ U.data.toList), true, by omega, by go_num, rfl, wrRel_step HRel.out HG.out HN.out HP.out (by rw [Num.stepOut, if_neg KZ.out, if_pos (Or.inr (Or.inl rfl)), Num.stepG, if_neg (fun h => KP.out h.1), KD.out, KU.out] <;> simp) (by rw [Num.stepS, if_neg KP.out]; simp [KZ.out]), by simpa only [List.append_assoc] using HI4.out, HB4.out⟩
              case measure => simp [intOf]; omega
    · obtain rfl : k = s.size := by omega
      have HE := Lib.hid (show acc = Num.wr f l false by
        have := HRel.out
        unfold WrRel at this
        rw [HZ.out, List.drop_length, Num.wr, List.append_nil] at this
        exact this)
      go_wp2_with fail
      refine (bld_string w2.heap.size w2.heap.size acc _ HBl.out hsw).mono ?_
      rintro e w3 ⟨rfl, _, hb3, _⟩
      have HB3 := Lib.hid (HB.out.trans ((HBe.out.trans hb3).mono (by omega)))
      clear hb3
      go_wp2_with fail
      go_ret2
      exact ⟨by rw [← HE.out]; rfl, HB3.out⟩

set_option maxHeartbeats 1000000 in
theorem write_zero (f : Bool) (s : ByteArray) (l : List UInt8) (w : World) (h : Is s l) (h0 : l = [48]) :
    Calls Tryz.prog 106 #[.agg (styleC f), .string s] w fun e w' => e = .returned (.tuple #[.string ⟨Num.zero.toArray⟩, .bool true]) ∧ Below w.heap.size w w' := by
  have HI := Lib.hid h
  have HV := Lib.hid (show Num.valid l = true by rw [h0]; rfl)
  have d2 : (s.toList == [48]) = true := by rw [h.list, h0]; rfl
  have hs : s.size ≤ 9223372036854775807 := by rw [h.size, h0]; decide
  clear h h0
  go_enter Tryz.func106, Tryz.ntmps106
  go_wp2_with fail
  refine (valid_any s l _ HI.out hs).mono ?_
  rintro e w2 ⟨rfl, hb⟩
  rw [HV.out]
  have HB := Lib.hid (((Below.refl _ w).alloc (Nat.le_refl _) (.cells (styleC f) 111)).trans (hb.mono (by simp)))
  clear hb
  go_wp2_with fail
  go_ret2
  exact ⟨rfl, HB.out⟩

set_option maxHeartbeats 1000000 in
theorem write_no (f : Bool) (s : ByteArray) (l : List UInt8) (w : World) (h : Is s l) (hs : s.size ≤ 9223372036854775807) (hv : Num.valid l = false) :
    Calls Tryz.prog 106 #[.agg (styleC f), .string s] w fun e w' => e = .returned (.tuple #[.string ⟨#[]⟩, .bool false]) ∧ Below w.heap.size w w' := by
  have HI := Lib.hid h
  have HV := Lib.hid hv
  clear h hv
  go_enter Tryz.func106, Tryz.ntmps106
  go_wp2_with fail
  refine (valid_any s l _ HI.out hs).mono ?_
  rintro e w2 ⟨rfl, hb⟩
  rw [HV.out]
  have HB := Lib.hid (((Below.refl _ w).alloc (Nat.le_refl _) (.cells (styleC f) 111)).trans (hb.mono (by simp)))
  clear hb
  go_wp2_with fail
  go_ret2
  exact ⟨rfl, HB.out⟩

/-- what a function of one string that writes the text t (if it does) returns -/
def Gives (ok : Bool) (t : List UInt8) (w : World) (e : Ending) (w' : World) : Prop :=
  ∃ b : ByteArray, Is b t ∧ e = .returned (.tuple #[.string b, .bool ok]) ∧ Below w.heap.size w w'
/-- the text of a number that may be none -/
def wrt (f : Bool) (l : List UInt8) : List UInt8 := if Num.valid l = true then Num.writ f l else []

theorem write_any (f : Bool) (s : ByteArray) (l : List UInt8) (w : World) (h : Is s l) (hs : s.size ≤ 9223372036854775807) (ht : Tabs w) :
    Calls Tryz.prog 106 #[.agg (styleC f), .string s] w (Gives (Num.valid l) (wrt f l) w) := by
  cases hv : Num.valid l
  · exact (write_no f s l w h hs hv).mono fun e w' ⟨he, hb⟩ => ⟨_, by unfold wrt; rw [hv]; exact Is.mk [], he, hb⟩
  · cases h0 : (l == [48])
    · exact (write_long f s l w h hs ht hv h0).mono fun e w' ⟨he, hb⟩ => ⟨_, by unfold wrt Num.writ; rw [hv, h0]; exact Is.mk _, he, hb⟩
    · exact (write_zero f s l w h (eq_of_beq h0)).mono fun e w' ⟨he, hb⟩ => ⟨_, by unfold wrt Num.writ; rw [hv, h0]; exact Is.mk _, he, hb⟩

set_option maxHeartbeats 1000000 in
theorem kanji_any (s : ByteArray) (l : List UInt8) (w : World) (h : Is s l) (hs : s.size ≤ 9223372036854775807) (ht : Tabs w) :
    Calls Tryz.prog 60 #[.string s] w (Gives (Num.valid l) (wrt false l) w) := by
  obtain ⟨ty, fr, hp⟩ := ht.plain
  have HI := Lib.hid h
  have HT := Lib.hid ht
  clear h ht
  go_enter Tryz.func60, Tryz.ntmps60
  go_wp2_with (refine wpList_load_row rfl 111 _ rfl 0 rfl ty plainC fr _ hp Tryz.underlying111 rfl (by kernel_rfl) ?_)
  refine (write_any false s l _ HI.out hs HT.out).mono ?_
  rintro e w2 ⟨b, hb1, rfl, hb2⟩
  have H1 := Lib.hid hb1
  have H2 := Lib.hid hb2
  clear hb1 hb2
  go_wp2_with fail
  go_ret2
  exact ⟨b, H1.out, rfl, H2.out⟩
set_option maxHeartbeats 1000000 in
theorem formal_any (s : ByteArray) (l : List UInt8) (w : World) (h : Is s l) (hs : s.size ≤ 9223372036854775807) (ht : Tabs w) :
    Calls Tryz.prog 70 #[.string s] w (Gives (Num.valid l) (wrt true l) w) := by
  obtain ⟨ty, fr, hp⟩ := ht.formal
  have HI := Lib.hid h
  have HT := Lib.hid ht
  clear h ht
  go_enter Tryz.func70, Tryz.ntmps70
  go_wp2_with (refine wpList_load_row rfl 111 _ rfl 1 rfl ty formalC fr _ hp Tryz.underlying111 rfl (by kernel_rfl) ?_)
  refine (write_any true s l _ HI.out hs HT.out).mono ?_
  rintro e w2 ⟨b, hb1, rfl, hb2⟩
  have H1 := Lib.hid hb1
  have H2 := Lib.hid hb2
  clear hb1 hb2
  go_wp2_with fail
  go_ret2
  exact ⟨b, H1.out, rfl, H2.out⟩
end Go.Proofs.YtnpkcobapckhdaaGreatDoor
