/-
  henkanref03.guess by its contract. No condition but the string's own bound.
-/
import Derived.Test.YtnpkcobapckhdaaGreatDoorNumPut
import Derived.Test.YtnpkcobapckhdaaGreatDoorNumIdx
namespace Go.Proofs.YtnpkcobapckhdaaGreatDoor
open Go.RowKit

/-- index over a token of three bytes -/
theorem rindex0 (b n c : Nat) (L : List (List UInt8)) (s : ByteArray) (T : List UInt8) (w : World) (h : Is s T) (h3 : T.length = 3) (hn : L.length = n) (hn9 : n < 100)
    (hL : ∀ j, j < n → L.getD j [] = [] ∨ (L.getD j []).length = 3)
    (hc : ∀ j, j < n → w.cell? ⟨b, j, none⟩ = some (.string ⟨(L.getD j []).toArray⟩)) :
    Calls Tryz.prog 183 #[.slice (some ⟨b, 0, none⟩) n c, .string s, .int .i64 0] w fun e w' => e = .returned (.int .i64 (Num.ix L T)) ∧ Below w.heap.size w w' :=
  rindex_any b n c L s T T 0 w h (by have := h.size; omega) hn hn9 (by have := h.size; omega) (by rw [List.drop_zero]; exact List.take_of_length_le (by omega)) hL hc
theorem strC_cells (w : World) (L : List (List UInt8)) (cs : Array Value) (T : TypeId) (b : Nat) (hcs : cs = (strC L).toArray) (hb : w.heap[b]? = some (.cells cs T (0, 0))) : ∀ j, j < L.length → w.cell? ⟨b, j, none⟩ = some (.string ⟨(L.getD j []).toArray⟩) := by
  intro j hj
  rw [Lib.cell_of_heap hb, hcs, List.getElem?_toArray]
  unfold strC
  rw [List.getElem?_map, List.getD_eq_getElem?_getD, List.getElem?_eq_getElem hj]
  rfl
theorem len3 (L : List (List UInt8)) (h : L.all (fun t => t.length == 3 || t.length == 0) = true) : ∀ j, j < L.length → L.getD j [] = [] ∨ (L.getD j []).length = 3 := by
  intro j hj
  rw [List.getD_eq_getElem?_getD, List.getElem?_eq_getElem hj]
  have := List.all_eq_true.1 h _ (List.getElem_mem hj)
  simp only [Bool.or_eq_true, beq_iff_eq] at this
  rcases this with h | h
  · exact Or.inr h
  · exact Or.inl (List.eq_nil_of_length_eq_zero h)
/-- bounds of the machine's state -/
structure GB (st : Num.GS) : Prop where
  d : ∀ q, st.d q < 10
  g : st.g ≤ 16
  u : st.u ≤ 3
theorem max_bd {a b : Int} {n : Int} (h1 : -1 ≤ a ∧ a < n) (h2 : -1 ≤ b ∧ b < n) : -1 ≤ max a b ∧ max a b < n := by omega
theorem gb_step (st : Num.GS) (t : List UInt8) (h : GB st) : GB (Num.gsStep st t) := by
  have a := ix_bd Num.grp t
  have b := max_bd (n := 4) (ix_bd Num.unP t) (ix_bd Num.unF t)
  have c := max_bd (n := 10) (ix_bd Num.dgP t) (ix_bd Num.dgF t)
  have al : Num.grp.length = 5 := rfl
  rw [al] at a
  have hu := h.u
  unfold Num.gsStep
  split
  · exact ⟨h.d, by show 4 * (Num.ix Num.grp t).toNat ≤ 16; omega, by show 0 ≤ 3; omega⟩
  · split
    · refine ⟨?_, h.g, by show (max (Num.ix Num.unP t) (Num.ix Num.unF t)).toNat ≤ 3; omega⟩
      intro q
      show (if _ then _ else _ : Nat → Nat) q < 10
      split
      · exact upd_small h.d _ _ (by omega) q
      · exact h.d q
    · split
      · exact ⟨fun q => upd_small h.d _ _ (by omega) q, h.g, h.u⟩
      · exact h

set_option maxRecDepth 100000 in
set_option maxHeartbeats 4000000 in
theorem guess_any (s : ByteArray) (l : List UInt8) (w : World) (h : Is s l) (hs : s.size ≤ 140737488351232) :
    Calls Tryz.prog 165 #[.string s] w fun e w' => (∃ b, Is b (Num.guess l) ∧ e = .returned (.string b)) ∧ Below w.heap.size w w' := by
  have HI := Lib.hid h
  clear h
  have kc := fun (W : World) (C : Array Value) (n c : Nat) => Lib.run_convert_bytes_const (P := Tryz.prog) W 84 5 C n c Tryz.underlying84 Tryz.underlying5
  go_enter Tryz.func165, Tryz.ntmps165
  go_wp2_with fail
  clear kc
  go_loopw [0, 4, 5] (fun sv gv uv wr => ∃ (t : ByteArray) (a : List UInt8) (st : Num.GS) (fuel : Nat), sv = .string t ∧ gv = .int .i64 st.g ∧ uv = .int .i64 st.u ∧ Is t a ∧ t.size ≤ s.size ∧ a.length ≤ fuel ∧ Num.gsF fuel a st = Num.gsF l.length l Num.gs0 ∧ GB st ∧ wr.heap[w.heap.size]? = some (.cells (dC 20 (rv st.d)) 5 (20, 21)) ∧ Below w.heap.size w wr) (fun sv _ _ _ => match sv with | .string t => t.size | _ => 0)
  case atStart => exact ⟨s, l, Num.gs0, l.length, rfl, rfl, rfl, HI.out, Nat.le_refl _, Nat.le_refl _, rfl, ⟨fun _ => by show 0 < 10; omega, by show 0 ≤ 16; omega, by show 0 ≤ 3; omega⟩, (MapKept.heap_alloc w _).1, (Below.refl _ w).alloc (Nat.le_refl _) _⟩
  case round =>
    obtain ⟨t, a, st, fuel, rfl, rfl, rfl, ht, hts, hf, hr, hgb, hd, hb⟩ := hrel
    have HT := Lib.hid ht
    have HR := Lib.hid hr
    have HG := Lib.hid hgb
    have HD := Lib.hid hd
    have HB := Lib.hid hb
    have hta := ht.size
    have hsz := hb.size
    clear ht hr hd hb
    have hd10 := heap_lt HD.out
    by_cases h3 : 3 ≤ t.size
    · have hx3 : Is (t.extract (t.size - 3) t.size) (a.drop (a.length - 3)) := by rw [← hta]; exact HT.out.from _
      have hy3 : Is (t.extract 0 (t.size - 3)) (a.take (a.length - 3)) := by rw [← hta]; exact HT.out.upto _
      obtain ⟨T, hT⟩ : ∃ T, a.drop (a.length - 3) = T := ⟨_, rfl⟩
      have HX := Lib.hid (show Is (t.extract (t.size - 3) t.size) T by rw [← hT]; exact hx3)
      have HY := Lib.hid hy3
      have H3 := Lib.hid (show T.length = 3 by rw [← hT, List.length_drop]; omega)
      have HS := Lib.hid (show Num.gsF (fuel - 1) (a.take (a.length - 3)) (Num.gsStep st T) = Num.gsF l.length l Num.gs0 by
        obtain ⟨m, rfl⟩ : ∃ m, fuel = m + 1 := ⟨fuel - 1, by omega⟩
        rw [← HR.out, Num.gsF, if_neg (by omega), hT, Nat.add_sub_cancel])
      have HYS := Lib.hid (show (t.extract 0 (t.size - 3)).size + 3 = t.size by rw [hy3.size, List.length_take]; omega)
      have HTA := Lib.hid hta
      have HGB := Lib.hid (gb_step st T hgb)
      have hg16 := hgb.g
      have hu3 := hgb.u
      obtain ⟨G, hG⟩ : ∃ G, Num.ix Num.grp T = G := ⟨_, rfl⟩
      obtain ⟨U1, hU1⟩ : ∃ G, Num.ix Num.unP T = G := ⟨_, rfl⟩
      obtain ⟨U2, hU2⟩ : ∃ G, Num.ix Num.unF T = G := ⟨_, rfl⟩
      obtain ⟨N1, hN1⟩ : ∃ G, Num.ix Num.dgP T = G := ⟨_, rfl⟩
      obtain ⟨N2, hN2⟩ : ∃ G, Num.ix Num.dgF T = G := ⟨_, rfl⟩
      have bG := ix_bd Num.grp T
      have bU1 := ix_bd Num.unP T
      have bU2 := ix_bd Num.unF T
      have bN1 := ix_bd Num.dgP T
      have bN2 := ix_bd Num.dgF T
      rw [hG, show ((Num.grp.length : Nat) : Int) = 5 from rfl] at bG
      rw [hU1, show ((Num.unP.length : Nat) : Int) = 4 from rfl] at bU1
      rw [hU2, show ((Num.unF.length : Nat) : Int) = 4 from rfl] at bU2
      rw [hN1, show ((Num.dgP.length : Nat) : Int) = 10 from rfl] at bN1
      rw [hN2, show ((Num.dgF.length : Nat) : Int) = 10 from rfl] at bN2
      have KG := Lib.hid hG
      have KU1 := Lib.hid hU1
      have KU2 := Lib.hid hU2
      have KN1 := Lib.hid hN1
      have KN2 := Lib.hid hN2
      clear hx3 hy3 hT hta hgb hG hU1 hU2 hN1 hN2
      go_wp2_with fail
      refine (units_any _).mono ?_
      rintro e w1 ⟨rfl, rfl⟩
      go_wp2_with fail
      refine (rindex0 wr.heap.size 5 5 Num.grp _ T _ HX.out H3.out rfl (by decide) (len3 Num.grp (by decide)) (strC_cells _ Num.grp _ _ _ rfl (MapKept.heap_alloc wr _).1)).mono ?_
      rintro e w2 ⟨rfl, hb2⟩
      rw [KG.out]
      have HB2 := Lib.hid (((Below.refl _ wr).alloc (Nat.le_refl _) _).trans (hb2.mono (by simp)))
      clear hb2
      go_wp2_with fail
      refine (rindex0 w2.heap.size 4 4 Num.unP _ T _ HX.out H3.out rfl (by decide) (len3 Num.unP (by decide)) (strC_cells _ Num.unP _ _ _ rfl (MapKept.heap_alloc w2 _).1)).mono ?_
      rintro e w3 ⟨rfl, hb3⟩
      rw [KU1.out]
      have HB3 := Lib.hid (((Below.refl _ w2).alloc (Nat.le_refl _) _).trans (hb3.mono (by simp)))
      clear hb3
      go_wp2_with fail
      refine (rindex0 w3.heap.size 4 4 Num.unF _ T _ HX.out H3.out rfl (by decide) (len3 Num.unF (by decide)) (strC_cells _ Num.unF _ _ _ rfl (MapKept.heap_alloc w3 _).1)).mono ?_
      rintro e w4 ⟨rfl, hb4⟩
      rw [KU2.out]
      have HB4 := Lib.hid (((Below.refl _ w3).alloc (Nat.le_refl _) _).trans (hb4.mono (by simp)))
      clear hb4
      go_wp2_with fail
      refine (rdigP_any _).mono ?_
      rintro e w5 ⟨rfl, rfl⟩
      go_wp2_with fail
      refine (rindex0 w4.heap.size 10 10 Num.dgP _ T _ HX.out H3.out rfl (by decide) (len3 Num.dgP (by decide)) (strC_cells _ Num.dgP _ _ _ rfl (MapKept.heap_alloc w4 _).1)).mono ?_
      rintro e w6 ⟨rfl, hb6⟩
      rw [KN1.out]
      have HB6 := Lib.hid (((Below.refl _ w4).alloc (Nat.le_refl _) _).trans (hb6.mono (by simp)))
      clear hb6
      go_wp2_with fail
      refine (rdigF_any _).mono ?_
      rintro e w7 ⟨rfl, rfl⟩
      go_wp2_with fail
      refine (rindex0 w6.heap.size 10 10 Num.dgF _ T _ HX.out H3.out rfl (by decide) (len3 Num.dgF (by decide)) (strC_cells _ Num.dgF _ _ _ rfl (MapKept.heap_alloc w6 _).1)).mono ?_
      rintro e w8 ⟨rfl, hb8⟩
      rw [KN2.out]
      have HB8 := Lib.hid (((Below.refl _ w6).alloc (Nat.le_refl _) _).trans (hb8.mono (by simp)))
      clear hb8
      have s2 := HB2.out.size
      have s3 := HB3.out.size
      have s4 := HB4.out.size
      have s6 := HB6.out.size
      have s8 := HB8.out.size
      have HW := Lib.hid (show Below wr.heap.size wr w8 from HB2.out.trans ((HB3.out.mono s2).trans ((HB4.out.mono (by omega)).trans ((HB6.out.mono (by omega)).trans (HB8.out.mono (by omega))))))
      have D8 := Lib.hid (show w8.heap[w.heap.size]? = some (.cells (dC 20 (rv st.d)) 5 (20, 21)) by rw [HW.out.block _ hd10]; exact HD.out)
      have B8 := Lib.hid (show Below w.heap.size w w8 from HB.out.trans (HW.out.mono hsz))
      have hsz8 : w.heap.size < w8.heap.size := by omega
      clear s2 s3 s4 s6 s8 HB2 HB3 HB4 HB6 HB8
      have bM := max_bd bU1 bU2
      have bN := max_bd bN1 bN2
      obtain ⟨M, hM⟩ : ∃ M, max U1 U2 = M := ⟨_, rfl⟩
      obtain ⟨N, hN⟩ : ∃ N, max N1 N2 = N := ⟨_, rfl⟩
      rw [hM] at bM
      rw [hN] at bN
      have KM := Lib.hid hM
      have KN := Lib.hid hN
      clear bU1 bU2 bN1 bN2
      by_cases c1 : 0 < G
      · obtain ⟨g, rfl⟩ : ∃ g : Nat, G = (g : Int) := ⟨G.toNat, by omega⟩
        have HE := Lib.hid (show Num.gsStep st T = ⟨st.d, 4 * g, 0⟩ by
          unfold Num.gsStep; rw [KG.out, if_pos c1]; rfl)
        go_wp2_with fail
        go_roundw
        case rel => exact ⟨_, _, ⟨st.d, 4 * g, 0⟩, fuel - 1, rfl, by go_num, rfl, HY.out, by have := HYS.out; omega, by have := HTA.out; rw [List.length_take]; omega, by rw [← HE.out]; exact HS.out, by rw [← HE.out]; exact HGB.out, D8.out, B8.out⟩
        case measure => show (t.extract 0 (t.size - 3)).size < t.size; have := HYS.out; omega
      by_cases c2 : 0 < M
      · obtain ⟨u, rfl⟩ : ∃ u : Nat, M = (u : Int) := ⟨M.toNat, by omega⟩
        obtain ⟨p, hp⟩ : ∃ p, st.g + u = p := ⟨_, rfl⟩
        have hpI : (st.g : Int) + (u : Int) = (p : Int) := by omega
        obtain ⟨D2, hD2⟩ : ∃ D2, (if st.d p = 0 then Num.upd st.d p 1 else st.d) = D2 := ⟨_, rfl⟩
        have hp20 : p < 20 := by omega
        have HE := Lib.hid (show Num.gsStep st T = ⟨D2, st.g, u⟩ by
          unfold Num.gsStep; rw [KG.out, if_neg c1, KU1.out, KU2.out, KM.out, if_pos c2, Int.toNat_natCast, hp, ← hD2]
          congr 1
          by_cases h0 : st.d p = 0
          · rw [if_pos ⟨hp20, h0⟩, if_pos h0]
          · rw [if_neg (fun h => h0 h.2), if_neg h0])
        have HP := Lib.hid hpI
        have H2 := Lib.hid hD2
        clear hp hpI hD2
        go_wp2_with fail
        rw [HP.out]
        refine (put_as w.heap.size 20 st.d D2 p _ hp20 H2.out D8.out).mono ?_
        rintro e w9 ⟨⟨ok, rfl⟩, hd9, hg9⟩
        have D9 := Lib.hid hd9
        have B9 := Lib.hid (B8.out.grown hg9 (by omega) (fun k hk => by cases hk; exact Nat.le_refl _))
        clear hd9 hg9
        go_wp2_with fail
        go_roundw
        case rel => exact ⟨_, _, ⟨D2, st.g, u⟩, fuel - 1, rfl, rfl, rfl, HY.out, by have := HYS.out; omega, by have := HTA.out; rw [List.length_take]; omega, by rw [← HE.out]; exact HS.out, by rw [← HE.out]; exact HGB.out, D9.out, B9.out⟩
        case measure => show (t.extract 0 (t.size - 3)).size < t.size; have := HYS.out; omega
      have hgu : st.g + st.u < 20 := by omega
      by_cases c3 : 0 < N
      · obtain ⟨n, rfl⟩ : ∃ n : Nat, N = (n : Int) := ⟨N.toNat, by omega⟩
        have HE := Lib.hid (show Num.gsStep st T = ⟨Num.upd st.d (st.g + st.u) n, st.g, st.u⟩ by
          unfold Num.gsStep; rw [KG.out, if_neg c1, KU1.out, KU2.out, KM.out, if_neg c2, KN1.out, KN2.out, KN.out, if_pos ⟨c3, hgu⟩]; rfl)
        have cf : w8.frozen? ⟨w.heap.size, 19 - st.g - st.u, none⟩ = false := by simp [World.frozen?, D8.out]; omega
        have cc : w8.cell? ⟨w.heap.size, 19 - st.g - st.u, none⟩ = some (.int .u8 (rv st.d (19 - st.g - st.u))) := by rw [Lib.cell_of_heap D8.out]; exact dC_get 20 _ _ (by omega)
        go_wp2_with fail
        go_roundw
        case rel =>
          refine ⟨_, _, ⟨Num.upd st.d (st.g + st.u) n, st.g, st.u⟩, fuel - 1, rfl, rfl, rfl, HY.out, by have := HYS.out; omega, by have := HTA.out; rw [List.length_take]; omega, by rw [← HE.out]; exact HS.out, by rw [← HE.out]; exact HGB.out, ?_, B8.out.setCell (p := ⟨w.heap.size, 19 - st.g - st.u, none⟩) (Nat.le_refl _) _⟩
          have hv : (48 + (n : Int)) = ((48 + n : Nat) : Int) := by omega
          rw [row_set D8.out, hv, dC_set, show 19 - st.g - st.u = 19 - (st.g + st.u) by omega, rv_upd _ _ _ hgu]
        case measure => show (t.extract 0 (t.size - 3)).size < t.size; have := HYS.out; omega
      · have HE := Lib.hid (show Num.gsStep st T = st by
          unfold Num.gsStep; rw [KG.out, if_neg c1, KU1.out, KU2.out, KM.out, if_neg c2, KN1.out, KN2.out, KN.out, if_neg (fun h => c3 h.1)])
        go_wp2_with fail
        go_roundw
        case rel => exact ⟨_, _, st, fuel - 1, rfl, rfl, rfl, HY.out, by have := HYS.out; omega, by have := HTA.out; rw [List.length_take]; omega, by have := HS.out; rw [HE.out] at this; exact this, by have := HGB.out; rw [HE.out] at this; exact this, D8.out, B8.out⟩
        case measure => show (t.extract 0 (t.size - 3)).size < t.size; have := HYS.out; omega
    · have HR2 := Lib.hid (show st = Num.gsF l.length l Num.gs0 by
        rw [← HR.out]
        cases fuel with
        | zero => rfl
        | succ m => rw [Num.gsF, if_pos (by omega)])
      go_wp2_with fail
      refine (text_any w.heap.size st.d _ hgb.d HD.out).mono ?_
      rintro e w2 ⟨⟨b, hb1, rfl⟩, rfl⟩
      have H1 := Lib.hid hb1
      clear hb1
      go_wp2_with fail
      go_ret
      exact ⟨⟨b, by unfold Num.guess Num.gsOut; rw [← HR2.out]; exact H1.out, rfl⟩, HB.out⟩
end Go.Proofs.YtnpkcobapckhdaaGreatDoor
