/-
  henkanref05.Check by its contract (as in the Roman seat). No condition but the lists' own bound.
-/
import Derived.Test.YtdcpiabmgjajlaaDoorAuGiven
import Derived.Laws.StructEq
namespace Go.Proofs.YtdcpiabmgjajlaaDoor
open Go.RowKit
theorem box3g (w : World) (x y z : Value) (T : TypeId) (j : Nat) : (w.alloc (.cells #[x, y, z] T)).frozen? ⟨w.heap.size, j, none⟩ = false :=
  Lib.frozen_of_heap (MapKept.heap_alloc w (.cells #[x, y, z] T)).1 j
theorem found_parts (xs : List RuleB) (k : List UInt8) : ∃ r, FoundV xs k = .tuple #[ruleV r, .bool ((keysL xs).contains k)] := by
  have e : (keysL xs).contains k = (xs.find? (fun r => r.1.data.toList == k)).isSome := by
    unfold keysL rulesL
    rw [List.map_map, Bool.eq_iff_iff, List.contains_iff_mem, List.find?_isSome, List.mem_map]
    constructor
    · rintro ⟨x, hx, he⟩; exact ⟨x, hx, by rw [← he]; exact beq_self_eq_true _⟩
    · rintro ⟨x, hx, he⟩; exact ⟨x, hx, eq_of_beq he⟩
  unfold FoundV
  rw [e]
  cases xs.find? (fun r => r.1.data.toList == k) with
  | none => exact ⟨(⟨#[]⟩, ⟨#[]⟩, ⟨#[]⟩), rfl⟩
  | some r => exact ⟨r, rfl⟩
theorem LieR.take {ao : Option Addr} {n cap : Nat} {xs : List RuleB} {w : World} (hx : ∀ k r, xs[k]? = some r → ∃ g o, ao = some ⟨g, o, none⟩ ∧
  w.cell? ⟨g, o + k * 3, none⟩ = some (.string r.1) ∧ w.cell? ⟨g, o + k * 3 + 1, none⟩ = some (.string r.2.1) ∧ w.cell? ⟨g, o + k * 3 + 2, none⟩ = some (.string r.2.2)) (hn : xs.length = n) (hc : n ≤ cap) (k : Nat) (hk : k ≤ n) : LieR (.slice ao k cap) (xs.take k) w := by
  refine ⟨ao, cap, by rw [List.length_take, hn, Nat.min_eq_left hk], by rw [List.length_take]; omega, fun j r hj => ?_⟩
  rw [List.getElem?_take] at hj
  split at hj
  · exact hx j r hj
  · cases hj
set_option maxRecDepth 100000 in
set_option maxHeartbeats 4000000 in
theorem rcheck_any (v : Value) (xs : List RuleB) (w : World) (h : LieR v xs w) (hn : xs.length ≤ 1000000000000) (hz : Short3 xs) :
    Calls Tryd.prog 16 #[v] w fun e w' => e = .returned (.int .i64 (Ro.check (rulesL xs))) ∧ Below w.heap.size w w' := by
  have HZ := Lib.hid hz
  obtain ⟨ao, cap, rfl, hcap, hx⟩ := h
  obtain ⟨n, hn2⟩ : ∃ n, xs.length = n := ⟨_, rfl⟩
  have HN := Eqq.mk hn2
  have hrl : (rulesL xs).length = n := by unfold rulesL; rw [List.length_map, hn2]
  rw [hn2] at hn hcap ⊢
  have HX := Lib.hid hx
  by_cases h5 : 500 < n
  · have HR := Eqq.mk (show ((Ro.check (rulesL xs) : Nat) : Int) = 2 by unfold Ro.check; rw [hrl, if_pos h5]; rfl)
    have hd : decide ((500 : Int) < (n : Int)) = true := decide_eq_true (by omega)
    clear hx hn2 hcap hz hrl h5
    go_enter Tryd.func16, Tryd.ntmps16
    go_wp2_with fail
    go_ret
    exact ⟨by rw [HR.out]; rfl, Below.refl _ _⟩
  · have hd : decide ((500 : Int) < (n : Int)) = false := decide_eq_false (by omega)
    have HCK := Eqq.mk (show Ro.check (rulesL xs) = if Ro.good (rulesL xs) = true then 0 else 50 by unfold Ro.check; rw [hrl, if_neg h5])
    have hn5 : n ≤ 500 := by omega
    have HTT := Lib.hid (fun (k : Nat) (hk : k ≤ n) => LieR.take hx hn2 hcap k hk)
    clear hx hn2 hz hrl h5
    go_enter Tryd.func16, Tryd.ntmps16
    go_wp2_with fail
    go_loopw [3] (fun iv wr => ∃ k : Nat, k ≤ n ∧ iv = .int .i64 k ∧ Eqq (Ro.good (rulesL (xs.take k))) true ∧ Below w.heap.size w wr) (fun iv _ => n - (intOf iv).toNat)
    case atStart => exact ⟨0, Nat.zero_le _, rfl, ⟨rfl⟩, Below.refl _ _⟩
    case round =>
      obtain ⟨k, hk, rfl, HG, hb⟩ := hrel
      have HB := Lib.hid hb
      clear hb
      by_cases hlt : k < n
      · have hkl : k < xs.length := by rw [HN.out]; exact hlt
        obtain ⟨r, hr⟩ : ∃ r, xs[k]? = some r := ⟨_, List.getElem?_eq_getElem hkl⟩
        obtain ⟨g, o, rfl, d1, d2, d3⟩ := HX.out k r hr
        obtain ⟨z1, z2, z3⟩ := HZ.out r (List.mem_of_getElem? hr)
        have HGT := Lib.hid (good_take xs k r hr)
        have HGB := Lib.hid (good_bad xs k r hr)
        have HLT := Lib.hid (fun (W : World) (hW : Below w.heap.size w W) => (HTT.out k hk).below hW (Nat.le_refl _))
        obtain ⟨q, hq⟩ := found_parts (xs.take k) r.1.data.toList
        obtain ⟨q1, q2, q3⟩ := q
        have HQ := Eqq.mk hq
        obtain ⟨r1, r2, r3⟩ := r
        dsimp only at z1 z2 z3 HQ
        have htl : (xs.take k).length ≤ 1000000000000 := by rw [List.length_take]; omega
        have HKP := Lib.hid (fun (W : World) (hW : Below w.heap.size w W) => (show (W.cell? ⟨g, o + k * 3, none⟩ = some (.string r1) ∧ W.cell? ⟨g, o + k * 3 + 1, none⟩ = some (.string r2) ∧ W.cell? ⟨g, o + k * 3 + 2, none⟩ = some (.string r3)) ∧ Below w.heap.size w W from ⟨⟨below_cellU d1 hW (Nat.le_refl _), below_cellU d2 hW (Nat.le_refl _), below_cellU d3 hW (Nat.le_refl _)⟩, hW⟩))
        obtain ⟨b, hb⟩ : ∃ b, (keysL (xs.take k)).contains r1.data.toList = b := ⟨_, rfl⟩
        have HBB := Eqq.mk hb
        rw [hb] at HQ
        have HIR := Lib.hid (Is.of r1)
        obtain ⟨rl, hrl⟩ : ∃ rl, r1.data.toList = rl := ⟨_, rfl⟩
        rw [hrl] at HQ HBB HIR HGT HGB
        have hkk : (k : Int) < (n : Int) := by omega
        have i0 : (0 : Int) ≤ (k : Int) := by omega
        have i2 : (k : Int) ≤ (cap : Int) := by omega
        clear hr d1 d2 d3 hb hq
        have HBA := Lib.hid ((HB.out.alloc HB.out.size (.cells #[.string ⟨#[]⟩, .string ⟨#[]⟩, .string ⟨#[]⟩] 57)).drew)
        cases b
        · go_wp2_with fail
          go_region_held3 (fun W => (W.cell? ⟨g, o + k * 3, none⟩ = some (.string r1) ∧ W.cell? ⟨g, o + k * 3 + 1, none⟩ = some (.string r2) ∧ W.cell? ⟨g, o + k * 3 + 2, none⟩ = some (.string r3)) ∧ Below w.heap.size w W)
            (first | exact HKP.out _ HB.out | exact HKP.out _ HB.out.drew | exact HKP.out _ HBA.out | exact HKP.out _ HB2.out | exact HKP.out _ (HB2.out.alloc HB2.out.size _) | exact HKP.out _ (((HB2.out.setCell (p := ⟨wr.heap.size, 0, none⟩) HB.out.size _).setCell (p := ⟨wr.heap.size, 1, none⟩) HB.out.size _).setCell (p := ⟨wr.heap.size, 2, none⟩) HB.out.size _) | go_keep)
            (first
             | (go_at_call 31; refine (rfind_any r1 rl _ (xs.take k) _ HIR.out (HLT.out _ HB.out.drew) htl).mono ?_; rw [HQ.out]; rintro e w2 ⟨he, hb2⟩; subst he; have HB2 := Lib.hid (HB.out.drew.trans (hb2.mono HB.out.drew.size)); clear hb2)
             | (go_at_call 31; refine (rfind_any r1 rl _ (xs.take k) _ HIR.out (HLT.out _ HBA.out) htl).mono ?_; rw [HQ.out]; rintro e w2 ⟨he, hb2⟩; subst he; have HB2 := Lib.hid (HBA.out.trans (hb2.mono HBA.out.size)); have hbz : wr.heap.size < w2.heap.size := (by have := hb2.size; simp at this; omega); have e0 : w2.cell? ⟨wr.heap.size, 0, none⟩ = some (.string ⟨#[]⟩) := below_cellU (w := (wr.alloc (.cells #[.string ⟨#[]⟩, .string ⟨#[]⟩, .string ⟨#[]⟩] 57)).drew) (box3_0 wr (.string ⟨#[]⟩) (.string ⟨#[]⟩) (.string ⟨#[]⟩) 57) hb2 (Nat.le_refl _); have e1 : w2.cell? ⟨wr.heap.size, 1, none⟩ = some (.string ⟨#[]⟩) := below_cellU (w := (wr.alloc (.cells #[.string ⟨#[]⟩, .string ⟨#[]⟩, .string ⟨#[]⟩] 57)).drew) (box3_1 wr (.string ⟨#[]⟩) (.string ⟨#[]⟩) (.string ⟨#[]⟩) 57) hb2 (Nat.le_refl _); have e2 : w2.cell? ⟨wr.heap.size, 2, none⟩ = some (.string ⟨#[]⟩) := below_cellU (w := (wr.alloc (.cells #[.string ⟨#[]⟩, .string ⟨#[]⟩, .string ⟨#[]⟩] 57)).drew) (box3_2 wr (.string ⟨#[]⟩) (.string ⟨#[]⟩) (.string ⟨#[]⟩) 57) hb2 (Nat.le_refl _); have g0 : w2.frozen? ⟨wr.heap.size, 0, none⟩ = false := (hb2.frozen (p := ⟨wr.heap.size, 0, none⟩) (by simp)).trans (box3g wr _ _ _ _ 0); have g1 : w2.frozen? ⟨wr.heap.size, 1, none⟩ = false := (hb2.frozen (p := ⟨wr.heap.size, 1, none⟩) (by simp)).trans (box3g wr _ _ _ _ 1); have g2 : w2.frozen? ⟨wr.heap.size, 2, none⟩ = false := (hb2.frozen (p := ⟨wr.heap.size, 2, none⟩) (by simp)).trans (box3g wr _ _ _ _ 2); clear hb2))
          all_goals
            (rename_i hHeld
             obtain ⟨⟨c1, c2, c3⟩, hbf⟩ := hHeld
             have HBF := Lib.hid hbf
             clear hbf
             obtain ⟨A, hA⟩ : ∃ A, Ro.allowed (ruleL (r1, r2, r3)) = A := ⟨_, rfl⟩
             have HAA := Eqq.mk hA
             clear hA)
          all_goals
            (go_wp2_with fail
             with_reducible refine (rallowed_any (r1, r2, r3) _ (by dsimp only; omega) z2 (by dsimp only; omega)).mono ?_
             rw [HAA.out]
             rintro e w3 ⟨rfl, hb3⟩
             have HB3 := Lib.hid (HBF.out.trans (hb3.mono HBF.out.size))
             clear hb3
             cases A
             · have HR := Eqq.mk (show ((Ro.check (rulesL xs) : Nat) : Int) = 50 by rw [HCK.out, HGB.out (.inl HAA.out), if_neg (by simp)]; rfl)
               go_wp2_with fail
               go_ret
               exact ⟨by rw [HR.out]; rfl, HB3.out⟩
             · have HG2 := Eqq.mk (HGT.out HG.out HAA.out HBB.out)
               go_wp2_with fail
               go_roundw
               case rel => exact ⟨k + 1, by omega, by go_num, HG2, HB3.out⟩
               case measure => simp [intOf]; omega)
        · go_wp2_with fail
          go_region_held3 (fun W => (W.cell? ⟨g, o + k * 3, none⟩ = some (.string r1) ∧ W.cell? ⟨g, o + k * 3 + 1, none⟩ = some (.string r2) ∧ W.cell? ⟨g, o + k * 3 + 2, none⟩ = some (.string r3)) ∧ Below w.heap.size w W)
            (first | exact HKP.out _ HB.out | exact HKP.out _ HB.out.drew | exact HKP.out _ HBA.out | exact HKP.out _ HB2.out | exact HKP.out _ (HB2.out.alloc HB2.out.size _) | exact HKP.out _ (((HB2.out.setCell (p := ⟨wr.heap.size, 0, none⟩) HB.out.size _).setCell (p := ⟨wr.heap.size, 1, none⟩) HB.out.size _).setCell (p := ⟨wr.heap.size, 2, none⟩) HB.out.size _) | go_keep)
            (first
             | (go_at_call 31; refine (rfind_any r1 rl _ (xs.take k) _ HIR.out (HLT.out _ HB.out.drew) htl).mono ?_; rw [HQ.out]; rintro e w2 ⟨he, hb2⟩; subst he; have HB2 := Lib.hid (HB.out.drew.trans (hb2.mono HB.out.drew.size)); clear hb2)
             | (go_at_call 31; refine (rfind_any r1 rl _ (xs.take k) _ HIR.out (HLT.out _ HBA.out) htl).mono ?_; rw [HQ.out]; rintro e w2 ⟨he, hb2⟩; subst he; have HB2 := Lib.hid (HBA.out.trans (hb2.mono HBA.out.size)); have hbz : wr.heap.size < w2.heap.size := (by have := hb2.size; simp at this; omega); have e0 : w2.cell? ⟨wr.heap.size, 0, none⟩ = some (.string ⟨#[]⟩) := below_cellU (w := (wr.alloc (.cells #[.string ⟨#[]⟩, .string ⟨#[]⟩, .string ⟨#[]⟩] 57)).drew) (box3_0 wr (.string ⟨#[]⟩) (.string ⟨#[]⟩) (.string ⟨#[]⟩) 57) hb2 (Nat.le_refl _); have e1 : w2.cell? ⟨wr.heap.size, 1, none⟩ = some (.string ⟨#[]⟩) := below_cellU (w := (wr.alloc (.cells #[.string ⟨#[]⟩, .string ⟨#[]⟩, .string ⟨#[]⟩] 57)).drew) (box3_1 wr (.string ⟨#[]⟩) (.string ⟨#[]⟩) (.string ⟨#[]⟩) 57) hb2 (Nat.le_refl _); have e2 : w2.cell? ⟨wr.heap.size, 2, none⟩ = some (.string ⟨#[]⟩) := below_cellU (w := (wr.alloc (.cells #[.string ⟨#[]⟩, .string ⟨#[]⟩, .string ⟨#[]⟩] 57)).drew) (box3_2 wr (.string ⟨#[]⟩) (.string ⟨#[]⟩) (.string ⟨#[]⟩) 57) hb2 (Nat.le_refl _); have g0 : w2.frozen? ⟨wr.heap.size, 0, none⟩ = false := (hb2.frozen (p := ⟨wr.heap.size, 0, none⟩) (by simp)).trans (box3g wr _ _ _ _ 0); have g1 : w2.frozen? ⟨wr.heap.size, 1, none⟩ = false := (hb2.frozen (p := ⟨wr.heap.size, 1, none⟩) (by simp)).trans (box3g wr _ _ _ _ 1); have g2 : w2.frozen? ⟨wr.heap.size, 2, none⟩ = false := (hb2.frozen (p := ⟨wr.heap.size, 2, none⟩) (by simp)).trans (box3g wr _ _ _ _ 2); clear hb2))
          all_goals
            (rename_i hHeld
             obtain ⟨⟨c1, c2, c3⟩, hbf⟩ := hHeld
             have HBF := Lib.hid hbf
             clear hbf)
          all_goals
            (have HR := Eqq.mk (show ((Ro.check (rulesL xs) : Nat) : Int) = 50 by rw [HCK.out, HGB.out (.inr HBB.out), if_neg (by simp)]; rfl)
             go_wp2_with fail
             go_ret
             exact ⟨by rw [HR.out]; rfl, HBF.out⟩)
      · obtain rfl : k = n := by omega
        have HR := Eqq.mk (show ((Ro.check (rulesL xs) : Nat) : Int) = 0 by
          have := HG.out
          rw [← HN.out, List.take_length] at this
          rw [HCK.out, if_pos this]; rfl)
        go_wp2_with fail
        go_ret
        exact ⟨by rw [HR.out]; rfl, HB.out⟩
end Go.Proofs.YtdcpiabmgjajlaaDoor
