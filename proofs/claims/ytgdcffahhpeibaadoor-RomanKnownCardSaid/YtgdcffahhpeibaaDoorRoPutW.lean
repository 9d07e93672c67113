/-
  henkanref05.put and henkanref05.table by their contracts. No condition but the list's own bound.
-/
import Derived.Test.YtgdcffahhpeibaaDoorRoTabMath
import Derived.Test.YtgdcffahhpeibaaDoorRoParse
import Derived.Deep.RegionHeld3
import Derived.Sort.Walk0
namespace Go.Proofs.YtgdcffahhpeibaaDoor
open Go.RowKit
set_option linter.unusedVariables false
theorem putS_last (r : RuleB) (xs : List RuleB) (n : Nat) (hn : xs.length = n) (L : List RuleB) (d : Bool) (h : putS r (xs.take n) = (L, d)) : rulesL (if d = true then L else L ++ [r]) = Ro.putL (rulesL xs) (ruleL r) := by
  rw [← hn, List.take_length] at h
  have := putS_put r xs
  rw [h] at this
  exact this
/-- what is returned: a list of the call's own -/
def PutsR (B : Nat) (l : List Ro.Rule) (e : Ending) (w : World) : Prop := ∃ v ys, e = .returned v ∧ rulesL ys = l ∧ OwnR 44 B v ys w
set_option maxRecDepth 100000 in
set_option maxHeartbeats 4000000 in
theorem rput5_any (v : Value) (xs : List RuleB) (r : RuleB) (w : World) (h : LieR v xs w) (hn : xs.length ≤ 100000) :
    Calls Tryd.prog 24 #[v, ruleV r] w fun e w' => PutsR w.heap.size (Ro.putL (rulesL xs) (ruleL r)) e w' ∧ Below w.heap.size w w' := by
  obtain ⟨r1, r2, r3⟩ := r
  have HBA := Lib.hid ((Below.refl w.heap.size w).alloc (Nat.le_refl _) (.cells #[.string r1, .string r2, .string r3] 44))
  have hl := h.keep HBA.out
  have k0 := box3_0 w (.string r1) (.string r2) (.string r3) 44
  have k1 := box3_1 w (.string r1) (.string r2) (.string r3) 44
  have k2 := box3_2 w (.string r1) (.string r2) (.string r3) 44
  have hz : (w.alloc (.cells #[.string r1, .string r2, .string r3] 44)).heap.size = w.heap.size + 1 := World.size_alloc ..
  obtain ⟨W, hW⟩ : ∃ W, w.alloc (.cells #[.string r1, .string r2, .string r3] 44) = W := ⟨_, rfl⟩
  rw [hW] at hz k0 k1 k2
  rw [hW] at hl HBA
  have HW := Eqq.mk hW
  have HZ := Eqq.mk hz
  have hO0 := Lib.hid (OwnR.nil 44 W.heap.size W)
  have K0 := Lib.hid k0
  have K1 := Lib.hid k1
  have K2 := Lib.hid k2
  obtain ⟨ao, cap, rfl, hcap, hx⟩ := hl
  obtain ⟨n, hn2⟩ : ∃ n, xs.length = n := ⟨_, rfl⟩
  have HN := Eqq.mk hn2
  rw [hn2] at hn hcap ⊢
  have HX := Lib.hid hx
  clear hx hn2 hcap h k0 k1 k2 hz
  go_enter Tryd.func24, Tryd.ntmps24
  go_wp2_with fail
  try rw [hW]
  clear hW
  go_loopw [5, 6, 7] (fun ov dv iv wr => ∃ (k : Nat) (L : List RuleB) (d : Bool), k ≤ n ∧ iv = .int .i64 k ∧ dv = .bool d ∧ Eqq (putS (r1, r2, r3) (xs.take k)) (L, d) ∧ OwnR 44 W.heap.size ov L wr ∧ Below W.heap.size W wr) (fun _ _ iv _ => n - (intOf iv).toNat)
  case atStart => exact ⟨0, [], false, Nat.zero_le _, rfl, rfl, ⟨rfl⟩, hO0.out, Below.refl _ _⟩
  case round =>
    obtain ⟨k, L, d, hk, rfl, rfl, HP, ho, hb⟩ := hrel
    have hLk : L.length ≤ k + 1 := by
      have h := putS_len (r1, r2, r3) (xs.take k)
      rw [HP.out, List.length_take] at h
      dsimp only at h
      omega
    have HO := Lib.hid ho
    have HB := Lib.hid hb
    clear ho hb
    have c0 := below_cellU K0.out HB.out (Nat.le_refl _)
    have c1 := below_cellU K1.out HB.out (Nat.le_refl _)
    have c2 := below_cellU K2.out HB.out (Nat.le_refl _)
    by_cases hlt : k < n
    · obtain ⟨x, hx⟩ : ∃ x, xs[k]? = some x := ⟨_, List.getElem?_eq_getElem (by rw [HN.out]; exact hlt)⟩
      obtain ⟨g, o, rfl, d1, d2, d3⟩ := HX.out k x hx
      have HTS := Eqq.mk (take_snoc xs k x hx)
      have HPS := Eqq.mk (putS_snoc (r1, r2, r3) x (xs.take k))
      obtain ⟨x1, x2, x3⟩ := x
      dsimp only at d1 d2 d3
      have HD := Lib.hid (fun (V : World) (hV : Below W.heap.size W V) => (show V.cell? ⟨g, o + k * 3, none⟩ = some (.string x1) ∧ V.cell? ⟨g, o + k * 3 + 1, none⟩ = some (.string x2) ∧ V.cell? ⟨g, o + k * 3 + 2, none⟩ = some (.string x3) from ⟨below_cellU d1 hV (Nat.le_refl _), below_cellU d2 hV (Nat.le_refl _), below_cellU d3 hV (Nat.le_refl _)⟩))
      clear hx d1 d2 d3
      have g1 : (k : Int) < (n : Int) := by omega
      have g2 : (0 : Int) ≤ (k : Int) := by omega
      obtain ⟨e1, e2, e3⟩ := HD.out _ HB.out
      cases d
      · by_cases hlx : r1.data.toList < x1.data.toList
        · have t1 : Op.bytesLess r1.toList x1.toList = true := by rw [Lib.toList_data, Lib.toList_data, bytesLess_eq]; exact decide_eq_true hlx
          have HPN := Eqq.mk (show putS (r1, r2, r3) (xs.take (k + 1)) = (L ++ [(r1, r2, r3), (x1, x2, x3)], true) by rw [HTS.out, HPS.out, HP.out, if_neg (by simp), if_pos hlx, List.append_assoc]; rfl)
          clear hlx
          go_wp2_with fail
          go_quiet (fail)
          clear t1
          go_wp2_with (at_builtin; refine wpList_append_rule Tryd.underlying31 infotaken_any _ rfl _ _ rfl W.heap.size _ _ rfl (OwnR.alloc (OwnR.drewN HO.out _) _) (r1, r2, r3) _ rfl (box3_0 _ _ _ _ _) (box3_1 _ _ _ _ _) (box3_2 _ _ _ _ _) (by first | omega | (simp only [List.length_append, List.length_singleton]; omega)) (by have := HB.out.size; simp; omega) ?_)
          intro v2 w2 ho' hg'
          have HO2 := Lib.hid ho'
          have HB2 := Lib.hid (((bel_dn HB.out _).alloc HB.out.size _).grown hg' (by have := HB.out.size; simp; omega) (fun j hj => (World.ownsRow.lt HO.out j hj).1))
          clear ho' hg'
          obtain ⟨e1, e2, e3⟩ := HD.out _ HB2.out
          go_wp2_with (at_builtin; refine wpList_append_rule Tryd.underlying31 infotaken_any _ rfl _ _ rfl W.heap.size _ _ rfl (OwnR.alloc HO2.out _) (x1, x2, x3) _ rfl (box3_0 _ _ _ _ _) (box3_1 _ _ _ _ _) (box3_2 _ _ _ _ _) (by first | omega | (simp only [List.length_append, List.length_singleton]; omega)) (by have := HB2.out.size; simp; omega) ?_)
          intro v3 w3 ho' hg'
          have HO3 := Lib.hid ho'
          have HB3 := Lib.hid ((HB2.out.alloc HB2.out.size _).grown hg' (by have := HB2.out.size; simp; omega) (fun j hj => (World.ownsRow.lt HO2.out j hj).1))
          clear ho' hg'
          go_wp2_with fail
          go_roundw
          case rel => exact ⟨k + 1, _, true, by omega, by go_num, rfl, HPN, HO3.out, HB3.out⟩
          case measure => simp [intOf]; omega
        · have t1 : Op.bytesLess r1.toList x1.toList = false := by rw [Lib.toList_data, Lib.toList_data, bytesLess_eq]; exact decide_eq_false hlx
          have HPN := Eqq.mk (show putS (r1, r2, r3) (xs.take (k + 1)) = (L ++ [(x1, x2, x3)], false) by rw [HTS.out, HPS.out, HP.out, if_neg (by simp), if_neg hlx])
          clear hlx
          go_wp2_with fail
          go_quiet (fail)
          clear t1
          go_wp2_with (at_builtin; refine wpList_append_rule Tryd.underlying31 infotaken_any _ rfl _ _ rfl W.heap.size _ _ rfl (OwnR.alloc (OwnR.drewN HO.out _) _) (x1, x2, x3) _ rfl (box3_0 _ _ _ _ _) (box3_1 _ _ _ _ _) (box3_2 _ _ _ _ _) (by first | omega | (simp only [List.length_append, List.length_singleton]; omega)) (by have := HB.out.size; simp; omega) ?_)
          intro v2 w2 ho' hg'
          have HO2 := Lib.hid ho'
          have HB2 := Lib.hid (((bel_dn HB.out _).alloc HB.out.size _).grown hg' (by have := HB.out.size; simp; omega) (fun j hj => (World.ownsRow.lt HO.out j hj).1))
          clear ho' hg'
          go_wp2_with fail
          go_roundw
          case rel => exact ⟨k + 1, _, false, by omega, by go_num, rfl, HPN, HO2.out, HB2.out⟩
          case measure => simp [intOf]; omega
      · have HPN := Eqq.mk (show putS (r1, r2, r3) (xs.take (k + 1)) = (L ++ [(x1, x2, x3)], true) by rw [HTS.out, HPS.out, HP.out, if_pos rfl])
        go_wp2_with fail
        go_quiet (fail)
        go_wp2_with (at_builtin; refine wpList_append_rule Tryd.underlying31 infotaken_any _ rfl _ _ rfl W.heap.size _ _ rfl (OwnR.alloc (OwnR.drewN HO.out _) _) (x1, x2, x3) _ rfl (box3_0 _ _ _ _ _) (box3_1 _ _ _ _ _) (box3_2 _ _ _ _ _) (by first | omega | (simp only [List.length_append, List.length_singleton]; omega)) (by have := HB.out.size; simp; omega) ?_)
        intro v2 w2 ho' hg'
        have HO2 := Lib.hid ho'
        have HB2 := Lib.hid (((bel_dn HB.out _).alloc HB.out.size _).grown hg' (by have := HB.out.size; simp; omega) (fun j hj => (World.ownsRow.lt HO.out j hj).1))
        clear ho' hg'
        go_wp2_with fail
        go_roundw
        case rel => exact ⟨k + 1, _, true, by omega, by go_num, rfl, HPN, HO2.out, HB2.out⟩
        case measure => simp [intOf]; omega
    · obtain rfl : k = n := by omega
      have HL := Eqq.mk (putS_last (r1, r2, r3) xs k HN.out L d HP.out)
      have hBz : w.heap.size ≤ W.heap.size := HBA.out.size
      cases d
      · go_wp2_with (at_builtin; refine wpList_append_rule Tryd.underlying31 infotaken_any _ rfl _ _ rfl W.heap.size _ _ rfl (OwnR.alloc HO.out _) (r1, r2, r3) _ rfl (box3_0 _ _ _ _ _) (box3_1 _ _ _ _ _) (box3_2 _ _ _ _ _) (by first | omega | (simp only [List.length_append, List.length_singleton]; omega)) (by have := HB.out.size; simp; omega) ?_)
        intro v2 w2 ho' hg'
        have HO2 := Lib.hid ho'
        have HB2 := Lib.hid ((HB.out.alloc HB.out.size _).grown hg' (by have := HB.out.size; simp; omega) (fun j hj => (World.ownsRow.lt HO.out j hj).1))
        clear ho' hg'
        go_wp2_with fail
        go_ret
        exact ⟨⟨_, _, rfl, HL.out, HO2.out.low hBz⟩, HBA.out.trans (HB2.out.mono hBz)⟩
      · go_wp2_with fail
        go_ret
        exact ⟨⟨_, _, rfl, HL.out, HO.out.low hBz⟩, HBA.out.trans (HB.out.mono hBz)⟩
end Go.Proofs.YtgdcffahhpeibaaDoor
