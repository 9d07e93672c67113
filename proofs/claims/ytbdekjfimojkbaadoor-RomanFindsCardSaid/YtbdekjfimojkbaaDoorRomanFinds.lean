/-
  the rule with some keys, and whether there are longer ones, is as the document says
-/
import Derived.Test.YtbdekjfimojkbaaDoorRoFew
import Derived.Carry
import Derived.Laws.AppendOwnNone
namespace Go.Proofs.YtbdekjfimojkbaaDoor.romanFinds
open Go.ChangeShapes Go.WideShapes Go.ChangeAt Go.RowKit
open Go.ChangeMaps (open_string)
set_option linter.unusedVariables false

set_option maxRecDepth 100000 in
set_option maxHeartbeats 8000000 in
theorem walk (w : World) (v : Value) (xs : List RuleB) (hl : LieR v xs w) (hn : xs.length ≤ 9223372036854775807) (hz : ∀ r ∈ xs, r.1.size ≤ 9223372036854775807 ∧ r.2.1.size ≤ 9223372036854775807 ∧ r.2.2.size ≤ 9223372036854775807) (s : ByteArray) (hs : s.size ≤ maxLen) (ht : Tabs w) :
    Calls Tryd.prog 8 #[v, .string s] w fun e w' => e = .returned (.bool true) ∧ Below w.heap.size w w' := by
  have HT := Lib.hid ht
  have HLV := Lib.hid hl
  have HZ := Lib.hid hz
  have HIS := Lib.hid (Is.of s)
  obtain ⟨sl, hsl⟩ : ∃ sl, s.data.toList = sl := ⟨_, rfl⟩
  rw [hsl] at HIS
  clear ht hl hz hsl
  go_enter Tryd.func8, Tryd.ntmps8
  go_wp2_with fail
  with_reducible refine (few_all v xs _ HLV.out hn HZ.out).mono ?_
  rintro e w0 ⟨⟨b, rfl, hb⟩, rfl⟩
  cases b
  · clear hb
    go_wp2_with fail
    go_ret
    exact ⟨rfl, Below.refl _ _⟩
  obtain ⟨h200, hf3⟩ := hb rfl
  clear hb hf3
  by_cases h100 : 100 < s.size
  · have d1 : decide (100 < s.size) = true := decide_eq_true h100
    go_wp2_with fail
    go_ret
    exact ⟨rfl, Below.refl _ _⟩
  have d1 : decide (100 < s.size) = false := decide_eq_false h100
  obtain ⟨L, hL⟩ : ∃ L, Ro.longer (rulesL xs) sl = L := ⟨_, rfl⟩
  have HLG := Eqq.mk hL
  obtain ⟨q, hq⟩ := found_parts xs sl
  obtain ⟨q1, q2, q3⟩ := q
  obtain ⟨b, hb⟩ : ∃ b, (keysL xs).contains sl = b := ⟨_, rfl⟩
  rw [hb] at hq
  have HQ := Eqq.mk hq
  clear hL hq hb
  go_wp2_with fail
  with_reducible refine (given_any v xs _ HLV.out (by omega)).mono ?_
  rintro e w1 ⟨v', rfl, ho, hb⟩
  have HB1 := Lib.hid hb
  have HL1 := Lib.hid ho.lie
  clear ho hb
  cases b <;> cases L
  · go_wp2_with fail
    with_reducible refine (find_any s sl v' xs _ HIS.out HL1.out (by omega)).mono ?_
    rw [HQ.out]
    rintro e w2 ⟨rfl, hb⟩
    have HB2 := Lib.hid (HB1.out.trans (hb.mono HB1.out.size))
    have HL2 := Lib.hid (HL1.out.keep hb)
    clear hb
    have HB2a := Lib.hid (HB2.out.alloc HB2.out.size (.cells #[.string q1, .string q2, .string q3] 48))
    have HL2a := Lib.hid (HL2.out.keep ((Below.refl w2.heap.size w2).alloc (Nat.le_refl _) (.cells #[.string q1, .string q2, .string q3] 48)))
    go_wp2_with fail
    with_reducible refine (rfind_any s sl v xs _ HIS.out (HLV.out.keep HB2a.out) (by omega)).mono ?_
    rw [HQ.out]
    rintro e w3 ⟨rfl, hb⟩
    have HB3 := Lib.hid (HB2a.out.trans (hb.mono HB2a.out.size))
    have HL3 := Lib.hid (HL2a.out.keep hb)
    have e0 : w3.cell? ⟨w2.heap.size, 0, none⟩ = some (.string q1) := below_cellU (box3_0 w2 _ _ _ _) hb (Nat.le_refl _)
    have e1 : w3.cell? ⟨w2.heap.size, 1, none⟩ = some (.string q2) := below_cellU (box3_1 w2 _ _ _ _) hb (Nat.le_refl _)
    have e2 : w3.cell? ⟨w2.heap.size, 2, none⟩ = some (.string q3) := below_cellU (box3_2 w2 _ _ _ _) hb (Nat.le_refl _)
    have hne : w2.heap.size < w3.heap.size := by have := hb.size; simp at this; omega
    clear hb
    have hba := (Below.refl w3.heap.size w3).alloc (Nat.le_refl _) (.cells #[.string q1, .string q2, .string q3] 51)
    have f0 := below_cellU e0 hba (Nat.le_refl _)
    have f1 := below_cellU e1 hba (Nat.le_refl _)
    have f2 := below_cellU e2 hba (Nat.le_refl _)
    have g0 := box3_0 w3 (.string q1) (.string q2) (.string q3) 51
    have g1 := box3_1 w3 (.string q1) (.string q2) (.string q3) 51
    have g2 := box3_2 w3 (.string q1) (.string q2) (.string q3) 51
    have HB3a := Lib.hid (HB3.out.alloc HB3.out.size (.cells #[.string q1, .string q2, .string q3] 51))
    have HL3a := Lib.hid (HL3.out.keep hba)
    clear hba
    go_wp2_with fail
    with_reducible refine (longer_any s sl v' xs _ HIS.out HL3a.out (by omega)).mono ?_
    rw [HLG.out]
    rintro e w4 ⟨rfl, hb⟩
    have HB4 := Lib.hid (HB3a.out.trans (hb.mono HB3a.out.size))
    have HL4 := Lib.hid (HL3a.out.keep hb)
    clear hb f0 f1 f2 g0 g1 g2 e0 e1 e2
    go_wp2_with fail
    with_reducible refine (rlonger_any s sl v xs _ HIS.out (HLV.out.keep HB4.out) (by omega)).mono ?_
    rw [HLG.out]
    rintro e w5 ⟨rfl, rfl⟩
    go_wp2_with fail
    with_reducible refine (same_any v' v xs xs _ HL4.out (HLV.out.keep HB4.out) (by omega) (by omega)).mono ?_
    rw [show decide (xs = xs) = true from decide_eq_true rfl]
    rintro e w6 ⟨rfl, hb⟩
    have HB6 := Lib.hid (HB4.out.trans (hb.mono HB4.out.size))
    clear hb
    go_wp2_with fail
    with_reducible refine (works_any _ (HT.out.keep HB6.out)).mono ?_
    rintro e w7 ⟨rfl, hb⟩
    have HB7 := Lib.hid (HB6.out.trans (hb.mono HB6.out.size))
    clear hb
    go_wp2_with fail
    go_ret
    exact ⟨rfl, HB7.out⟩
  · go_wp2_with fail
    with_reducible refine (find_any s sl v' xs _ HIS.out HL1.out (by omega)).mono ?_
    rw [HQ.out]
    rintro e w2 ⟨rfl, hb⟩
    have HB2 := Lib.hid (HB1.out.trans (hb.mono HB1.out.size))
    have HL2 := Lib.hid (HL1.out.keep hb)
    clear hb
    have HB2a := Lib.hid (HB2.out.alloc HB2.out.size (.cells #[.string q1, .string q2, .string q3] 48))
    have HL2a := Lib.hid (HL2.out.keep ((Below.refl w2.heap.size w2).alloc (Nat.le_refl _) (.cells #[.string q1, .string q2, .string q3] 48)))
    go_wp2_with fail
    with_reducible refine (rfind_any s sl v xs _ HIS.out (HLV.out.keep HB2a.out) (by omega)).mono ?_
    rw [HQ.out]
    rintro e w3 ⟨rfl, hb⟩
    have HB3 := Lib.hid (HB2a.out.trans (hb.mono HB2a.out.size))
    have HL3 := Lib.hid (HL2a.out.keep hb)
    have e0 : w3.cell? ⟨w2.heap.size, 0, none⟩ = some (.string q1) := below_cellU (box3_0 w2 _ _ _ _) hb (Nat.le_refl _)
    have e1 : w3.cell? ⟨w2.heap.size, 1, none⟩ = some (.string q2) := below_cellU (box3_1 w2 _ _ _ _) hb (Nat.le_refl _)
    have e2 : w3.cell? ⟨w2.heap.size, 2, none⟩ = some (.string q3) := below_cellU (box3_2 w2 _ _ _ _) hb (Nat.le_refl _)
    have hne : w2.heap.size < w3.heap.size := by have := hb.size; simp at this; omega
    clear hb
    have hba := (Below.refl w3.heap.size w3).alloc (Nat.le_refl _) (.cells #[.string q1, .string q2, .string q3] 51)
    have f0 := below_cellU e0 hba (Nat.le_refl _)
    have f1 := below_cellU e1 hba (Nat.le_refl _)
    have f2 := below_cellU e2 hba (Nat.le_refl _)
    have g0 := box3_0 w3 (.string q1) (.string q2) (.string q3) 51
    have g1 := box3_1 w3 (.string q1) (.string q2) (.string q3) 51
    have g2 := box3_2 w3 (.string q1) (.string q2) (.string q3) 51
    have HB3a := Lib.hid (HB3.out.alloc HB3.out.size (.cells #[.string q1, .string q2, .string q3] 51))
    have HL3a := Lib.hid (HL3.out.keep hba)
    clear hba
    go_wp2_with fail
    with_reducible refine (longer_any s sl v' xs _ HIS.out HL3a.out (by omega)).mono ?_
    rw [HLG.out]
    rintro e w4 ⟨rfl, hb⟩
    have HB4 := Lib.hid (HB3a.out.trans (hb.mono HB3a.out.size))
    have HL4 := Lib.hid (HL3a.out.keep hb)
    clear hb f0 f1 f2 g0 g1 g2 e0 e1 e2
    go_wp2_with fail
    with_reducible refine (rlonger_any s sl v xs _ HIS.out (HLV.out.keep HB4.out) (by omega)).mono ?_
    rw [HLG.out]
    rintro e w5 ⟨rfl, rfl⟩
    go_wp2_with fail
    with_reducible refine (same_any v' v xs xs _ HL4.out (HLV.out.keep HB4.out) (by omega) (by omega)).mono ?_
    rw [show decide (xs = xs) = true from decide_eq_true rfl]
    rintro e w6 ⟨rfl, hb⟩
    have HB6 := Lib.hid (HB4.out.trans (hb.mono HB4.out.size))
    clear hb
    go_wp2_with fail
    with_reducible refine (works_any _ (HT.out.keep HB6.out)).mono ?_
    rintro e w7 ⟨rfl, hb⟩
    have HB7 := Lib.hid (HB6.out.trans (hb.mono HB6.out.size))
    clear hb
    go_wp2_with fail
    go_ret
    exact ⟨rfl, HB7.out⟩
  · go_wp2_with fail
    with_reducible refine (find_any s sl v' xs _ HIS.out HL1.out (by omega)).mono ?_
    rw [HQ.out]
    rintro e w2 ⟨rfl, hb⟩
    have HB2 := Lib.hid (HB1.out.trans (hb.mono HB1.out.size))
    have HL2 := Lib.hid (HL1.out.keep hb)
    clear hb
    have HB2a := Lib.hid (HB2.out.alloc HB2.out.size (.cells #[.string q1, .string q2, .string q3] 48))
    have HL2a := Lib.hid (HL2.out.keep ((Below.refl w2.heap.size w2).alloc (Nat.le_refl _) (.cells #[.string q1, .string q2, .string q3] 48)))
    go_wp2_with fail
    with_reducible refine (rfind_any s sl v xs _ HIS.out (HLV.out.keep HB2a.out) (by omega)).mono ?_
    rw [HQ.out]
    rintro e w3 ⟨rfl, hb⟩
    have HB3 := Lib.hid (HB2a.out.trans (hb.mono HB2a.out.size))
    have HL3 := Lib.hid (HL2a.out.keep hb)
    have e0 : w3.cell? ⟨w2.heap.size, 0, none⟩ = some (.string q1) := below_cellU (box3_0 w2 _ _ _ _) hb (Nat.le_refl _)
    have e1 : w3.cell? ⟨w2.heap.size, 1, none⟩ = some (.string q2) := below_cellU (box3_1 w2 _ _ _ _) hb (Nat.le_refl _)
    have e2 : w3.cell? ⟨w2.heap.size, 2, none⟩ = some (.string q3) := below_cellU (box3_2 w2 _ _ _ _) hb (Nat.le_refl _)
    have hne : w2.heap.size < w3.heap.size := by have := hb.size; simp at this; omega
    clear hb
    have hba := (Below.refl w3.heap.size w3).alloc (Nat.le_refl _) (.cells #[.string q1, .string q2, .string q3] 51)
    have f0 := below_cellU e0 hba (Nat.le_refl _)
    have f1 := below_cellU e1 hba (Nat.le_refl _)
    have f2 := below_cellU e2 hba (Nat.le_refl _)
    have g0 := box3_0 w3 (.string q1) (.string q2) (.string q3) 51
    have g1 := box3_1 w3 (.string q1) (.string q2) (.string q3) 51
    have g2 := box3_2 w3 (.string q1) (.string q2) (.string q3) 51
    have HB3a := Lib.hid (HB3.out.alloc HB3.out.size (.cells #[.string q1, .string q2, .string q3] 51))
    have HL3a := Lib.hid (HL3.out.keep hba)
    clear hba
    go_wp2_with fail
    with_reducible refine (longer_any s sl v' xs _ HIS.out HL3a.out (by omega)).mono ?_
    rw [HLG.out]
    rintro e w4 ⟨rfl, hb⟩
    have HB4 := Lib.hid (HB3a.out.trans (hb.mono HB3a.out.size))
    have HL4 := Lib.hid (HL3a.out.keep hb)
    clear hb f0 f1 f2 g0 g1 g2 e0 e1 e2
    go_wp2_with fail
    with_reducible refine (rlonger_any s sl v xs _ HIS.out (HLV.out.keep HB4.out) (by omega)).mono ?_
    rw [HLG.out]
    rintro e w5 ⟨rfl, rfl⟩
    go_wp2_with fail
    with_reducible refine (same_any v' v xs xs _ HL4.out (HLV.out.keep HB4.out) (by omega) (by omega)).mono ?_
    rw [show decide (xs = xs) = true from decide_eq_true rfl]
    rintro e w6 ⟨rfl, hb⟩
    have HB6 := Lib.hid (HB4.out.trans (hb.mono HB4.out.size))
    clear hb
    go_wp2_with fail
    with_reducible refine (works_any _ (HT.out.keep HB6.out)).mono ?_
    rintro e w7 ⟨rfl, hb⟩
    have HB7 := Lib.hid (HB6.out.trans (hb.mono HB6.out.size))
    clear hb
    go_wp2_with fail
    go_ret
    exact ⟨rfl, HB7.out⟩
  · go_wp2_with fail
    with_reducible refine (find_any s sl v' xs _ HIS.out HL1.out (by omega)).mono ?_
    rw [HQ.out]
    rintro e w2 ⟨rfl, hb⟩
    have HB2 := Lib.hid (HB1.out.trans (hb.mono HB1.out.size))
    have HL2 := Lib.hid (HL1.out.keep hb)
    clear hb
    have HB2a := Lib.hid (HB2.out.alloc HB2.out.size (.cells #[.string q1, .string q2, .string q3] 48))
    have HL2a := Lib.hid (HL2.out.keep ((Below.refl w2.heap.size w2).alloc (Nat.le_refl _) (.cells #[.string q1, .string q2, .string q3] 48)))
    go_wp2_with fail
    with_reducible refine (rfind_any s sl v xs _ HIS.out (HLV.out.keep HB2a.out) (by omega)).mono ?_
    rw [HQ.out]
    rintro e w3 ⟨rfl, hb⟩
    have HB3 := Lib.hid (HB2a.out.trans (hb.mono HB2a.out.size))
    have HL3 := Lib.hid (HL2a.out.keep hb)
    have e0 : w3.cell? ⟨w2.heap.size, 0, none⟩ = some (.string q1) := below_cellU (box3_0 w2 _ _ _ _) hb (Nat.le_refl _)
    have e1 : w3.cell? ⟨w2.heap.size, 1, none⟩ = some (.string q2) := below_cellU (box3_1 w2 _ _ _ _) hb (Nat.le_refl _)
    have e2 : w3.cell? ⟨w2.heap.size, 2, none⟩ = some (.string q3) := below_cellU (box3_2 w2 _ _ _ _) hb (Nat.le_refl _)
    have hne : w2.heap.size < w3.heap.size := by have := hb.size; simp at this; omega
    clear hb
    have hba := (Below.refl w3.heap.size w3).alloc (Nat.le_refl _) (.cells #[.string q1, .string q2, .string q3] 51)
    have f0 := below_cellU e0 hba (Nat.le_refl _)
    have f1 := below_cellU e1 hba (Nat.le_refl _)
    have f2 := below_cellU e2 hba (Nat.le_refl _)
    have g0 := box3_0 w3 (.string q1) (.string q2) (.string q3) 51
    have g1 := box3_1 w3 (.string q1) (.string q2) (.string q3) 51
    have g2 := box3_2 w3 (.string q1) (.string q2) (.string q3) 51
    have HB3a := Lib.hid (HB3.out.alloc HB3.out.size (.cells #[.string q1, .string q2, .string q3] 51))
    have HL3a := Lib.hid (HL3.out.keep hba)
    clear hba
    go_wp2_with fail
    with_reducible refine (longer_any s sl v' xs _ HIS.out HL3a.out (by omega)).mono ?_
    rw [HLG.out]
    rintro e w4 ⟨rfl, hb⟩
    have HB4 := Lib.hid (HB3a.out.trans (hb.mono HB3a.out.size))
    have HL4 := Lib.hid (HL3a.out.keep hb)
    clear hb f0 f1 f2 g0 g1 g2 e0 e1 e2
    go_wp2_with fail
    with_reducible refine (rlonger_any s sl v xs _ HIS.out (HLV.out.keep HB4.out) (by omega)).mono ?_
    rw [HLG.out]
    rintro e w5 ⟨rfl, rfl⟩
    go_wp2_with fail
    with_reducible refine (same_any v' v xs xs _ HL4.out (HLV.out.keep HB4.out) (by omega) (by omega)).mono ?_
    rw [show decide (xs = xs) = true from decide_eq_true rfl]
    rintro e w6 ⟨rfl, hb⟩
    have HB6 := Lib.hid (HB4.out.trans (hb.mono HB4.out.size))
    clear hb
    go_wp2_with fail
    with_reducible refine (works_any _ (HT.out.keep HB6.out)).mono ?_
    rintro e w7 ⟨rfl, hb⟩
    have HB7 := Lib.hid (HB6.out.trans (hb.mono HB6.out.size))
    clear hb
    go_wp2_with fail
    go_ret
    exact ⟨rfl, HB7.out⟩

theorem laidOut : laidOutB Tryd.prog = true := by kernel_rfl
set_option maxRecDepth 100000 in
theorem contract (H : Type) (enc : TypeId × Value → H) (W : World) (base : Nat) (args : Array Value) (ds gs : List (DataW H)) (before : List MemPlace)
    (hval : ∀ (j : Nat) t v, Tryd.f8.params[j]? = some t → args[j]? = some v → Value.okWide Tryd.prog W .any base t v)
    (hW : DataW.Whole enc Tryd.prog Tryd.f8.params.toList Rows.romanFindsSpec.vars false W args.toList ds gs before) (hL : laidMetH Tryd.prog Rows.romanFindsRow.laid W) (hS : W.ShapedOpen Tryd.prog)
    (hR : (DataW.weightsEach Tryd.prog (Tryd.f8.params.toList ++ (OpenSpec.ofChange Rows.romanFindsSpec).bare.plain.varTypes Tryd.prog) (ds ++ gs)).all (· ≤ reachBytes) = true) :
    Calls Tryd.prog 8 args W fun e W' => ∃ v, e = .returned v ∧ Rows.romanFindsSpec.post enc Tryd.prog Tryd.f8 false true false false W args v W' := by
  have hT : Tabs W := rtabs_of_laid hL hS
  have hW' := hW
  obtain ⟨p, q, hA0, hV, rfl, hfz, hnd⟩ := hW
  have hA : DataW.TrodAll enc Tryd.prog W 0 (fun _ => true) true Tryd.f8.params.toList args.toList ds p := hA0
  rw [Tryd.params8] at hA hval hR
  obtain ⟨v0, vs0, d0, ds0, p0, q0, hargs, rfl, rfl, h0, r0⟩ := trodAll_cons hA
  obtain ⟨v1, vs1, d1, ds1, p1, q1, rfl, rfl, rfl, h1, r1⟩ := trodAll_cons r0
  obtain ⟨rfl, rfl, rfl⟩ := trodAll_nil r1
  obtain rfl : args = #[v0, v1] := by cases args; simp_all
  obtain ⟨rfl, rfl⟩ := trodVars_none hV
  clear hA0
  simp only [List.append_nil] at hW' hR
  have k0 := h0
  have l0 : ∀ x ∈ p0, x.block < W.heap.size := fun x hx => by simpa using hW'.lt x (by simp [hx])
  have k1 := h1
  have l1 : ∀ x ∈ p1, x.block < W.heap.size := fun x hx => by simpa using hW'.lt x (by simp [hx])
  obtain ⟨xs0, hl0, hn0, hz0⟩ := open_rules (hval 0 26 v0 rfl rfl) h0
  obtain ⟨s1, rfl, rfl, rfl, m1⟩ := open_string Tryd.underlying9 (hval 1 9 v1 rfl rfl) h1
  refine (walk W v0 xs0 hl0 hn0 hz0 s1 m1 hT).mono fun e W' ⟨he, bel⟩ => ?_
  subst he
  exact ⟨_, rfl, _, _, _, [], _, [], hW', trodAll_mk1 (shut_bool Tryd.underlying4 _), (trodAll_cons_mk (Below.trod laidOut (by kernel_rfl) (of_decide_eq_true (by kernel_rfl)) k0 bel l0) (trodAll_cons_mk (Below.trod laidOut (by kernel_rfl) (of_decide_eq_true (by kernel_rfl)) k1 bel l1) trodAll_mk0)), rfl, bel.frame _, fun h => by cases h⟩

theorem reads (os : Os) {H : Type} (enc : TypeId × Value → H) : ∃ places, DataW.whole enc Tryd.prog ((laidWorldR os).forCall (fun _ _ => 0) ⟨#[], #[.slice none 0 0, .string ⟨#[]⟩], []⟩).memory Tryd.f8.params.toList Rows.romanFindsSpec.vars false #[.slice none 0 0, .string ⟨#[]⟩].toList 8 = some ([.nil, .lit (.string [])], [], places) :=
  ⟨[], by kernel_rfl⟩

set_option maxRecDepth 100000 in
theorem lifted (os : Os) (started : os.Started) (H : Type) (enc : TypeId × Value → H) (F : Stop.Interp) :
    ReturnsInHanded {} Tryd.checked os 8 .any ((OpenSpec.ofChange Rows.romanFindsSpec).preRow enc Tryd.prog Tryd.f8 Rows.romanFindsRow.domain false Rows.romanFindsRow.laid) (((OpenSpec.ofChange Rows.romanFindsSpec).at F).post enc Tryd.prog Tryd.f8 false true false false) := by
  obtain ⟨places, hx⟩ := reads os enc
  refine returnsInHanded_of_row (C := Tryd.checked) (s := (OpenSpec.ofChange Rows.romanFindsSpec)) own started (by kernel_rfl) Tryd.func8
    (witness_row_at (enc := enc) (C := Tryd.checked) false (laidWorldR os) #[.slice none 0 0, .string ⟨#[]⟩] rfl (by kernel_rfl) (by kernel_rfl) (by kernel_rfl)
      (OpenSpec.preRow_of_cond 8 hx (by kernel_rfl) (fun k hk => by cases hk) (by kernel_rfl) (laid_metR os _))) ?_
  intro W base args ds gs before hval hW _ hcond hR hL hS _
  exact contract H enc W base args ds gs before hval hW hL hS hR

theorem said : Rows.RomanFindsSaid :=
  OpenClaim.holds_of_cond 8 Tryd.f8 rfl rfl rfl rfl rfl rfl rfl ⟨rfl, rfl, rfl, rfl, rfl⟩ rfl rfl rfl rfl rfl (by kernel_rfl) Tryd.func8 (by kernel_rfl)
    (of_decide_eq_true (by kernel_rfl)) (by unfold Func.isWrapper; first | (rw [if_pos (by decide +kernel)]; kernel_rfl) | (rw [if_neg (by decide +kernel)]; exact ⟨rfl, rfl⟩))
    (fun os started H enc _ F => by rw [OpenClaim.pre_eq_preRow]; exact lifted os started H enc F)

theorem plain (f : FuncId) (fn : Func) (hf : Tryd.pinned.checked.prog.funcNamed "henkan/henkanlaw05.RomanFinds" = some f) (hfn : Tryd.pinned.checked.prog.funcs[f]? = some fn) :
    false = Tryd.pinned.checked.prog.looks [] ∧ ∀ (j : Nat) t, fn.params[j]? = some t → Tryd.pinned.checked.prog.wantsStandIn t = false := by
  obtain rfl : f = 8 := Option.some.inj ((show Tryd.prog.funcNamed "henkan/henkanlaw05.RomanFinds" = some 8 by kernel_rfl).symm.trans hf) |>.symm
  obtain rfl : fn = Tryd.f8 := (Option.some.inj (Tryd.func8.symm.trans hfn)).symm
  refine ⟨by kernel_rfl, fun j t ht => ?_⟩
  rw [Tryd.params8] at ht
  have hm := Array.mem_of_getElem? ht
  simp only [List.mem_toArray, List.mem_cons, List.not_mem_nil, or_false] at hm
  rcases hm with rfl | rfl
  · exact (show Tryd.prog.wantsStandIn 26 = false by kernel_rfl)
  · exact (show Tryd.prog.wantsStandIn 9 = false by kernel_rfl)

/-- the card -/
theorem proved : Rows.RomanFindsCardSaid :=
  Claim7.holds_tied_plain_at .later [] _ _ _ _ said (fun _ h => by cases h) (by kernel_rfl) (fun _ h => by cases h) romanFinds_row_tie rfl ⟨rfl, rfl⟩ (by kernel_rfl) rfl plain (by kernel_rfl)
#print axioms proved
end Go.Proofs.YtbdekjfimojkbaaDoor.romanFinds
