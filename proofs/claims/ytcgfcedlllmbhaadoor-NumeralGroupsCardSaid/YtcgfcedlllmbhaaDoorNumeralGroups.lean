/-
  henkanlaw03.NumeralGroups answers true for all arguments: a number is written group by group. No condition but what the row lists.
-/
import Derived.Test.YtcgfcedlllmbhaaDoorLawOpen
import Derived.Carry
namespace Go.Proofs.YtcgfcedlllmbhaaDoor.numeralGroups
open Go.ChangeShapes Go.WideShapes Go.ChangeAt Go.RowKit
open Go.ChangeMaps (open_string)
set_option linter.unusedVariables false

theorem bel_dr {B : Nat} {a w : World} (h : Below B a w) (q : Nat) : Below B a (w.drewN q) := h.trans ⟨rfl, rfl, rfl, Nat.le_refl _, fun _ _ => rfl⟩
theorem wf_u16 {a : Int} (h : (Lit.int .u16 a).wf = true) : ∃ u : Nat, a = (u : Int) ∧ u ≤ 65535 := by
  have hx : 0 ≤ a ∧ a ≤ 65535 := by simpa [Lit.wf, IntKind.min, IntKind.max, IntKind.signed, IntKind.bits] using h
  exact ⟨a.toNat, by omega, by omega⟩
theorem wf_u8 {a : Int} (h : (Lit.int .u8 a).wf = true) : ∃ u : Nat, a = (u : Int) ∧ u ≤ 255 := by
  have hx : 0 ≤ a ∧ a ≤ 255 := by simpa [Lit.wf, IntKind.min, IntKind.max, IntKind.signed, IntKind.bits] using h
  exact ⟨a.toNat, by omega, by omega⟩
theorem zeros_is (k : Nat) (h : k ≤ 3) : Is ((⟨#[48, 48, 48]⟩ : ByteArray).extract 0 k) (List.replicate k 48) := by
  have h1 : k = 0 ∨ k = 1 ∨ k = 2 ∨ k = 3 := by omega
  rcases h1 with rfl | rfl | rfl | rfl <;> (unfold Is; decide)
theorem wri_is {f : Bool} {l : List UInt8} {a : ByteArray} (h : Is a (wrt f l)) (hv : Num.valid l = true) : Is a (Num.writ f l) := by
  unfold wrt at h; rwa [if_pos hv] at h

set_option maxRecDepth 100000 in
set_option maxHeartbeats 8000000 in
theorem walk (w : World) (a0 : Int) (w0 : (Lit.int .u16 a0).wf = true) (a1 : Int) (w1 : (Lit.int .u16 a1).wf = true) (a2 : Int) (w2 : (Lit.int .u8 a2).wf = true) (ht : Tabs w) :
    Calls Tryd.prog 7 #[.int .u16 a0, .int .u16 a1, .int .u8 a2] w fun e w' => e = .returned (.bool true) ∧ Below w.heap.size w w' := by
  have HT := Lib.hid ht
  obtain ⟨u, rfl, hu⟩ := wf_u16 w0
  obtain ⟨m, rfl, hm⟩ := wf_u16 w1
  obtain ⟨v, rfl, hv⟩ := wf_u8 w2
  obtain ⟨N, hN⟩ : ∃ N, 1 + u % 9999 = N := ⟨_, rfl⟩
  obtain ⟨M, hM⟩ : ∃ M, m % 10000 = M := ⟨_, rfl⟩
  obtain ⟨g, hg⟩ : ∃ g, v % 5 = g := ⟨_, rfl⟩
  have N1 := Lib.hid (show (1 + (u : Int) % 9999) = (N : Int) by omega)
  have M1 := Lib.hid (show ((m : Int) % 10000) = (M : Int) by omega)
  have hN0 : N ≠ 0 := by omega
  have hN4 : N < 10000 := by omega
  have hM4 : M < 10000 := by omega
  have hg5 : g < 5 := by omega
  have HN0 := Lib.hid hN0
  obtain ⟨G, hG1, hG2⟩ := groups_at g hg5
  have HG := Lib.hid hG2
  have cG : (w.alloc (.cells #[.string ⟨#[]⟩, .string ⟨#[228, 184, 135]⟩, .string ⟨#[229, 132, 132]⟩, .string ⟨#[229, 133, 134]⟩, .string ⟨#[228, 186, 172]⟩] 9)).cell? ⟨w.heap.size, v % 5, none⟩ = some (.string G) := by
    rw [Lib.cell_of_heap (MapKept.heap_alloc w _).1, hg]; exact hG1
  have hGz : G.size ≤ 3 := by rw [hG2.size]; exact Num.gch_len _
  have HGE := Lib.hid hg
  have h5 : ((v : Int) % 5) < 5 := by omega
  clear ht w0 w1 w2 hN hM hN0 hG1 hG2
  go_enter Tryd.func7, Tryd.ntmps7
  go_wp2_with fail
  rw [N1.out]
  refine (ldigits_any N _ hN4).mono ?_
  rintro e wx ⟨⟨s, hs, rfl⟩, rfl⟩
  have HS := Lib.hid hs
  have hsz : s.size ≤ 4 := by rw [hs.size]; exact (Num.digs_len N).2
  clear hs
  go_wp2_with fail
  rw [M1.out]
  refine (ldigits_any M _ hM4).mono ?_
  rintro e wx ⟨⟨t, ht, rfl⟩, rfl⟩
  have HTT := Lib.hid ht
  have htz : t.size ≤ 4 := by rw [ht.size]; exact (Num.digs_len M).2
  have htz1 : 1 ≤ t.size := by rw [ht.size]; exact (Num.digs_len M).1
  clear ht hg
  go_wp2_with fail
  go_quiet (fail)
  go_wp2_with fail
  go_loop [10, 12] (fun sv i => ∃ (k : Nat) (x : ByteArray), k ≤ g ∧ i = .int .i64 k ∧ sv = .string x ∧ Is x (Num.digs N ++ List.replicate (4 * k) 48)) (fun _ i => 5 - (intOf i).toNat)
  case atStart => exact ⟨0, s, by omega, rfl, rfl, by rw [Nat.mul_zero]; show Is s (Num.digs N ++ []); rw [List.append_nil]; exact HS.out⟩
  case round =>
    obtain ⟨k, x, hk, rfl, rfl, hx⟩ := hrel
    have HX := Lib.hid hx
    have hxz : x.size ≤ 24 := by rw [hx.size, List.length_append, List.length_replicate]; have := (Num.digs_len N).2; omega
    clear hx
    by_cases hlt : k < g
    · have hlt2 : (k : Int) < (v : Int) % 5 := by have := HGE.out; omega
      go_wp2_with fail
      go_round
      case rel =>
        refine ⟨k + 1, _, by omega, by go_num, rfl, ?_⟩
        have := HX.out.append (Is.mk [48, 48, 48, 48])
        rw [List.append_assoc] at this
        have e : List.replicate (4 * (k + 1)) (48 : UInt8) = List.replicate (4 * k) 48 ++ [48, 48, 48, 48] := by
          rw [show 4 * (k + 1) = 4 * k + 4 by omega, ← List.replicate_append_replicate]; rfl
        rw [e]; exact this
      case measure => simp [intOf]; omega
    · have hke : k = g := by omega
      have hlt2 : ¬ (k : Int) < (v : Int) % 5 := by have := HGE.out; omega
      have HX2 := Lib.hid (show Is x (Num.digs N ++ List.replicate (4 * g) 48) by rw [← hke]; exact HX.out)
      have HZ := Lib.hid (zeros_is (4 - t.size) (by omega))
      have hzz : ((⟨#[48, 48, 48]⟩ : ByteArray).extract 0 (4 - t.size)).size ≤ 3 := by rw [HZ.out.size, List.length_replicate]; omega
      clear hke
      have ga0 := Lib.hid (Num.group_a false N g hN4 HN0.out hg5)
      have gb0 := Lib.hid (Num.group_b false N M hN4 HN0.out hM4)
      have ga1 := Lib.hid (Num.group_a true N g hN4 HN0.out hg5)
      have gb1 := Lib.hid (Num.group_b true N M hN4 HN0.out hM4)
      have vs := Lib.hid (Num.digs_valid N hN4)
      have vt := Lib.hid (Num.digs_valid M hM4)
      have HC := Lib.hid (show Is ((s ++ (⟨#[48, 48, 48]⟩ : ByteArray).extract 0 (4 - t.size)) ++ t) (Num.digs N ++ List.replicate (4 - (Num.digs M).length) 48 ++ Num.digs M) by rw [← HTT.out.size]; exact (HS.out.append HZ.out).append HTT.out)
      have hcz : ((s ++ (⟨#[48, 48, 48]⟩ : ByteArray).extract 0 (4 - t.size)) ++ t).size ≤ 24 := by
        rw [HC.out.size, List.length_append, List.length_append, List.length_replicate]
        have a := (Num.digs_len N).2
        have b := (Num.digs_len M).2
        omega
      obtain ⟨wb, hwb⟩ : ∃ wb, w.alloc (.cells #[.string ⟨#[]⟩, .string ⟨#[228, 184, 135]⟩, .string ⟨#[229, 132, 132]⟩, .string ⟨#[229, 133, 134]⟩, .string ⟨#[228, 186, 172]⟩] 9) = wb := ⟨_, rfl⟩
      have HB0 := Lib.hid (show Below w.heap.size w (w.alloc (.cells #[.string ⟨#[]⟩, .string ⟨#[228, 184, 135]⟩, .string ⟨#[229, 132, 132]⟩, .string ⟨#[229, 133, 134]⟩, .string ⟨#[228, 186, 172]⟩] 9)) from (Below.refl _ w).alloc (Nat.le_refl _) _)
      clear hwb
      go_wp2_with fail
      refine (kanji_any s (Num.digs N) _ HS.out (by omega) (HT.out.below (bel_dr HB0.out _) (Nat.le_refl _))).mono ?_
      rintro e w1 ⟨r1, hr1, rfl, hb1⟩
      rw [vs.out]
      have R1 := Lib.hid (wri_is hr1 vs.out)
      have z1 : r1.size ≤ 180 := by rw [hr1.size]; exact wrt_len _ _
      have HB1 := Lib.hid ((bel_dr HB0.out _).trans (hb1.mono (bel_dr HB0.out _).size))
      have HT1 := Lib.hid (HT.out.below HB1.out (Nat.le_refl _))
      clear hr1 hb1
      go_wp2_with fail
      refine (kanji_any x (Num.digs N ++ List.replicate (4 * g) 48) _ HX2.out (by omega) HT1.out).mono ?_
      rintro e w2 ⟨r2, hr2, rfl, hb2⟩
      rw [ga0.out.1]
      have R2 := Lib.hid (wri_is hr2 ga0.out.1)
      have z2 : r2.size ≤ 180 := by rw [hr2.size]; exact wrt_len _ _
      have HB2 := Lib.hid (HB1.out.trans (hb2.mono HB1.out.size))
      have HT2 := Lib.hid (HT.out.below HB2.out (Nat.le_refl _))
      clear hr2 hb2
      go_wp2_with fail
      refine (kanji_any _ (Num.digs N ++ List.replicate (4 - (Num.digs M).length) 48 ++ Num.digs M) _ HC.out (by omega) HT2.out).mono ?_
      rintro e w3 ⟨r3, hr3, rfl, hb3⟩
      rw [gb0.out.1]
      have R3 := Lib.hid (wri_is hr3 gb0.out.1)
      have z3 : r3.size ≤ 180 := by rw [hr3.size]; exact wrt_len _ _
      have HB3 := Lib.hid (HB2.out.trans (hb3.mono HB2.out.size))
      have HT3 := Lib.hid (HT.out.below HB3.out (Nat.le_refl _))
      clear hr3 hb3
      go_wp2_with fail
      refine (kanji_any t (Num.digs M) _ HTT.out (by omega) HT3.out).mono ?_
      rintro e w4 ⟨r4, hr4, rfl, hb4⟩
      rw [vt.out]
      have R4 := Lib.hid (wri_is hr4 vt.out)
      have z4 : r4.size ≤ 180 := by rw [hr4.size]; exact wrt_len _ _
      have HB4 := Lib.hid (HB3.out.trans (hb4.mono HB3.out.size))
      have HT4 := Lib.hid (HT.out.below HB4.out (Nat.le_refl _))
      clear hr4 hb4
      go_wp2_with fail
      refine (formal_any s (Num.digs N) _ HS.out (by omega) HT4.out).mono ?_
      rintro e w5 ⟨r5, hr5, rfl, hb5⟩
      rw [vs.out]
      have R5 := Lib.hid (wri_is hr5 vs.out)
      have z5 : r5.size ≤ 180 := by rw [hr5.size]; exact wrt_len _ _
      have HB5 := Lib.hid (HB4.out.trans (hb5.mono HB4.out.size))
      have HT5 := Lib.hid (HT.out.below HB5.out (Nat.le_refl _))
      clear hr5 hb5
      go_wp2_with fail
      refine (formal_any x (Num.digs N ++ List.replicate (4 * g) 48) _ HX2.out (by omega) HT5.out).mono ?_
      rintro e w6 ⟨r6, hr6, rfl, hb6⟩
      rw [ga0.out.1]
      have R6 := Lib.hid (wri_is hr6 ga0.out.1)
      have z6 : r6.size ≤ 180 := by rw [hr6.size]; exact wrt_len _ _
      have HB6 := Lib.hid (HB5.out.trans (hb6.mono HB5.out.size))
      have HT6 := Lib.hid (HT.out.below HB6.out (Nat.le_refl _))
      clear hr6 hb6
      go_wp2_with fail
      refine (formal_any _ (Num.digs N ++ List.replicate (4 - (Num.digs M).length) 48 ++ Num.digs M) _ HC.out (by omega) HT6.out).mono ?_
      rintro e w7 ⟨r7, hr7, rfl, hb7⟩
      rw [gb0.out.1]
      have R7 := Lib.hid (wri_is hr7 gb0.out.1)
      have z7 : r7.size ≤ 180 := by rw [hr7.size]; exact wrt_len _ _
      have HB7 := Lib.hid (HB6.out.trans (hb7.mono HB6.out.size))
      have HT7 := Lib.hid (HT.out.below HB7.out (Nat.le_refl _))
      clear hr7 hb7
      go_wp2_with fail
      refine (formal_any t (Num.digs M) _ HTT.out (by omega) HT7.out).mono ?_
      rintro e w8 ⟨r8, hr8, rfl, hb8⟩
      rw [vt.out]
      have R8 := Lib.hid (wri_is hr8 vt.out)
      have z8 : r8.size ≤ 180 := by rw [hr8.size]; exact wrt_len _ _
      have HB8 := Lib.hid (HB7.out.trans (hb8.mono HB7.out.size))
      have HT8 := Lib.hid (HT.out.below HB8.out (Nat.le_refl _))
      clear hr8 hb8
      have f1 : (r2.toList == (r1 ++ G).toList) = true := by rw [R2.out.list, (R1.out.append HG.out).list, ga0.out.2]; exact beq_self_eq_true _
      have f3 : (r6.toList == (r5 ++ G).toList) = true := by rw [R6.out.list, (R5.out.append HG.out).list, ga1.out.2]; exact beq_self_eq_true _
      by_cases hM0 : M = 0
      · have t0 : (t.toList == [48]) = true := by rw [HTT.out.list, hM0]; rfl
        have f2 : (r3.toList == ((r1 ++ ⟨#[228, 184, 135]⟩) ++ ⟨#[]⟩).toList) = true := by
          rw [R3.out.list, ((R1.out.append (Is.mk [228, 184, 135])).append (Is.mk [])).list, gb0.out.2, if_pos hM0]; exact beq_self_eq_true _
        have f4 : (r7.toList == ((r5 ++ ⟨#[228, 184, 135]⟩) ++ ⟨#[]⟩).toList) = true := by
          rw [R7.out.list, ((R5.out.append (Is.mk [228, 184, 135])).append (Is.mk [])).list, gb1.out.2, if_pos hM0]; exact beq_self_eq_true _
        clear hM0
        go_wp2_with fail
        refine (works_any _ HT8.out).mono ?_
        rintro e w9 ⟨rfl, hb9⟩
        have HB9 := Lib.hid (HB8.out.trans (hb9.mono HB8.out.size))
        clear hb9
        go_wp2_with fail
        go_ret
        exact ⟨rfl, HB9.out⟩
      · have t0 : (t.toList == [48]) = false := by rw [HTT.out.list, Num.digs_zero M hM4]; exact decide_eq_false hM0
        have f2 : (r3.toList == ((r1 ++ ⟨#[228, 184, 135]⟩) ++ r4).toList) = true := by
          rw [R3.out.list, ((R1.out.append (Is.mk [228, 184, 135])).append R4.out).list, gb0.out.2, if_neg hM0]; exact beq_self_eq_true _
        have f4 : (r7.toList == ((r5 ++ ⟨#[228, 184, 135]⟩) ++ r8).toList) = true := by
          rw [R7.out.list, ((R5.out.append (Is.mk [228, 184, 135])).append R8.out).list, gb1.out.2, if_neg hM0]; exact beq_self_eq_true _
        clear hM0
        go_wp2_with fail
        refine (works_any _ HT8.out).mono ?_
        rintro e w9 ⟨rfl, hb9⟩
        have HB9 := Lib.hid (HB8.out.trans (hb9.mono HB8.out.size))
        clear hb9
        go_wp2_with fail
        go_ret
        exact ⟨rfl, HB9.out⟩

theorem laidOut : laidOutB Tryd.prog = true := by kernel_rfl
theorem contract (H : Type) (enc : TypeId × Value → H) (W : World) (base : Nat) (args : Array Value) (ds gs : List (DataW H)) (before : List MemPlace)
    (hval : ∀ (j : Nat) t v, Tryd.f7.params[j]? = some t → args[j]? = some v → Value.okWide Tryd.prog W .any base t v)
    (hW : DataW.Whole enc Tryd.prog Tryd.f7.params.toList Rows.numeralGroupsSpec.vars false W args.toList ds gs before) (hL : laidMetH Tryd.prog Rows.numeralGroupsRow.laid W)
    (hR : (DataW.weightsEach Tryd.prog (Tryd.f7.params.toList ++ (OpenSpec.ofChange Rows.numeralGroupsSpec).bare.plain.varTypes Tryd.prog) (ds ++ gs)).all (· ≤ reachBytes) = true) :
    Calls Tryd.prog 7 args W fun e W' => ∃ v, e = .returned v ∧ Rows.numeralGroupsSpec.post enc Tryd.prog Tryd.f7 false true false false W args v W' := by
  have hT : Tabs W := tabs_of_laid hL
  have hW' := hW
  obtain ⟨p, q, hA0, hV, rfl, hfz, hnd⟩ := hW
  have hA : DataW.TrodAll enc Tryd.prog W 0 (fun _ => true) true Tryd.f7.params.toList args.toList ds p := hA0
  rw [Tryd.params7] at hA hval hR
  obtain ⟨v0, vs0, d0, ds0, p0, q0, hargs, rfl, rfl, h0, r0⟩ := trodAll_cons hA
  obtain ⟨v1, vs1, d1, ds1, p1, q1, rfl, rfl, rfl, h1, r1⟩ := trodAll_cons r0
  obtain ⟨v2, vs2, d2, ds2, p2, q2, rfl, rfl, rfl, h2, r2⟩ := trodAll_cons r1
  obtain ⟨rfl, rfl, rfl⟩ := trodAll_nil r2
  obtain rfl : args = #[v0, v1, v2] := by cases args; simp_all
  obtain ⟨rfl, rfl⟩ := trodVars_none hV
  clear hA0
  simp only [List.append_nil] at hW' hR
  have k0 := h0
  have l0 : ∀ x ∈ p0, x.block < W.heap.size := fun x hx => by simpa using hW'.lt x (by simp [hx])
  have k1 := h1
  have l1 : ∀ x ∈ p1, x.block < W.heap.size := fun x hx => by simpa using hW'.lt x (by simp [hx])
  have k2 := h2
  have l2 : ∀ x ∈ p2, x.block < W.heap.size := fun x hx => by simpa using hW'.lt x (by simp [hx])
  obtain ⟨a0, rfl, rfl, rfl, w0⟩ := open_int Tryd.underlying30 (hval 0 30 v0 rfl rfl) h0
  obtain ⟨a1, rfl, rfl, rfl, w1⟩ := open_int Tryd.underlying30 (hval 1 30 v1 rfl rfl) h1
  obtain ⟨a2, rfl, rfl, rfl, w2⟩ := open_int Tryd.underlying5 (hval 2 5 v2 rfl rfl) h2
  refine (walk W a0 w0 a1 w1 a2 w2 hT).mono fun e W' ⟨he, bel⟩ => ?_
  subst he
  exact ⟨_, rfl, _, _, _, [], _, [], hW', trodAll_mk1 (shut_bool Tryd.underlying4 _), (trodAll_cons_mk (Below.trod laidOut (by kernel_rfl) (of_decide_eq_true (by kernel_rfl)) k0 bel l0) (trodAll_cons_mk (Below.trod laidOut (by kernel_rfl) (of_decide_eq_true (by kernel_rfl)) k1 bel l1) (trodAll_cons_mk (Below.trod laidOut (by kernel_rfl) (of_decide_eq_true (by kernel_rfl)) k2 bel l2) trodAll_mk0))), rfl, bel.frame _, fun h => by cases h⟩

theorem reads (os : Os) {H : Type} (enc : TypeId × Value → H) : ∃ places, DataW.whole enc Tryd.prog ((laidWorld os).forCall (fun _ _ => 0) ⟨#[], #[.int .u16 0, .int .u16 0, .int .u8 0], []⟩).memory Tryd.f7.params.toList Rows.numeralGroupsSpec.vars false #[.int .u16 0, .int .u16 0, .int .u8 0].toList 8 = some ([.lit (.int .u16 0), .lit (.int .u16 0), .lit (.int .u8 0)], [], places) :=
  ⟨[], by kernel_rfl⟩

set_option maxRecDepth 100000 in
theorem lifted (os : Os) (started : os.Started) (H : Type) (enc : TypeId × Value → H) (F : Stop.Interp) :
    ReturnsInHanded {} Tryd.checked os 7 .any ((OpenSpec.ofChange Rows.numeralGroupsSpec).preRow enc Tryd.prog Tryd.f7 Rows.numeralGroupsRow.domain false Rows.numeralGroupsRow.laid) (((OpenSpec.ofChange Rows.numeralGroupsSpec).at F).post enc Tryd.prog Tryd.f7 false true false false) := by
  obtain ⟨places, hx⟩ := reads os enc
  refine returnsInHanded_of_row (C := Tryd.checked) (s := OpenSpec.ofChange Rows.numeralGroupsSpec) own started (by kernel_rfl) Tryd.func7
    (witness_row_at (enc := enc) (C := Tryd.checked) false (laidWorld os) #[.int .u16 0, .int .u16 0, .int .u8 0] rfl (by kernel_rfl) (by kernel_rfl) (by kernel_rfl)
      (OpenSpec.preRow_of_cond 8 hx (by kernel_rfl) (fun k hk => by cases hk) (by kernel_rfl) (laid_met os _))) ?_
  intro W base args ds gs before hval hW _ _ hR hL _ _
  exact contract H enc W base args ds gs before hval hW hL hR

theorem said : Rows.NumeralGroupsSaid :=
  OpenClaim.holds_of_cond 7 Tryd.f7 rfl rfl rfl rfl rfl rfl rfl ⟨rfl, rfl, rfl, rfl, rfl⟩ rfl rfl rfl rfl rfl (by kernel_rfl) Tryd.func7 (by kernel_rfl)
    (of_decide_eq_true (by kernel_rfl)) (by unfold Func.isWrapper; first | (rw [if_pos (by decide +kernel)]; kernel_rfl) | (rw [if_neg (by decide +kernel)]; exact ⟨rfl, rfl⟩))
    (fun os started H enc _ F => by rw [OpenClaim.pre_eq_preRow]; exact lifted os started H enc F)

theorem plain (f : FuncId) (fn : Func) (hf : Tryd.pinned.checked.prog.funcNamed "henkan/henkanlaw03.NumeralGroups" = some f) (hfn : Tryd.pinned.checked.prog.funcs[f]? = some fn) :
    false = Tryd.pinned.checked.prog.looks [] ∧ ∀ (j : Nat) t, fn.params[j]? = some t → Tryd.pinned.checked.prog.wantsStandIn t = false := by
  obtain rfl : f = 7 := Option.some.inj ((show Tryd.prog.funcNamed "henkan/henkanlaw03.NumeralGroups" = some 7 by kernel_rfl).symm.trans hf) |>.symm
  obtain rfl : fn = Tryd.f7 := (Option.some.inj (Tryd.func7.symm.trans hfn)).symm
  refine ⟨by kernel_rfl, fun j t ht => ?_⟩
  rw [Tryd.params7] at ht
  have hm := Array.mem_of_getElem? ht
  simp only [List.mem_toArray, List.mem_cons, List.not_mem_nil, or_false] at hm
  rcases hm with rfl | rfl | rfl
  · exact (show Tryd.prog.wantsStandIn 30 = false by kernel_rfl)
  · exact (show Tryd.prog.wantsStandIn 30 = false by kernel_rfl)
  · exact (show Tryd.prog.wantsStandIn 5 = false by kernel_rfl)

/-- the card -/
theorem proved : Rows.NumeralGroupsCardSaid :=
  Claim7.holds_tied_plain_at .later [] _ _ _ _ said (fun _ h => by cases h) (by kernel_rfl) (fun _ h => by cases h) numeralGroups_row_tie rfl ⟨rfl, rfl⟩ (by kernel_rfl) rfl plain (by kernel_rfl)
#print axioms proved
end Go.Proofs.YtcgfcedlllmbhaaDoor.numeralGroups
