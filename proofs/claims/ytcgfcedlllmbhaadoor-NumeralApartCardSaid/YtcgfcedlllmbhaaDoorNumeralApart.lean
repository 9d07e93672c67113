/-
  henkanlaw03.NumeralApart answers true for every two slices of bytes: different numbers are written differently. No condition but what the row lists.
-/
import Derived.Test.YtcgfcedlllmbhaaDoorLawOpen
import Derived.Carry
namespace Go.Proofs.YtcgfcedlllmbhaaDoor.numeralApart
open Go.ChangeShapes Go.WideShapes Go.ChangeAt Go.RowKit
open Go.ChangeMaps (open_string)
set_option linter.unusedVariables false

set_option maxRecDepth 100000 in
set_option maxHeartbeats 4000000 in
theorem walk (w : World) (ao0 : Option Addr) (n0 c0 : Nat) (bs0 : List UInt8) (hn0 : bs0.length = n0) (h90 : n0 ≤ 9223372036854775807) (hc0 : ∀ k, k < n0 → ∃ g o, ao0 = some ⟨g, o, none⟩ ∧ w.cell? ⟨g, o + k, none⟩ = some (.int .u8 ((bs0.getD k 0).toNat : Int))) (ao1 : Option Addr) (n1 c1 : Nat) (bs1 : List UInt8) (hn1 : bs1.length = n1) (h91 : n1 ≤ 9223372036854775807) (hc1 : ∀ k, k < n1 → ∃ g o, ao1 = some ⟨g, o, none⟩ ∧ w.cell? ⟨g, o + k, none⟩ = some (.int .u8 ((bs1.getD k 0).toNat : Int))) (ht : Tabs w) :
    Calls Tryd.prog 6 #[.slice ao0 n0 c0, .slice ao1 n1 c1] w fun e w' => e = .returned (.bool true) ∧ Below w.heap.size w w' := by
  have HT := Lib.hid ht
  have HN0 := Lib.hid hn0
  have HC0 := Lib.hid hc0
  obtain ⟨l0, hl0⟩ : ∃ l, Num.number bs0 = l := ⟨_, rfl⟩
  have hv0 : Num.valid l0 = true := by rw [← hl0]; exact Num.number_valid bs0
  have hlen0 := ((Num.valid_iff l0).1 hv0).2.1
  have HL0 := Lib.hid hl0
  have HV0 := Lib.hid hv0
  have HN1 := Lib.hid hn1
  have HC1 := Lib.hid hc1
  obtain ⟨l1, hl1⟩ : ∃ l, Num.number bs1 = l := ⟨_, rfl⟩
  have hv1 : Num.valid l1 = true := by rw [← hl1]; exact Num.number_valid bs1
  have hlen1 := ((Num.valid_iff l1).1 hv1).2.1
  have HL1 := Lib.hid hl1
  have HV1 := Lib.hid hv1
  clear ht hn0 hc0 hl0 hv0 hn1 hc1 hl1 hv1
  go_enter Tryd.func6, Tryd.ntmps6
  go_wp2_with fail
  refine (number_any ao0 n0 c0 bs0 _ HN0.out h90 HC0.out).mono ?_
  rintro e w1 ⟨⟨d0, hd, rfl⟩, hb1⟩
  rw [HL0.out] at hd
  have hd90 : d0.size ≤ 20 := by rw [hd.size]; exact hlen0
  have HD0 := Lib.hid hd
  have HB1 := Lib.hid hb1
  have HT1 := Lib.hid (HT.out.keep hb1)
  have HC2 := Lib.hid (show ∀ k, k < n1 → ∃ g o, ao1 = some ⟨g, o, none⟩ ∧ w1.cell? ⟨g, o + k, none⟩ = some (.int .u8 ((bs1.getD k 0).toNat : Int)) by
    intro k hk
    obtain ⟨g, o, h1, h2⟩ := HC1.out k hk
    exact ⟨g, o, h1, (HB1.out.cell (p := ⟨g, o + k, none⟩) (cell_lt h2)).trans h2⟩)
  clear hd hb1
  go_wp2_with fail
  refine (number_any ao1 n1 c1 bs1 _ HN1.out h91 HC2.out).mono ?_
  rintro e w2 ⟨⟨d1, hd, rfl⟩, hb2⟩
  rw [HL1.out] at hd
  have hd91 : d1.size ≤ 20 := by rw [hd.size]; exact hlen1
  have HD1 := Lib.hid hd
  have HB2 := Lib.hid (HB1.out.trans (hb2.mono HB1.out.size))
  have HT2 := Lib.hid (HT1.out.keep hb2)
  clear hd hb2
  by_cases hxy : l0 = l1
  · obtain rfl : d0 = d1 := HD0.out.eq (by rw [hxy]; exact HD1.out)
    clear hxy
    go_wp2_with fail
    refine (works_any _ HT2.out).mono ?_
    rintro e w3 ⟨rfl, hb3⟩
    have HB3 := Lib.hid (HB2.out.trans (hb3.mono HB2.out.size))
    clear hb3
    go_wp2_with fail
    go_ret
    exact ⟨rfl, HB3.out⟩
  have HXY := Lib.hid hxy
  have hne : (d0.toList == d1.toList) = false := by rw [HD0.out.list, HD1.out.list, beq_eq_false_iff_ne]; exact hxy
  clear hxy
  go_wp2_with fail
  refine (kanji_any d0 l0 _ HD0.out (by omega) HT2.out).mono ?_
  rintro e w3 ⟨a3, ha3, rfl, hb3⟩
  have e3 := Lib.hid (show Is a3 (Num.wri 0 l0) by have := ha3; unfold wrt at this; rwa [if_pos HV0.out] at this)
  have HB3 := Lib.hid (HB2.out.trans (hb3.mono HB2.out.size))
  have HT3 := Lib.hid (HT2.out.keep hb3)
  clear ha3 hb3
  go_wp2_with fail
  refine (positional_any d0 l0 _ HD0.out (by omega) HT3.out).mono ?_
  rintro e w4 ⟨a4, ha4, rfl, hb4⟩
  have e4 := Lib.hid (show Is a4 (Num.wri 1 l0) by have := ha4; rwa [if_pos HV0.out] at this)
  have HB4 := Lib.hid (HB3.out.trans (hb4.mono HB3.out.size))
  have HT4 := Lib.hid (HT3.out.keep hb4)
  clear ha4 hb4
  go_wp2_with fail
  refine (formal_any d0 l0 _ HD0.out (by omega) HT4.out).mono ?_
  rintro e w5 ⟨a5, ha5, rfl, hb5⟩
  have e5 := Lib.hid (show Is a5 (Num.wri 2 l0) by have := ha5; unfold wrt at this; rwa [if_pos HV0.out] at this)
  have HB5 := Lib.hid (HB4.out.trans (hb5.mono HB4.out.size))
  have HT5 := Lib.hid (HT4.out.keep hb5)
  clear ha5 hb5
  go_wp2_with fail
  refine (commas_any d0 l0 _ HD0.out (by omega)).mono ?_
  rintro e w6 ⟨a6, ha6, rfl, hb6⟩
  have e6 := Lib.hid (show Is a6 (Num.com true l0) by rwa [if_pos HV0.out] at ha6)
  have HB6 := Lib.hid (HB5.out.trans (hb6.mono HB5.out.size))
  have HT6 := Lib.hid (HT5.out.keep hb6)
  clear ha6 hb6
  go_wp2_with fail
  refine (kanji_any d1 l1 _ HD1.out (by omega) HT6.out).mono ?_
  rintro e w7 ⟨a7, ha7, rfl, hb7⟩
  have e7 := Lib.hid (show Is a7 (Num.wri 0 l1) by have := ha7; unfold wrt at this; rwa [if_pos HV1.out] at this)
  have HB7 := Lib.hid (HB6.out.trans (hb7.mono HB6.out.size))
  have HT7 := Lib.hid (HT6.out.keep hb7)
  have f00 : (a3.toList == a7.toList) = false := by rw [e3.out.list, e7.out.list, beq_eq_false_iff_ne]; exact Num.apart 0 0 HV0.out HV1.out HXY.out
  have f10 : (a4.toList == a7.toList) = false := by rw [e4.out.list, e7.out.list, beq_eq_false_iff_ne]; exact Num.apart 1 0 HV0.out HV1.out HXY.out
  have f20 : (a5.toList == a7.toList) = false := by rw [e5.out.list, e7.out.list, beq_eq_false_iff_ne]; exact Num.apart 2 0 HV0.out HV1.out HXY.out
  clear ha7 hb7
  go_wp2_with fail
  refine (positional_any d1 l1 _ HD1.out (by omega) HT7.out).mono ?_
  rintro e w8 ⟨a8, ha8, rfl, hb8⟩
  have e8 := Lib.hid (show Is a8 (Num.wri 1 l1) by have := ha8; rwa [if_pos HV1.out] at this)
  have HB8 := Lib.hid (HB7.out.trans (hb8.mono HB7.out.size))
  have HT8 := Lib.hid (HT7.out.keep hb8)
  have f01 : (a3.toList == a8.toList) = false := by rw [e3.out.list, e8.out.list, beq_eq_false_iff_ne]; exact Num.apart 0 1 HV0.out HV1.out HXY.out
  have f11 : (a4.toList == a8.toList) = false := by rw [e4.out.list, e8.out.list, beq_eq_false_iff_ne]; exact Num.apart 1 1 HV0.out HV1.out HXY.out
  have f21 : (a5.toList == a8.toList) = false := by rw [e5.out.list, e8.out.list, beq_eq_false_iff_ne]; exact Num.apart 2 1 HV0.out HV1.out HXY.out
  clear ha8 hb8
  go_wp2_with fail
  refine (formal_any d1 l1 _ HD1.out (by omega) HT8.out).mono ?_
  rintro e w9 ⟨a9, ha9, rfl, hb9⟩
  have e9 := Lib.hid (show Is a9 (Num.wri 2 l1) by have := ha9; unfold wrt at this; rwa [if_pos HV1.out] at this)
  have HB9 := Lib.hid (HB8.out.trans (hb9.mono HB8.out.size))
  have HT9 := Lib.hid (HT8.out.keep hb9)
  have f02 : (a3.toList == a9.toList) = false := by rw [e3.out.list, e9.out.list, beq_eq_false_iff_ne]; exact Num.apart 0 2 HV0.out HV1.out HXY.out
  have f12 : (a4.toList == a9.toList) = false := by rw [e4.out.list, e9.out.list, beq_eq_false_iff_ne]; exact Num.apart 1 2 HV0.out HV1.out HXY.out
  have f22 : (a5.toList == a9.toList) = false := by rw [e5.out.list, e9.out.list, beq_eq_false_iff_ne]; exact Num.apart 2 2 HV0.out HV1.out HXY.out
  clear ha9 hb9
  go_wp2_with fail
  refine (commas_any d1 l1 _ HD1.out (by omega)).mono ?_
  rintro e w10 ⟨a10, ha10, rfl, hb10⟩
  have e10 := Lib.hid (show Is a10 (Num.com true l1) by rwa [if_pos HV1.out] at ha10)
  have HB10 := Lib.hid (HB9.out.trans (hb10.mono HB9.out.size))
  have HT10 := Lib.hid (HT9.out.keep hb10)
  have f33 : (a6.toList == a10.toList) = false := by rw [e6.out.list, e10.out.list, beq_eq_false_iff_ne]; exact fun h => HXY.out (Num.com_inj ((Num.valid_iff l0).1 HV0.out).2.2.1 ((Num.valid_iff l1).1 HV1.out).2.2.1 h)
  clear ha10 hb10
  go_wp2_with fail
  refine (works_any _ HT10.out).mono ?_
  rintro e w11 ⟨rfl, hb11⟩
  have HB11 := Lib.hid (HB10.out.trans (hb11.mono HB10.out.size))
  clear hb11
  go_wp2_with fail
  go_ret
  exact ⟨rfl, HB11.out⟩

theorem laidOut : laidOutB Tryd.prog = true := by kernel_rfl
theorem contract (H : Type) (enc : TypeId × Value → H) (W : World) (base : Nat) (args : Array Value) (ds gs : List (DataW H)) (before : List MemPlace)
    (hval : ∀ (j : Nat) t v, Tryd.f6.params[j]? = some t → args[j]? = some v → Value.okWide Tryd.prog W .any base t v)
    (hW : DataW.Whole enc Tryd.prog Tryd.f6.params.toList Rows.numeralApartSpec.vars false W args.toList ds gs before) (hL : laidMetH Tryd.prog Rows.numeralApartRow.laid W)
    (hR : (DataW.weightsEach Tryd.prog (Tryd.f6.params.toList ++ (OpenSpec.ofChange Rows.numeralApartSpec).bare.plain.varTypes Tryd.prog) (ds ++ gs)).all (· ≤ reachBytes) = true) :
    Calls Tryd.prog 6 args W fun e W' => ∃ v, e = .returned v ∧ Rows.numeralApartSpec.post enc Tryd.prog Tryd.f6 false true false false W args v W' := by
  have hT : Tabs W := tabs_of_laid hL
  have hW' := hW
  obtain ⟨p, q, hA0, hV, rfl, hfz, hnd⟩ := hW
  have hA : DataW.TrodAll enc Tryd.prog W 0 (fun _ => true) true Tryd.f6.params.toList args.toList ds p := hA0
  rw [Tryd.params6] at hA hval hR
  obtain ⟨v0, vs0, d0, ds0, p0, q0, hargs, rfl, rfl, h0, r0⟩ := trodAll_cons hA
  obtain ⟨v1, vs1, d1, ds1, p1, q1, rfl, rfl, rfl, h1, r1⟩ := trodAll_cons r0
  obtain ⟨rfl, rfl, rfl⟩ := trodAll_nil r1
  obtain rfl : args = #[v0, v1] := by cases args; simp_all
  obtain ⟨rfl, rfl⟩ := trodVars_none hV
  clear hA0
  simp only [List.append_nil] at hW' hR
  have k0 := h0
  have l0 : ∀ x ∈ p0, x.block < W.heap.size := fun x hx => by simpa using hW'.lt x (by simp [hx])
  have k1 := h1
  have l1 : ∀ x ∈ p1, x.block < W.heap.size := fun x hx => by simpa using hW'.lt x (by simp [hx])
  obtain ⟨ao0, n0, c0, bs0, rfl, hn0, hm0, hc0⟩ := open_u8s (hval 0 26 v0 rfl rfl) h0
  obtain ⟨ao1, n1, c1, bs1, rfl, hn1, hm1, hc1⟩ := open_u8s (hval 1 26 v1 rfl rfl) h1
  refine (walk W ao0 n0 c0 bs0 hn0 hm0 hc0 ao1 n1 c1 bs1 hn1 hm1 hc1 hT).mono fun e W' ⟨he, bel⟩ => ?_
  subst he
  exact ⟨_, rfl, _, _, _, [], _, [], hW', trodAll_mk1 (shut_bool Tryd.underlying4 _), (trodAll_cons_mk (Below.trod laidOut (by kernel_rfl) (of_decide_eq_true (by kernel_rfl)) k0 bel l0) (trodAll_cons_mk (Below.trod laidOut (by kernel_rfl) (of_decide_eq_true (by kernel_rfl)) k1 bel l1) trodAll_mk0)), rfl, bel.frame _, fun h => by cases h⟩

theorem reads (os : Os) {H : Type} (enc : TypeId × Value → H) : ∃ places, DataW.whole enc Tryd.prog ((laidWorld os).forCall (fun _ _ => 0) ⟨#[], #[.slice none 0 0, .slice none 0 0], []⟩).memory Tryd.f6.params.toList Rows.numeralApartSpec.vars false #[.slice none 0 0, .slice none 0 0].toList 8 = some ([.nil, .nil], [], places) :=
  ⟨[], by kernel_rfl⟩

set_option maxRecDepth 100000 in
theorem lifted (os : Os) (started : os.Started) (H : Type) (enc : TypeId × Value → H) (F : Stop.Interp) :
    ReturnsInHanded {} Tryd.checked os 6 .any ((OpenSpec.ofChange Rows.numeralApartSpec).preRow enc Tryd.prog Tryd.f6 Rows.numeralApartRow.domain false Rows.numeralApartRow.laid) (((OpenSpec.ofChange Rows.numeralApartSpec).at F).post enc Tryd.prog Tryd.f6 false true false false) := by
  obtain ⟨places, hx⟩ := reads os enc
  refine returnsInHanded_of_row (C := Tryd.checked) (s := OpenSpec.ofChange Rows.numeralApartSpec) own started (by kernel_rfl) Tryd.func6
    (witness_row_at (enc := enc) (C := Tryd.checked) false (laidWorld os) #[.slice none 0 0, .slice none 0 0] rfl (by kernel_rfl) (by kernel_rfl) (by kernel_rfl)
      (OpenSpec.preRow_of_cond 8 hx (by kernel_rfl) (fun k hk => by cases hk) (by kernel_rfl) (laid_met os _))) ?_
  intro W base args ds gs before hval hW _ _ hR hL _ _
  exact contract H enc W base args ds gs before hval hW hL hR

theorem said : Rows.NumeralApartSaid :=
  OpenClaim.holds_of_cond 6 Tryd.f6 rfl rfl rfl rfl rfl rfl rfl ⟨rfl, rfl, rfl, rfl, rfl⟩ rfl rfl rfl rfl rfl (by kernel_rfl) Tryd.func6 (by kernel_rfl)
    (of_decide_eq_true (by kernel_rfl)) (by unfold Func.isWrapper; first | (rw [if_pos (by decide +kernel)]; kernel_rfl) | (rw [if_neg (by decide +kernel)]; exact ⟨rfl, rfl⟩))
    (fun os started H enc _ F => by rw [OpenClaim.pre_eq_preRow]; exact lifted os started H enc F)

theorem plain (f : FuncId) (fn : Func) (hf : Tryd.pinned.checked.prog.funcNamed "henkan/henkanlaw03.NumeralApart" = some f) (hfn : Tryd.pinned.checked.prog.funcs[f]? = some fn) :
    false = Tryd.pinned.checked.prog.looks [] ∧ ∀ (j : Nat) t, fn.params[j]? = some t → Tryd.pinned.checked.prog.wantsStandIn t = false := by
  obtain rfl : f = 6 := Option.some.inj ((show Tryd.prog.funcNamed "henkan/henkanlaw03.NumeralApart" = some 6 by kernel_rfl).symm.trans hf) |>.symm
  obtain rfl : fn = Tryd.f6 := (Option.some.inj (Tryd.func6.symm.trans hfn)).symm
  refine ⟨by kernel_rfl, fun j t ht => ?_⟩
  rw [Tryd.params6] at ht
  have hm := Array.mem_of_getElem? ht
  simp only [List.mem_toArray, List.mem_cons, List.not_mem_nil, or_false] at hm
  rcases hm with rfl | rfl
  · exact (show Tryd.prog.wantsStandIn 26 = false by kernel_rfl)
  · exact (show Tryd.prog.wantsStandIn 26 = false by kernel_rfl)

/-- the card -/
theorem proved : Rows.NumeralApartCardSaid :=
  Claim7.holds_tied_plain_at .later [] _ _ _ _ said (fun _ h => by cases h) (by kernel_rfl) (fun _ h => by cases h) numeralApart_row_tie rfl ⟨rfl, rfl⟩ (by kernel_rfl) rfl plain (by kernel_rfl)
#print axioms proved
end Go.Proofs.YtcgfcedlllmbhaaDoor.numeralApart
