/-
  henkanlaw03.NumeralWrites answers true for every string. No condition but what the row lists.
-/
import Derived.Test.YtcgfcedlllmbhaaDoorLawOpen
import Derived.Carry
namespace Go.Proofs.YtcgfcedlllmbhaaDoor.numeralWrites
open Go.ChangeShapes Go.WideShapes Go.ChangeAt Go.RowKit
open Go.ChangeMaps (open_string)
set_option linter.unusedVariables false

set_option maxRecDepth 100000 in
set_option maxHeartbeats 4000000 in
theorem walk (w : World) (s : ByteArray) (hs : s.size ≤ 140737488351232) (ht : Tabs w) :
    Calls Tryd.prog 3 #[.string s] w fun e w' => e = .returned (.bool true) ∧ Below w.heap.size w w' := by
  have HT := Lib.hid ht
  obtain ⟨l, hl⟩ : ∃ l, Is s l := ⟨_, rfl⟩
  have HI := Lib.hid hl
  obtain ⟨v, hv⟩ : ∃ v, Num.valid l = v := ⟨_, rfl⟩
  have HV := Lib.hid hv
  have h63 : s.size ≤ 9223372036854775807 := by omega
  clear ht hl hv
  go_enter Tryd.func3, Tryd.ntmps3
  go_wp2_with fail
  refine (kanji_any s l _ HI.out h63 HT.out).mono ?_
  rintro e w1 ⟨a1, ha1, rfl, hb1⟩
  try rw [HV.out]
  have Ha1 := Lib.hid ha1
  have HB1 := Lib.hid (hb1)
  have HT1 := Lib.hid (HT.out.keep hb1)
  clear ha1 hb1
  go_wp2_with fail
  refine (rkanji_any s l _ HI.out h63).mono ?_
  rintro e w2 ⟨a2, ha2, rfl, hb2⟩
  try rw [HV.out]
  obtain rfl : a1 = a2 := Ha1.out.eq ha2
  skip
  have HB2 := Lib.hid (HB1.out.trans (hb2.mono HB1.out.size))
  have HT2 := Lib.hid (HT1.out.keep hb2)
  clear ha2 hb2
  go_wp2_with fail
  refine (positional_any s l _ HI.out h63 HT2.out).mono ?_
  rintro e w3 ⟨a3, ha3, rfl, hb3⟩
  try rw [HV.out]
  have Ha3 := Lib.hid ha3
  have HB3 := Lib.hid (HB2.out.trans (hb3.mono HB2.out.size))
  have HT3 := Lib.hid (HT2.out.keep hb3)
  clear ha3 hb3
  go_wp2_with fail
  refine (rpositional_any s l _ HI.out h63).mono ?_
  rintro e w4 ⟨a4, ha4, rfl, hb4⟩
  try rw [HV.out]
  obtain rfl : a3 = a4 := Ha3.out.eq ha4
  skip
  have HB4 := Lib.hid (HB3.out.trans (hb4.mono HB3.out.size))
  have HT4 := Lib.hid (HT3.out.keep hb4)
  clear ha4 hb4
  go_wp2_with fail
  refine (formal_any s l _ HI.out h63 HT4.out).mono ?_
  rintro e w5 ⟨a5, ha5, rfl, hb5⟩
  try rw [HV.out]
  have Ha5 := Lib.hid ha5
  have HB5 := Lib.hid (HB4.out.trans (hb5.mono HB4.out.size))
  have HT5 := Lib.hid (HT4.out.keep hb5)
  clear ha5 hb5
  go_wp2_with fail
  refine (rformal_any s l _ HI.out h63).mono ?_
  rintro e w6 ⟨a6, ha6, rfl, hb6⟩
  try rw [HV.out]
  obtain rfl : a5 = a6 := Ha5.out.eq ha6
  skip
  have HB6 := Lib.hid (HB5.out.trans (hb6.mono HB5.out.size))
  have HT6 := Lib.hid (HT5.out.keep hb6)
  clear ha6 hb6
  go_wp2_with fail
  refine (commas_any s l _ HI.out h63).mono ?_
  rintro e w7 ⟨a7, ha7, rfl, hb7⟩
  try rw [HV.out]
  have Ha7 := Lib.hid ha7
  have HB7 := Lib.hid (HB6.out.trans (hb7.mono HB6.out.size))
  have HT7 := Lib.hid (HT6.out.keep hb7)
  clear ha7 hb7
  go_wp2_with fail
  refine (rcommas_any s l _ HI.out h63).mono ?_
  rintro e w8 ⟨a8, ha8, rfl, hb8⟩
  try rw [HV.out]
  obtain rfl : a7 = a8 := Ha7.out.eq ha8
  skip
  have HB8 := Lib.hid (HB7.out.trans (hb8.mono HB7.out.size))
  have HT8 := Lib.hid (HT7.out.keep hb8)
  clear ha8 hb8
  go_wp2_with fail
  refine (works_any _ HT8.out).mono ?_
  rintro e w9 ⟨rfl, hb9⟩
  have HB9 := Lib.hid (HB8.out.trans (hb9.mono HB8.out.size))
  clear hb9
  go_wp2_with fail
  go_ret
  exact ⟨rfl, HB9.out⟩

theorem laidOut : laidOutB Tryd.prog = true := by kernel_rfl
theorem contract (H : Type) (enc : TypeId × Value → H) (W : World) (base : Nat) (args : Array Value) (ds gs : List (DataW H)) (before : List MemPlace)
    (hval : ∀ (j : Nat) t v, Tryd.f3.params[j]? = some t → args[j]? = some v → Value.okWide Tryd.prog W .any base t v)
    (hW : DataW.Whole enc Tryd.prog Tryd.f3.params.toList Rows.numeralWritesSpec.vars false W args.toList ds gs before) (hL : laidMetH Tryd.prog Rows.numeralWritesRow.laid W)
    (hR : (DataW.weightsEach Tryd.prog (Tryd.f3.params.toList ++ (OpenSpec.ofChange Rows.numeralWritesSpec).bare.plain.varTypes Tryd.prog) (ds ++ gs)).all (· ≤ reachBytes) = true) :
    Calls Tryd.prog 3 args W fun e W' => ∃ v, e = .returned v ∧ Rows.numeralWritesSpec.post enc Tryd.prog Tryd.f3 false true false false W args v W' := by
  have hT : Tabs W := tabs_of_laid hL
  have hW' := hW
  obtain ⟨p, q, hA0, hV, rfl, hfz, hnd⟩ := hW
  have hA : DataW.TrodAll enc Tryd.prog W 0 (fun _ => true) true Tryd.f3.params.toList args.toList ds p := hA0
  rw [Tryd.params3] at hA hval hR
  obtain ⟨v0, vs0, d0, ds0, p0, q0, hargs, rfl, rfl, h0, r0⟩ := trodAll_cons hA
  obtain ⟨rfl, rfl, rfl⟩ := trodAll_nil r0
  obtain rfl : args = #[v0] := by cases args; simp_all
  obtain ⟨rfl, rfl⟩ := trodVars_none hV
  clear hA0
  simp only [List.append_nil] at hW' hR
  have k0 := h0
  have l0 : ∀ x ∈ p0, x.block < W.heap.size := fun x hx => by simpa using hW'.lt x (by simp [hx])
  obtain ⟨s0, rfl, rfl, rfl, m0⟩ := open_string Tryd.underlying9 (hval 0 9 v0 rfl rfl) h0
  refine (walk W s0 (reach_at hR 0 rfl) hT).mono fun e W' ⟨he, bel⟩ => ?_
  subst he
  exact ⟨_, rfl, _, _, _, [], _, [], hW', trodAll_mk1 (shut_bool Tryd.underlying4 _), (trodAll_cons_mk (Below.trod laidOut (by kernel_rfl) (of_decide_eq_true (by kernel_rfl)) k0 bel l0) trodAll_mk0), rfl, bel.frame _, fun h => by cases h⟩

theorem reads (os : Os) {H : Type} (enc : TypeId × Value → H) : ∃ places, DataW.whole enc Tryd.prog ((laidWorld os).forCall (fun _ _ => 0) ⟨#[], #[.string ⟨#[]⟩], []⟩).memory Tryd.f3.params.toList Rows.numeralWritesSpec.vars false #[.string ⟨#[]⟩].toList 8 = some ([.lit (.string [])], [], places) :=
  ⟨[], by kernel_rfl⟩

set_option maxRecDepth 100000 in
theorem lifted (os : Os) (started : os.Started) (H : Type) (enc : TypeId × Value → H) (F : Stop.Interp) :
    ReturnsInHanded {} Tryd.checked os 3 .any ((OpenSpec.ofChange Rows.numeralWritesSpec).preRow enc Tryd.prog Tryd.f3 Rows.numeralWritesRow.domain false Rows.numeralWritesRow.laid) (((OpenSpec.ofChange Rows.numeralWritesSpec).at F).post enc Tryd.prog Tryd.f3 false true false false) := by
  obtain ⟨places, hx⟩ := reads os enc
  refine returnsInHanded_of_row (C := Tryd.checked) (s := OpenSpec.ofChange Rows.numeralWritesSpec) own started (by kernel_rfl) Tryd.func3
    (witness_row_at (enc := enc) (C := Tryd.checked) false (laidWorld os) #[.string ⟨#[]⟩] rfl (by kernel_rfl) (by kernel_rfl) (by kernel_rfl)
      (OpenSpec.preRow_of_cond 8 hx (by kernel_rfl) (fun k hk => by cases hk) (by kernel_rfl) (laid_met os _))) ?_
  intro W base args ds gs before hval hW _ _ hR hL _ _
  exact contract H enc W base args ds gs before hval hW hL hR

theorem said : Rows.NumeralWritesSaid :=
  OpenClaim.holds_of_cond 3 Tryd.f3 rfl rfl rfl rfl rfl rfl rfl ⟨rfl, rfl, rfl, rfl, rfl⟩ rfl rfl rfl rfl rfl (by kernel_rfl) Tryd.func3 (by kernel_rfl)
    (of_decide_eq_true (by kernel_rfl)) (by unfold Func.isWrapper; first | (rw [if_pos (by decide +kernel)]; kernel_rfl) | (rw [if_neg (by decide +kernel)]; exact ⟨rfl, rfl⟩))
    (fun os started H enc _ F => by rw [OpenClaim.pre_eq_preRow]; exact lifted os started H enc F)

theorem plain (f : FuncId) (fn : Func) (hf : Tryd.pinned.checked.prog.funcNamed "henkan/henkanlaw03.NumeralWrites" = some f) (hfn : Tryd.pinned.checked.prog.funcs[f]? = some fn) :
    false = Tryd.pinned.checked.prog.looks [] ∧ ∀ (j : Nat) t, fn.params[j]? = some t → Tryd.pinned.checked.prog.wantsStandIn t = false := by
  obtain rfl : f = 3 := Option.some.inj ((show Tryd.prog.funcNamed "henkan/henkanlaw03.NumeralWrites" = some 3 by kernel_rfl).symm.trans hf) |>.symm
  obtain rfl : fn = Tryd.f3 := (Option.some.inj (Tryd.func3.symm.trans hfn)).symm
  refine ⟨by kernel_rfl, fun j t ht => ?_⟩
  rw [Tryd.params3] at ht
  have hm := Array.mem_of_getElem? ht
  simp only [List.mem_toArray, List.mem_cons, List.not_mem_nil, or_false] at hm
  subst hm
  exact (show Tryd.prog.wantsStandIn 9 = false by kernel_rfl)

/-- the card -/
theorem proved : Rows.NumeralWritesCardSaid :=
  Claim7.holds_tied_plain_at .later [] _ _ _ _ said (fun _ h => by cases h) (by kernel_rfl) (fun _ h => by cases h) numeralWrites_row_tie rfl ⟨rfl, rfl⟩ (by kernel_rfl) rfl plain (by kernel_rfl)
#print axioms proved
end Go.Proofs.YtcgfcedlllmbhaaDoor.numeralWrites
