/-
  Tomorrow's special writings are those of today on the next day, and so are yesterday's.
-/
import Derived.Test.YtnpkcobapckhdaaGreatDoorSpecAll
import Derived.Carry
import Derived.Laws.AppendOwnNone
namespace Go.Proofs.YtnpkcobapckhdaaGreatDoor.specialDays
open Go.ChangeShapes Go.WideShapes Go.ChangeAt Go.RowKit
open Go.ChangeMaps (open_string)
set_option linter.unusedVariables false

theorem ofK (l : List UInt8) (day c : Int) (n : ByteArray) (h1 : Num.forms l = []) (h2 : symPart ⟨(UT.hira l).toArray⟩ = []) (h3 : dayRow ⟨(UT.hira l).toArray⟩ = some (n, c)) (hd : -2 ≤ day ∧ day ≤ 3652061) : ofL l day = dayL (day + c) := by
  unfold ofL dayPart
  rw [h1, h2, h3]
  simp [hd]
theorem dayL_pos {n : Int} (h1 : 1 ≤ n) (h2 : n ≤ 3652059) : 0 < (dayL n).length := by
  obtain ⟨k, rfl⟩ : ∃ k : Nat, n = k := ⟨n.toNat, by omega⟩
  obtain ⟨y, m, d, h3, h4⟩ := date_exists k (by omega) (by omega)
  rw [dayL_eq h3 h4]
  simp [CF.formsL]
theorem of_k (day : Int) (hd : -2 ≤ day ∧ day ≤ 3652061) : ofL [227, 129, 141, 227, 130, 135, 227, 129, 134] day = dayL (day + 0) := ofK _ _ _ ⟨#[227, 129, 141, 227, 130, 135, 227, 129, 134]⟩ (by decide +kernel) (by decide +kernel) (by decide +kernel) hd
theorem of_a (day : Int) (hd : -2 ≤ day ∧ day ≤ 3652061) : ofL [227, 129, 130, 227, 129, 151, 227, 129, 159] day = dayL (day + 1) := ofK _ _ _ ⟨#[227, 129, 130, 227, 129, 151, 227, 129, 159]⟩ (by decide +kernel) (by decide +kernel) (by decide +kernel) hd
theorem of_s (day : Int) (hd : -2 ≤ day ∧ day ≤ 3652061) : ofL [227, 129, 130, 227, 129, 153] day = dayL (day + 1) := ofK _ _ _ ⟨#[227, 129, 130, 227, 129, 153]⟩ (by decide +kernel) (by decide +kernel) (by decide +kernel) hd
theorem of_n (day : Int) (hd : -2 ≤ day ∧ day ≤ 3652061) : ofL [227, 129, 141, 227, 129, 174, 227, 129, 134] day = dayL (day + (-1)) := ofK _ _ _ ⟨#[227, 129, 141, 227, 129, 174, 227, 129, 134]⟩ (by decide +kernel) (by decide +kernel) (by decide +kernel) hd
set_option maxRecDepth 100000 in
set_option maxHeartbeats 4000000 in
theorem walk (w : World) (day : Int) (_ : (Lit.int .i64 day).wf = true) (ht : STabs w) :
    Calls Tryz.prog 7 #[.int .i64 day] w fun e w' => e = .returned (.bool true) ∧ Below w.heap.size w w' := by
  have HT := Lib.hid ht
  clear ht
  by_cases h1 : day < 1
  · go_enter Tryz.func7, Tryz.ntmps7
    go_wp2_with fail
    with_reducible refine (sworks_any _ HT.out).mono ?_
    rintro e w4 ⟨rfl, hb⟩
    have HB4 := Lib.hid hb
    clear hb
    go_wp2_with fail
    go_ret
    exact ⟨rfl, HB4.out⟩
  by_cases h2 : 3652058 < day
  · go_enter Tryz.func7, Tryz.ntmps7
    go_wp2_with fail
    with_reducible refine (sworks_any _ HT.out).mono ?_
    rintro e w4 ⟨rfl, hb⟩
    have HB4 := Lib.hid hb
    clear hb
    go_wp2_with fail
    go_ret
    exact ⟨rfl, HB4.out⟩
  have HB0 := Lib.hid (Below.refl w.heap.size w)
  go_enter Tryz.func7, Tryz.ntmps7
  go_wp2_with fail
  with_reducible refine (of_any ⟨#[227, 129, 141, 227, 130, 135, 227, 129, 134]⟩ [227, 129, 141, 227, 130, 135, 227, 129, 134] (day) _ (Is.mk _) (by decide) HT.out).mono ?_
  rw [of_k (day) (by omega), show day + 0 = day by omega]
  rintro e w1 ⟨v1, xs1, hm1, hx1, rfl, hb⟩
  have HM1 := Eqv2.mk hm1
  have hn1 : 0 < xs1.length := by have := dayL_pos (n := day) (by omega) (by omega); rw [← hm1, List.length_map] at this; exact this
  have hl1 : xs1.length ≤ 8 := by have := dayL_len day; rw [← hm1, List.length_map] at this; exact this
  have HX1 := Lib.hid hx1.lies
  have HB1 := Lib.hid hb
  have HT1 := Lib.hid (HT.out.keep hb)
  obtain ⟨ao1, ca1, hv1, hc1⟩ := hx1.lies
  clear hm1 hx1 hb hc1
  subst hv1
  go_wp2_with fail
  with_reducible refine (of_any ⟨#[227, 129, 141, 227, 130, 135, 227, 129, 134]⟩ [227, 129, 141, 227, 130, 135, 227, 129, 134] (day + 1) _ (Is.mk _) (by decide) HT1.out).mono ?_
  rw [of_k (day + 1) (by omega), show day + 1 + 0 = day + 1 by omega]
  rintro e w2 ⟨v2, xs2, hm2, hx2, rfl, hb⟩
  have HM2 := Eqv2.mk hm2
  have hl2 : xs2.length ≤ 8 := by have := dayL_len (day + 1); rw [← hm2, List.length_map] at this; exact this
  have HX2 := Lib.hid hx2.lies
  have HX1b := Lib.hid (HX1.out.below hb (Nat.le_refl _))
  have HB2 := Lib.hid (HB1.out.trans (hb.mono HB1.out.size))
  have HT2 := Lib.hid (HT.out.keep HB2.out)
  clear hm2 hx2 hb
  go_wp2_with fail
  with_reducible refine (of_any ⟨#[227, 129, 130, 227, 129, 151, 227, 129, 159]⟩ [227, 129, 130, 227, 129, 151, 227, 129, 159] (day) _ (Is.mk _) (by decide) HT2.out).mono ?_
  rw [of_a (day) (by omega), show day + 1 = day + 1 by omega]
  rintro e w3 ⟨v3, xs3, hm3, hx3, rfl, hb⟩
  obtain rfl := bas_inj (hm3.trans HM2.out.symm)
  have HX3 := Lib.hid hx3.lies
  have HXA3 := Lib.hid (HX1b.out.below hb (Nat.le_refl _))
  have HXB3 := Lib.hid (HX2.out.below hb (Nat.le_refl _))
  have HB3 := Lib.hid (HB2.out.trans (hb.mono HB2.out.size))
  clear hm3 hx3 hb
  go_wp2_with fail
  with_reducible refine (same20_yes _ _ _ _ HX3.out HXB3.out (by omega)).mono ?_
  rintro e w4 ⟨rfl, hb⟩
  have HXA4 := Lib.hid (HXA3.out.below hb (Nat.le_refl _))
  have HXB4 := Lib.hid (HXB3.out.below hb (Nat.le_refl _))
  have HB4 := Lib.hid (HB3.out.trans (hb.mono HB3.out.size))
  have HT4 := Lib.hid (HT.out.keep HB4.out)
  clear hb
  go_wp2_with fail
  with_reducible refine (of_any ⟨#[227, 129, 130, 227, 129, 153]⟩ [227, 129, 130, 227, 129, 153] (day) _ (Is.mk _) (by decide) HT4.out).mono ?_
  rw [of_s (day) (by omega), show day + 1 = day + 1 by omega]
  rintro e w5 ⟨v5, xs5, hm5, hx5, rfl, hb⟩
  obtain rfl := bas_inj (hm5.trans HM2.out.symm)
  have HX5 := Lib.hid hx5.lies
  have HXA5 := Lib.hid (HXA4.out.below hb (Nat.le_refl _))
  have HXB5 := Lib.hid (HXB4.out.below hb (Nat.le_refl _))
  have HB5 := Lib.hid (HB4.out.trans (hb.mono HB4.out.size))
  clear hm5 hx5 hb
  go_wp2_with fail
  with_reducible refine (same20_yes _ _ _ _ HX5.out HXB5.out (by omega)).mono ?_
  rintro e w6 ⟨rfl, hb⟩
  have HXA6 := Lib.hid (HXA5.out.below hb (Nat.le_refl _))
  have HXB6 := Lib.hid (HXB5.out.below hb (Nat.le_refl _))
  have HB6 := Lib.hid (HB5.out.trans (hb.mono HB5.out.size))
  have HT6 := Lib.hid (HT.out.keep HB6.out)
  clear hb
  go_wp2_with fail
  with_reducible refine (of_any ⟨#[227, 129, 141, 227, 129, 174, 227, 129, 134]⟩ [227, 129, 141, 227, 129, 174, 227, 129, 134] (day + 1) _ (Is.mk _) (by decide) HT6.out).mono ?_
  rw [of_n (day + 1) (by omega), show day + 1 + -1 = day by omega]
  rintro e w7 ⟨v7, xs7, hm7, hx7, rfl, hb⟩
  obtain rfl := bas_inj (hm7.trans HM1.out.symm)
  have HX7 := Lib.hid hx7.lies
  have HXA7 := Lib.hid (HXA6.out.below hb (Nat.le_refl _))
  have HXB7 := Lib.hid (HXB6.out.below hb (Nat.le_refl _))
  have HB7 := Lib.hid (HB6.out.trans (hb.mono HB6.out.size))
  clear hm7 hx7 hb
  go_wp2_with fail
  with_reducible refine (same20_yes _ _ _ _ HX7.out HXA7.out (by omega)).mono ?_
  rintro e w8 ⟨rfl, hb⟩
  have HXA8 := Lib.hid (HXA7.out.below hb (Nat.le_refl _))
  have HXB8 := Lib.hid (HXB7.out.below hb (Nat.le_refl _))
  have HB8 := Lib.hid (HB7.out.trans (hb.mono HB7.out.size))
  have HT8 := Lib.hid (HT.out.keep HB8.out)
  clear hb
  go_wp2_with fail
  with_reducible refine (sworks_any _ HT8.out).mono ?_
  rintro e w9 ⟨rfl, hb⟩
  have HB9 := Lib.hid (HB8.out.trans (hb.mono HB8.out.size))
  clear hb
  go_wp2_with fail
  go_ret
  exact ⟨rfl, HB9.out⟩

theorem laidOut : laidOutB Tryz.prog = true := by kernel_rfl
set_option maxRecDepth 100000 in
theorem contract (H : Type) (enc : TypeId × Value → H) (W : World) (base : Nat) (args : Array Value) (ds gs : List (DataW H)) (before : List MemPlace)
    (hval : ∀ (j : Nat) t v, Tryz.f7.params[j]? = some t → args[j]? = some v → Value.okWide Tryz.prog W .any base t v)
    (hW : DataW.Whole enc Tryz.prog Tryz.f7.params.toList Rows.specialDaysSpec.vars false W args.toList ds gs before) (hL : laidMetH Tryz.prog Rows.specialDaysRow.laid W) (hS : W.ShapedOpen Tryz.prog)
    (hR : (DataW.weightsEach Tryz.prog (Tryz.f7.params.toList ++ (OpenSpec.ofChange Rows.specialDaysSpec).bare.plain.varTypes Tryz.prog) (ds ++ gs)).all (· ≤ reachBytes) = true) :
    Calls Tryz.prog 7 args W fun e W' => ∃ v, e = .returned v ∧ Rows.specialDaysSpec.post enc Tryz.prog Tryz.f7 false true false false W args v W' := by
  have hT : STabs W := stabs_of_laid hL hS
  have hW' := hW
  obtain ⟨p, q, hA0, hV, rfl, hfz, hnd⟩ := hW
  have hA : DataW.TrodAll enc Tryz.prog W 0 (fun _ => true) true Tryz.f7.params.toList args.toList ds p := hA0
  rw [Tryz.params7] at hA hval hR
  obtain ⟨v0, vs0, d0, ds0, p0, q0, hargs, rfl, rfl, h0, r0⟩ := trodAll_cons hA
  obtain ⟨rfl, rfl, rfl⟩ := trodAll_nil r0
  obtain rfl : args = #[v0] := by cases args; simp_all
  obtain ⟨rfl, rfl⟩ := trodVars_none hV
  clear hA0
  simp only [List.append_nil] at hW' hR
  have k0 := h0
  have l0 : ∀ x ∈ p0, x.block < W.heap.size := fun x hx => by simpa using hW'.lt x (by simp [hx])
  obtain ⟨a0, rfl, rfl, rfl, w0⟩ := open_int Tryz.underlying3 (hval 0 3 v0 rfl rfl) h0
  refine (walk W a0 w0 hT).mono fun e W' ⟨he, bel⟩ => ?_
  subst he
  exact ⟨_, rfl, _, _, _, [], _, [], hW', trodAll_mk1 (shut_bool Tryz.underlying4 _), (trodAll_cons_mk (Below.trod laidOut (by kernel_rfl) (of_decide_eq_true (by kernel_rfl)) k0 bel l0) trodAll_mk0), rfl, bel.frame _, fun h => by cases h⟩

theorem reads (os : Os) {H : Type} (enc : TypeId × Value → H) : ∃ places, DataW.whole enc Tryz.prog ((laidWorldS os).forCall (fun _ _ => 0) ⟨#[], #[.int .i64 0], []⟩).memory Tryz.f7.params.toList Rows.specialDaysSpec.vars false #[.int .i64 0].toList 8 = some ([.lit (.int .i64 0)], [], places) :=
  ⟨[], by kernel_rfl⟩

set_option maxRecDepth 100000 in
theorem lifted (os : Os) (started : os.Started) (H : Type) (enc : TypeId × Value → H) (F : Stop.Interp) :
    ReturnsInHanded {} Tryz.checked os 7 .any ((OpenSpec.ofChange Rows.specialDaysSpec).preRow enc Tryz.prog Tryz.f7 Rows.specialDaysRow.domain false Rows.specialDaysRow.laid) (((OpenSpec.ofChange Rows.specialDaysSpec).at F).post enc Tryz.prog Tryz.f7 false true false false) := by
  obtain ⟨places, hx⟩ := reads os enc
  refine returnsInHanded_of_row (C := Tryz.checked) (s := (OpenSpec.ofChange Rows.specialDaysSpec)) own started (by kernel_rfl) Tryz.func7
    (witness_row_at (enc := enc) (C := Tryz.checked) false (laidWorldS os) #[.int .i64 0] rfl (by kernel_rfl) (by kernel_rfl) (by kernel_rfl)
      (OpenSpec.preRow_of_cond 8 hx (by kernel_rfl) (fun k hk => by cases hk) (by kernel_rfl) (laid_metS os _))) ?_
  intro W base args ds gs before hval hW _ hcond hR hL hS _
  exact contract H enc W base args ds gs before hval hW hL hS hR

theorem said : Rows.SpecialDaysSaid :=
  OpenClaim.holds_of_cond 7 Tryz.f7 rfl rfl rfl rfl rfl rfl rfl ⟨rfl, rfl, rfl, rfl, rfl⟩ rfl rfl rfl rfl rfl (by kernel_rfl) Tryz.func7 (by kernel_rfl)
    (of_decide_eq_true (by kernel_rfl)) (by unfold Func.isWrapper; first | (rw [if_pos (by decide +kernel)]; kernel_rfl) | (rw [if_neg (by decide +kernel)]; exact ⟨rfl, rfl⟩))
    (fun os started H enc _ F => by rw [OpenClaim.pre_eq_preRow]; exact lifted os started H enc F)

theorem plain (f : FuncId) (fn : Func) (hf : Tryz.pinned.checked.prog.funcNamed "henkan/henkanlaw20.SpecialDays" = some f) (hfn : Tryz.pinned.checked.prog.funcs[f]? = some fn) :
    true = Tryz.pinned.checked.prog.looks [] ∧ ∀ (j : Nat) t, fn.params[j]? = some t → Tryz.pinned.checked.prog.wantsStandIn t = false := by
  obtain rfl : f = 7 := Option.some.inj ((show Tryz.prog.funcNamed "henkan/henkanlaw20.SpecialDays" = some 7 by kernel_rfl).symm.trans hf) |>.symm
  obtain rfl : fn = Tryz.f7 := (Option.some.inj (Tryz.func7.symm.trans hfn)).symm
  refine ⟨by kernel_rfl, fun j t ht => ?_⟩
  rw [Tryz.params7] at ht
  have hm := Array.mem_of_getElem? ht
  simp only [List.mem_toArray, List.mem_cons, List.not_mem_nil, or_false] at hm
  subst hm
  exact (show Tryz.prog.wantsStandIn 3 = false by kernel_rfl)

/-- the card -/
theorem proved : Rows.SpecialDaysCardSaid :=
  Claim7.holds_tied_plain_at .later [] _ _ _ _ said (fun _ h => by cases h) (by kernel_rfl) (fun _ h => by cases h) specialDays_row_tie rfl ⟨rfl, rfl⟩ (by kernel_rfl) rfl plain (by kernel_rfl)
#print axioms proved
end Go.Proofs.YtnpkcobapckhdaaGreatDoor.specialDays
