/-
  The examples of the chapter.
-/
import Derived.Test.YtnpkcobapckhdaaGreatDoorSpecAll
import Derived.Carry
import Derived.Laws.AppendOwnNone
namespace Go.Proofs.YtnpkcobapckhdaaGreatDoor.specialKnown
open Go.ChangeShapes Go.WideShapes Go.ChangeAt Go.RowKit
open Go.ChangeMaps (open_string)
set_option linter.unusedVariables false

theorem ofK (l : List UInt8) (day c : Int) (n : ByteArray) (h1 : Num.forms l = []) (h2 : symPart ⟨(UT.hira l).toArray⟩ = []) (h3 : dayRow ⟨(UT.hira l).toArray⟩ = some (n, c)) (hd : -2 ≤ day ∧ day ≤ 3652061) : ofL l day = dayL (day + c) := by
  unfold ofL dayPart
  rw [h1, h2, h3]
  simp [hd]
theorem dayL_pos {n : Int} (h1 : 1 ≤ n) (h2 : n ≤ 3652059) : 0 < (dayL n).length := by
  obtain ⟨k, rfl⟩ : ∃ k : Nat, n = k := ⟨n.toNat, by omega⟩
  obtain ⟨y, m, d, h3, h4⟩ := date_exists k (by omega) (by omega)
  rw [dayL_eq h3 h4]
  simp [CF.formsL]
theorem of_k (day : Int) (hd : -2 ≤ day ∧ day ≤ 3652061) : ofL [227, 129, 141, 227, 130, 135, 227, 129, 134] day = dayL (day + 0) := ofK _ _ _ ⟨#[227, 129, 141, 227, 130, 135, 227, 129, 134]⟩ (by decide +kernel) (by decide +kernel) (by decide +kernel) hd
theorem of_a (day : Int) (hd : -2 ≤ day ∧ day ≤ 3652061) : ofL [227, 129, 130, 227, 129, 151, 227, 129, 159] day = dayL (day + 1) := ofK _ _ _ ⟨#[227, 129, 130, 227, 129, 151, 227, 129, 159]⟩ (by decide +kernel) (by decide +kernel) (by decide +kernel) hd
theorem of_s (day : Int) (hd : -2 ≤ day ∧ day ≤ 3652061) : ofL [227, 129, 130, 227, 129, 153] day = dayL (day + 1) := ofK _ _ _ ⟨#[227, 129, 130, 227, 129, 153]⟩ (by decide +kernel) (by decide +kernel) (by decide +kernel) hd
theorem of_n (day : Int) (hd : -2 ≤ day ∧ day ≤ 3652061) : ofL [227, 129, 141, 227, 129, 174, 227, 129, 134] day = dayL (day + (-1)) := ofK _ _ _ ⟨#[227, 129, 141, 227, 129, 174, 227, 129, 134]⟩ (by decide +kernel) (by decide +kernel) (by decide +kernel) hd
theorem of_o (day : Int) (h : ¬ (-2 ≤ day ∧ day ≤ 3652061)) : ofL [227, 129, 138, 227, 129, 168, 227, 129, 168, 227, 129, 132] day = [] := by
  unfold ofL dayPart
  rw [show Num.forms [227, 129, 138, 227, 129, 168, 227, 129, 168, 227, 129, 132] = [] by decide +kernel, show symPart ⟨(UT.hira [227, 129, 138, 227, 129, 168, 227, 129, 168, 227, 129, 132]).toArray⟩ = [] by decide +kernel]
  split <;> simp [h]
theorem of_kout (day : Int) (h : ¬ (-2 ≤ day ∧ day ≤ 3652061)) : ofL [227, 129, 141, 227, 130, 135, 227, 129, 134] day = [] := by
  unfold ofL dayPart
  rw [show Num.forms [227, 129, 141, 227, 130, 135, 227, 129, 134] = [] by decide +kernel, show symPart ⟨(UT.hira [227, 129, 141, 227, 130, 135, 227, 129, 134]).toArray⟩ = [] by decide +kernel]
  split <;> simp [h]
theorem of_1 : ofL [49, 50, 51] 9 = ([⟨#[49, 50, 51]⟩, ⟨#[239, 188, 145, 239, 188, 146, 239, 188, 147]⟩, ⟨#[228, 184, 128, 228, 186, 140, 228, 184, 137]⟩, ⟨#[231, 153, 190, 228, 186, 140, 229, 141, 129, 228, 184, 137]⟩, ⟨#[229, 163, 177, 231, 153, 190, 229, 188, 144, 230, 139, 190, 229, 143, 130]⟩] : List ByteArray).map (·.data.toList) := by rw [ofL_none _ _ (by decide +kernel)]; decide +kernel
theorem of_2 : ofL [227, 129, 130, 227, 129, 151, 227, 129, 159] 737179 = ([⟨#[50, 48, 49, 57, 229, 185, 180, 53, 230, 156, 136, 49, 230, 151, 165]⟩, ⟨#[50, 48, 49, 57, 229, 185, 180, 53, 230, 156, 136, 49, 230, 151, 165, 40, 230, 176, 180, 41]⟩, ⟨#[50, 48, 49, 57, 47, 48, 53, 47, 48, 49]⟩, ⟨#[50, 48, 49, 57, 45, 48, 53, 45, 48, 49]⟩, ⟨#[228, 187, 164, 229, 146, 140, 229, 133, 131, 229, 185, 180, 53, 230, 156, 136, 49, 230, 151, 165]⟩, ⟨#[228, 187, 164, 229, 146, 140, 229, 133, 131, 229, 185, 180, 228, 186, 148, 230, 156, 136, 228, 184, 128, 230, 151, 165]⟩, ⟨#[53, 230, 156, 136, 49, 230, 151, 165]⟩, ⟨#[53, 47, 49]⟩] : List ByteArray).map (·.data.toList) := by rw [of_a _ (by omega), show (737179 : Int) + 1 = ((737180 : Nat) : Int) by rfl, dayL_eq (n := 737180) (y := 2019) (m := 5) (d := 1) (by decide +kernel) (by decide +kernel)]; decide +kernel
theorem of_3 : ofL [227, 129, 141, 227, 130, 135, 227, 129, 134] 0 = [] := by rw [of_k _ (by omega)]; exact dayL_out (by omega)
theorem of_4 : (ofL [227, 129, 130, 227, 129, 151, 227, 129, 159] 0).length = 6 := by rw [of_a _ (by omega), show (0 : Int) + 1 = ((1 : Nat) : Int) by rfl, dayL_eq (n := 1) (y := 1) (m := 1) (d := 1) (by decide +kernel) (by decide +kernel)]; decide +kernel
set_option maxRecDepth 100000 in
set_option maxHeartbeats 4000000 in
theorem walk (w : World) (ht : STabs w) :
    Calls Tryz.prog 9 #[] w fun e w' => e = .returned (.bool true) ∧ Below w.heap.size w w' := by
  have HT := Lib.hid ht
  have HB0 := Lib.hid (Below.refl w.heap.size w)
  clear ht
  go_enter Tryz.func9, Tryz.ntmps9
  go_wp2_with fail
  with_reducible refine (of_any ⟨#[49, 50, 51]⟩ [49, 50, 51] 9 _ (Is.mk _) (by decide) HT.out).mono ?_
  rw [of_1]
  rintro e w1 ⟨v1, xs1, hm1, hx1, rfl, hb⟩
  obtain rfl := bas_inj hm1
  have HX1 := Lib.hid (hx1.lies.below ((Below.refl w1.heap.size w1).alloc (Nat.le_refl _) (.cells #[.string ⟨#[49, 50, 51]⟩, .string ⟨#[239, 188, 145, 239, 188, 146, 239, 188, 147]⟩, .string ⟨#[228, 184, 128, 228, 186, 140, 228, 184, 137]⟩, .string ⟨#[231, 153, 190, 228, 186, 140, 229, 141, 129, 228, 184, 137]⟩, .string ⟨#[229, 163, 177, 231, 153, 190, 229, 188, 144, 230, 139, 190, 229, 143, 130]⟩] 9)) (Nat.le_refl _))
  have HSL1 := Lib.hid ((strs_new w1 [⟨#[49, 50, 51]⟩, ⟨#[239, 188, 145, 239, 188, 146, 239, 188, 147]⟩, ⟨#[228, 184, 128, 228, 186, 140, 228, 184, 137]⟩, ⟨#[231, 153, 190, 228, 186, 140, 229, 141, 129, 228, 184, 137]⟩, ⟨#[229, 163, 177, 231, 153, 190, 229, 188, 144, 230, 139, 190, 229, 143, 130]⟩] _ 5 rfl rfl (by omega)).lies)
  have HB1 := Lib.hid (HB0.out.trans (hb.mono HB0.out.size))
  have HBA1 := Lib.hid (HB1.out.alloc HB1.out.size (.cells #[.string ⟨#[49, 50, 51]⟩, .string ⟨#[239, 188, 145, 239, 188, 146, 239, 188, 147]⟩, .string ⟨#[228, 184, 128, 228, 186, 140, 228, 184, 137]⟩, .string ⟨#[231, 153, 190, 228, 186, 140, 229, 141, 129, 228, 184, 137]⟩, .string ⟨#[229, 163, 177, 231, 153, 190, 229, 188, 144, 230, 139, 190, 229, 143, 130]⟩] 9))
  clear hm1 hx1 hb
  go_wp2_with fail
  with_reducible refine (same20_yes _ _ _ _ HX1.out HSL1.out (by decide)).mono ?_
  rintro e w2 ⟨rfl, hb⟩
  have HB2 := Lib.hid (HBA1.out.trans (hb.mono HBA1.out.size))
  have HT2 := Lib.hid (HT.out.keep HB2.out)
  clear hb HX1 HSL1
  go_wp2_with fail
  with_reducible refine (of_any ⟨#[227, 129, 130, 227, 129, 151, 227, 129, 159]⟩ [227, 129, 130, 227, 129, 151, 227, 129, 159] 737179 _ (Is.mk _) (by decide) HT2.out).mono ?_
  rw [of_2]
  rintro e w3 ⟨v3, xs3, hm3, hx3, rfl, hb⟩
  obtain rfl := bas_inj hm3
  have HX3 := Lib.hid (hx3.lies.below ((Below.refl w3.heap.size w3).alloc (Nat.le_refl _) (.cells #[.string ⟨#[50, 48, 49, 57, 229, 185, 180, 53, 230, 156, 136, 49, 230, 151, 165]⟩, .string ⟨#[50, 48, 49, 57, 229, 185, 180, 53, 230, 156, 136, 49, 230, 151, 165, 40, 230, 176, 180, 41]⟩, .string ⟨#[50, 48, 49, 57, 47, 48, 53, 47, 48, 49]⟩, .string ⟨#[50, 48, 49, 57, 45, 48, 53, 45, 48, 49]⟩, .string ⟨#[228, 187, 164, 229, 146, 140, 229, 133, 131, 229, 185, 180, 53, 230, 156, 136, 49, 230, 151, 165]⟩, .string ⟨#[228, 187, 164, 229, 146, 140, 229, 133, 131, 229, 185, 180, 228, 186, 148, 230, 156, 136, 228, 184, 128, 230, 151, 165]⟩, .string ⟨#[53, 230, 156, 136, 49, 230, 151, 165]⟩, .string ⟨#[53, 47, 49]⟩] 9)) (Nat.le_refl _))
  have HSL3 := Lib.hid ((strs_new w3 [⟨#[50, 48, 49, 57, 229, 185, 180, 53, 230, 156, 136, 49, 230, 151, 165]⟩, ⟨#[50, 48, 49, 57, 229, 185, 180, 53, 230, 156, 136, 49, 230, 151, 165, 40, 230, 176, 180, 41]⟩, ⟨#[50, 48, 49, 57, 47, 48, 53, 47, 48, 49]⟩, ⟨#[50, 48, 49, 57, 45, 48, 53, 45, 48, 49]⟩, ⟨#[228, 187, 164, 229, 146, 140, 229, 133, 131, 229, 185, 180, 53, 230, 156, 136, 49, 230, 151, 165]⟩, ⟨#[228, 187, 164, 229, 146, 140, 229, 133, 131, 229, 185, 180, 228, 186, 148, 230, 156, 136, 228, 184, 128, 230, 151, 165]⟩, ⟨#[53, 230, 156, 136, 49, 230, 151, 165]⟩, ⟨#[53, 47, 49]⟩] _ 8 rfl rfl (by omega)).lies)
  have HB3 := Lib.hid (HB2.out.trans (hb.mono HB2.out.size))
  have HBA3 := Lib.hid (HB3.out.alloc HB3.out.size (.cells #[.string ⟨#[50, 48, 49, 57, 229, 185, 180, 53, 230, 156, 136, 49, 230, 151, 165]⟩, .string ⟨#[50, 48, 49, 57, 229, 185, 180, 53, 230, 156, 136, 49, 230, 151, 165, 40, 230, 176, 180, 41]⟩, .string ⟨#[50, 48, 49, 57, 47, 48, 53, 47, 48, 49]⟩, .string ⟨#[50, 48, 49, 57, 45, 48, 53, 45, 48, 49]⟩, .string ⟨#[228, 187, 164, 229, 146, 140, 229, 133, 131, 229, 185, 180, 53, 230, 156, 136, 49, 230, 151, 165]⟩, .string ⟨#[228, 187, 164, 229, 146, 140, 229, 133, 131, 229, 185, 180, 228, 186, 148, 230, 156, 136, 228, 184, 128, 230, 151, 165]⟩, .string ⟨#[53, 230, 156, 136, 49, 230, 151, 165]⟩, .string ⟨#[53, 47, 49]⟩] 9))
  clear hm3 hx3 hb
  go_wp2_with fail
  with_reducible refine (same20_yes _ _ _ _ HX3.out HSL3.out (by decide)).mono ?_
  rintro e w4 ⟨rfl, hb⟩
  have HB4 := Lib.hid (HBA3.out.trans (hb.mono HBA3.out.size))
  have HT4 := Lib.hid (HT.out.keep HB4.out)
  clear hb HX3 HSL3
  go_wp2_with fail
  with_reducible refine (of_any ⟨#[227, 129, 141, 227, 130, 135, 227, 129, 134]⟩ [227, 129, 141, 227, 130, 135, 227, 129, 134] 0 _ (Is.mk _) (by decide) HT4.out).mono ?_
  rw [of_3]
  rintro e w5 ⟨v5, xs5, hm5, hx5, rfl, hb⟩
  obtain rfl : xs5 = [] := List.map_eq_nil_iff.1 hm5
  obtain ⟨ao5, cap5, rfl⟩ := hx5.frame
  have HB5 := Lib.hid (HB4.out.trans (hb.mono HB4.out.size))
  have HT5 := Lib.hid (HT.out.keep HB5.out)
  clear hm5 hx5 hb
  go_wp2_with fail
  with_reducible refine (of_any ⟨#[227, 129, 130, 227, 129, 151, 227, 129, 159]⟩ [227, 129, 130, 227, 129, 151, 227, 129, 159] 0 _ (Is.mk _) (by decide) HT5.out).mono ?_
  rintro e w6 ⟨v6, xs6, hm6, hx6, rfl, hb⟩
  have hl6 : xs6.length = 6 := by have := of_4; rw [← hm6, List.length_map] at this; exact this
  obtain ⟨ao6, cap6, rfl⟩ := hx6.frame
  have HB6 := Lib.hid (HB5.out.trans (hb.mono HB5.out.size))
  have HT6 := Lib.hid (HT.out.keep HB6.out)
  clear hm6 hx6 hb
  rw [hl6]
  go_wp2_with fail
  with_reducible refine (of_any ⟨#[227, 129, 141, 227, 130, 135, 227, 129, 134]⟩ [227, 129, 141, 227, 130, 135, 227, 129, 134] 9223372036854775807 _ (Is.mk _) (by decide) HT6.out).mono ?_
  rw [of_kout _ (by omega)]
  rintro e w7 ⟨v7, xs7, hm7, hx7, rfl, hb⟩
  obtain rfl : xs7 = [] := List.map_eq_nil_iff.1 hm7
  obtain ⟨ao7, cap7, rfl⟩ := hx7.frame
  have HB7 := Lib.hid (HB6.out.trans (hb.mono HB6.out.size))
  have HT7 := Lib.hid (HT.out.keep HB7.out)
  clear hm7 hx7 hb
  go_wp2_with fail
  with_reducible refine (of_any ⟨#[227, 129, 138, 227, 129, 168, 227, 129, 168, 227, 129, 132]⟩ [227, 129, 138, 227, 129, 168, 227, 129, 168, 227, 129, 132] (-9223372036854775808) _ (Is.mk _) (by decide) HT7.out).mono ?_
  rw [of_o _ (by omega)]
  rintro e w8 ⟨v8, xs8, hm8, hx8, rfl, hb⟩
  obtain rfl : xs8 = [] := List.map_eq_nil_iff.1 hm8
  obtain ⟨ao8, cap8, rfl⟩ := hx8.frame
  have HB8 := Lib.hid (HB7.out.trans (hb.mono HB7.out.size))
  have HT8 := Lib.hid (HT.out.keep HB8.out)
  clear hm8 hx8 hb
  go_wp2_with fail
  with_reducible refine (sworks_any _ HT8.out).mono ?_
  rintro e w9 ⟨rfl, hb⟩
  have HB9 := Lib.hid (HB8.out.trans (hb.mono HB8.out.size))
  clear hb
  go_wp2_with fail
  go_ret
  exact ⟨rfl, HB9.out⟩

theorem laidOut : laidOutB Tryz.prog = true := by kernel_rfl
set_option maxRecDepth 100000 in
theorem contract (H : Type) (enc : TypeId × Value → H) (W : World) (base : Nat) (args : Array Value) (ds gs : List (DataW H)) (before : List MemPlace)
    (hval : ∀ (j : Nat) t v, Tryz.f9.params[j]? = some t → args[j]? = some v → Value.okWide Tryz.prog W .any base t v)
    (hW : DataW.Whole enc Tryz.prog Tryz.f9.params.toList Rows.specialKnownSpec.vars false W args.toList ds gs before) (hL : laidMetH Tryz.prog Rows.specialKnownRow.laid W) (hS : W.ShapedOpen Tryz.prog)
    (hR : (DataW.weightsEach Tryz.prog (Tryz.f9.params.toList ++ (OpenSpec.ofChange Rows.specialKnownSpec).bare.plain.varTypes Tryz.prog) (ds ++ gs)).all (· ≤ reachBytes) = true) :
    Calls Tryz.prog 9 args W fun e W' => ∃ v, e = .returned v ∧ Rows.specialKnownSpec.post enc Tryz.prog Tryz.f9 false true false false W args v W' := by
  have hT : STabs W := stabs_of_laid hL hS
  have hW' := hW
  obtain ⟨p, q, hA0, hV, rfl, hfz, hnd⟩ := hW
  have hA : DataW.TrodAll enc Tryz.prog W 0 (fun _ => true) true Tryz.f9.params.toList args.toList ds p := hA0
  rw [Tryz.params9] at hA hval hR
  obtain ⟨hargs, rfl, rfl⟩ := trodAll_nil hA
  obtain rfl : args = #[] := by cases args; simp_all
  obtain ⟨rfl, rfl⟩ := trodVars_none hV
  clear hA0
  simp only [List.append_nil] at hW' hR
  refine (walk W hT).mono fun e W' ⟨he, bel⟩ => ?_
  subst he
  exact ⟨_, rfl, _, _, _, [], _, [], hW', trodAll_mk1 (shut_bool Tryz.underlying4 _), trodAll_mk0, rfl, bel.frame _, fun h => by cases h⟩

theorem reads (os : Os) {H : Type} (enc : TypeId × Value → H) : ∃ places, DataW.whole enc Tryz.prog ((laidWorldS os).forCall (fun _ _ => 0) ⟨#[], #[], []⟩).memory Tryz.f9.params.toList Rows.specialKnownSpec.vars false #[].toList 8 = some ([], [], places) :=
  ⟨[], by kernel_rfl⟩

set_option maxRecDepth 100000 in
theorem lifted (os : Os) (started : os.Started) (H : Type) (enc : TypeId × Value → H) (F : Stop.Interp) :
    ReturnsInHanded {} Tryz.checked os 9 .any ((OpenSpec.ofChange Rows.specialKnownSpec).preRow enc Tryz.prog Tryz.f9 Rows.specialKnownRow.domain false Rows.specialKnownRow.laid) (((OpenSpec.ofChange Rows.specialKnownSpec).at F).post enc Tryz.prog Tryz.f9 false true false false) := by
  obtain ⟨places, hx⟩ := reads os enc
  refine returnsInHanded_of_row (C := Tryz.checked) (s := (OpenSpec.ofChange Rows.specialKnownSpec)) own started (by kernel_rfl) Tryz.func9
    (witness_row_at (enc := enc) (C := Tryz.checked) false (laidWorldS os) #[] rfl (by kernel_rfl) (by kernel_rfl) (by kernel_rfl)
      (OpenSpec.preRow_of_cond 8 hx (by kernel_rfl) (fun k hk => by cases hk) (by kernel_rfl) (laid_metS os _))) ?_
  intro W base args ds gs before hval hW _ hcond hR hL hS _
  exact contract H enc W base args ds gs before hval hW hL hS hR

theorem said : Rows.SpecialKnownSaid :=
  OpenClaim.holds_of_cond 9 Tryz.f9 rfl rfl rfl rfl rfl rfl rfl ⟨rfl, rfl, rfl, rfl, rfl⟩ rfl rfl rfl rfl rfl (by kernel_rfl) Tryz.func9 (by kernel_rfl)
    (of_decide_eq_true (by kernel_rfl)) (by unfold Func.isWrapper; first | (rw [if_pos (by decide +kernel)]; kernel_rfl) | (rw [if_neg (by decide +kernel)]; exact ⟨rfl, rfl⟩))
    (fun os started H enc _ F => by rw [OpenClaim.pre_eq_preRow]; exact lifted os started H enc F)

theorem plain (f : FuncId) (fn : Func) (hf : Tryz.pinned.checked.prog.funcNamed "henkan/henkanlaw20.SpecialKnown" = some f) (hfn : Tryz.pinned.checked.prog.funcs[f]? = some fn) :
    true = Tryz.pinned.checked.prog.looks [] ∧ ∀ (j : Nat) t, fn.params[j]? = some t → Tryz.pinned.checked.prog.wantsStandIn t = false := by
  obtain rfl : f = 9 := Option.some.inj ((show Tryz.prog.funcNamed "henkan/henkanlaw20.SpecialKnown" = some 9 by kernel_rfl).symm.trans hf) |>.symm
  obtain rfl : fn = Tryz.f9 := (Option.some.inj (Tryz.func9.symm.trans hfn)).symm
  refine ⟨by kernel_rfl, fun j t ht => ?_⟩
  rw [Tryz.params9] at ht
  simp at ht

/-- the card -/
theorem proved : Rows.SpecialKnownCardSaid :=
  Claim7.holds_tied_plain_at .later [] _ _ _ _ said (fun _ h => by cases h) (by kernel_rfl) (fun _ h => by cases h) specialKnown_row_tie rfl ⟨rfl, rfl⟩ (by kernel_rfl) rfl plain (by kernel_rfl)
#print axioms proved
end Go.Proofs.YtnpkcobapckhdaaGreatDoor.specialKnown
