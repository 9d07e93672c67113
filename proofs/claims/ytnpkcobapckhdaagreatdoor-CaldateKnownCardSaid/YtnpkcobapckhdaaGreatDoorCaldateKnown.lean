/-
  henkanlaw04.CaldateKnown: the examples of the chapter hold. No condition.
-/
import Derived.Test.YtnpkcobapckhdaaGreatDoorCalDoor
import Derived.Carry
import Derived.Laws.AppendOwnNone
namespace Go.Proofs.YtnpkcobapckhdaaGreatDoor.caldateKnown
open Go.ChangeShapes Go.WideShapes Go.ChangeAt Go.RowKit
open Go.ChangeMaps (open_string)
set_option linter.unusedVariables false

theorem era_known (n y m d : Int) (w : World) (hok : Cal.ok y m d = true) (hnum : Cal.num y m d = n) (h1 : 681932 ≤ n) (h2 : n ≤ 3652059) :
    Calls Tryz.prog 27 #[.int .i64 n] w fun e w' => e = .returned (eraRes n y) ∧ Below w.heap.size w w' := by
  refine (era_yes n w (by omega) h2).mono ?_
  rintro e w' (⟨h, _⟩ | ⟨_, y', m', d', ho, hn, rfl, hb⟩)
  · omega
  · obtain ⟨rfl, _, _⟩ := Cal.num_inj y' m' d' y m d ho hok (by rw [hn, hnum])
    exact ⟨rfl, hb⟩
theorem era_before (n : Int) (w : World) (h1 : 1 ≤ n) (h2 : n < 681932) :
    Calls Tryz.prog 27 #[.int .i64 n] w fun e w' => e = .returned (.tuple #[.string ⟨#[]⟩, .int .i64 0, .bool false]) ∧ Below w.heap.size w w' := by
  refine (era_yes n w h1 (by omega)).mono ?_
  rintro e w' (⟨_, rfl, hb⟩ | ⟨h, _⟩)
  · exact ⟨rfl, hb⟩
  · omega
theorem parse_known (s : ByteArray) (l : List UInt8) (F : Int × Bool) (w : World) (h : Is s l) (hF : CF.progCal l = F) (hs : s.size < 4294967281) (ht : PTabs w) :
    Calls Tryz.prog 22 #[.string s] w fun e w' => e = .returned (.tuple #[.int .i64 F.1, .bool F.2]) ∧ Below w.heap.size w w' := by
  subst hF; exact pparse_any s l w h hs ht
theorem k1 : CF.progCal [229, 185, 179, 230, 136, 144, 229, 133, 131, 229, 185, 180, 49, 230, 156, 136, 56, 230, 151, 165] = (726110, true) :=
  (CF.both_find _ 1989 1 8 (by decide) (by decide +kernel)).1
theorem k2 : CF.progCal [229, 185, 179, 230, 136, 144, 49, 229, 185, 180, 49, 230, 156, 136, 56, 230, 151, 165] = (0, false) := by decide +kernel
theorem k3 : CF.progCal [53, 230, 156, 136, 49, 230, 151, 165] = (0, false) := CF.prog_short (m := 5) (d := 1) (by decide) (by decide)
def eightS : List ByteArray := [⟨#[50, 48, 49, 57, 229, 185, 180, 53, 230, 156, 136, 49, 230, 151, 165]⟩, ⟨#[50, 48, 49, 57, 229, 185, 180, 53, 230, 156, 136, 49, 230, 151, 165, 40, 230, 176, 180, 41]⟩, ⟨#[50, 48, 49, 57, 47, 48, 53, 47, 48, 49]⟩, ⟨#[50, 48, 49, 57, 45, 48, 53, 45, 48, 49]⟩, ⟨#[228, 187, 164, 229, 146, 140, 229, 133, 131, 229, 185, 180, 53, 230, 156, 136, 49, 230, 151, 165]⟩, ⟨#[228, 187, 164, 229, 146, 140, 229, 133, 131, 229, 185, 180, 228, 186, 148, 230, 156, 136, 228, 184, 128, 230, 151, 165]⟩, ⟨#[53, 230, 156, 136, 49, 230, 151, 165]⟩, ⟨#[53, 47, 49]⟩]
theorem eight_forms : CF.formsL 737180 2019 5 1 = eightS.map (·.data.toList) := by decide +kernel
def eightC : Array Value := #[.string ⟨#[50, 48, 49, 57, 229, 185, 180, 53, 230, 156, 136, 49, 230, 151, 165]⟩, .string ⟨#[50, 48, 49, 57, 229, 185, 180, 53, 230, 156, 136, 49, 230, 151, 165, 40, 230, 176, 180, 41]⟩, .string ⟨#[50, 48, 49, 57, 47, 48, 53, 47, 48, 49]⟩, .string ⟨#[50, 48, 49, 57, 45, 48, 53, 45, 48, 49]⟩, .string ⟨#[228, 187, 164, 229, 146, 140, 229, 133, 131, 229, 185, 180, 53, 230, 156, 136, 49, 230, 151, 165]⟩, .string ⟨#[228, 187, 164, 229, 146, 140, 229, 133, 131, 229, 185, 180, 228, 186, 148, 230, 156, 136, 228, 184, 128, 230, 151, 165]⟩, .string ⟨#[53, 230, 156, 136, 49, 230, 151, 165]⟩, .string ⟨#[53, 47, 49]⟩]
theorem eight_lies (w : World) : Lies (.slice (some ⟨w.heap.size, 0, none⟩) 8 8) eightS (w.alloc (.cells eightC 9)) :=
  ⟨_, _, rfl, fun k hk => ⟨w.heap.size, rfl, by
    have hk8 : k < 8 := hk
    obtain rfl | rfl | rfl | rfl | rfl | rfl | rfl | rfl : k = 0 ∨ k = 1 ∨ k = 2 ∨ k = 3 ∨ k = 4 ∨ k = 5 ∨ k = 6 ∨ k = 7 := by omega
    all_goals (unfold eightC eightS; go_simp; try rfl)⟩⟩
theorem r1 : eraRes 739936 2026 = .tuple #[.string ⟨#[228, 187, 164, 229, 146, 140]⟩, .int .i64 8, .bool true] := by unfold eraRes; rw [if_pos (by decide)]; rfl
theorem r2 : eraRes 726109 1989 = .tuple #[.string ⟨#[230, 152, 173, 229, 146, 140]⟩, .int .i64 64, .bool true] := by unfold eraRes; rw [if_neg (by decide), if_neg (by decide), if_pos (by decide)]; rfl
theorem n1 : Cal.num 1 1 1 = 1 := by decide
theorem n2 : Cal.num 2000 2 29 = 730179 := by decide
theorem n3 : Cal.num 9999 12 31 = 3652059 := by decide
theorem n4 : Cal.num 1868 1 24 = 681931 := by decide
theorem n5 : Cal.num 1989 1 7 = 726109 := by decide
theorem n6 : Cal.num 2019 5 1 = 737180 := by decide
theorem day_at (y m d n : Int) (w : World) (h : Cal.ok y m d = true) (hn : Cal.num y m d = n) :
    Calls Tryz.prog 26 #[.int .i64 y, .int .i64 m, .int .i64 d] w fun e w' => e = .returned (.tuple #[.int .i64 n, .bool true]) ∧ w = w' := by
  subst hn; exact day_yes y m d w h
theorem forms_known (w : World) (ht : CTabs w) : Calls Tryz.prog 25 #[.int .i64 737180] w (GivesC (CF.formsL 737180 2019 5 1) w) :=
  formsC_any 737180 2019 5 1 w (by decide) (by decide) (by decide) (by decide) ht
set_option maxRecDepth 100000 in
set_option maxHeartbeats 4000000 in
theorem walk (w : World) (ht : PTabs w) :
    Calls Tryz.prog 12 #[] w fun e w' => e = .returned (.bool true) ∧ Below w.heap.size w w' := by
  have HT := Lib.hid ht
  clear ht
  go_enter Tryz.func12, Tryz.ntmps12
  go_wp2_with fail
  with_reducible refine (day_at 1 1 1 1 _ (by decide) n1).mono ?_
  rintro e w' ⟨rfl, rfl⟩
  go_wp2_with fail
  with_reducible refine (day_at 2000 2 29 730179 _ (by decide) n2).mono ?_
  rintro e w' ⟨rfl, rfl⟩
  go_wp2_with fail
  with_reducible refine (day_at 9999 12 31 3652059 _ (by decide) n3).mono ?_
  rintro e w' ⟨rfl, rfl⟩
  go_wp2_with fail
  with_reducible refine (day_no 1900 2 29 _ (by decide)).mono ?_
  rintro e w' ⟨rfl, rfl⟩
  go_wp2_with fail
  with_reducible refine (era_known 739936 2026 11 16 _ (by decide) (by decide) (by decide) (by decide)).mono ?_
  rw [r1]
  rintro e w1 ⟨rfl, hb⟩
  have HB1 := Lib.hid (hb)
  have HT1 := Lib.hid (HT.out.keep hb)
  clear hb
  go_wp2_with fail
  with_reducible refine (day_at 1868 1 24 681931 _ (by decide) n4).mono ?_
  rintro e w' ⟨rfl, rfl⟩
  go_wp2_with fail
  with_reducible refine (era_before 681931 _ (by decide) (by decide)).mono ?_
  rintro e w2 ⟨rfl, hb⟩
  have HB2 := Lib.hid (HB1.out.trans (hb.mono HB1.out.size))
  have HT2 := Lib.hid (HT1.out.keep hb)
  clear hb
  go_wp2_with fail
  with_reducible refine (day_at 1989 1 7 726109 _ (by decide) n5).mono ?_
  rintro e w' ⟨rfl, rfl⟩
  go_wp2_with fail
  with_reducible refine (era_known 726109 1989 1 7 _ (by decide) n5 (by decide) (by decide)).mono ?_
  rw [r2]
  rintro e w3 ⟨rfl, hb⟩
  have HB3 := Lib.hid (HB2.out.trans (hb.mono HB2.out.size))
  have HT3 := Lib.hid (HT2.out.keep hb)
  clear hb
  go_wp2_with fail
  with_reducible refine (day_at 2019 5 1 737180 _ (by decide) n6).mono ?_
  rintro e w' ⟨rfl, rfl⟩
  go_wp2_with fail
  with_reducible refine (parse_known _ _ _ _ (Is.mk _) k1 (by decide) HT3.out).mono ?_
  rintro e w4 ⟨rfl, hb⟩
  have HB4 := Lib.hid (HB3.out.trans (hb.mono HB3.out.size))
  have HT4 := Lib.hid (HT3.out.keep hb)
  clear hb
  go_wp2_with fail
  with_reducible refine (parse_known _ _ _ _ (Is.mk _) k2 (by decide) HT4.out).mono ?_
  rintro e w5 ⟨rfl, hb⟩
  have HB5 := Lib.hid (HB4.out.trans (hb.mono HB4.out.size))
  have HT5 := Lib.hid (HT4.out.keep hb)
  clear hb
  go_wp2_with fail
  with_reducible refine (parse_known _ _ _ _ (Is.mk _) k3 (by decide) HT5.out).mono ?_
  rintro e w6 ⟨rfl, hb⟩
  have HB6 := Lib.hid (HB5.out.trans (hb.mono HB5.out.size))
  have HT6 := Lib.hid (HT5.out.keep hb)
  clear hb
  go_wp2_with fail
  with_reducible refine (forms_known _ HT6.out.cal).mono ?_
  rintro e w7 ⟨v, xs, hm, hx, rfl, hb⟩
  rw [eight_forms] at hm
  obtain rfl := bas_inj hm
  have HL := Lib.hid (hx.lies.below ((Below.refl w7.heap.size w7).alloc (Nat.le_refl _) (.cells eightC 9)) (Nat.le_refl _))
  have HL2 := Lib.hid (eight_lies w7)
  have HB7 := Lib.hid (HB6.out.trans (hb.mono HB6.out.size))
  have HB8 := Lib.hid (HB7.out.alloc HB7.out.size (.cells eightC 9))
  clear hb hm hx
  unfold eightC at HL HL2 HB8
  go_wp2_with fail
  with_reducible refine (sameT_yes _ _ eightS _ HL.out HL2.out (by decide)).mono ?_
  rintro e w8 ⟨rfl, hb⟩
  have HB9 := Lib.hid (HB8.out.trans (hb.mono HB8.out.size))
  clear hb
  go_wp2_with fail
  with_reducible refine (works_any _).mono ?_
  rintro e w9 ⟨rfl, hb⟩
  have HB10 := Lib.hid (HB9.out.trans (hb.mono HB9.out.size))
  clear hb
  go_wp2_with fail
  go_ret
  exact ⟨rfl, HB10.out⟩

theorem laidOut : laidOutB Tryz.prog = true := by kernel_rfl
set_option maxRecDepth 100000 in
theorem contract (H : Type) (enc : TypeId × Value → H) (W : World) (base : Nat) (args : Array Value) (ds gs : List (DataW H)) (before : List MemPlace)
    (hval : ∀ (j : Nat) t v, Tryz.f12.params[j]? = some t → args[j]? = some v → Value.okWide Tryz.prog W .any base t v)
    (hW : DataW.Whole enc Tryz.prog Tryz.f12.params.toList Rows.caldateKnownSpec.vars false W args.toList ds gs before) (hL : laidMetH Tryz.prog Rows.caldateKnownRow.laid W) (hS : W.ShapedOpen Tryz.prog)
    (hR : (DataW.weightsEach Tryz.prog (Tryz.f12.params.toList ++ (OpenSpec.ofChange Rows.caldateKnownSpec).bare.plain.varTypes Tryz.prog) (ds ++ gs)).all (· ≤ reachBytes) = true) :
    Calls Tryz.prog 12 args W fun e W' => ∃ v, e = .returned v ∧ Rows.caldateKnownSpec.post enc Tryz.prog Tryz.f12 false true false false W args v W' := by
  have hT : PTabs W := ptabs_of_laid hL hS
  have hW' := hW
  obtain ⟨p, q, hA0, hV, rfl, hfz, hnd⟩ := hW
  have hA : DataW.TrodAll enc Tryz.prog W 0 (fun _ => true) true Tryz.f12.params.toList args.toList ds p := hA0
  rw [Tryz.params12] at hA hval hR
  obtain ⟨hargs, rfl, rfl⟩ := trodAll_nil hA
  obtain rfl : args = #[] := by cases args; simp_all
  obtain ⟨rfl, rfl⟩ := trodVars_none hV
  clear hA0
  simp only [List.append_nil] at hW' hR
  refine (walk W hT).mono fun e W' ⟨he, bel⟩ => ?_
  subst he
  exact ⟨_, rfl, _, _, _, [], _, [], hW', trodAll_mk1 (shut_bool Tryz.underlying4 _), trodAll_mk0, rfl, bel.frame _, fun h => by cases h⟩

theorem reads (os : Os) {H : Type} (enc : TypeId × Value → H) : ∃ places, DataW.whole enc Tryz.prog ((laidWorldP os).forCall (fun _ _ => 0) ⟨#[], #[], []⟩).memory Tryz.f12.params.toList Rows.caldateKnownSpec.vars false #[].toList 8 = some ([], [], places) :=
  ⟨[], by kernel_rfl⟩

set_option maxRecDepth 100000 in
theorem lifted (os : Os) (started : os.Started) (H : Type) (enc : TypeId × Value → H) (F : Stop.Interp) :
    ReturnsInHanded {} Tryz.checked os 12 .any ((OpenSpec.ofChange Rows.caldateKnownSpec).preRow enc Tryz.prog Tryz.f12 Rows.caldateKnownRow.domain false Rows.caldateKnownRow.laid) (((OpenSpec.ofChange Rows.caldateKnownSpec).at F).post enc Tryz.prog Tryz.f12 false true false false) := by
  obtain ⟨places, hx⟩ := reads os enc
  refine returnsInHanded_of_row (C := Tryz.checked) (s := (OpenSpec.ofChange Rows.caldateKnownSpec)) own started (by kernel_rfl) Tryz.func12
    (witness_row_at (enc := enc) (C := Tryz.checked) false (laidWorldP os) #[] rfl (by kernel_rfl) (by kernel_rfl) (by kernel_rfl)
      (OpenSpec.preRow_of_cond 8 hx (by kernel_rfl) (fun k hk => by cases hk) (by kernel_rfl) (laid_metP os _))) ?_
  intro W base args ds gs before hval hW _ hcond hR hL hS _
  exact contract H enc W base args ds gs before hval hW hL hS hR

theorem said : Rows.CaldateKnownSaid :=
  OpenClaim.holds_of_cond 12 Tryz.f12 rfl rfl rfl rfl rfl rfl rfl ⟨rfl, rfl, rfl, rfl, rfl⟩ rfl rfl rfl rfl rfl (by kernel_rfl) Tryz.func12 (by kernel_rfl)
    (of_decide_eq_true (by kernel_rfl)) (by unfold Func.isWrapper; first | (rw [if_pos (by decide +kernel)]; kernel_rfl) | (rw [if_neg (by decide +kernel)]; exact ⟨rfl, rfl⟩))
    (fun os started H enc _ F => by rw [OpenClaim.pre_eq_preRow]; exact lifted os started H enc F)

theorem plain (f : FuncId) (fn : Func) (hf : Tryz.pinned.checked.prog.funcNamed "henkan/henkanlaw04.CaldateKnown" = some f) (hfn : Tryz.pinned.checked.prog.funcs[f]? = some fn) :
    true = Tryz.pinned.checked.prog.looks [] ∧ ∀ (j : Nat) t, fn.params[j]? = some t → Tryz.pinned.checked.prog.wantsStandIn t = false := by
  obtain rfl : f = 12 := Option.some.inj ((show Tryz.prog.funcNamed "henkan/henkanlaw04.CaldateKnown" = some 12 by kernel_rfl).symm.trans hf) |>.symm
  obtain rfl : fn = Tryz.f12 := (Option.some.inj (Tryz.func12.symm.trans hfn)).symm
  refine ⟨by kernel_rfl, fun j t ht => ?_⟩
  rw [Tryz.params12] at ht
  simp at ht

/-- the card -/
theorem proved : Rows.CaldateKnownCardSaid :=
  Claim7.holds_tied_plain_at .later [] _ _ _ _ said (fun _ h => by cases h) (by kernel_rfl) (fun _ h => by cases h) caldateKnown_row_tie rfl ⟨rfl, rfl⟩ (by kernel_rfl) rfl plain (by kernel_rfl)
#print axioms proved
end Go.Proofs.YtnpkcobapckhdaaGreatDoor.caldateKnown
