/-
  which rules are allowed, and the text of those that are, is as the document says; the rules stay unchanged
-/
import Derived.Test.YtbdekjfimojkbaaDoorRoRPrint
import Derived.Carry
import Derived.Laws.AppendOwnNone
namespace Go.Proofs.YtbdekjfimojkbaaDoor.romanPrints
open Go.ChangeShapes Go.WideShapes Go.ChangeAt Go.RowKit
open Go.ChangeMaps (open_string)
set_option linter.unusedVariables false

set_option maxRecDepth 100000 in
set_option maxHeartbeats 8000000 in
theorem walk (w : World) (v : Value) (xs : List RuleB) (hl : LieR v xs w) (hn : xs.length ≤ 9223372036854775807) (hz : ∀ r ∈ xs, r.1.size ≤ 9223372036854775807 ∧ r.2.1.size ≤ 9223372036854775807 ∧ r.2.2.size ≤ 9223372036854775807) (ht : Tabs w) :
    Calls Tryd.prog 4 #[v] w fun e w' => e = .returned (.bool true) ∧ Below w.heap.size w w' := by
  have HT := Lib.hid ht
  have HLV := Lib.hid hl
  have HZ := Lib.hid hz
  clear ht hl hz
  go_enter Tryd.func4, Tryd.ntmps4
  go_wp2_with fail
  with_reducible refine (few_all v xs _ HLV.out hn HZ.out).mono ?_
  rintro e w0 ⟨⟨b, rfl, hb⟩, rfl⟩
  cases b
  · clear hb
    go_wp2_with fail
    go_ret
    exact ⟨rfl, Below.refl _ _⟩
  obtain ⟨h200, hf3⟩ := hb rfl
  have HSH := Lib.hid hf3.short
  clear hb hf3
  obtain ⟨⟨PT, PE⟩, hP⟩ : ∃ p, Ro.print (rulesL xs) = p := ⟨_, rfl⟩
  have HP := Eqq.mk hP
  obtain ⟨C, hC⟩ : ∃ C, Ro.check (rulesL xs) = C := ⟨_, rfl⟩
  have HCC := Eqq.mk hC
  clear hP hC
  go_wp2_with fail
  with_reducible refine (given_any v xs _ HLV.out (by omega)).mono ?_
  rintro e w1 ⟨v', rfl, ho, hb⟩
  have HB1 := Lib.hid hb
  have HL1 := Lib.hid ho.lie
  clear ho hb
  go_wp2_with fail
  with_reducible refine (print_any v' xs _ HL1.out (by omega) HSH.out (HT.out.keep HB1.out)).mono ?_
  rw [HP.out]
  rintro e w2 ⟨⟨s, hs, rfl⟩, hb⟩
  have HS := Lib.hid hs
  have HB2 := Lib.hid (HB1.out.trans (hb.mono HB1.out.size))
  have HL2 := Lib.hid (HL1.out.keep hb)
  clear hb hs
  go_wp2_with fail
  with_reducible refine (rprint_any v xs _ (HLV.out.keep HB2.out) (by omega) HSH.out).mono ?_
  rw [HP.out]
  rintro e w3 ⟨⟨s2, hs, rfl⟩, hb⟩
  obtain rfl : s2 = s := hs.eq HS.out
  have HB3 := Lib.hid (HB2.out.trans (hb.mono HB2.out.size))
  have HL3 := Lib.hid (HL2.out.keep hb)
  clear hb hs
  go_wp2_with fail
  with_reducible refine (check_any v' xs _ HL3.out (by omega) HSH.out (HT.out.keep HB3.out)).mono ?_
  rw [HCC.out]
  rintro e w4 ⟨rfl, hb⟩
  have HB4 := Lib.hid (HB3.out.trans (hb.mono HB3.out.size))
  have HL4 := Lib.hid (HL3.out.keep hb)
  clear hb
  go_wp2_with fail
  with_reducible refine (rcheck_any v xs _ (HLV.out.keep HB4.out) (by omega) HSH.out).mono ?_
  rw [HCC.out]
  rintro e w5 ⟨rfl, hb⟩
  have HB5 := Lib.hid (HB4.out.trans (hb.mono HB4.out.size))
  have HL5 := Lib.hid (HL4.out.keep hb)
  clear hb
  go_wp2_with fail
  with_reducible refine (same_any v' v xs xs _ HL5.out (HLV.out.keep HB5.out) (by omega) (by omega)).mono ?_
  rw [show decide (xs = xs) = true from decide_eq_true rfl]
  rintro e w6 ⟨rfl, hb⟩
  have HB6 := Lib.hid (HB5.out.trans (hb.mono HB5.out.size))
  clear hb
  go_wp2_with fail
  with_reducible refine (works_any _ (HT.out.keep HB6.out)).mono ?_
  rintro e w7 ⟨rfl, hb⟩
  have HB7 := Lib.hid (HB6.out.trans (hb.mono HB6.out.size))
  clear hb
  go_wp2_with fail
  go_ret
  exact ⟨rfl, HB7.out⟩

theorem laidOut : laidOutB Tryd.prog = true := by kernel_rfl
set_option maxRecDepth 100000 in
theorem contract (H : Type) (enc : TypeId × Value → H) (W : World) (base : Nat) (args : Array Value) (ds gs : List (DataW H)) (before : List MemPlace)
    (hval : ∀ (j : Nat) t v, Tryd.f4.params[j]? = some t → args[j]? = some v → Value.okWide Tryd.prog W .any base t v)
    (hW : DataW.Whole enc Tryd.prog Tryd.f4.params.toList Rows.romanPrintsSpec.vars false W args.toList ds gs before) (hL : laidMetH Tryd.prog Rows.romanPrintsRow.laid W) (hS : W.ShapedOpen Tryd.prog)
    (hR : (DataW.weightsEach Tryd.prog (Tryd.f4.params.toList ++ (OpenSpec.ofChange Rows.romanPrintsSpec).bare.plain.varTypes Tryd.prog) (ds ++ gs)).all (· ≤ reachBytes) = true) :
    Calls Tryd.prog 4 args W fun e W' => ∃ v, e = .returned v ∧ Rows.romanPrintsSpec.post enc Tryd.prog Tryd.f4 false true false false W args v W' := by
  have hT : Tabs W := rtabs_of_laid hL hS
  have hW' := hW
  obtain ⟨p, q, hA0, hV, rfl, hfz, hnd⟩ := hW
  have hA : DataW.TrodAll enc Tryd.prog W 0 (fun _ => true) true Tryd.f4.params.toList args.toList ds p := hA0
  rw [Tryd.params4] at hA hval hR
  obtain ⟨v0, vs0, d0, ds0, p0, q0, hargs, rfl, rfl, h0, r0⟩ := trodAll_cons hA
  obtain ⟨rfl, rfl, rfl⟩ := trodAll_nil r0
  obtain rfl : args = #[v0] := by cases args; simp_all
  obtain ⟨rfl, rfl⟩ := trodVars_none hV
  clear hA0
  simp only [List.append_nil] at hW' hR
  have k0 := h0
  have l0 : ∀ x ∈ p0, x.block < W.heap.size := fun x hx => by simpa using hW'.lt x (by simp [hx])
  obtain ⟨xs0, hl0, hn0, hz0⟩ := open_rules (hval 0 26 v0 rfl rfl) h0
  refine (walk W v0 xs0 hl0 hn0 hz0 hT).mono fun e W' ⟨he, bel⟩ => ?_
  subst he
  exact ⟨_, rfl, _, _, _, [], _, [], hW', trodAll_mk1 (shut_bool Tryd.underlying4 _), (trodAll_cons_mk (Below.trod laidOut (by kernel_rfl) (of_decide_eq_true (by kernel_rfl)) k0 bel l0) trodAll_mk0), rfl, bel.frame _, fun h => by cases h⟩

theorem reads (os : Os) {H : Type} (enc : TypeId × Value → H) : ∃ places, DataW.whole enc Tryd.prog ((laidWorldR os).forCall (fun _ _ => 0) ⟨#[], #[.slice none 0 0], []⟩).memory Tryd.f4.params.toList Rows.romanPrintsSpec.vars false #[.slice none 0 0].toList 8 = some ([.nil], [], places) :=
  ⟨[], by kernel_rfl⟩

set_option maxRecDepth 100000 in
theorem lifted (os : Os) (started : os.Started) (H : Type) (enc : TypeId × Value → H) (F : Stop.Interp) :
    ReturnsInHanded {} Tryd.checked os 4 .any ((OpenSpec.ofChange Rows.romanPrintsSpec).preRow enc Tryd.prog Tryd.f4 Rows.romanPrintsRow.domain false Rows.romanPrintsRow.laid) (((OpenSpec.ofChange Rows.romanPrintsSpec).at F).post enc Tryd.prog Tryd.f4 false true false false) := by
  obtain ⟨places, hx⟩ := reads os enc
  refine returnsInHanded_of_row (C := Tryd.checked) (s := (OpenSpec.ofChange Rows.romanPrintsSpec)) own started (by kernel_rfl) Tryd.func4
    (witness_row_at (enc := enc) (C := Tryd.checked) false (laidWorldR os) #[.slice none 0 0] rfl (by kernel_rfl) (by kernel_rfl) (by kernel_rfl)
      (OpenSpec.preRow_of_cond 8 hx (by kernel_rfl) (fun k hk => by cases hk) (by kernel_rfl) (laid_metR os _))) ?_
  intro W base args ds gs before hval hW _ hcond hR hL hS _
  exact contract H enc W base args ds gs before hval hW hL hS hR

theorem said : Rows.RomanPrintsSaid :=
  OpenClaim.holds_of_cond 4 Tryd.f4 rfl rfl rfl rfl rfl rfl rfl ⟨rfl, rfl, rfl, rfl, rfl⟩ rfl rfl rfl rfl rfl (by kernel_rfl) Tryd.func4 (by kernel_rfl)
    (of_decide_eq_true (by kernel_rfl)) (by unfold Func.isWrapper; first | (rw [if_pos (by decide +kernel)]; kernel_rfl) | (rw [if_neg (by decide +kernel)]; exact ⟨rfl, rfl⟩))
    (fun os started H enc _ F => by rw [OpenClaim.pre_eq_preRow]; exact lifted os started H enc F)

theorem plain (f : FuncId) (fn : Func) (hf : Tryd.pinned.checked.prog.funcNamed "henkan/henkanlaw05.RomanPrints" = some f) (hfn : Tryd.pinned.checked.prog.funcs[f]? = some fn) :
    false = Tryd.pinned.checked.prog.looks [] ∧ ∀ (j : Nat) t, fn.params[j]? = some t → Tryd.pinned.checked.prog.wantsStandIn t = false := by
  obtain rfl : f = 4 := Option.some.inj ((show Tryd.prog.funcNamed "henkan/henkanlaw05.RomanPrints" = some 4 by kernel_rfl).symm.trans hf) |>.symm
  obtain rfl : fn = Tryd.f4 := (Option.some.inj (Tryd.func4.symm.trans hfn)).symm
  refine ⟨by kernel_rfl, fun j t ht => ?_⟩
  rw [Tryd.params4] at ht
  have hm := Array.mem_of_getElem? ht
  simp only [List.mem_toArray, List.mem_cons, List.not_mem_nil, or_false] at hm
  subst hm
  exact (show Tryd.prog.wantsStandIn 26 = false by kernel_rfl)

/-- the card -/
theorem proved : Rows.RomanPrintsCardSaid :=
  Claim7.holds_tied_plain_at .later [] _ _ _ _ said (fun _ h => by cases h) (by kernel_rfl) (fun _ h => by cases h) romanPrints_row_tie rfl ⟨rfl, rfl⟩ (by kernel_rfl) rfl plain (by kernel_rfl)
#print axioms proved
end Go.Proofs.YtbdekjfimojkbaaDoor.romanPrints
