/-
  without rules all keys are written as they are
-/
import Derived.Test.YtdcpiabmgjajlaaDoorAuReach
import Derived.Test.YtdcpiabmgjajlaaDoorAuTurn
import Derived.Carry
import Derived.Laws.AppendOwnNone
namespace Go.Proofs.YtdcpiabmgjajlaaDoor.autoBare
open Go.ChangeShapes Go.WideShapes Go.ChangeAt Go.RowKit
open Go.ChangeMaps (open_string)
set_option linter.unusedVariables false

theorem nil_ok : Ro.check (rulesL []) = 0 := by decide +kernel
theorem nil_short : Short3 [] := fun r h => by simp at h
theorem zero_le6 : ([] : List RuleB).length ≤ 1000000000000 := by decide
set_option maxRecDepth 100000 in
set_option maxHeartbeats 8000000 in
theorem walk (w : World) (s : ByteArray) (hs : s.size ≤ maxLen) (ht : Tabs w) :
    Calls Tryd.prog 10 #[.string s] w fun e w' => e = .returned (.bool true) ∧ Below w.heap.size w w' := by
  have HT := Lib.hid ht
  clear ht
  have HIs := Lib.hid (Is.of s)
  obtain ⟨sl, hsl⟩ : ∃ sl, s.data.toList = sl := ⟨_, rfl⟩
  rw [hsl] at HIs
  clear hsl
  try unfold maxLen at hs
  go_enter Tryd.func10, Tryd.ntmps10
  by_cases h200 : 200 < s.size
  · have d1 : decide (200 < s.size) = true := decide_eq_true h200
    go_wp2_with fail
    go_ret
    exact ⟨rfl, Below.refl _ _⟩
  have d1 : decide (200 < s.size) = false := decide_eq_false h200
  go_wp2_with fail
  with_reducible refine (new_any (.slice none 0 0) [] w (LieR.nil w) zero_le6 nil_short HT.out).mono ?_
  rintro e w1 ⟨hv, hb⟩
  rcases hv with ⟨hne, _⟩ | ⟨_, a, rfl, ha⟩
  · exact absurd nil_ok hne
  have HB1 := Lib.hid hb
  clear hb
  obtain ⟨N, hN⟩ : ∃ N, w1.heap.size = N := ⟨_, rfl⟩
  have H1 := Lib.hid (Nat.le_of_eq hN.symm)
  rw [hN] at ha
  have HA1 := Lib.hid ha
  clear ha hN
  obtain ⟨k0, hk0⟩ : ∃ k0, ba (Au.keysOf sl) = k0 := ⟨_, rfl⟩
  have HK := Eqq.mk hk0
  have HR := Eqq.mk (show TwoV (Au.run (rulesL []) sl) = .returned (.tuple #[.string k0, .string ⟨#[]⟩]) by
    rw [show Au.run (rulesL []) sl = (Au.keysOf sl, []) from Au.feed_bare _]; unfold TwoV; rw [← hk0]; rfl)
  have HF := Eqq.mk (show ba (Au.flush (rulesL []) sl) = k0 by rw [show Au.flush (rulesL []) sl = Au.keysOf sl from Au.flush_bare _, hk0])
  clear hk0
  go_wp2_with fail
  with_reducible refine (run_any N a [] s sl _ HA1.out H1.out HIs.out (by omega)).mono ?_
  rw [HR.out]
  rintro e w2 ⟨rfl, hb⟩
  have HB2 := Lib.hid (HB1.out.trans (hb.mono HB1.out.size))
  have HA2 := Lib.hid (HA1.out.go H1.out hb)
  have H2 := Lib.hid (Nat.le_trans H1.out hb.size)
  clear hb
  go_wp2_with fail
  with_reducible refine (rkeys_any s sl _ HIs.out (by omega)).mono ?_
  rw [HK.out]
  rintro e w3 ⟨rfl, hb⟩
  have HB3 := Lib.hid (HB2.out.trans (hb.mono HB2.out.size))
  have HA3 := Lib.hid (HA2.out.go H2.out hb)
  have H3 := Lib.hid (Nat.le_trans H2.out hb.size)
  clear hb
  go_wp2_with fail
  with_reducible refine (flush_any N a [] s sl _ HA3.out H3.out HIs.out (by omega)).mono ?_
  rw [HF.out]
  rintro e w4 ⟨rfl, hb⟩
  have HB4 := Lib.hid (HB3.out.trans (hb.mono HB3.out.size))
  have HA4 := Lib.hid (HA3.out.go H3.out hb)
  have H4 := Lib.hid (Nat.le_trans H3.out hb.size)
  clear hb
  go_wp2_with fail
  with_reducible refine (works_any _ (HT.out.keep HB4.out)).mono ?_
  rintro e w5 ⟨rfl, hb⟩
  have HB5 := Lib.hid (HB4.out.trans (hb.mono HB4.out.size))
  have HA5 := Lib.hid (HA4.out.go H4.out hb)
  have H5 := Lib.hid (Nat.le_trans H4.out hb.size)
  clear hb
  go_wp2_with fail
  go_ret
  exact ⟨rfl, HB5.out⟩

theorem laidOut : laidOutB Tryd.prog = true := by kernel_rfl
set_option maxRecDepth 100000 in
theorem contract (H : Type) (enc : TypeId × Value → H) (W : World) (base : Nat) (args : Array Value) (ds gs : List (DataW H)) (before : List MemPlace)
    (hval : ∀ (j : Nat) t v, Tryd.f10.params[j]? = some t → args[j]? = some v → Value.okWide Tryd.prog W .any base t v)
    (hW : DataW.Whole enc Tryd.prog Tryd.f10.params.toList Rows.autoBareSpec.vars false W args.toList ds gs before) (hL : laidMetH Tryd.prog Rows.autoBareRow.laid W) (hS : W.ShapedOpen Tryd.prog)
    (hR : (DataW.weightsEach Tryd.prog (Tryd.f10.params.toList ++ (OpenSpec.ofChange Rows.autoBareSpec).bare.plain.varTypes Tryd.prog) (ds ++ gs)).all (· ≤ reachBytes) = true) :
    Calls Tryd.prog 10 args W fun e W' => ∃ v, e = .returned v ∧ Rows.autoBareSpec.post enc Tryd.prog Tryd.f10 false true false false W args v W' := by
  have hT : Tabs W := rtabs_of_laid hL hS
  have hW' := hW
  obtain ⟨p, q, hA0, hV, rfl, hfz, hnd⟩ := hW
  have hA : DataW.TrodAll enc Tryd.prog W 0 (fun _ => true) true Tryd.f10.params.toList args.toList ds p := hA0
  rw [Tryd.params10] at hA hval hR
  obtain ⟨v0, vs0, d0, ds0, p0, q0, hargs, rfl, rfl, h0, r0⟩ := trodAll_cons hA
  obtain ⟨rfl, rfl, rfl⟩ := trodAll_nil r0
  obtain rfl : args = #[v0] := by cases args; simp_all
  obtain ⟨rfl, rfl⟩ := trodVars_none hV
  clear hA0
  simp only [List.append_nil] at hW' hR
  have k0 := h0
  have l0 : ∀ x ∈ p0, x.block < W.heap.size := fun x hx => by simpa using hW'.lt x (by simp [hx])
  obtain ⟨s0, rfl, rfl, rfl, m0⟩ := open_string Tryd.underlying9 (hval 0 9 v0 rfl rfl) h0
  refine (walk W s0 m0 hT).mono fun e W' ⟨he, bel⟩ => ?_
  subst he
  exact ⟨_, rfl, _, _, _, [], _, [], hW', trodAll_mk1 (shut_bool Tryd.underlying4 _), (trodAll_cons_mk (Below.trod laidOut (by kernel_rfl) (of_decide_eq_true (by kernel_rfl)) k0 bel l0) trodAll_mk0), rfl, bel.frame _, fun h => by cases h⟩

theorem reads (os : Os) {H : Type} (enc : TypeId × Value → H) : ∃ places, DataW.whole enc Tryd.prog ((laidWorldR os).forCall (fun _ _ => 0) ⟨#[], #[.string ⟨#[]⟩], []⟩).memory Tryd.f10.params.toList Rows.autoBareSpec.vars false #[.string ⟨#[]⟩].toList 8 = some ([.lit (.string [])], [], places) :=
  ⟨[], by kernel_rfl⟩

set_option maxRecDepth 100000 in
theorem lifted (os : Os) (started : os.Started) (H : Type) (enc : TypeId × Value → H) (F : Stop.Interp) :
    ReturnsInHanded {} Tryd.checked os 10 .any ((OpenSpec.ofChange Rows.autoBareSpec).preRow enc Tryd.prog Tryd.f10 Rows.autoBareRow.domain false Rows.autoBareRow.laid) (((OpenSpec.ofChange Rows.autoBareSpec).at F).post enc Tryd.prog Tryd.f10 false true false false) := by
  obtain ⟨places, hx⟩ := reads os enc
  refine returnsInHanded_of_row (C := Tryd.checked) (s := (OpenSpec.ofChange Rows.autoBareSpec)) own started (by kernel_rfl) Tryd.func10
    (witness_row_at (enc := enc) (C := Tryd.checked) false (laidWorldR os) #[.string ⟨#[]⟩] rfl (by kernel_rfl) (by kernel_rfl) (by kernel_rfl)
      (OpenSpec.preRow_of_cond 8 hx (by kernel_rfl) (fun k hk => by cases hk) (by kernel_rfl) (laid_metR os _))) ?_
  intro W base args ds gs before hval hW _ hcond hR hL hS _
  exact contract H enc W base args ds gs before hval hW hL hS hR

theorem said : Rows.AutoBareSaid :=
  OpenClaim.holds_of_cond 10 Tryd.f10 rfl rfl rfl rfl rfl rfl rfl ⟨rfl, rfl, rfl, rfl, rfl⟩ rfl rfl rfl rfl rfl (by kernel_rfl) Tryd.func10 (by kernel_rfl)
    (of_decide_eq_true (by kernel_rfl)) (by unfold Func.isWrapper; first | (rw [if_pos (by decide +kernel)]; kernel_rfl) | (rw [if_neg (by decide +kernel)]; exact ⟨rfl, rfl⟩))
    (fun os started H enc _ F => by rw [OpenClaim.pre_eq_preRow]; exact lifted os started H enc F)

theorem plain (f : FuncId) (fn : Func) (hf : Tryd.pinned.checked.prog.funcNamed "henkan/henkanlaw06.AutoBare" = some f) (hfn : Tryd.pinned.checked.prog.funcs[f]? = some fn) :
    false = Tryd.pinned.checked.prog.looks [] ∧ ∀ (j : Nat) t, fn.params[j]? = some t → Tryd.pinned.checked.prog.wantsStandIn t = false := by
  obtain rfl : f = 10 := Option.some.inj ((show Tryd.prog.funcNamed "henkan/henkanlaw06.AutoBare" = some 10 by kernel_rfl).symm.trans hf) |>.symm
  obtain rfl : fn = Tryd.f10 := (Option.some.inj (Tryd.func10.symm.trans hfn)).symm
  refine ⟨by kernel_rfl, fun j t ht => ?_⟩
  rw [Tryd.params10] at ht
  have hm := Array.mem_of_getElem? ht
  simp only [List.mem_toArray, List.mem_cons, List.not_mem_nil, or_false] at hm
  subst hm
  exact (show Tryd.prog.wantsStandIn 9 = false by kernel_rfl)

/-- the card -/
theorem proved : Rows.AutoBareCardSaid :=
  Claim7.holds_tied_plain_at .later [] _ _ _ _ said (fun _ h => by cases h) (by kernel_rfl) (fun _ h => by cases h) autoBare_row_tie rfl ⟨rfl, rfl⟩ (by kernel_rfl) rfl plain (by kernel_rfl)
#print axioms proved
end Go.Proofs.YtdcpiabmgjajlaaDoor.autoBare
