/-
  CaldateNames returns true for every day number. No condition.
-/
import Derived.Test.YtcgfcedlllmbhaaCalEra2
import Derived.ProofKit
import Derived.OpenShut
namespace Go.Proofs.Ytcgfcedlllmbhaa.caldateNames
open Go.ChangeShapes Go.WideShapes Go.ChangeAt Go.RowKit
set_option linter.unusedVariables false

theorem tr {w w1 w2 : World} (B1 : Hid (Below w.heap.size w w1)) (h : Below w1.heap.size w1 w2) : Hid (Below w.heap.size w w2) := B1.out.trans (h.mono B1.out.size)

set_option maxRecDepth 100000 in
set_option maxHeartbeats 1000000 in
theorem names_in (n : Int) (w : World) (h1 : 1 ≤ n) (h2 : n ≤ 3652059) :
    Calls Try.prog 5 #[.int .i64 n] w fun e w' => e = .returned (.bool true) ∧ Below w.heap.size w w' := by
  obtain ⟨nm, hnm⟩ : ∃ nm, wdName (n % 7) = nm := ⟨_, rfl⟩
  have HM := Lib.hid hnm
  clear hnm
  go_enter Try.func5, Try.ntmps5
  go_wp2_with fail
  refine (wd_yes _ _ h1 h2).mono ?_
  rintro e w1 ⟨rfl, hb1⟩
  have B1 := Lib.hid hb1
  clear hb1
  rw [HM.out]
  go_wp2_with fail
  refine (rwd_yes _ _ h1 h2).mono ?_
  rintro e w2 ⟨rfl, hb2⟩
  have B2 := tr B1 hb2
  clear hb2 B1
  rw [HM.out]
  go_wp2_with fail
  refine (era_yes _ _ h1 h2).mono ?_
  rintro e w3 (⟨c1, rfl, hb3⟩ | ⟨c1, y, m, d, hok, hnum, rfl, hb3⟩)
  · have B3 := tr B2 hb3
    clear hb3 B2
    go_wp2_with fail
    refine (rera_any _ _ h2).mono ?_
    rintro e w4 (⟨c2, rfl, hb4⟩ | ⟨c2, _⟩)
    · have B4 := tr B3 hb4
      clear hb4 B3
      go_wp2_with fail
      refine (works_any _).mono ?_
      rintro e w5 ⟨rfl, hb5⟩
      have B5 := tr B4 hb5
      clear hb5 B4
      go_wp2_with fail
      go_ret
      exact ⟨rfl, B5.out⟩
    · exfalso; omega
  · obtain ⟨s, k, b, hf⟩ := eraRes_form n y
    have B3 := tr B2 hb3
    have HF := Lib.hid hf
    have HO := Lib.hid hok
    have HN := Lib.hid hnum
    clear hb3 B2 hf hok hnum
    rw [HF.out]
    go_wp2_with fail
    refine (rera_any _ _ h2).mono ?_
    rintro e w4 (⟨c2, _⟩ | ⟨c2, y', m', d', hok', hnum', rfl, hb4⟩)
    · exfalso; omega
    · obtain ⟨rfl, rfl, rfl⟩ := Cal.num_inj y' m' d' y m d hok' HO.out (hnum'.trans HN.out.symm)
      have B4 := tr B3 hb4
      clear hb4 B3 hok' hnum'
      rw [HF.out]
      go_wp2_with fail
      refine (works_any _).mono ?_
      rintro e w5 ⟨rfl, hb5⟩
      have B5 := tr B4 hb5
      clear hb5 B4
      go_wp2_with fail
      go_ret
      exact ⟨rfl, B5.out⟩

set_option maxRecDepth 100000 in
set_option maxHeartbeats 1000000 in
theorem names_low (n : Int) (w : World) (h1 : n < 1) :
    Calls Try.prog 5 #[.int .i64 n] w fun e w' => e = .returned (.bool true) ∧ Below w.heap.size w w' := by
  have H := Lib.hid (show n < 1 ∨ 3652059 < n by omega)
  go_enter Try.func5, Try.ntmps5
  go_wp2_with fail
  refine (wd_no _ _ H.out).mono ?_
  rintro e w1 ⟨rfl, rfl⟩
  go_wp2_with fail
  refine (rwd_no _ _ H.out).mono ?_
  rintro e w2 ⟨rfl, rfl⟩
  go_wp2_with fail
  refine (era_no _ _ H.out).mono ?_
  rintro e w3 ⟨rfl, hb3⟩
  have B3 := Lib.hid hb3
  clear hb3
  go_wp2_with fail
  refine (rera_any _ _ (by omega)).mono ?_
  rintro e w4 (⟨c2, rfl, hb4⟩ | ⟨c2, _⟩)
  · have B4 := tr B3 hb4
    clear hb4 B3
    go_wp2_with fail
    refine (works_any _).mono ?_
    rintro e w5 ⟨rfl, hb5⟩
    have B5 := tr B4 hb5
    clear hb5 B4
    go_wp2_with fail
    go_ret
    exact ⟨rfl, B5.out⟩
  · exfalso; omega

set_option maxRecDepth 100000 in
set_option maxHeartbeats 1000000 in
theorem names_high (n : Int) (w : World) (h1 : 3652059 < n) :
    Calls Try.prog 5 #[.int .i64 n] w fun e w' => e = .returned (.bool true) ∧ Below w.heap.size w w' := by
  have H := Lib.hid (show n < 1 ∨ 3652059 < n by omega)
  go_enter Try.func5, Try.ntmps5
  go_wp2_with fail
  refine (wd_no _ _ H.out).mono ?_
  rintro e w1 ⟨rfl, rfl⟩
  go_wp2_with fail
  refine (rwd_no _ _ H.out).mono ?_
  rintro e w2 ⟨rfl, rfl⟩
  go_wp2_with fail
  refine (era_no _ _ H.out).mono ?_
  rintro e w3 ⟨rfl, hb3⟩
  have B3 := Lib.hid hb3
  clear hb3
  go_wp2_with fail
  refine (rera_no _ _ h1).mono ?_
  rintro e w4 ⟨rfl, hb4⟩
  have B4 := tr B3 hb4
  clear hb4 B3
  go_wp2_with fail
  refine (works_any _).mono ?_
  rintro e w5 ⟨rfl, hb5⟩
  have B5 := tr B4 hb5
  clear hb5 B4
  go_wp2_with fail
  go_ret
  exact ⟨rfl, B5.out⟩

theorem walk (n : Int) (_w0 : (Lit.int .i64 n).wf = true) (w : World) :
    Calls Try.prog 5 #[.int .i64 n] w fun e w' => e = .returned (.bool true) ∧ Below w.heap.size w w' := by
  by_cases c1 : n < 1
  · exact names_low n w c1
  by_cases c2 : 3652059 < n
  · exact names_high n w c2
  · exact names_in n w (by omega) (by omega)

theorem own : ownKnob Try.prog.godebug = none := by kernel_rfl

set_option maxRecDepth 100000 in
theorem lifted (os : Os) (started : os.Started) (H : Type) (enc : TypeId × Value → H) :
    ReturnsInHanded {} Try.checked os 5 .any (Rows.caldateNamesSpec.pre6 enc Try.prog Try.f5 Rows.caldateNamesRow.domain false) (Rows.caldateNamesSpec.post enc Try.prog Try.f5 false true false false) := by
  refine returnsInHanded_of_change (C := Try.checked) own started (by kernel_rfl) Try.func5
    (ChangeSpec.witness6 (enc := enc) (C := Try.checked) false ⟨#[], #[.int .i64 0], []⟩ 8 (by kernel_rfl) (by kernel_rfl) (by kernel_rfl) (by kernel_rfl)) ?_
  intro W base args ds gs before hval0 hW hcnd _
  have hval : ∀ (j : Nat) t v, Try.f5.params[j]? = some t → args[j]? = some v → Value.okWide Try.prog W .any base t v := hval0
  have hW' := hW
  obtain ⟨p, q, hA0, hV, rfl, hfz, hnd⟩ := hW
  have hA : DataW.TrodAll enc Try.prog W 0 (fun _ => true) true Try.f5.params.toList args.toList ds p := hA0
  rw [Try.params5] at hA hval
  obtain ⟨v0, vs0, d0, ds0, p0, q0, hargs, rfl, rfl, h0, r0⟩ := trodAll_cons hA
  obtain ⟨rfl, rfl, rfl⟩ := trodAll_nil r0
  obtain rfl : args = #[v0] := by cases args; simp_all
  obtain ⟨rfl, rfl⟩ := trodVars_none hV
  obtain ⟨a0, rfl, rfl, rfl, w0⟩ := open_int Try.underlying3 (hval 0 3 v0 rfl rfl) h0
  clear hA0 hval0
  simp only [List.append_nil] at hW'
  refine (walk a0 w0 W).mono fun e W' ⟨he, bel⟩ => ?_
  subst he
  exact ⟨_, rfl, _, _, _, [], [], [], hW', trodAll_mk1 (shut_bool Try.underlying4 _), (trodAll_cons_mk (shut_int Try.underlying3 w0) trodAll_mk0), rfl, bel.frame _, fun h => by cases h⟩

/-- the statement -/
theorem proved : Rows.CaldateNamesSaid :=
  OpenClaim.holds_of_wide 5 Try.f5 rfl rfl rfl rfl rfl rfl rfl ⟨rfl, rfl, rfl, rfl, rfl⟩ rfl rfl rfl rfl rfl (by kernel_rfl) Try.func5 (by kernel_rfl)
    (of_decide_eq_true (by kernel_rfl)) (by unfold Func.isWrapper; first | (rw [if_pos (by decide +kernel)]; kernel_rfl) | (rw [if_neg (by decide +kernel)]; exact ⟨rfl, rfl⟩))
    (fun os started H enc _ => lifted os started H enc)
#print axioms proved
end Go.Proofs.Ytcgfcedlllmbhaa.caldateNames
