/-
  the least keys that write a text are those of the document
-/
import Derived.Test.YtdcpiabmgjajlaaDoorAuReach
import Derived.Test.YtdcpiabmgjajlaaDoorAuTurn
import Derived.Carry
import Derived.Laws.AppendOwnNone
namespace Go.Proofs.YtdcpiabmgjajlaaDoor.autoTypes
open Go.ChangeShapes Go.WideShapes Go.ChangeAt Go.RowKit
open Go.ChangeMaps (open_string)
set_option linter.unusedVariables false

theorem e_size : (⟨#[]⟩ : ByteArray).size ≤ 9223372036854775807 := by decide
set_option maxRecDepth 100000 in
set_option maxHeartbeats 8000000 in
theorem walk (w : World) (v : Value) (xs : List RuleB) (hl : LieR v xs w) (hn : xs.length ≤ 9223372036854775807) (hz : ∀ r ∈ xs, r.1.size ≤ 9223372036854775807 ∧ r.2.1.size ≤ 9223372036854775807 ∧ r.2.2.size ≤ 9223372036854775807) (s : ByteArray) (hs : s.size ≤ 1048576) (ht : Tabs w) :
    Calls Tryd.prog 5 #[v, .string s] w fun e w' => e = .returned (.bool true) ∧ Below w.heap.size w w' := by
  have HT := Lib.hid ht
  have HLV := Lib.hid hl
  have HZ := Lib.hid hz
  clear ht hl hz
  have HIs := Lib.hid (Is.of s)
  obtain ⟨sl, hsl⟩ : ∃ sl, s.data.toList = sl := ⟨_, rfl⟩
  rw [hsl] at HIs
  clear hsl
  try unfold maxLen at hs
  obtain ⟨z, hz0⟩ : ∃ z, UT.countZ sl = z := ⟨_, rfl⟩
  have HZZ := Eqq.mk hz0
  clear hz0
  go_enter Tryd.func5, Tryd.ntmps5
  go_wp2_with fail
  with_reducible refine (count_any s sl _ HIs.out (by omega)).mono ?_
  rw [rcount_is, HZZ.out]
  rintro e w1 ⟨rfl, hb⟩
  have HB1 := Lib.hid ((Below.refl w.heap.size w).trans (hb.mono (Below.refl w.heap.size w).size))
  clear hb
  go_wp2_with fail
  with_reducible refine (light_any v xs ⟨#[]⟩ _ (HLV.out.keep HB1.out) hn HZ.out e_size).mono ?_
  rintro e w' ⟨⟨b, rfl, hb⟩, rfl⟩
  cases b
  · clear hb
    go_wp2_with fail
    go_ret
    exact ⟨rfl, HB1.out⟩
  obtain ⟨h6, hl3, h2⟩ := hb rfl
  have HL3 := Lib.hid hl3
  clear hb hl3
  by_cases h400 : 400 < s.size
  · have d1 : decide (400 < s.size) = true := decide_eq_true h400
    go_wp2_with fail
    go_ret
    exact ⟨rfl, HB1.out⟩
  have d1 : decide (400 < s.size) = false := decide_eq_false h400
  by_cases h14 : 14 < z
  · have d2 : decide (14 < z) = true := decide_eq_true h14
    by_cases h64 : z ≤ 64
    · have d3 : decide (z ≤ 64) = true := decide_eq_true h64
      go_wp2_with fail
      go_ret
      exact ⟨rfl, HB1.out⟩
    · have d3 : decide (z ≤ 64) = false := decide_eq_false h64
      go_wp2_with fail
      with_reducible refine (new_any v xs _ (HLV.out.keep HB1.out) (by omega) HL3.out.short (HT.out.keep HB1.out)).mono ?_
      rintro e w2 ⟨hv, hb⟩
      have HB2 := Lib.hid (HB1.out.trans (hb.mono HB1.out.size))
      clear hb
      rcases hv with ⟨hne, rfl⟩ | ⟨hok, a, rfl, ha⟩
      · obtain ⟨E, hE⟩ : ∃ E, Ro.check (rulesL xs) = E := ⟨_, rfl⟩
        have HE := Eqq.mk hE
        rw [hE] at hne
        rw [hE]
        have i0 : ¬ ((E : Nat) : Int) = 0 := by omega
        have i1 : (((E : Nat) : Int) == 0) = false := by rw [beq_eq_false_iff_ne]; exact i0
        clear hne hE
        go_wp2_with fail
        with_reducible refine (given6_any v xs _ (HLV.out.keep HB2.out) (by omega)).mono ?_
        rintro e w3 ⟨vg, rfl, ho, hb⟩
        have HB3 := Lib.hid (HB2.out.trans (hb.mono HB2.out.size))
        have HLvg := Lib.hid ho.lie
        clear ho hb
        go_wp2_with fail
        with_reducible refine (rcheck_any vg xs _ HLvg.out (by omega) HL3.out.short).mono ?_
        rw [HE.out]
        rintro e w4 ⟨rfl, hb⟩
        have HB4 := Lib.hid (HB3.out.trans (hb.mono HB3.out.size))
        clear hb
        go_wp2_with fail
        with_reducible refine (works_any _ (HT.out.keep HB4.out)).mono ?_
        rintro e w5 ⟨rfl, hb⟩
        have HB5 := Lib.hid (HB4.out.trans (hb.mono HB4.out.size))
        clear hb
        go_wp2_with fail
        go_ret
        exact ⟨rfl, HB5.out⟩
      have HOK := Eqq.mk hok
      clear hok
      obtain ⟨N, hN⟩ : ∃ N, w2.heap.size = N := ⟨_, rfl⟩
      have H2 := Lib.hid (Nat.le_of_eq hN.symm)
      rw [hN] at ha
      have HA2 := Lib.hid ha
      clear ha hN
      have HZ9 := Lib.hid (show ∀ r ∈ xs, r.1.size ≤ 1000000000 from fun r hr => Nat.le_trans (HL3.out r hr).1 (by omega))
      go_wp2_with fail
      with_reducible refine (type_any N a xs s sl _ HA2.out H2.out HIs.out (by omega) (HT.out.keep HB2.out)).mono ?_
      rintro e w3 ⟨hty, hb⟩
      obtain ⟨r, rfl, hres⟩ := hty.res
      have HTYq := Lib.hid hty
      have HRq := Lib.hid hres
      have HB3 := Lib.hid (HB2.out.trans (hb.mono HB2.out.size))
      have HA3 := Lib.hid (HA2.out.go H2.out hb)
      have H3 := Lib.hid (Nat.le_trans H2.out hb.size)
      clear hb hty hres
      obtain ⟨q, tb, hq⟩ := typeE_form r
      have HQ := Eqq.mk hq
      rw [hq]
      clear hq
      go_wp2_with fail
      with_reducible refine (given6_any v xs _ (HLV.out.keep HB3.out) (by omega)).mono ?_
      rintro e w4 ⟨v1, rfl, ho, hb⟩
      have HB4 := Lib.hid (HB3.out.trans (hb.mono HB3.out.size))
      have HLv1 := Lib.hid ho.lie
      have HA4 := Lib.hid (HA3.out.go H3.out hb)
      have H4 := Lib.hid (Nat.le_trans H3.out hb.size)
      clear ho hb
      go_wp2_with fail
      with_reducible refine (rtype_any v1 xs s sl _ HLv1.out HOK.out (by omega) HZ9.out HIs.out (by omega)).mono ?_
      rintro e w5 ⟨hty, hb⟩
      obtain rfl := hty.eq HTYq.out
      rw [HQ.out]
      have HB5 := Lib.hid (HB4.out.trans (hb.mono HB4.out.size))
      clear hb hty
      go_wp2_with fail
      with_reducible refine (works_any _ (HT.out.keep HB5.out)).mono ?_
      rintro e w6 ⟨rfl, hb⟩
      have HB6 := Lib.hid (HB5.out.trans (hb.mono HB5.out.size))
      clear hb
      go_wp2_with fail
      go_ret
      exact ⟨rfl, HB6.out⟩
  · have d2 : decide (14 < z) = false := decide_eq_false h14
    go_wp2_with fail
    with_reducible refine (new_any v xs _ (HLV.out.keep HB1.out) (by omega) HL3.out.short (HT.out.keep HB1.out)).mono ?_
    rintro e w2 ⟨hv, hb⟩
    have HB2 := Lib.hid (HB1.out.trans (hb.mono HB1.out.size))
    clear hb
    rcases hv with ⟨hne, rfl⟩ | ⟨hok, a, rfl, ha⟩
    · obtain ⟨E, hE⟩ : ∃ E, Ro.check (rulesL xs) = E := ⟨_, rfl⟩
      have HE := Eqq.mk hE
      rw [hE] at hne
      rw [hE]
      have i0 : ¬ ((E : Nat) : Int) = 0 := by omega
      have i1 : (((E : Nat) : Int) == 0) = false := by rw [beq_eq_false_iff_ne]; exact i0
      clear hne hE
      go_wp2_with fail
      with_reducible refine (given6_any v xs _ (HLV.out.keep HB2.out) (by omega)).mono ?_
      rintro e w3 ⟨vg, rfl, ho, hb⟩
      have HB3 := Lib.hid (HB2.out.trans (hb.mono HB2.out.size))
      have HLvg := Lib.hid ho.lie
      clear ho hb
      go_wp2_with fail
      with_reducible refine (rcheck_any vg xs _ HLvg.out (by omega) HL3.out.short).mono ?_
      rw [HE.out]
      rintro e w4 ⟨rfl, hb⟩
      have HB4 := Lib.hid (HB3.out.trans (hb.mono HB3.out.size))
      clear hb
      go_wp2_with fail
      with_reducible refine (works_any _ (HT.out.keep HB4.out)).mono ?_
      rintro e w5 ⟨rfl, hb⟩
      have HB5 := Lib.hid (HB4.out.trans (hb.mono HB4.out.size))
      clear hb
      go_wp2_with fail
      go_ret
      exact ⟨rfl, HB5.out⟩
    have HOK := Eqq.mk hok
    clear hok
    obtain ⟨N, hN⟩ : ∃ N, w2.heap.size = N := ⟨_, rfl⟩
    have H2 := Lib.hid (Nat.le_of_eq hN.symm)
    rw [hN] at ha
    have HA2 := Lib.hid ha
    clear ha hN
    have HZ9 := Lib.hid (show ∀ r ∈ xs, r.1.size ≤ 1000000000 from fun r hr => Nat.le_trans (HL3.out r hr).1 (by omega))
    go_wp2_with fail
    with_reducible refine (type_any N a xs s sl _ HA2.out H2.out HIs.out (by omega) (HT.out.keep HB2.out)).mono ?_
    rintro e w3 ⟨hty, hb⟩
    obtain ⟨r, rfl, hres⟩ := hty.res
    have HTYq := Lib.hid hty
    have HRq := Lib.hid hres
    have HB3 := Lib.hid (HB2.out.trans (hb.mono HB2.out.size))
    have HA3 := Lib.hid (HA2.out.go H2.out hb)
    have H3 := Lib.hid (Nat.le_trans H2.out hb.size)
    clear hb hty hres
    obtain ⟨q, tb, hq⟩ := typeE_form r
    have HQ := Eqq.mk hq
    rw [hq]
    clear hq
    go_wp2_with fail
    with_reducible refine (given6_any v xs _ (HLV.out.keep HB3.out) (by omega)).mono ?_
    rintro e w4 ⟨v1, rfl, ho, hb⟩
    have HB4 := Lib.hid (HB3.out.trans (hb.mono HB3.out.size))
    have HLv1 := Lib.hid ho.lie
    have HA4 := Lib.hid (HA3.out.go H3.out hb)
    have H4 := Lib.hid (Nat.le_trans H3.out hb.size)
    clear ho hb
    go_wp2_with fail
    with_reducible refine (rtype_any v1 xs s sl _ HLv1.out HOK.out (by omega) HZ9.out HIs.out (by omega)).mono ?_
    rintro e w5 ⟨hty, hb⟩
    obtain rfl := hty.eq HTYq.out
    rw [HQ.out]
    have HB5 := Lib.hid (HB4.out.trans (hb.mono HB4.out.size))
    clear hb hty
    go_wp2_with fail
    with_reducible refine (works_any _ (HT.out.keep HB5.out)).mono ?_
    rintro e w6 ⟨rfl, hb⟩
    have HB6 := Lib.hid (HB5.out.trans (hb.mono HB5.out.size))
    clear hb
    go_wp2_with fail
    go_ret
    exact ⟨rfl, HB6.out⟩

theorem laidOut : laidOutB Tryd.prog = true := by kernel_rfl
set_option maxRecDepth 100000 in
theorem contract (H : Type) (enc : TypeId × Value → H) (W : World) (base : Nat) (args : Array Value) (ds gs : List (DataW H)) (before : List MemPlace)
    (hval : ∀ (j : Nat) t v, Tryd.f5.params[j]? = some t → args[j]? = some v → Value.okWide Tryd.prog W .any base t v)
    (hW : DataW.Whole enc Tryd.prog Tryd.f5.params.toList Rows.autoTypesSpec.vars false W args.toList ds gs before) (hL : laidMetH Tryd.prog Rows.autoTypesRow.laid W) (hS : W.ShapedOpen Tryd.prog) (hC : Rows.uptoSmall H (ds ++ gs) = true)
    (hR : (DataW.weightsEach Tryd.prog (Tryd.f5.params.toList ++ (OpenSpec.ofChange Rows.autoTypesSpec).bare.plain.varTypes Tryd.prog) (ds ++ gs)).all (· ≤ reachBytes) = true) :
    Calls Tryd.prog 5 args W fun e W' => ∃ v, e = .returned v ∧ Rows.autoTypesSpec.post enc Tryd.prog Tryd.f5 false true false false W args v W' := by
  have hT : Tabs W := rtabs_of_laid hL hS
  have hW' := hW
  obtain ⟨p, q, hA0, hV, rfl, hfz, hnd⟩ := hW
  have hA : DataW.TrodAll enc Tryd.prog W 0 (fun _ => true) true Tryd.f5.params.toList args.toList ds p := hA0
  rw [Tryd.params5] at hA hval hR
  obtain ⟨v0, vs0, d0, ds0, p0, q0, hargs, rfl, rfl, h0, r0⟩ := trodAll_cons hA
  obtain ⟨v1, vs1, d1, ds1, p1, q1, rfl, rfl, rfl, h1, r1⟩ := trodAll_cons r0
  obtain ⟨rfl, rfl, rfl⟩ := trodAll_nil r1
  obtain rfl : args = #[v0, v1] := by cases args; simp_all
  obtain ⟨rfl, rfl⟩ := trodVars_none hV
  clear hA0
  simp only [List.append_nil] at hW' hR
  have k0 := h0
  have l0 : ∀ x ∈ p0, x.block < W.heap.size := fun x hx => by simpa using hW'.lt x (by simp [hx])
  have k1 := h1
  have l1 : ∀ x ∈ p1, x.block < W.heap.size := fun x hx => by simpa using hW'.lt x (by simp [hx])
  obtain ⟨xs0, hl0, hn0, hz0⟩ := open_rules (hval 0 22 v0 rfl rfl) h0
  obtain ⟨s1, rfl, rfl, rfl, m1⟩ := open_string Tryd.underlying9 (hval 1 9 v1 rfl rfl) h1
  have hB : Rows.uptoBulkAll _ ≤ 1048576 := of_decide_eq_true hC
  simp only [List.append_nil, Rows.uptoBulkAll, Rows.uptoBulk] at hB
  refine (walk W v0 xs0 hl0 hn0 hz0 s1 (by have := Lib.size_eq s1; omega) hT).mono fun e W' ⟨he, bel⟩ => ?_
  subst he
  exact ⟨_, rfl, _, _, _, [], _, [], hW', trodAll_mk1 (shut_bool Tryd.underlying4 _), (trodAll_cons_mk (Below.trod laidOut (by kernel_rfl) (of_decide_eq_true (by kernel_rfl)) k0 bel l0) (trodAll_cons_mk (Below.trod laidOut (by kernel_rfl) (of_decide_eq_true (by kernel_rfl)) k1 bel l1) trodAll_mk0)), rfl, bel.frame _, fun h => by cases h⟩

theorem reads (os : Os) {H : Type} (enc : TypeId × Value → H) : ∃ places, DataW.whole enc Tryd.prog ((laidWorldR os).forCall (fun _ _ => 0) ⟨#[], #[.slice none 0 0, .string ⟨#[]⟩], []⟩).memory Tryd.f5.params.toList Rows.autoTypesSpec.vars false #[.slice none 0 0, .string ⟨#[]⟩].toList 8 = some ([.nil, .lit (.string [])], [], places) :=
  ⟨[], by kernel_rfl⟩

set_option maxRecDepth 100000 in
theorem lifted (os : Os) (started : os.Started) (H : Type) (enc : TypeId × Value → H) (F : Stop.Interp) :
    ReturnsInHanded {} Tryd.checked os 5 .any ((Rows.OpenSpec.upto Rows.autoTypesSpec).preRow enc Tryd.prog Tryd.f5 Rows.autoTypesUptoRow.domain false Rows.autoTypesUptoRow.laid) (((Rows.OpenSpec.upto Rows.autoTypesSpec).at F).post enc Tryd.prog Tryd.f5 false true false false) := by
  obtain ⟨places, hx⟩ := reads os enc
  refine returnsInHanded_of_row (C := Tryd.checked) (s := (Rows.OpenSpec.upto Rows.autoTypesSpec)) own started (by kernel_rfl) Tryd.func5
    (witness_row_at (enc := enc) (C := Tryd.checked) false (laidWorldR os) #[.slice none 0 0, .string ⟨#[]⟩] rfl (by kernel_rfl) (by kernel_rfl) (by kernel_rfl)
      (OpenSpec.preRow_of_cond 8 hx (by kernel_rfl) (fun k hk => by cases hk; kernel_rfl) (by kernel_rfl) (laid_metR os _))) ?_
  intro W base args ds gs before hval hW _ hcond hR hL hS _
  exact contract H enc W base args ds gs before hval hW hL hS (hcond _ rfl) hR

theorem said : Rows.AutoTypesUptoSaid :=
  OpenClaim.holds_of_cond 5 Tryd.f5 rfl rfl rfl rfl rfl rfl rfl ⟨rfl, rfl, rfl, rfl, rfl⟩ rfl rfl rfl rfl rfl (by kernel_rfl) Tryd.func5 (by kernel_rfl)
    (of_decide_eq_true (by kernel_rfl)) (by unfold Func.isWrapper; first | (rw [if_pos (by decide +kernel)]; kernel_rfl) | (rw [if_neg (by decide +kernel)]; exact ⟨rfl, rfl⟩))
    (fun os started H enc _ F => by rw [OpenClaim.pre_eq_preRow]; exact lifted os started H enc F)

theorem plain (f : FuncId) (fn : Func) (hf : Tryd.pinned.checked.prog.funcNamed "henkan/henkanlaw06.AutoTypes" = some f) (hfn : Tryd.pinned.checked.prog.funcs[f]? = some fn) :
    false = Tryd.pinned.checked.prog.looks [] ∧ ∀ (j : Nat) t, fn.params[j]? = some t → Tryd.pinned.checked.prog.wantsStandIn t = false := by
  obtain rfl : f = 5 := Option.some.inj ((show Tryd.prog.funcNamed "henkan/henkanlaw06.AutoTypes" = some 5 by kernel_rfl).symm.trans hf) |>.symm
  obtain rfl : fn = Tryd.f5 := (Option.some.inj (Tryd.func5.symm.trans hfn)).symm
  refine ⟨by kernel_rfl, fun j t ht => ?_⟩
  rw [Tryd.params5] at ht
  have hm := Array.mem_of_getElem? ht
  simp only [List.mem_toArray, List.mem_cons, List.not_mem_nil, or_false] at hm
  rcases hm with rfl | rfl
  · exact (show Tryd.prog.wantsStandIn 22 = false by kernel_rfl)
  · exact (show Tryd.prog.wantsStandIn 9 = false by kernel_rfl)

/-- the card -/
theorem proved : Rows.AutoTypesUptoCardSaid :=
  Claim7.holds_tied_plain_at .later [] _ _ _ _ said (fun _ h => by cases h) (by kernel_rfl) (fun _ h => by cases h) autoTypesUpto_row_tie rfl ⟨rfl, rfl⟩ (by kernel_rfl) rfl plain (by kernel_rfl)
#print axioms proved
end Go.Proofs.YtdcpiabmgjajlaaDoor.autoTypes
