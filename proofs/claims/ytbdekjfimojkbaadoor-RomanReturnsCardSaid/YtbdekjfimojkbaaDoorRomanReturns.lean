/-
  rules that are written are read again as they were; a text that is read and written has the same rules
-/
import Derived.Test.YtbdekjfimojkbaaDoorRoFew
import Derived.Carry
import Derived.Laws.AppendOwnNone
namespace Go.Proofs.YtbdekjfimojkbaaDoor.romanReturns
open Go.ChangeShapes Go.WideShapes Go.ChangeAt Go.RowKit
open Go.ChangeMaps (open_string)
set_option linter.unusedVariables false

theorem short_good {xs : List RuleB} (h : Ro.check (rulesL xs) = 0) : Short3 xs ∧ xs.length ≤ 500 := by
  obtain ⟨h5, hgd⟩ := (Ro.check_zero _).1 h
  have hal := ((Ro.good_iff _).1 hgd).1
  refine ⟨fun r hr => ?_, by unfold rulesL at h5; rwa [List.length_map] at h5⟩
  have h1 := Ro.ruleLine_len (hal (ruleL r) (List.mem_map.2 ⟨r, hr, rfl⟩))
  obtain ⟨r1, r2, r3⟩ := r
  unfold Ro.ruleLine ruleL at h1
  dsimp only at h1 ⊢
  simp only [List.length_append, List.length_cons, List.length_nil] at h1
  have hq1 := (Is.of r1).size
  have hq2 := (Is.of r2).size
  have hq3 := (Is.of r3).size
  refine ⟨by omega, by omega, ?_⟩
  by_cases h : r3.data.toList = []
  · rw [hq3, h]; simp
  · rw [if_neg h] at h1
    simp only [List.length_append, List.length_cons, List.length_nil] at h1
    omega
theorem print_good {A : List Ro.Rule} (h : Ro.check A = 0) : Ro.print A = (Ro.text A, 0) := by unfold Ro.print; rw [h]; rfl
theorem text_good {A : List Ro.Rule} (h : Ro.check A = 0) : (Ro.text A).length ≤ 13000 := by
  obtain ⟨h5, hgd⟩ := (Ro.check_zero _).1 h
  have := Ro.text_len A ((Ro.good_iff _).1 hgd).1
  omega
set_option maxRecDepth 100000 in
set_option maxHeartbeats 8000000 in
theorem walk (w : World) (v : Value) (xs : List RuleB) (hl : LieR v xs w) (hn : xs.length ≤ 9223372036854775807) (hz : ∀ r ∈ xs, r.1.size ≤ 9223372036854775807 ∧ r.2.1.size ≤ 9223372036854775807 ∧ r.2.2.size ≤ 9223372036854775807) (s : ByteArray) (_ : s.size ≤ maxLen) (ht : Tabs w) :
    Calls Tryd.prog 5 #[v, .string s] w fun e w' => e = .returned (.bool true) ∧ Below w.heap.size w w' := by
  have HT := Lib.hid ht
  have HLV := Lib.hid hl
  have HZ := Lib.hid hz
  have HIS := Lib.hid (Is.of s)
  obtain ⟨sl, hsl⟩ : ∃ sl, s.data.toList = sl := ⟨_, rfl⟩
  rw [hsl] at HIS
  clear ht hl hz hsl
  go_enter Tryd.func5, Tryd.ntmps5
  go_wp2_with fail
  with_reducible refine (few_all v xs _ HLV.out hn HZ.out).mono ?_
  rintro e w0 ⟨⟨b, rfl, hb⟩, rfl⟩
  cases b
  · clear hb
    go_wp2_with fail
    go_ret
    exact ⟨rfl, Below.refl _ _⟩
  obtain ⟨h200, hf3⟩ := hb rfl
  have HSH := Lib.hid hf3.short
  clear hb hf3
  by_cases h100 : 5000 < s.size
  · have d1 : decide (5000 < s.size) = true := decide_eq_true h100
    go_wp2_with fail
    go_ret
    exact ⟨rfl, Below.refl _ _⟩
  have d1 : decide (5000 < s.size) = false := decide_eq_false h100
  go_wp2_with fail
  with_reducible refine (given_any v xs _ HLV.out (by omega)).mono ?_
  rintro e w1 ⟨v', rfl, ho, hb⟩
  have HB1 := Lib.hid hb
  have HL1 := Lib.hid ho.lie
  clear ho hb
  by_cases hc : Ro.check (rulesL xs) = 0
  · have HC := Eqq.mk hc
    clear hc
    go_wp2_with fail
    with_reducible refine (print_any v' xs _ HL1.out (by omega) HSH.out (HT.out.keep HB1.out)).mono ?_
    rw [print_good HC.out]
    rintro e w2 ⟨⟨p, hps, rfl⟩, hb⟩
    have HIP := Lib.hid hps
    have hpz : p.size < 4294967281 := by rw [Is.size hps]; have := text_good HC.out; dsimp only; omega
    have HB2 := Lib.hid (HB1.out.trans (hb.mono HB1.out.size))
    clear hps hb
    go_wp2_with fail
    with_reducible refine (parse_any p _ _ HIP.out hpz (HT.out.keep HB2.out)).mono ?_
    rw [Ro.parse_text (rulesL xs) HC.out]
    rintro e w3 ⟨⟨va, ys, rfl, hys, ho⟩, hb⟩
    obtain rfl : ys = xs := rulesL_inj hys
    have HB3 := Lib.hid (HB2.out.trans (hb.mono HB2.out.size))
    have HLA := Lib.hid ho.lie
    clear hys ho hb
    go_wp2_with fail
    with_reducible refine (same_any va v ys ys _ HLA.out (HLV.out.keep HB3.out) (by omega) (by omega)).mono ?_
    rw [show decide (ys = ys) = true from decide_eq_true rfl]
    rintro e w4 ⟨rfl, hb⟩
    have HBP := Lib.hid (HB3.out.trans (hb.mono HB3.out.size))
    clear hb
    go_wp2_with fail
    with_reducible refine (parse_any s sl _ HIS.out (by omega) (HT.out.keep HBP.out)).mono ?_
    rcases Ro.parse_inv sl with ⟨A, hA, hcA⟩ | ⟨m, E2, hE2, hA⟩
    · rw [hA]
      rintro e q1 ⟨⟨vb, ys, rfl, hys, ho⟩, hb⟩
      dsimp only at hys
      have HY := Eqq.mk hys
      have HCA := Eqq.mk hcA
      have HBQ1 := Lib.hid (HBP.out.trans (hb.mono HBP.out.size))
      have HLQ1 := Lib.hid ho.lie
      obtain ⟨hsh, hyl⟩ := short_good (xs := ys) (by rw [hys]; exact hcA)
      have HSHY := Lib.hid hsh
      clear hys ho hb hA hcA hsh
      go_wp2_with fail
      with_reducible refine (print_any vb ys _ HLQ1.out (by omega) HSHY.out (HT.out.keep HBQ1.out)).mono ?_
      rw [HY.out, print_good HCA.out]
      rintro e q2 ⟨⟨t, hts, rfl⟩, hb⟩
      have HIT := Lib.hid hts
      have htz : t.size < 4294967281 := by rw [Is.size hts]; have := text_good HCA.out; dsimp only; omega
      have HBQ2 := Lib.hid (HBQ1.out.trans (hb.mono HBQ1.out.size))
      have HLQ2 := Lib.hid (HLQ1.out.keep hb)
      clear hts hb
      go_wp2_with fail
      with_reducible refine (parse_any t _ _ HIT.out htz (HT.out.keep HBQ2.out)).mono ?_
      rw [Ro.parse_text A HCA.out]
      rintro e q3 ⟨⟨vc, zs, rfl, hzs, ho⟩, hb⟩
      obtain rfl : zs = ys := rulesL_inj (hzs.trans HY.out.symm)
      have HBQ3 := Lib.hid (HBQ2.out.trans (hb.mono HBQ2.out.size))
      have HLQ3 := Lib.hid (HLQ2.out.keep hb)
      have HLC := Lib.hid ho.lie
      clear hzs ho hb
      go_wp2_with fail
      with_reducible refine (taken_any vb zs _ HLQ3.out (by omega)).mono ?_
      rintro e q4 ⟨vt, rfl, ho, hb⟩
      have HBQ4 := Lib.hid (HBQ3.out.trans (hb.mono HBQ3.out.size))
      have HLC4 := Lib.hid (HLC.out.keep hb)
      have HLT := Lib.hid ho.lie
      clear ho hb
      go_wp2_with fail
      with_reducible refine (same_any vc vt zs zs _ HLC4.out HLT.out (by omega) (by omega)).mono ?_
      rw [show decide (zs = zs) = true from decide_eq_true rfl]
      rintro e q5 ⟨rfl, hb⟩
      have HBQ5 := Lib.hid (HBQ4.out.trans (hb.mono HBQ4.out.size))
      clear hb
      go_wp2_with fail
      with_reducible refine (works_any _ (HT.out.keep HBQ5.out)).mono ?_
      rintro e q6 ⟨rfl, hb⟩
      have HBQ6 := Lib.hid (HBQ5.out.trans (hb.mono HBQ5.out.size))
      clear hb
      go_wp2_with fail
      go_ret
      exact ⟨rfl, HBQ6.out⟩
    · rw [hA]
      rintro e q1 ⟨⟨vb, ys, rfl, hys, ho⟩, hb⟩
      obtain rfl : ys = [] := rulesL_inj hys
      have HBQ1 := Lib.hid (HBP.out.trans (hb.mono HBP.out.size))
      obtain ⟨bo, bc, hvb⟩ := ho.frame
      rw [List.length_nil] at hvb
      subst hvb
      have i2 : ¬ ((E2 : Nat) : Int) = 0 := by omega
      have i3 : (((E2 : Nat) : Int) == 0) = false := by rw [beq_eq_false_iff_ne]; exact i2
      clear hys ho hb hA
      go_wp2_with fail
      with_reducible refine (works_any _ (HT.out.keep HBQ1.out)).mono ?_
      rintro e q6 ⟨rfl, hb⟩
      have HBQ6 := Lib.hid (HBQ1.out.trans (hb.mono HBQ1.out.size))
      clear hb
      go_wp2_with fail
      go_ret
      exact ⟨rfl, HBQ6.out⟩
  · obtain ⟨E, hE⟩ : ∃ E, Ro.check (rulesL xs) = E := ⟨_, rfl⟩
    have HPR := Eqq.mk (show Ro.print (rulesL xs) = ([], E) by unfold Ro.print; rw [if_neg hc, hE])
    have i0 : ¬ ((E : Nat) : Int) = 0 := by rw [hE] at hc; omega
    have i1 : (((E : Nat) : Int) == 0) = false := by rw [beq_eq_false_iff_ne]; exact i0
    clear hc hE
    go_wp2_with fail
    with_reducible refine (print_any v' xs _ HL1.out (by omega) HSH.out (HT.out.keep HB1.out)).mono ?_
    rw [HPR.out]
    rintro e w2 ⟨⟨p, hps, rfl⟩, hb⟩
    have HBP := Lib.hid (HB1.out.trans (hb.mono HB1.out.size))
    clear hps hb
    go_wp2_with fail
    with_reducible refine (parse_any s sl _ HIS.out (by omega) (HT.out.keep HBP.out)).mono ?_
    rcases Ro.parse_inv sl with ⟨A, hA, hcA⟩ | ⟨m, E2, hE2, hA⟩
    · rw [hA]
      rintro e q1 ⟨⟨vb, ys, rfl, hys, ho⟩, hb⟩
      dsimp only at hys
      have HY := Eqq.mk hys
      have HCA := Eqq.mk hcA
      have HBQ1 := Lib.hid (HBP.out.trans (hb.mono HBP.out.size))
      have HLQ1 := Lib.hid ho.lie
      obtain ⟨hsh, hyl⟩ := short_good (xs := ys) (by rw [hys]; exact hcA)
      have HSHY := Lib.hid hsh
      clear hys ho hb hA hcA hsh
      go_wp2_with fail
      with_reducible refine (print_any vb ys _ HLQ1.out (by omega) HSHY.out (HT.out.keep HBQ1.out)).mono ?_
      rw [HY.out, print_good HCA.out]
      rintro e q2 ⟨⟨t, hts, rfl⟩, hb⟩
      have HIT := Lib.hid hts
      have htz : t.size < 4294967281 := by rw [Is.size hts]; have := text_good HCA.out; dsimp only; omega
      have HBQ2 := Lib.hid (HBQ1.out.trans (hb.mono HBQ1.out.size))
      have HLQ2 := Lib.hid (HLQ1.out.keep hb)
      clear hts hb
      go_wp2_with fail
      with_reducible refine (parse_any t _ _ HIT.out htz (HT.out.keep HBQ2.out)).mono ?_
      rw [Ro.parse_text A HCA.out]
      rintro e q3 ⟨⟨vc, zs, rfl, hzs, ho⟩, hb⟩
      obtain rfl : zs = ys := rulesL_inj (hzs.trans HY.out.symm)
      have HBQ3 := Lib.hid (HBQ2.out.trans (hb.mono HBQ2.out.size))
      have HLQ3 := Lib.hid (HLQ2.out.keep hb)
      have HLC := Lib.hid ho.lie
      clear hzs ho hb
      go_wp2_with fail
      with_reducible refine (taken_any vb zs _ HLQ3.out (by omega)).mono ?_
      rintro e q4 ⟨vt, rfl, ho, hb⟩
      have HBQ4 := Lib.hid (HBQ3.out.trans (hb.mono HBQ3.out.size))
      have HLC4 := Lib.hid (HLC.out.keep hb)
      have HLT := Lib.hid ho.lie
      clear ho hb
      go_wp2_with fail
      with_reducible refine (same_any vc vt zs zs _ HLC4.out HLT.out (by omega) (by omega)).mono ?_
      rw [show decide (zs = zs) = true from decide_eq_true rfl]
      rintro e q5 ⟨rfl, hb⟩
      have HBQ5 := Lib.hid (HBQ4.out.trans (hb.mono HBQ4.out.size))
      clear hb
      go_wp2_with fail
      with_reducible refine (works_any _ (HT.out.keep HBQ5.out)).mono ?_
      rintro e q6 ⟨rfl, hb⟩
      have HBQ6 := Lib.hid (HBQ5.out.trans (hb.mono HBQ5.out.size))
      clear hb
      go_wp2_with fail
      go_ret
      exact ⟨rfl, HBQ6.out⟩
    · rw [hA]
      rintro e q1 ⟨⟨vb, ys, rfl, hys, ho⟩, hb⟩
      obtain rfl : ys = [] := rulesL_inj hys
      have HBQ1 := Lib.hid (HBP.out.trans (hb.mono HBP.out.size))
      obtain ⟨bo, bc, hvb⟩ := ho.frame
      rw [List.length_nil] at hvb
      subst hvb
      have i2 : ¬ ((E2 : Nat) : Int) = 0 := by omega
      have i3 : (((E2 : Nat) : Int) == 0) = false := by rw [beq_eq_false_iff_ne]; exact i2
      clear hys ho hb hA
      go_wp2_with fail
      with_reducible refine (works_any _ (HT.out.keep HBQ1.out)).mono ?_
      rintro e q6 ⟨rfl, hb⟩
      have HBQ6 := Lib.hid (HBQ1.out.trans (hb.mono HBQ1.out.size))
      clear hb
      go_wp2_with fail
      go_ret
      exact ⟨rfl, HBQ6.out⟩

theorem laidOut : laidOutB Tryd.prog = true := by kernel_rfl
set_option maxRecDepth 100000 in
theorem contract (H : Type) (enc : TypeId × Value → H) (W : World) (base : Nat) (args : Array Value) (ds gs : List (DataW H)) (before : List MemPlace)
    (hval : ∀ (j : Nat) t v, Tryd.f5.params[j]? = some t → args[j]? = some v → Value.okWide Tryd.prog W .any base t v)
    (hW : DataW.Whole enc Tryd.prog Tryd.f5.params.toList Rows.romanReturnsSpec.vars false W args.toList ds gs before) (hL : laidMetH Tryd.prog Rows.romanReturnsRow.laid W) (hS : W.ShapedOpen Tryd.prog)
    (hR : (DataW.weightsEach Tryd.prog (Tryd.f5.params.toList ++ (OpenSpec.ofChange Rows.romanReturnsSpec).bare.plain.varTypes Tryd.prog) (ds ++ gs)).all (· ≤ reachBytes) = true) :
    Calls Tryd.prog 5 args W fun e W' => ∃ v, e = .returned v ∧ Rows.romanReturnsSpec.post enc Tryd.prog Tryd.f5 false true false false W args v W' := by
  have hT : Tabs W := rtabs_of_laid hL hS
  have hW' := hW
  obtain ⟨p, q, hA0, hV, rfl, hfz, hnd⟩ := hW
  have hA : DataW.TrodAll enc Tryd.prog W 0 (fun _ => true) true Tryd.f5.params.toList args.toList ds p := hA0
  rw [Tryd.params5] at hA hval hR
  obtain ⟨v0, vs0, d0, ds0, p0, q0, hargs, rfl, rfl, h0, r0⟩ := trodAll_cons hA
  obtain ⟨v1, vs1, d1, ds1, p1, q1, rfl, rfl, rfl, h1, r1⟩ := trodAll_cons r0
  obtain ⟨rfl, rfl, rfl⟩ := trodAll_nil r1
  obtain rfl : args = #[v0, v1] := by cases args; simp_all
  obtain ⟨rfl, rfl⟩ := trodVars_none hV
  clear hA0
  simp only [List.append_nil] at hW' hR
  have k0 := h0
  have l0 : ∀ x ∈ p0, x.block < W.heap.size := fun x hx => by simpa using hW'.lt x (by simp [hx])
  have k1 := h1
  have l1 : ∀ x ∈ p1, x.block < W.heap.size := fun x hx => by simpa using hW'.lt x (by simp [hx])
  obtain ⟨xs0, hl0, hn0, hz0⟩ := open_rules (hval 0 26 v0 rfl rfl) h0
  obtain ⟨s1, rfl, rfl, rfl, m1⟩ := open_string Tryd.underlying9 (hval 1 9 v1 rfl rfl) h1
  refine (walk W v0 xs0 hl0 hn0 hz0 s1 m1 hT).mono fun e W' ⟨he, bel⟩ => ?_
  subst he
  exact ⟨_, rfl, _, _, _, [], _, [], hW', trodAll_mk1 (shut_bool Tryd.underlying4 _), (trodAll_cons_mk (Below.trod laidOut (by kernel_rfl) (of_decide_eq_true (by kernel_rfl)) k0 bel l0) (trodAll_cons_mk (Below.trod laidOut (by kernel_rfl) (of_decide_eq_true (by kernel_rfl)) k1 bel l1) trodAll_mk0)), rfl, bel.frame _, fun h => by cases h⟩

theorem reads (os : Os) {H : Type} (enc : TypeId × Value → H) : ∃ places, DataW.whole enc Tryd.prog ((laidWorldR os).forCall (fun _ _ => 0) ⟨#[], #[.slice none 0 0, .string ⟨#[]⟩], []⟩).memory Tryd.f5.params.toList Rows.romanReturnsSpec.vars false #[.slice none 0 0, .string ⟨#[]⟩].toList 8 = some ([.nil, .lit (.string [])], [], places) :=
  ⟨[], by kernel_rfl⟩

set_option maxRecDepth 100000 in
theorem lifted (os : Os) (started : os.Started) (H : Type) (enc : TypeId × Value → H) (F : Stop.Interp) :
    ReturnsInHanded {} Tryd.checked os 5 .any ((OpenSpec.ofChange Rows.romanReturnsSpec).preRow enc Tryd.prog Tryd.f5 Rows.romanReturnsRow.domain false Rows.romanReturnsRow.laid) (((OpenSpec.ofChange Rows.romanReturnsSpec).at F).post enc Tryd.prog Tryd.f5 false true false false) := by
  obtain ⟨places, hx⟩ := reads os enc
  refine returnsInHanded_of_row (C := Tryd.checked) (s := (OpenSpec.ofChange Rows.romanReturnsSpec)) own started (by kernel_rfl) Tryd.func5
    (witness_row_at (enc := enc) (C := Tryd.checked) false (laidWorldR os) #[.slice none 0 0, .string ⟨#[]⟩] rfl (by kernel_rfl) (by kernel_rfl) (by kernel_rfl)
      (OpenSpec.preRow_of_cond 8 hx (by kernel_rfl) (fun k hk => by cases hk) (by kernel_rfl) (laid_metR os _))) ?_
  intro W base args ds gs before hval hW _ hcond hR hL hS _
  exact contract H enc W base args ds gs before hval hW hL hS hR

theorem said : Rows.RomanReturnsSaid :=
  OpenClaim.holds_of_cond 5 Tryd.f5 rfl rfl rfl rfl rfl rfl rfl ⟨rfl, rfl, rfl, rfl, rfl⟩ rfl rfl rfl rfl rfl (by kernel_rfl) Tryd.func5 (by kernel_rfl)
    (of_decide_eq_true (by kernel_rfl)) (by unfold Func.isWrapper; first | (rw [if_pos (by decide +kernel)]; kernel_rfl) | (rw [if_neg (by decide +kernel)]; exact ⟨rfl, rfl⟩))
    (fun os started H enc _ F => by rw [OpenClaim.pre_eq_preRow]; exact lifted os started H enc F)

theorem plain (f : FuncId) (fn : Func) (hf : Tryd.pinned.checked.prog.funcNamed "henkan/henkanlaw05.RomanReturns" = some f) (hfn : Tryd.pinned.checked.prog.funcs[f]? = some fn) :
    false = Tryd.pinned.checked.prog.looks [] ∧ ∀ (j : Nat) t, fn.params[j]? = some t → Tryd.pinned.checked.prog.wantsStandIn t = false := by
  obtain rfl : f = 5 := Option.some.inj ((show Tryd.prog.funcNamed "henkan/henkanlaw05.RomanReturns" = some 5 by kernel_rfl).symm.trans hf) |>.symm
  obtain rfl : fn = Tryd.f5 := (Option.some.inj (Tryd.func5.symm.trans hfn)).symm
  refine ⟨by kernel_rfl, fun j t ht => ?_⟩
  rw [Tryd.params5] at ht
  have hm := Array.mem_of_getElem? ht
  simp only [List.mem_toArray, List.mem_cons, List.not_mem_nil, or_false] at hm
  rcases hm with rfl | rfl
  · exact (show Tryd.prog.wantsStandIn 26 = false by kernel_rfl)
  · exact (show Tryd.prog.wantsStandIn 9 = false by kernel_rfl)

/-- the card -/
theorem proved : Rows.RomanReturnsCardSaid :=
  Claim7.holds_tied_plain_at .later [] _ _ _ _ said (fun _ h => by cases h) (by kernel_rfl) (fun _ h => by cases h) romanReturns_row_tie rfl ⟨rfl, rfl⟩ (by kernel_rfl) rfl plain (by kernel_rfl)
#print axioms proved
end Go.Proofs.YtbdekjfimojkbaaDoor.romanReturns
