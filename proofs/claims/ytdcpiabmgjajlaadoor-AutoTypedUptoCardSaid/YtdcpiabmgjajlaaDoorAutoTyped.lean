/-
  the keys that Type returns write the text; one text after the other
-/
import Derived.Test.YtdcpiabmgjajlaaDoorAuReach
import Derived.Test.YtdcpiabmgjajlaaDoorAuTurn
import Derived.Carry
import Derived.Laws.AppendOwnNone
namespace Go.Proofs.YtdcpiabmgjajlaaDoor.autoTyped
open Go.ChangeShapes Go.WideShapes Go.ChangeAt Go.RowKit
open Go.ChangeMaps (open_string)
set_option linter.unusedVariables false

theorem e_size : (⟨#[]⟩ : ByteArray).size ≤ 9223372036854775807 := by decide
theorem typeE_two (r : Option (List UInt8)) : ∃ q b, TypeE r = .returned (.tuple #[.string q, .bool b]) ∧ (b = false → q = ⟨#[]⟩) := by
  cases r with
  | none => exact ⟨_, _, rfl, fun _ => rfl⟩
  | some k => exact ⟨_, _, rfl, fun h => by cases h⟩
set_option maxRecDepth 100000 in
set_option maxHeartbeats 8000000 in
theorem walk (w : World) (v : Value) (xs : List RuleB) (hl : LieR v xs w) (hn : xs.length ≤ 9223372036854775807) (hz : ∀ r ∈ xs, r.1.size ≤ 9223372036854775807 ∧ r.2.1.size ≤ 9223372036854775807 ∧ r.2.2.size ≤ 9223372036854775807) (s : ByteArray) (hs : s.size ≤ 1048576) (t : ByteArray) (ht : t.size ≤ 1048576) (ht : Tabs w) :
    Calls Tryd.prog 11 #[v, .string s, .string t] w fun e w' => e = .returned (.bool true) ∧ Below w.heap.size w w' := by
  have HT := Lib.hid ht
  have HLV := Lib.hid hl
  have HZ := Lib.hid hz
  clear ht hl hz
  have HIs := Lib.hid (Is.of s)
  obtain ⟨sl, hsl⟩ : ∃ sl, s.data.toList = sl := ⟨_, rfl⟩
  rw [hsl] at HIs
  clear hsl
  try unfold maxLen at hs
  have HIt := Lib.hid (Is.of t)
  obtain ⟨tl, htl⟩ : ∃ tl, t.data.toList = tl := ⟨_, rfl⟩
  rw [htl] at HIt
  clear htl
  try unfold maxLen at ht
  obtain ⟨zs, hz0⟩ : ∃ z, UT.countZ sl = z := ⟨_, rfl⟩
  have HZs := Eqq.mk hz0
  clear hz0
  obtain ⟨zt, hz0⟩ : ∃ z, UT.countZ tl = z := ⟨_, rfl⟩
  have HZt := Eqq.mk hz0
  clear hz0
  go_enter Tryd.func11, Tryd.ntmps11
  go_wp2_with fail
  with_reducible refine (light_any v xs ⟨#[]⟩ _ (HLV.out.keep (Below.refl w.heap.size w)) hn HZ.out e_size).mono ?_
  rintro e w' ⟨⟨b, rfl, hb⟩, rfl⟩
  cases b
  · clear hb
    go_wp2_with fail
    go_ret
    exact ⟨rfl, (Below.refl w.heap.size w)⟩
  obtain ⟨h6, hl3, h2⟩ := hb rfl
  have HL3 := Lib.hid hl3
  clear hb hl3
  go_wp2_with fail
  with_reducible refine (count_any s sl _ HIs.out (by omega)).mono ?_
  rw [rcount_is, HZs.out]
  rintro e w1 ⟨rfl, hb⟩
  have HB1 := Lib.hid ((Below.refl w.heap.size w).trans (hb.mono (Below.refl w.heap.size w).size))
  clear hb
  by_cases hq0 : 20 < zs
  · have d0 : decide (20 < zs) = true := decide_eq_true hq0
    go_wp2_with fail
    go_ret
    exact ⟨rfl, HB1.out⟩
  have d0 : decide (20 < zs) = false := decide_eq_false hq0
  go_wp2_with fail
  with_reducible refine (count_any t tl _ HIt.out (by omega)).mono ?_
  rw [rcount_is, HZt.out]
  rintro e w2 ⟨rfl, hb⟩
  have HB2 := Lib.hid (HB1.out.trans (hb.mono HB1.out.size))
  clear hb
  by_cases hq1 : 20 < zt
  · have d1 : decide (20 < zt) = true := decide_eq_true hq1
    go_wp2_with fail
    go_ret
    exact ⟨rfl, HB2.out⟩
  have d1 : decide (20 < zt) = false := decide_eq_false hq1
  go_wp2_with fail
  with_reducible refine (new_any v xs _ (HLV.out.keep HB2.out) (by omega) HL3.out.short (HT.out.keep HB2.out)).mono ?_
  rintro e w3 ⟨hv, hb⟩
  have HB3 := Lib.hid (HB2.out.trans (hb.mono HB2.out.size))
  clear hb
  rcases hv with ⟨hne, rfl⟩ | ⟨hok, a, rfl, ha⟩
  · obtain ⟨E, hE⟩ : ∃ E, Ro.check (rulesL xs) = E := ⟨_, rfl⟩
    have HE := Eqq.mk hE
    rw [hE] at hne
    rw [hE]
    have i0 : ¬ ((E : Nat) : Int) = 0 := by omega
    have i1 : (((E : Nat) : Int) == 0) = false := by rw [beq_eq_false_iff_ne]; exact i0
    clear hne hE
    go_wp2_with fail
    with_reducible refine (works_any _ (HT.out.keep HB3.out)).mono ?_
    rintro e w4 ⟨rfl, hb⟩
    have HB4 := Lib.hid (HB3.out.trans (hb.mono HB3.out.size))
    clear hb
    go_wp2_with fail
    go_ret
    exact ⟨rfl, HB4.out⟩
  have HOK := Eqq.mk hok
  clear hok
  obtain ⟨N, hN⟩ : ∃ N, w3.heap.size = N := ⟨_, rfl⟩
  have H3 := Lib.hid (Nat.le_of_eq hN.symm)
  rw [hN] at ha
  have HA3 := Lib.hid ha
  clear ha hN
  go_wp2_with fail
  with_reducible refine (type_any N a xs s sl _ HA3.out H3.out HIs.out (by omega) (HT.out.keep HB3.out)).mono ?_
  rintro e w4 ⟨hty, hb⟩
  obtain ⟨r1, rfl, hres⟩ := hty.res
  have HTYq1 := Lib.hid hty
  have HRq1 := Lib.hid hres
  have HB4 := Lib.hid (HB3.out.trans (hb.mono HB3.out.size))
  have HA4 := Lib.hid (HA3.out.go H3.out hb)
  have H4 := Lib.hid (Nat.le_trans H3.out hb.size)
  clear hb hty hres
  rcases r1 with _ | kl
  · rw [show TypeE none = .returned (.tuple #[.string ⟨#[]⟩, .bool false]) from rfl]
    go_wp2_with fail
    with_reducible refine (type_any N a xs t tl _ HA4.out H4.out HIt.out (by omega) (HT.out.keep HB4.out)).mono ?_
    rintro e w5 ⟨hty, hb⟩
    obtain ⟨r2, rfl, hres⟩ := hty.res
    have HTYq2 := Lib.hid hty
    have HRq2 := Lib.hid hres
    have HB5 := Lib.hid (HB4.out.trans (hb.mono HB4.out.size))
    have HA5 := Lib.hid (HA4.out.go H4.out hb)
    have H5 := Lib.hid (Nat.le_trans H4.out hb.size)
    clear hb hty hres
    obtain ⟨m, tb, hq, hmt⟩ := typeE_two r2
    rw [hq]
    clear hq
    cases tb
    · obtain rfl := hmt rfl
      clear hmt
      go_wp2_with fail
      with_reducible refine (works_any _ (HT.out.keep HB5.out)).mono ?_
      rintro e w6 ⟨rfl, hb⟩
      have HB6 := Lib.hid (HB5.out.trans (hb.mono HB5.out.size))
      have HA6 := Lib.hid (HA5.out.go H5.out hb)
      have H6 := Lib.hid (Nat.le_trans H5.out hb.size)
      clear hb
      go_wp2_with fail
      go_ret
      exact ⟨rfl, HB6.out⟩
    · clear hmt
      go_wp2_with fail
      with_reducible refine (works_any _ (HT.out.keep HB5.out)).mono ?_
      rintro e w6 ⟨rfl, hb⟩
      have HB6 := Lib.hid (HB5.out.trans (hb.mono HB5.out.size))
      have HA6 := Lib.hid (HA5.out.go H5.out hb)
      have H6 := Lib.hid (Nat.le_trans H5.out hb.size)
      clear hb
      go_wp2_with fail
      go_ret
      exact ⟨rfl, HB6.out⟩
  · obtain ⟨hk1, hk2, hk3⟩ := HRq1.out kl rfl
    have H3k := Lib.hid hk3
    have hkz := ba_size kl
    have hkl : kl.length ≤ 802401 := Au.res_len HOK.out hk3 (by rw [HZs.out] at hk1 hk2; have := count_len (l := sl) (by rw [HZs.out]; exact hk1) (by rw [HZs.out]; exact hk2); omega)
    have HIk := Lib.hid (is_ba kl)
    have HTk := Eqq.mk (show TwoV (Au.run (rulesL xs) kl) = .returned (.tuple #[.string s, .string ⟨#[]⟩]) by
      rw [(Au.res_run HOK.out hk3).2, HIs.out.ba]; rfl)
    rw [show TypeE (some kl) = .returned (.tuple #[.string (ba kl), .bool true]) from rfl]
    rw [HZs.out] at hk1 hk2
    clear hk3
    obtain ⟨k, hk⟩ : ∃ x, ba kl = x := ⟨_, rfl⟩
    rw [hk] at hkz HIk
    rw [hk]
    clear hk
    go_wp2_with fail
    with_reducible refine (type_any N a xs t tl _ HA4.out H4.out HIt.out (by omega) (HT.out.keep HB4.out)).mono ?_
    rintro e w5 ⟨hty, hb⟩
    obtain ⟨r2, rfl, hres⟩ := hty.res
    have HTYq2 := Lib.hid hty
    have HRq2 := Lib.hid hres
    have HB5 := Lib.hid (HB4.out.trans (hb.mono HB4.out.size))
    have HA5 := Lib.hid (HA4.out.go H4.out hb)
    have H5 := Lib.hid (Nat.le_trans H4.out hb.size)
    clear hb hty hres
    rcases r2 with _ | ml
    · rw [show TypeE none = .returned (.tuple #[.string ⟨#[]⟩, .bool false]) from rfl]
      go_wp2_with fail
      with_reducible refine (run_any N a xs k kl _ HA5.out H5.out HIk.out (by omega)).mono ?_
      rw [HTk.out]
      rintro e w6 ⟨rfl, hb⟩
      have HB6 := Lib.hid (HB5.out.trans (hb.mono HB5.out.size))
      have HA6 := Lib.hid (HA5.out.go H5.out hb)
      have H6 := Lib.hid (Nat.le_trans H5.out hb.size)
      clear hb
      go_wp2_with fail
      with_reducible refine (works_any _ (HT.out.keep HB6.out)).mono ?_
      rintro e w7 ⟨rfl, hb⟩
      have HB7 := Lib.hid (HB6.out.trans (hb.mono HB6.out.size))
      have HA7 := Lib.hid (HA6.out.go H6.out hb)
      have H7 := Lib.hid (Nat.le_trans H6.out hb.size)
      clear hb
      go_wp2_with fail
      go_ret
      exact ⟨rfl, HB7.out⟩
    · obtain ⟨hm1, hm2, hm3⟩ := HRq2.out ml rfl
      have H3m := Lib.hid hm3
      have hmz := ba_size ml
      have hml : ml.length ≤ 802401 := Au.res_len HOK.out hm3 (by rw [HZt.out] at hm1 hm2; have := count_len (l := tl) (by rw [HZt.out]; exact hm1) (by rw [HZt.out]; exact hm2); omega)
      have HIm := Lib.hid (is_ba ml)
      have HTm := Eqq.mk (show TwoV (Au.run (rulesL xs) ml) = .returned (.tuple #[.string t, .string ⟨#[]⟩]) by
        rw [(Au.res_run HOK.out hm3).2, HIt.out.ba]; rfl)
      rw [show TypeE (some ml) = .returned (.tuple #[.string (ba ml), .bool true]) from rfl]
      rw [HZt.out] at hm1 hm2
      clear hm3
      obtain ⟨m, hm⟩ : ∃ x, ba ml = x := ⟨_, rfl⟩
      rw [hm] at hmz HIm
      rw [hm]
      clear hm
      have HCA := Eqq.mk (show UT.countZ (sl ++ tl) = zs + zt by rw [count_app (by rw [HZs.out]; exact hk1) (by rw [HZt.out]; exact hm1), HZs.out, HZt.out])
      have HIst := Lib.hid (HIs.out.append HIt.out)
      have hstz : (s ++ t).size ≤ 3000000 := by rw [ByteArray.size_append]; omega
      obtain ⟨u, hu⟩ : ∃ u, s ++ t = u := ⟨_, rfl⟩
      have hu9 : ¬ 9223372036854775807 < s.size + t.size := by omega
      rw [hu] at HIst hstz
      go_wp2_with fail
      with_reducible refine (run_any N a xs k kl _ HA5.out H5.out HIk.out (by omega)).mono ?_
      rw [HTk.out]
      rintro e w6 ⟨rfl, hb⟩
      have HB6 := Lib.hid (HB5.out.trans (hb.mono HB5.out.size))
      have HA6 := Lib.hid (HA5.out.go H5.out hb)
      have H6 := Lib.hid (Nat.le_trans H5.out hb.size)
      clear hb
      go_wp2_with fail
      with_reducible refine (type_any N a xs u (sl ++ tl) _ HA6.out H6.out HIst.out (by omega) (HT.out.keep HB6.out)).mono ?_
      rintro e w7 ⟨hty, hb⟩
      obtain ⟨r, hr, rfl⟩ := hty.2 (by rw [HCA.out]; omega) (by rw [HCA.out]; omega)
      obtain ⟨nl, rfl, hnl, hrun⟩ := Au.res_both HOK.out H3k.out H3m.out hr
      have hnz := ba_size nl
      have HIn := Lib.hid (is_ba nl)
      have HTn := Eqq.mk (show TwoV (Au.run (rulesL xs) nl) = .returned (.tuple #[.string u, .string ⟨#[]⟩]) by rw [hrun, HIst.out.ba]; rfl)
      rw [show TypeE (some nl) = .returned (.tuple #[.string (ba nl), .bool true]) from rfl]
      have HB7 := Lib.hid (HB6.out.trans (hb.mono HB6.out.size))
      have HA7 := Lib.hid (HA6.out.go H6.out hb)
      have H7 := Lib.hid (Nat.le_trans H6.out hb.size)
      clear hb hty hr hrun
      obtain ⟨n, hn9⟩ : ∃ x, ba nl = x := ⟨_, rfl⟩
      rw [hn9] at hnz HIn
      rw [hn9]
      clear hn9
      have d7 : decide ((n.size : Int) ≤ (k.size : Int) + (m.size : Int)) = true := decide_eq_true (by omega)
      go_wp2_with fail
      with_reducible refine (run_any N a xs n nl _ HA7.out H7.out HIn.out (by omega)).mono ?_
      rw [HTn.out]
      rintro e w8 ⟨rfl, hb⟩
      have HB8 := Lib.hid (HB7.out.trans (hb.mono HB7.out.size))
      have HA8 := Lib.hid (HA7.out.go H7.out hb)
      have H8 := Lib.hid (Nat.le_trans H7.out hb.size)
      clear hb
      go_wp2_with fail
      with_reducible refine (works_any _ (HT.out.keep HB8.out)).mono ?_
      rintro e w9 ⟨rfl, hb⟩
      have HB9 := Lib.hid (HB8.out.trans (hb.mono HB8.out.size))
      have HA9 := Lib.hid (HA8.out.go H8.out hb)
      have H9 := Lib.hid (Nat.le_trans H8.out hb.size)
      clear hb
      go_wp2_with fail
      go_ret
      exact ⟨rfl, HB9.out⟩

theorem laidOut : laidOutB Tryd.prog = true := by kernel_rfl
set_option maxRecDepth 100000 in
theorem contract (H : Type) (enc : TypeId × Value → H) (W : World) (base : Nat) (args : Array Value) (ds gs : List (DataW H)) (before : List MemPlace)
    (hval : ∀ (j : Nat) t v, Tryd.f11.params[j]? = some t → args[j]? = some v → Value.okWide Tryd.prog W .any base t v)
    (hW : DataW.Whole enc Tryd.prog Tryd.f11.params.toList Rows.autoTypedSpec.vars false W args.toList ds gs before) (hL : laidMetH Tryd.prog Rows.autoTypedRow.laid W) (hS : W.ShapedOpen Tryd.prog) (hC : Rows.uptoSmall H (ds ++ gs) = true)
    (hR : (DataW.weightsEach Tryd.prog (Tryd.f11.params.toList ++ (OpenSpec.ofChange Rows.autoTypedSpec).bare.plain.varTypes Tryd.prog) (ds ++ gs)).all (· ≤ reachBytes) = true) :
    Calls Tryd.prog 11 args W fun e W' => ∃ v, e = .returned v ∧ Rows.autoTypedSpec.post enc Tryd.prog Tryd.f11 false true false false W args v W' := by
  have hT : Tabs W := rtabs_of_laid hL hS
  have hW' := hW
  obtain ⟨p, q, hA0, hV, rfl, hfz, hnd⟩ := hW
  have hA : DataW.TrodAll enc Tryd.prog W 0 (fun _ => true) true Tryd.f11.params.toList args.toList ds p := hA0
  rw [Tryd.params11] at hA hval hR
  obtain ⟨v0, vs0, d0, ds0, p0, q0, hargs, rfl, rfl, h0, r0⟩ := trodAll_cons hA
  obtain ⟨v1, vs1, d1, ds1, p1, q1, rfl, rfl, rfl, h1, r1⟩ := trodAll_cons r0
  obtain ⟨v2, vs2, d2, ds2, p2, q2, rfl, rfl, rfl, h2, r2⟩ := trodAll_cons r1
  obtain ⟨rfl, rfl, rfl⟩ := trodAll_nil r2
  obtain rfl : args = #[v0, v1, v2] := by cases args; simp_all
  obtain ⟨rfl, rfl⟩ := trodVars_none hV
  clear hA0
  simp only [List.append_nil] at hW' hR
  have k0 := h0
  have l0 : ∀ x ∈ p0, x.block < W.heap.size := fun x hx => by simpa using hW'.lt x (by simp [hx])
  have k1 := h1
  have l1 : ∀ x ∈ p1, x.block < W.heap.size := fun x hx => by simpa using hW'.lt x (by simp [hx])
  have k2 := h2
  have l2 : ∀ x ∈ p2, x.block < W.heap.size := fun x hx => by simpa using hW'.lt x (by simp [hx])
  obtain ⟨xs0, hl0, hn0, hz0⟩ := open_rules (hval 0 22 v0 rfl rfl) h0
  obtain ⟨s1, rfl, rfl, rfl, m1⟩ := open_string Tryd.underlying9 (hval 1 9 v1 rfl rfl) h1
  obtain ⟨s2, rfl, rfl, rfl, m2⟩ := open_string Tryd.underlying9 (hval 2 9 v2 rfl rfl) h2
  have hB : Rows.uptoBulkAll _ ≤ 1048576 := of_decide_eq_true hC
  simp only [List.append_nil, Rows.uptoBulkAll, Rows.uptoBulk] at hB
  refine (walk W v0 xs0 hl0 hn0 hz0 s1 (by have := Lib.size_eq s1; omega) s2 (by have := Lib.size_eq s2; omega) hT).mono fun e W' ⟨he, bel⟩ => ?_
  subst he
  exact ⟨_, rfl, _, _, _, [], _, [], hW', trodAll_mk1 (shut_bool Tryd.underlying4 _), (trodAll_cons_mk (Below.trod laidOut (by kernel_rfl) (of_decide_eq_true (by kernel_rfl)) k0 bel l0) (trodAll_cons_mk (Below.trod laidOut (by kernel_rfl) (of_decide_eq_true (by kernel_rfl)) k1 bel l1) (trodAll_cons_mk (Below.trod laidOut (by kernel_rfl) (of_decide_eq_true (by kernel_rfl)) k2 bel l2) trodAll_mk0))), rfl, bel.frame _, fun h => by cases h⟩

theorem reads (os : Os) {H : Type} (enc : TypeId × Value → H) : ∃ places, DataW.whole enc Tryd.prog ((laidWorldR os).forCall (fun _ _ => 0) ⟨#[], #[.slice none 0 0, .string ⟨#[]⟩, .string ⟨#[]⟩], []⟩).memory Tryd.f11.params.toList Rows.autoTypedSpec.vars false #[.slice none 0 0, .string ⟨#[]⟩, .string ⟨#[]⟩].toList 8 = some ([.nil, .lit (.string []), .lit (.string [])], [], places) :=
  ⟨[], by kernel_rfl⟩

set_option maxRecDepth 100000 in
theorem lifted (os : Os) (started : os.Started) (H : Type) (enc : TypeId × Value → H) (F : Stop.Interp) :
    ReturnsInHanded {} Tryd.checked os 11 .any ((Rows.OpenSpec.upto Rows.autoTypedSpec).preRow enc Tryd.prog Tryd.f11 Rows.autoTypedUptoRow.domain false Rows.autoTypedUptoRow.laid) (((Rows.OpenSpec.upto Rows.autoTypedSpec).at F).post enc Tryd.prog Tryd.f11 false true false false) := by
  obtain ⟨places, hx⟩ := reads os enc
  refine returnsInHanded_of_row (C := Tryd.checked) (s := (Rows.OpenSpec.upto Rows.autoTypedSpec)) own started (by kernel_rfl) Tryd.func11
    (witness_row_at (enc := enc) (C := Tryd.checked) false (laidWorldR os) #[.slice none 0 0, .string ⟨#[]⟩, .string ⟨#[]⟩] rfl (by kernel_rfl) (by kernel_rfl) (by kernel_rfl)
      (OpenSpec.preRow_of_cond 8 hx (by kernel_rfl) (fun k hk => by cases hk; kernel_rfl) (by kernel_rfl) (laid_metR os _))) ?_
  intro W base args ds gs before hval hW _ hcond hR hL hS _
  exact contract H enc W base args ds gs before hval hW hL hS (hcond _ rfl) hR

theorem said : Rows.AutoTypedUptoSaid :=
  OpenClaim.holds_of_cond 11 Tryd.f11 rfl rfl rfl rfl rfl rfl rfl ⟨rfl, rfl, rfl, rfl, rfl⟩ rfl rfl rfl rfl rfl (by kernel_rfl) Tryd.func11 (by kernel_rfl)
    (of_decide_eq_true (by kernel_rfl)) (by unfold Func.isWrapper; first | (rw [if_pos (by decide +kernel)]; kernel_rfl) | (rw [if_neg (by decide +kernel)]; exact ⟨rfl, rfl⟩))
    (fun os started H enc _ F => by rw [OpenClaim.pre_eq_preRow]; exact lifted os started H enc F)

theorem plain (f : FuncId) (fn : Func) (hf : Tryd.pinned.checked.prog.funcNamed "henkan/henkanlaw06.AutoTyped" = some f) (hfn : Tryd.pinned.checked.prog.funcs[f]? = some fn) :
    false = Tryd.pinned.checked.prog.looks [] ∧ ∀ (j : Nat) t, fn.params[j]? = some t → Tryd.pinned.checked.prog.wantsStandIn t = false := by
  obtain rfl : f = 11 := Option.some.inj ((show Tryd.prog.funcNamed "henkan/henkanlaw06.AutoTyped" = some 11 by kernel_rfl).symm.trans hf) |>.symm
  obtain rfl : fn = Tryd.f11 := (Option.some.inj (Tryd.func11.symm.trans hfn)).symm
  refine ⟨by kernel_rfl, fun j t ht => ?_⟩
  rw [Tryd.params11] at ht
  have hm := Array.mem_of_getElem? ht
  simp only [List.mem_toArray, List.mem_cons, List.not_mem_nil, or_false] at hm
  rcases hm with rfl | rfl | rfl
  · exact (show Tryd.prog.wantsStandIn 22 = false by kernel_rfl)
  · exact (show Tryd.prog.wantsStandIn 9 = false by kernel_rfl)
  · exact (show Tryd.prog.wantsStandIn 9 = false by kernel_rfl)

/-- the card -/
theorem proved : Rows.AutoTypedUptoCardSaid :=
  Claim7.holds_tied_plain_at .later [] _ _ _ _ said (fun _ h => by cases h) (by kernel_rfl) (fun _ h => by cases h) autoTypedUpto_row_tie rfl ⟨rfl, rfl⟩ (by kernel_rfl) rfl plain (by kernel_rfl)
#print axioms proved
end Go.Proofs.YtdcpiabmgjajlaaDoor.autoTyped
