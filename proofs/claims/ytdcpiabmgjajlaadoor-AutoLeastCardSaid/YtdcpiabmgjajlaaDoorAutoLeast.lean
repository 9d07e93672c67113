/-
  no keys that write a text are less than those that Type returns
-/
import Derived.Test.YtdcpiabmgjajlaaDoorAuReach
import Derived.Test.YtdcpiabmgjajlaaDoorAuTurn
import Derived.Carry
import Derived.Laws.AppendOwnNone
namespace Go.Proofs.YtdcpiabmgjajlaaDoor.autoLeast
open Go.ChangeShapes Go.WideShapes Go.ChangeAt Go.RowKit
open Go.ChangeMaps (open_string)
set_option linter.unusedVariables false

theorem e_size : (⟨#[]⟩ : ByteArray).size ≤ 9223372036854775807 := by decide
set_option maxRecDepth 100000 in
set_option maxHeartbeats 8000000 in
theorem walk (w : World) (v : Value) (xs : List RuleB) (hl : LieR v xs w) (hn : xs.length ≤ 9223372036854775807) (hz : ∀ r ∈ xs, r.1.size ≤ 9223372036854775807 ∧ r.2.1.size ≤ 9223372036854775807 ∧ r.2.2.size ≤ 9223372036854775807) (s : ByteArray) (hs : s.size ≤ maxLen) (ht : Tabs w) :
    Calls Tryd.prog 12 #[v, .string s] w fun e w' => e = .returned (.bool true) ∧ Below w.heap.size w w' := by
  have HT := Lib.hid ht
  have HLV := Lib.hid hl
  have HZ := Lib.hid hz
  clear ht hl hz
  have HIs := Lib.hid (Is.of s)
  obtain ⟨sl, hsl⟩ : ∃ sl, s.data.toList = sl := ⟨_, rfl⟩
  rw [hsl] at HIs
  clear hsl
  try unfold maxLen at hs
  go_enter Tryd.func12, Tryd.ntmps12
  go_wp2_with fail
  with_reducible refine (light_any v xs ⟨#[]⟩ _ (HLV.out.keep (Below.refl w.heap.size w)) hn HZ.out e_size).mono ?_
  rintro e w' ⟨⟨b, rfl, hb⟩, rfl⟩
  cases b
  · clear hb
    go_wp2_with fail
    go_ret
    exact ⟨rfl, (Below.refl w.heap.size w)⟩
  obtain ⟨h6, hl3, h2⟩ := hb rfl
  have HL3 := Lib.hid hl3
  clear hb hl3
  by_cases h20 : 20 < s.size
  · have d1 : decide (20 < s.size) = true := decide_eq_true h20
    go_wp2_with fail
    go_ret
    exact ⟨rfl, (Below.refl w.heap.size w)⟩
  have d1 : decide (20 < s.size) = false := decide_eq_false h20
  go_wp2_with fail
  with_reducible refine (new_any v xs _ (HLV.out.keep (Below.refl w.heap.size w)) (by omega) HL3.out.short (HT.out.keep (Below.refl w.heap.size w))).mono ?_
  rintro e w1 ⟨hv, hb⟩
  have HB1 := Lib.hid ((Below.refl w.heap.size w).trans (hb.mono (Below.refl w.heap.size w).size))
  clear hb
  rcases hv with ⟨hne, rfl⟩ | ⟨hok, a, rfl, ha⟩
  · obtain ⟨E, hE⟩ : ∃ E, Ro.check (rulesL xs) = E := ⟨_, rfl⟩
    have HE := Eqq.mk hE
    rw [hE] at hne
    rw [hE]
    have i0 : ¬ ((E : Nat) : Int) = 0 := by omega
    have i1 : (((E : Nat) : Int) == 0) = false := by rw [beq_eq_false_iff_ne]; exact i0
    clear hne hE
    go_wp2_with fail
    with_reducible refine (works_any _ (HT.out.keep HB1.out)).mono ?_
    rintro e w2 ⟨rfl, hb⟩
    have HB2 := Lib.hid (HB1.out.trans (hb.mono HB1.out.size))
    clear hb
    go_wp2_with fail
    go_ret
    exact ⟨rfl, HB2.out⟩
  have HOK := Eqq.mk hok
  clear hok
  obtain ⟨N, hN⟩ : ∃ N, w1.heap.size = N := ⟨_, rfl⟩
  have H1 := Lib.hid (Nat.le_of_eq hN.symm)
  rw [hN] at ha
  have HA1 := Lib.hid ha
  clear ha hN
  obtain ⟨kl, hkl⟩ : ∃ kl, Au.keysOf sl = kl := ⟨_, rfl⟩
  have hklz : kl.length ≤ 20 := by
    have := Au.keysOf_len sl
    rw [hkl] at this
    have h := HIs.out.size
    omega
  have HKE := Lib.hid (show Au.AllKeys kl by rw [← hkl]; exact Au.allKeys_of sl)
  have HKK := Eqq.mk hkl
  clear hkl
  have HIk := Lib.hid (is_ba kl)
  have hkz := ba_size kl
  obtain ⟨k, hk⟩ : ∃ k, ba kl = k := ⟨_, rfl⟩
  have HK := Eqq.mk hk
  rw [hk] at HIk hkz
  clear hk
  obtain ⟨⟨xl, pl⟩, h1⟩ : ∃ p, Au.run (rulesL xs) kl = p := ⟨_, rfl⟩
  have HXx := Eqq.mk h1
  clear h1
  have HIx := Lib.hid (is_ba xl)
  have HIp := Lib.hid (is_ba pl)
  obtain ⟨x, hx⟩ : ∃ x, ba xl = x := ⟨_, rfl⟩
  obtain ⟨p, hp⟩ : ∃ x, ba pl = x := ⟨_, rfl⟩
  have HVx := Eqq.mk (show TwoV (xl, pl) = .returned (.tuple #[.string x, .string p]) by unfold TwoV; rw [hx, hp])
  rw [hx] at HIx
  rw [hp] at HIp
  have HEx := Eqq.mk hx
  have HEp := Eqq.mk hp
  clear hx hp
  go_wp2_with fail
  with_reducible refine (rkeys_any s sl _ HIs.out (by omega)).mono ?_
  rw [HKK.out, HK.out]
  rintro e w2 ⟨rfl, hb⟩
  have HB2 := Lib.hid (HB1.out.trans (hb.mono HB1.out.size))
  have HA2 := Lib.hid (HA1.out.go H1.out hb)
  have H2 := Lib.hid (Nat.le_trans H1.out hb.size)
  clear hb
  go_wp2_with fail
  with_reducible refine (run_any N a xs k kl _ HA2.out H2.out HIk.out (by omega)).mono ?_
  rw [HXx.out, HVx.out]
  rintro e w3 ⟨rfl, hb⟩
  have HB3 := Lib.hid (HB2.out.trans (hb.mono HB2.out.size))
  have HA3 := Lib.hid (HA2.out.go H2.out hb)
  have H3 := Lib.hid (Nat.le_trans H2.out hb.size)
  clear hb
  have hxz : x.size ≤ 320 := by
    have h := Au.run_len HOK.out kl
    rw [HXx.out] at h
    rw [HIx.out.size]
    dsimp only at h
    omega
  by_cases hp : pl = []
  · subst hp
    obtain rfl : p = ⟨#[]⟩ := HIp.out.eq (Is.mk [])
    have hval : Lib.validD xl = true := by have := Au.run_valid HOK.out kl; rw [HXx.out] at this; exact this
    obtain ⟨z, hz0⟩ : ∃ z, UT.countZ xl = z := ⟨_, rfl⟩
    have hzp : 0 ≤ z := by rw [← hz0]; unfold UT.countZ; rw [if_pos hval]; omega
    have HZZ := Eqq.mk hz0
    clear hz0 hval
    go_wp2_with fail
    with_reducible refine (count_any x xl _ HIx.out (by omega)).mono ?_
    rw [rcount_is, HZZ.out]
    rintro e w4 ⟨rfl, hb⟩
    have HB4 := Lib.hid (HB3.out.trans (hb.mono HB3.out.size))
    have HA4 := Lib.hid (HA3.out.go H3.out hb)
    have H4 := Lib.hid (Nat.le_trans H3.out hb.size)
    clear hb
    by_cases h64 : 64 < z
    · have d2 : decide (64 < z) = true := decide_eq_true h64
      go_wp2_with fail
      with_reducible refine (works_any _ (HT.out.keep HB4.out)).mono ?_
      rintro e w5 ⟨rfl, hb⟩
      have HB5 := Lib.hid (HB4.out.trans (hb.mono HB4.out.size))
      have HA5 := Lib.hid (HA4.out.go H4.out hb)
      have H5 := Lib.hid (Nat.le_trans H4.out hb.size)
      clear hb
      go_wp2_with fail
      go_ret
      exact ⟨rfl, HB5.out⟩
    have d2 : decide (64 < z) = false := decide_eq_false h64
    go_wp2_with fail
    with_reducible refine (type_any N a xs x xl _ HA4.out H4.out HIx.out (by omega) (HT.out.keep HB4.out)).mono ?_
    rintro e w5 ⟨hty, hb⟩
    obtain ⟨r, hr, rfl⟩ := hty.2 (by rw [HZZ.out]; exact hzp) (by rw [HZZ.out]; omega)
    obtain ⟨n, rfl, hle⟩ := Au.res_least HOK.out hr HKE.out HXx.out
    have HB5 := Lib.hid (HB4.out.trans (hb.mono HB4.out.size))
    have HLE := Lib.hid hle
    have hlb := le_bytes n kl
    have hnz := ba_size n
    rw [show TypeE (some n) = .returned (.tuple #[.string (ba n), .bool true]) from rfl]
    clear hb hty hr hle
    rw [HK.out] at hlb
    obtain ⟨m, hm⟩ : ∃ m, ba n = m := ⟨_, rfl⟩
    rw [hm] at hlb hnz
    rw [hm]
    clear hm
    rcases HLE.out with hlt | ⟨heq, hle⟩
    · have d3 : decide (m.size < k.size) = true := decide_eq_true (by omega)
      clear hlb
      go_wp2_with fail
      with_reducible refine (works_any _ (HT.out.keep HB5.out)).mono ?_
      rintro e w6 ⟨rfl, hb⟩
      have HB6 := Lib.hid (HB5.out.trans (hb.mono HB5.out.size))
      clear hb
      go_wp2_with fail
      go_ret
      exact ⟨rfl, HB6.out⟩
    · have d3 : decide (m.size < k.size) = false := decide_eq_false (by omega)
      have d4 : m.size = k.size := by omega
      rw [decide_eq_true hle] at hlb
      go_wp2_with fail
      with_reducible refine (works_any _ (HT.out.keep HB5.out)).mono ?_
      rintro e w6 ⟨rfl, hb⟩
      have HB6 := Lib.hid (HB5.out.trans (hb.mono HB5.out.size))
      clear hb
      go_wp2_with fail
      go_ret
      exact ⟨rfl, HB6.out⟩
  · have hpe : ¬ p = ⟨#[]⟩ := fun e => hp (by have := HIp.out.data; rw [e] at this; exact this.symm)
    have hpe2 : p.data.isEmpty = false := by
      cases hh : p.data.isEmpty
      · rfl
      · exact absurd (ByteArray.ext (by simpa using hh)) hpe
    have hpe3 : p.toList.isEmpty = false := by rw [HIp.out.list]; cases pl with | nil => exact absurd rfl hp | cons _ _ => rfl
    go_wp2_with fail
    with_reducible refine (works_any _ (HT.out.keep HB3.out)).mono ?_
    rintro e w4 ⟨rfl, hb⟩
    have HB4 := Lib.hid (HB3.out.trans (hb.mono HB3.out.size))
    have HA4 := Lib.hid (HA3.out.go H3.out hb)
    have H4 := Lib.hid (Nat.le_trans H3.out hb.size)
    clear hb
    go_wp2_with fail
    go_ret
    exact ⟨rfl, HB4.out⟩

theorem laidOut : laidOutB Tryd.prog = true := by kernel_rfl
set_option maxRecDepth 100000 in
theorem contract (H : Type) (enc : TypeId × Value → H) (W : World) (base : Nat) (args : Array Value) (ds gs : List (DataW H)) (before : List MemPlace)
    (hval : ∀ (j : Nat) t v, Tryd.f12.params[j]? = some t → args[j]? = some v → Value.okWide Tryd.prog W .any base t v)
    (hW : DataW.Whole enc Tryd.prog Tryd.f12.params.toList Rows.autoLeastSpec.vars false W args.toList ds gs before) (hL : laidMetH Tryd.prog Rows.autoLeastRow.laid W) (hS : W.ShapedOpen Tryd.prog)
    (hR : (DataW.weightsEach Tryd.prog (Tryd.f12.params.toList ++ (OpenSpec.ofChange Rows.autoLeastSpec).bare.plain.varTypes Tryd.prog) (ds ++ gs)).all (· ≤ reachBytes) = true) :
    Calls Tryd.prog 12 args W fun e W' => ∃ v, e = .returned v ∧ Rows.autoLeastSpec.post enc Tryd.prog Tryd.f12 false true false false W args v W' := by
  have hT : Tabs W := rtabs_of_laid hL hS
  have hW' := hW
  obtain ⟨p, q, hA0, hV, rfl, hfz, hnd⟩ := hW
  have hA : DataW.TrodAll enc Tryd.prog W 0 (fun _ => true) true Tryd.f12.params.toList args.toList ds p := hA0
  rw [Tryd.params12] at hA hval hR
  obtain ⟨v0, vs0, d0, ds0, p0, q0, hargs, rfl, rfl, h0, r0⟩ := trodAll_cons hA
  obtain ⟨v1, vs1, d1, ds1, p1, q1, rfl, rfl, rfl, h1, r1⟩ := trodAll_cons r0
  obtain ⟨rfl, rfl, rfl⟩ := trodAll_nil r1
  obtain rfl : args = #[v0, v1] := by cases args; simp_all
  obtain ⟨rfl, rfl⟩ := trodVars_none hV
  clear hA0
  simp only [List.append_nil] at hW' hR
  have k0 := h0
  have l0 : ∀ x ∈ p0, x.block < W.heap.size := fun x hx => by simpa using hW'.lt x (by simp [hx])
  have k1 := h1
  have l1 : ∀ x ∈ p1, x.block < W.heap.size := fun x hx => by simpa using hW'.lt x (by simp [hx])
  obtain ⟨xs0, hl0, hn0, hz0⟩ := open_rules (hval 0 22 v0 rfl rfl) h0
  obtain ⟨s1, rfl, rfl, rfl, m1⟩ := open_string Tryd.underlying9 (hval 1 9 v1 rfl rfl) h1
  refine (walk W v0 xs0 hl0 hn0 hz0 s1 m1 hT).mono fun e W' ⟨he, bel⟩ => ?_
  subst he
  exact ⟨_, rfl, _, _, _, [], _, [], hW', trodAll_mk1 (shut_bool Tryd.underlying4 _), (trodAll_cons_mk (Below.trod laidOut (by kernel_rfl) (of_decide_eq_true (by kernel_rfl)) k0 bel l0) (trodAll_cons_mk (Below.trod laidOut (by kernel_rfl) (of_decide_eq_true (by kernel_rfl)) k1 bel l1) trodAll_mk0)), rfl, bel.frame _, fun h => by cases h⟩

theorem reads (os : Os) {H : Type} (enc : TypeId × Value → H) : ∃ places, DataW.whole enc Tryd.prog ((laidWorldR os).forCall (fun _ _ => 0) ⟨#[], #[.slice none 0 0, .string ⟨#[]⟩], []⟩).memory Tryd.f12.params.toList Rows.autoLeastSpec.vars false #[.slice none 0 0, .string ⟨#[]⟩].toList 8 = some ([.nil, .lit (.string [])], [], places) :=
  ⟨[], by kernel_rfl⟩

set_option maxRecDepth 100000 in
theorem lifted (os : Os) (started : os.Started) (H : Type) (enc : TypeId × Value → H) (F : Stop.Interp) :
    ReturnsInHanded {} Tryd.checked os 12 .any ((OpenSpec.ofChange Rows.autoLeastSpec).preRow enc Tryd.prog Tryd.f12 Rows.autoLeastRow.domain false Rows.autoLeastRow.laid) (((OpenSpec.ofChange Rows.autoLeastSpec).at F).post enc Tryd.prog Tryd.f12 false true false false) := by
  obtain ⟨places, hx⟩ := reads os enc
  refine returnsInHanded_of_row (C := Tryd.checked) (s := (OpenSpec.ofChange Rows.autoLeastSpec)) own started (by kernel_rfl) Tryd.func12
    (witness_row_at (enc := enc) (C := Tryd.checked) false (laidWorldR os) #[.slice none 0 0, .string ⟨#[]⟩] rfl (by kernel_rfl) (by kernel_rfl) (by kernel_rfl)
      (OpenSpec.preRow_of_cond 8 hx (by kernel_rfl) (fun k hk => by cases hk) (by kernel_rfl) (laid_metR os _))) ?_
  intro W base args ds gs before hval hW _ hcond hR hL hS _
  exact contract H enc W base args ds gs before hval hW hL hS hR

theorem said : Rows.AutoLeastSaid :=
  OpenClaim.holds_of_cond 12 Tryd.f12 rfl rfl rfl rfl rfl rfl rfl ⟨rfl, rfl, rfl, rfl, rfl⟩ rfl rfl rfl rfl rfl (by kernel_rfl) Tryd.func12 (by kernel_rfl)
    (of_decide_eq_true (by kernel_rfl)) (by unfold Func.isWrapper; first | (rw [if_pos (by decide +kernel)]; kernel_rfl) | (rw [if_neg (by decide +kernel)]; exact ⟨rfl, rfl⟩))
    (fun os started H enc _ F => by rw [OpenClaim.pre_eq_preRow]; exact lifted os started H enc F)

theorem plain (f : FuncId) (fn : Func) (hf : Tryd.pinned.checked.prog.funcNamed "henkan/henkanlaw06.AutoLeast" = some f) (hfn : Tryd.pinned.checked.prog.funcs[f]? = some fn) :
    false = Tryd.pinned.checked.prog.looks [] ∧ ∀ (j : Nat) t, fn.params[j]? = some t → Tryd.pinned.checked.prog.wantsStandIn t = false := by
  obtain rfl : f = 12 := Option.some.inj ((show Tryd.prog.funcNamed "henkan/henkanlaw06.AutoLeast" = some 12 by kernel_rfl).symm.trans hf) |>.symm
  obtain rfl : fn = Tryd.f12 := (Option.some.inj (Tryd.func12.symm.trans hfn)).symm
  refine ⟨by kernel_rfl, fun j t ht => ?_⟩
  rw [Tryd.params12] at ht
  have hm := Array.mem_of_getElem? ht
  simp only [List.mem_toArray, List.mem_cons, List.not_mem_nil, or_false] at hm
  rcases hm with rfl | rfl
  · exact (show Tryd.prog.wantsStandIn 22 = false by kernel_rfl)
  · exact (show Tryd.prog.wantsStandIn 9 = false by kernel_rfl)

/-- the card -/
theorem proved : Rows.AutoLeastCardSaid :=
  Claim7.holds_tied_plain_at .later [] _ _ _ _ said (fun _ h => by cases h) (by kernel_rfl) (fun _ h => by cases h) autoLeast_row_tie rfl ⟨rfl, rfl⟩ (by kernel_rfl) rfl plain (by kernel_rfl)
#print axioms proved
end Go.Proofs.YtdcpiabmgjajlaaDoor.autoLeast
