/-
  feeding a key after others writes what it writes with what is pending
-/
import Derived.Test.YtdcpiabmgjajlaaDoorAuReach
import Derived.Test.YtdcpiabmgjajlaaDoorAuTurn
import Derived.Carry
import Derived.Laws.AppendOwnNone
namespace Go.Proofs.YtdcpiabmgjajlaaDoor.autoOne
open Go.ChangeShapes Go.WideShapes Go.ChangeAt Go.RowKit
open Go.ChangeMaps (open_string)
set_option linter.unusedVariables false

set_option maxRecDepth 100000 in
set_option maxHeartbeats 8000000 in
theorem walk (w : World) (v : Value) (xs : List RuleB) (hl : LieR v xs w) (hn : xs.length ≤ 9223372036854775807) (hz : ∀ r ∈ xs, r.1.size ≤ 9223372036854775807 ∧ r.2.1.size ≤ 9223372036854775807 ∧ r.2.2.size ≤ 9223372036854775807) (s : ByteArray) (hs : s.size ≤ maxLen) (c : Int) (hwf : (Lit.int .u8 c).wf = true) (ht : Tabs w) :
    Calls Tryd.prog 7 #[v, .string s, .int .u8 c] w fun e w' => e = .returned (.bool true) ∧ Below w.heap.size w w' := by
  have HT := Lib.hid ht
  have HLV := Lib.hid hl
  have HZ := Lib.hid hz
  clear ht hl hz
  have HIs := Lib.hid (Is.of s)
  obtain ⟨sl, hsl⟩ : ∃ sl, s.data.toList = sl := ⟨_, rfl⟩
  rw [hsl] at HIs
  clear hsl
  try unfold maxLen at hs
  obtain ⟨k, rfl⟩ := u8_of hwf
  go_enter Tryd.func7, Tryd.ntmps7
  go_wp2_with fail
  with_reducible refine (light_any v xs s _ (HLV.out.keep (Below.refl w.heap.size w)) hn HZ.out (by omega)).mono ?_
  rintro e w' ⟨⟨b, rfl, hb⟩, rfl⟩
  cases b
  · clear hb
    go_wp2_with fail
    go_ret
    exact ⟨rfl, (Below.refl w.heap.size w)⟩
  obtain ⟨h6, hl3, h2⟩ := hb rfl
  have HL3 := Lib.hid hl3
  clear hb hl3
  go_wp2_with fail
  with_reducible refine (new_any v xs _ (HLV.out.keep (Below.refl w.heap.size w)) (by omega) HL3.out.short (HT.out.keep (Below.refl w.heap.size w))).mono ?_
  rintro e w1 ⟨hv, hb⟩
  have HB1 := Lib.hid ((Below.refl w.heap.size w).trans (hb.mono (Below.refl w.heap.size w).size))
  clear hb
  rcases hv with ⟨hne, rfl⟩ | ⟨hok, a, rfl, ha⟩
  · obtain ⟨E, hE⟩ : ∃ E, Ro.check (rulesL xs) = E := ⟨_, rfl⟩
    have HE := Eqq.mk hE
    rw [hE] at hne
    rw [hE]
    have i0 : ¬ ((E : Nat) : Int) = 0 := by omega
    have i1 : (((E : Nat) : Int) == 0) = false := by rw [beq_eq_false_iff_ne]; exact i0
    clear hne hE
    go_wp2_with fail
    with_reducible refine (works_any _ (HT.out.keep HB1.out)).mono ?_
    rintro e w2 ⟨rfl, hb⟩
    have HB2 := Lib.hid (HB1.out.trans (hb.mono HB1.out.size))
    clear hb
    go_wp2_with fail
    go_ret
    exact ⟨rfl, HB2.out⟩
  have HOK := Eqq.mk hok
  clear hok
  obtain ⟨N, hN⟩ : ∃ N, w1.heap.size = N := ⟨_, rfl⟩
  have H1 := Lib.hid (Nat.le_of_eq hN.symm)
  rw [hN] at ha
  have HA1 := Lib.hid ha
  clear ha hN
  obtain ⟨⟨xl, pl⟩, h1⟩ : ∃ p, Au.run (rulesL xs) sl = p := ⟨_, rfl⟩
  have HXx := Eqq.mk h1
  clear h1
  have HIx := Lib.hid (is_ba xl)
  have HIp := Lib.hid (is_ba pl)
  obtain ⟨x, hx⟩ : ∃ x, ba xl = x := ⟨_, rfl⟩
  obtain ⟨p, hp⟩ : ∃ x, ba pl = x := ⟨_, rfl⟩
  have HVx := Eqq.mk (show TwoV (xl, pl) = .returned (.tuple #[.string x, .string p]) by unfold TwoV; rw [hx, hp])
  rw [hx] at HIx
  rw [hp] at HIp
  have HEx := Eqq.mk hx
  have HEp := Eqq.mk hp
  clear hx hp
  obtain ⟨⟨yl, ql⟩, h1⟩ : ∃ p, Au.step (rulesL xs) pl k = p := ⟨_, rfl⟩
  have HXy := Eqq.mk h1
  clear h1
  have HIy := Lib.hid (is_ba yl)
  have HIq := Lib.hid (is_ba ql)
  obtain ⟨y, hy⟩ : ∃ x, ba yl = x := ⟨_, rfl⟩
  obtain ⟨q, hq⟩ : ∃ x, ba ql = x := ⟨_, rfl⟩
  have HVy := Eqq.mk (show TwoV (yl, ql) = .returned (.tuple #[.string y, .string q]) by unfold TwoV; rw [hy, hq])
  rw [hy] at HIy
  rw [hq] at HIq
  have HEy := Eqq.mk hy
  have HEq := Eqq.mk hq
  clear hy hq
  have hsl : sl.length ≤ 200 := by rw [← HIs.out.size]; exact h2
  have hpz : p.size ≤ 500000000 := by
    have h := Au.feed_len (Au.short_of HOK.out) [] (Au.keysOf sl)
    rw [show Au.feed (rulesL xs) [] (Au.keysOf sl) = (xl, pl) from HXx.out] at h
    have h' := Au.keysOf_len sl
    rw [HIp.out.size]
    simp only [List.length_nil] at h
    omega
  have hxz : x.size ≤ 3200 := by
    have h := Au.run_len HOK.out sl
    rw [HXx.out] at h
    rw [HIx.out.size]
    dsimp only at h
    omega
  have hyz : y.size ≤ 4000 := by
    have h := Au.run_len HOK.out (sl ++ [k])
    rw [Au.one_law HOK.out, HXx.out] at h
    dsimp only at h
    rw [HXy.out, List.length_append, List.length_append, List.length_singleton] at h
    rw [HIy.out.size]
    dsimp only at h
    omega
  have HR := Eqq.mk (show TwoV (Au.run (rulesL xs) (sl ++ [k])) = .returned (.tuple #[.string (x ++ y), .string q]) by
    rw [Au.one_law HOK.out, HXx.out]
    dsimp only
    rw [HXy.out]
    unfold TwoV
    dsimp only
    rw [← HEx.out, ← HEy.out, ← HEq.out, ba_app])
  obtain ⟨xy, hxy⟩ : ∃ xy, x ++ y = xy := ⟨_, rfl⟩
  rw [hxy] at HR
  go_wp2_with fail
  with_reducible refine (run_any N a xs s sl _ HA1.out H1.out HIs.out (by omega)).mono ?_
  rw [HXx.out, HVx.out]
  rintro e w2 ⟨rfl, hb⟩
  have HB2 := Lib.hid (HB1.out.trans (hb.mono HB1.out.size))
  have HA2 := Lib.hid (HA1.out.go H1.out hb)
  have H2 := Lib.hid (Nat.le_trans H1.out hb.size)
  clear hb
  go_wp2_with fail
  with_reducible refine (step_any N a xs p pl k _ rfl _ HA2.out H2.out HIp.out hpz).mono ?_
  rw [HXy.out, HVy.out]
  rintro e w3 ⟨rfl, hb⟩
  have HB3 := Lib.hid (HB2.out.trans (hb.mono HB2.out.size))
  have HA3 := Lib.hid (HA2.out.go H2.out hb)
  have H3 := Lib.hid (Nat.le_trans H2.out hb.size)
  clear hb
  have hcv := conv_one k _ rfl (w3.alloc (.cells #[.int .u8 (k.toNat : Int)] 5)) w3.heap.size (cell_one_new w3 (.int .u8 (k.toNat : Int)) 5 0 _ rfl)
  have HIk := Lib.hid (HIs.out.append (is_ba [k]))
  have hkz : s.size + (ba [k]).size ≤ 9223372036854775807 := by rw [ba_size, List.length_singleton]; omega
  have hka : (ba [k]).size = 1 := by rw [ba_size, List.length_singleton]
  obtain ⟨kb, hkb⟩ : ∃ kb, ba [k] = kb := ⟨_, rfl⟩
  rw [hkb] at hcv HIk hkz hka
  obtain ⟨sk, hsk⟩ : ∃ sk, s ++ kb = sk := ⟨_, rfl⟩
  have hskz : sk.size ≤ 1000000000 := by rw [← hsk, ByteArray.size_append]; omega
  rw [hsk] at HIk
  have HBk := Lib.hid (HB3.out.alloc HB3.out.size (.cells #[.int .u8 (k.toNat : Int)] 5))
  have HAk := Lib.hid (HA3.out.go H3.out ((Below.refl _ _).alloc (Nat.le_refl _) (.cells #[.int .u8 (k.toNat : Int)] 5)))
  have HHk := Lib.hid (show N ≤ (w3.alloc (.cells #[.int .u8 (k.toNat : Int)] 5)).heap.size by rw [World.size_alloc]; have := H3.out; omega)
  clear hkb
  go_wp2_with fail
  clear hcv hsk
  with_reducible refine (run_any N a xs sk _ _ HAk.out HHk.out HIk.out hskz).mono ?_
  rw [HR.out]
  rintro e w4 ⟨rfl, hb⟩
  have HB4 := Lib.hid (HBk.out.trans (hb.mono HBk.out.size))
  clear hb
  go_wp2_with fail
  with_reducible refine (works_any _ (HT.out.keep HB4.out)).mono ?_
  rintro e w5 ⟨rfl, hb⟩
  have HB5 := Lib.hid (HB4.out.trans (hb.mono HB4.out.size))
  clear hb
  go_wp2_with fail
  go_ret
  exact ⟨rfl, HB5.out⟩

theorem laidOut : laidOutB Tryd.prog = true := by kernel_rfl
set_option maxRecDepth 100000 in
theorem contract (H : Type) (enc : TypeId × Value → H) (W : World) (base : Nat) (args : Array Value) (ds gs : List (DataW H)) (before : List MemPlace)
    (hval : ∀ (j : Nat) t v, Tryd.f7.params[j]? = some t → args[j]? = some v → Value.okWide Tryd.prog W .any base t v)
    (hW : DataW.Whole enc Tryd.prog Tryd.f7.params.toList Rows.autoOneSpec.vars false W args.toList ds gs before) (hL : laidMetH Tryd.prog Rows.autoOneRow.laid W) (hS : W.ShapedOpen Tryd.prog)
    (hR : (DataW.weightsEach Tryd.prog (Tryd.f7.params.toList ++ (OpenSpec.ofChange Rows.autoOneSpec).bare.plain.varTypes Tryd.prog) (ds ++ gs)).all (· ≤ reachBytes) = true) :
    Calls Tryd.prog 7 args W fun e W' => ∃ v, e = .returned v ∧ Rows.autoOneSpec.post enc Tryd.prog Tryd.f7 false true false false W args v W' := by
  have hT : Tabs W := rtabs_of_laid hL hS
  have hW' := hW
  obtain ⟨p, q, hA0, hV, rfl, hfz, hnd⟩ := hW
  have hA : DataW.TrodAll enc Tryd.prog W 0 (fun _ => true) true Tryd.f7.params.toList args.toList ds p := hA0
  rw [Tryd.params7] at hA hval hR
  obtain ⟨v0, vs0, d0, ds0, p0, q0, hargs, rfl, rfl, h0, r0⟩ := trodAll_cons hA
  obtain ⟨v1, vs1, d1, ds1, p1, q1, rfl, rfl, rfl, h1, r1⟩ := trodAll_cons r0
  obtain ⟨v2, vs2, d2, ds2, p2, q2, rfl, rfl, rfl, h2, r2⟩ := trodAll_cons r1
  obtain ⟨rfl, rfl, rfl⟩ := trodAll_nil r2
  obtain rfl : args = #[v0, v1, v2] := by cases args; simp_all
  obtain ⟨rfl, rfl⟩ := trodVars_none hV
  clear hA0
  simp only [List.append_nil] at hW' hR
  have k0 := h0
  have l0 : ∀ x ∈ p0, x.block < W.heap.size := fun x hx => by simpa using hW'.lt x (by simp [hx])
  have k1 := h1
  have l1 : ∀ x ∈ p1, x.block < W.heap.size := fun x hx => by simpa using hW'.lt x (by simp [hx])
  have k2 := h2
  have l2 : ∀ x ∈ p2, x.block < W.heap.size := fun x hx => by simpa using hW'.lt x (by simp [hx])
  obtain ⟨xs0, hl0, hn0, hz0⟩ := open_rules (hval 0 22 v0 rfl rfl) h0
  obtain ⟨s1, rfl, rfl, rfl, m1⟩ := open_string Tryd.underlying9 (hval 1 9 v1 rfl rfl) h1
  obtain ⟨a2, rfl, rfl, rfl, w2⟩ := open_int Tryd.underlying5 (hval 2 5 v2 rfl rfl) h2
  refine (walk W v0 xs0 hl0 hn0 hz0 s1 m1 a2 w2 hT).mono fun e W' ⟨he, bel⟩ => ?_
  subst he
  exact ⟨_, rfl, _, _, _, [], _, [], hW', trodAll_mk1 (shut_bool Tryd.underlying4 _), (trodAll_cons_mk (Below.trod laidOut (by kernel_rfl) (of_decide_eq_true (by kernel_rfl)) k0 bel l0) (trodAll_cons_mk (Below.trod laidOut (by kernel_rfl) (of_decide_eq_true (by kernel_rfl)) k1 bel l1) (trodAll_cons_mk (Below.trod laidOut (by kernel_rfl) (of_decide_eq_true (by kernel_rfl)) k2 bel l2) trodAll_mk0))), rfl, bel.frame _, fun h => by cases h⟩

theorem reads (os : Os) {H : Type} (enc : TypeId × Value → H) : ∃ places, DataW.whole enc Tryd.prog ((laidWorldR os).forCall (fun _ _ => 0) ⟨#[], #[.slice none 0 0, .string ⟨#[]⟩, .int .u8 0], []⟩).memory Tryd.f7.params.toList Rows.autoOneSpec.vars false #[.slice none 0 0, .string ⟨#[]⟩, .int .u8 0].toList 8 = some ([.nil, .lit (.string []), .lit (.int .u8 0)], [], places) :=
  ⟨[], by kernel_rfl⟩

set_option maxRecDepth 100000 in
theorem lifted (os : Os) (started : os.Started) (H : Type) (enc : TypeId × Value → H) (F : Stop.Interp) :
    ReturnsInHanded {} Tryd.checked os 7 .any ((OpenSpec.ofChange Rows.autoOneSpec).preRow enc Tryd.prog Tryd.f7 Rows.autoOneRow.domain false Rows.autoOneRow.laid) (((OpenSpec.ofChange Rows.autoOneSpec).at F).post enc Tryd.prog Tryd.f7 false true false false) := by
  obtain ⟨places, hx⟩ := reads os enc
  refine returnsInHanded_of_row (C := Tryd.checked) (s := (OpenSpec.ofChange Rows.autoOneSpec)) own started (by kernel_rfl) Tryd.func7
    (witness_row_at (enc := enc) (C := Tryd.checked) false (laidWorldR os) #[.slice none 0 0, .string ⟨#[]⟩, .int .u8 0] rfl (by kernel_rfl) (by kernel_rfl) (by kernel_rfl)
      (OpenSpec.preRow_of_cond 8 hx (by kernel_rfl) (fun k hk => by cases hk) (by kernel_rfl) (laid_metR os _))) ?_
  intro W base args ds gs before hval hW _ hcond hR hL hS _
  exact contract H enc W base args ds gs before hval hW hL hS hR

theorem said : Rows.AutoOneSaid :=
  OpenClaim.holds_of_cond 7 Tryd.f7 rfl rfl rfl rfl rfl rfl rfl ⟨rfl, rfl, rfl, rfl, rfl⟩ rfl rfl rfl rfl rfl (by kernel_rfl) Tryd.func7 (by kernel_rfl)
    (of_decide_eq_true (by kernel_rfl)) (by unfold Func.isWrapper; first | (rw [if_pos (by decide +kernel)]; kernel_rfl) | (rw [if_neg (by decide +kernel)]; exact ⟨rfl, rfl⟩))
    (fun os started H enc _ F => by rw [OpenClaim.pre_eq_preRow]; exact lifted os started H enc F)

theorem plain (f : FuncId) (fn : Func) (hf : Tryd.pinned.checked.prog.funcNamed "henkan/henkanlaw06.AutoOne" = some f) (hfn : Tryd.pinned.checked.prog.funcs[f]? = some fn) :
    false = Tryd.pinned.checked.prog.looks [] ∧ ∀ (j : Nat) t, fn.params[j]? = some t → Tryd.pinned.checked.prog.wantsStandIn t = false := by
  obtain rfl : f = 7 := Option.some.inj ((show Tryd.prog.funcNamed "henkan/henkanlaw06.AutoOne" = some 7 by kernel_rfl).symm.trans hf) |>.symm
  obtain rfl : fn = Tryd.f7 := (Option.some.inj (Tryd.func7.symm.trans hfn)).symm
  refine ⟨by kernel_rfl, fun j t ht => ?_⟩
  rw [Tryd.params7] at ht
  have hm := Array.mem_of_getElem? ht
  simp only [List.mem_toArray, List.mem_cons, List.not_mem_nil, or_false] at hm
  rcases hm with rfl | rfl | rfl
  · exact (show Tryd.prog.wantsStandIn 22 = false by kernel_rfl)
  · exact (show Tryd.prog.wantsStandIn 9 = false by kernel_rfl)
  · exact (show Tryd.prog.wantsStandIn 5 = false by kernel_rfl)

/-- the card -/
theorem proved : Rows.AutoOneCardSaid :=
  Claim7.holds_tied_plain_at .later [] _ _ _ _ said (fun _ h => by cases h) (by kernel_rfl) (fun _ h => by cases h) autoOne_row_tie rfl ⟨rfl, rfl⟩ (by kernel_rfl) rfl plain (by kernel_rfl)
#print axioms proved
end Go.Proofs.YtdcpiabmgjajlaaDoor.autoOne
