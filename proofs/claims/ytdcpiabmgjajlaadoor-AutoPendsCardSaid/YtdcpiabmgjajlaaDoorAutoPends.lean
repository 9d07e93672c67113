/-
  what is pending is the beginning of the keys of a rule that has more
-/
import Derived.Test.YtdcpiabmgjajlaaDoorAuReach
import Derived.Test.YtdcpiabmgjajlaaDoorAuTurn
import Derived.Carry
import Derived.Laws.AppendOwnNone
namespace Go.Proofs.YtdcpiabmgjajlaaDoor.autoPends
open Go.ChangeShapes Go.WideShapes Go.ChangeAt Go.RowKit
open Go.ChangeMaps (open_string)
set_option linter.unusedVariables false

def pendF (pl : List UInt8) (xs : List RuleB) (i : Nat) : Bool := pl.isEmpty || Ro.longer (rulesL (xs.take i)) pl
theorem pend_succ (pl : List UInt8) (xs : List RuleB) (i : Nat) (r : RuleB) (h : xs[i]? = some r) : pendF pl xs (i + 1) = (pendF pl xs i || (decide (pl.length < r.1.data.toList.length) && r.1.data.toList.take pl.length == pl)) := by
  unfold pendF
  rw [take_snoc xs i r h, show rulesL (xs.take i ++ [r]) = rulesL (xs.take i) ++ [ruleL r] from List.map_append .., show ∀ a b, Ro.longer (a ++ b) pl = (Ro.longer a pl || Ro.longer b pl) from fun a b => List.any_append .., Bool.or_assoc]
  congr 2
  show ([ruleL r].any _) = _
  rw [List.any_cons, List.any_nil, Bool.or_false]
  rfl
set_option maxRecDepth 100000 in
set_option maxHeartbeats 8000000 in
theorem walk (w : World) (v : Value) (xs : List RuleB) (hl : LieR v xs w) (hn : xs.length ≤ 9223372036854775807) (hz : ∀ r ∈ xs, r.1.size ≤ 9223372036854775807 ∧ r.2.1.size ≤ 9223372036854775807 ∧ r.2.2.size ≤ 9223372036854775807) (s : ByteArray) (hs : s.size ≤ maxLen) (ht : Tabs w) :
    Calls Tryd.prog 8 #[v, .string s] w fun e w' => e = .returned (.bool true) ∧ Below w.heap.size w w' := by
  have HT := Lib.hid ht
  have HLV := Lib.hid hl
  have HZ := Lib.hid hz
  clear ht hl hz
  have HIs := Lib.hid (Is.of s)
  obtain ⟨sl, hsl⟩ : ∃ sl, s.data.toList = sl := ⟨_, rfl⟩
  rw [hsl] at HIs
  clear hsl
  try unfold maxLen at hs
  go_enter Tryd.func8, Tryd.ntmps8
  go_wp2_with fail
  with_reducible refine (light_any v xs s _ (HLV.out.keep (Below.refl w.heap.size w)) hn HZ.out (by omega)).mono ?_
  rintro e w' ⟨⟨b, rfl, hb⟩, rfl⟩
  cases b
  · clear hb
    go_wp2_with fail
    go_ret
    exact ⟨rfl, (Below.refl w.heap.size w)⟩
  obtain ⟨h6, hl3, h2⟩ := hb rfl
  have HL3 := Lib.hid hl3
  clear hb hl3
  go_wp2_with fail
  with_reducible refine (new_any v xs _ (HLV.out.keep (Below.refl w.heap.size w)) (by omega) HL3.out.short (HT.out.keep (Below.refl w.heap.size w))).mono ?_
  rintro e w1 ⟨hv, hb⟩
  have HB1 := Lib.hid ((Below.refl w.heap.size w).trans (hb.mono (Below.refl w.heap.size w).size))
  clear hb
  rcases hv with ⟨hne, rfl⟩ | ⟨hok, a, rfl, ha⟩
  · obtain ⟨E, hE⟩ : ∃ E, Ro.check (rulesL xs) = E := ⟨_, rfl⟩
    have HE := Eqq.mk hE
    rw [hE] at hne
    rw [hE]
    have i0 : ¬ ((E : Nat) : Int) = 0 := by omega
    have i1 : (((E : Nat) : Int) == 0) = false := by rw [beq_eq_false_iff_ne]; exact i0
    clear hne hE
    go_wp2_with fail
    with_reducible refine (works_any _ (HT.out.keep HB1.out)).mono ?_
    rintro e w2 ⟨rfl, hb⟩
    have HB2 := Lib.hid (HB1.out.trans (hb.mono HB1.out.size))
    clear hb
    go_wp2_with fail
    go_ret
    exact ⟨rfl, HB2.out⟩
  have HOK := Eqq.mk hok
  clear hok
  obtain ⟨N, hN⟩ : ∃ N, w1.heap.size = N := ⟨_, rfl⟩
  have H1 := Lib.hid (Nat.le_of_eq hN.symm)
  rw [hN] at ha
  have HA1 := Lib.hid ha
  clear ha hN
  obtain ⟨⟨xl, pl⟩, h1⟩ : ∃ p, Au.run (rulesL xs) sl = p := ⟨_, rfl⟩
  have HXx := Eqq.mk h1
  clear h1
  have HIx := Lib.hid (is_ba xl)
  have HIp := Lib.hid (is_ba pl)
  obtain ⟨x, hx⟩ : ∃ x, ba xl = x := ⟨_, rfl⟩
  obtain ⟨p, hp⟩ : ∃ x, ba pl = x := ⟨_, rfl⟩
  have HVx := Eqq.mk (show TwoV (xl, pl) = .returned (.tuple #[.string x, .string p]) by unfold TwoV; rw [hx, hp])
  rw [hx] at HIx
  rw [hp] at HIp
  have HEx := Eqq.mk hx
  have HEp := Eqq.mk hp
  clear hx hp
  go_wp2_with fail
  with_reducible refine (run_any N a xs s sl _ HA1.out H1.out HIs.out (by omega)).mono ?_
  rw [HXx.out, HVx.out]
  rintro e w2 ⟨rfl, hb⟩
  have HB2 := Lib.hid (HB1.out.trans (hb.mono HB1.out.size))
  have HA2 := Lib.hid (HA1.out.go H1.out hb)
  have H2 := Lib.hid (Nat.le_trans H1.out hb.size)
  clear hb
  have hsl : sl.length ≤ 200 := by rw [← HIs.out.size]; exact h2
  have hpz : p.size ≤ 200 := by
    have h := Au.feed_len (Au.short_of HOK.out) [] (Au.keysOf sl)
    rw [show Au.feed (rulesL xs) [] (Au.keysOf sl) = (xl, pl) from HXx.out] at h
    have h' := Au.keysOf_len sl
    rw [HIp.out.size]
    simp only [List.length_nil] at h
    omega
  have HPF := Eqq.mk (show pendF pl xs xs.length = true by
    have h := Au.run_pend (Au.short_of HOK.out) sl
    rw [HXx.out] at h
    unfold pendF
    rw [List.take_length]
    rcases h with h | h
    · rw [show pl = [] from h]; rfl
    · rw [show Ro.longer (rulesL xs) pl = true from h, Bool.or_true])
  have HFP := Lib.hid (show ba (Au.flush (rulesL xs) pl) = ba (Au.flush (rulesL xs) pl) from rfl)
  obtain ⟨b0, hb0⟩ : ∃ b, pendF pl xs 0 = b := ⟨_, rfl⟩
  have HP0 := Eqq.mk hb0
  have hpe : (p.toList == ([] : List UInt8)) = b0 := by rw [HIp.out.list, ← hb0]; unfold pendF; rw [List.take_zero, show Ro.longer (rulesL []) pl = false from rfl, Bool.or_false]; cases pl <;> rfl
  have hpe2 : p.toList.isEmpty = b0 := by rw [← hpe]; cases p.toList <;> rfl
  have hpe3 : p.data.isEmpty = b0 := by rw [← hpe2, Lib.toList_data]; rcases p with ⟨⟨d⟩⟩; cases d <;> rfl
  clear hpe
  clear hb0
  obtain ⟨ao, cap, rfl, hcap, hx⟩ := HLV.out
  have HLX := Lib.hid hx
  have HN9 := Lib.hid hcap
  obtain ⟨n, hn9⟩ : ∃ n, xs.length = n := ⟨_, rfl⟩
  have HNN := Eqq.mk hn9
  rw [hn9] at HPF h6
  rw [hn9]
  clear hx hcap
  go_wp2_with fail
  go_loopw [9, 10] (fun fv iv wr => ∃ i : Nat, i ≤ n ∧ iv = .int .i64 i ∧ fv = .bool (pendF pl xs i) ∧ wr = w2) (fun _ iv _ => n - (intOf iv).toNat)
  case atStart => exact ⟨0, Nat.zero_le _, rfl, by rw [HP0.out], rfl⟩
  case round =>
    obtain ⟨i, hi, rfl, hfv, rfl⟩ := hrel
    obtain ⟨b, hb⟩ : ∃ b, pendF pl xs i = b := ⟨_, rfl⟩
    rw [hb] at hfv
    subst hfv
    by_cases hil : i < n
    · obtain ⟨r, hr⟩ : ∃ r, xs[i]? = some r := ⟨_, List.getElem?_eq_getElem (by rw [HNN.out]; exact hil)⟩
      obtain ⟨g, o, rfl, c1, _, _⟩ := HLX.out i r hr
      have e1 := below_cellU c1 HB2.out (Nat.le_refl _)
      have HLT := Lib.hid (HL3.out r (List.mem_of_getElem? hr)).1
      obtain ⟨r1, r2, r3⟩ := r
      dsimp only at e1 HLT
      have HS := Eqq.mk (pend_succ pl xs i _ hr)
      rw [hb] at HS
      dsimp only at HS
      have HIr := Lib.hid (Is.of r1)
      obtain ⟨rl, hrl⟩ : ∃ rl, r1.data.toList = rl := ⟨_, rfl⟩
      rw [hrl] at HIr HS
      have g1 : (i : Int) < (n : Int) := by omega
      have g2 : (0 : Int) ≤ (i : Int) := by omega
      have hrz : r1.size ≤ 40 := HLT.out
      clear hr c1 hrl hb
      cases b
      · by_cases hlt : p.size < r1.size
        · have d1 : decide (p.size < r1.size) = true := decide_eq_true hlt
          have HIu := Lib.hid (HIr.out.upto p.size)
          obtain ⟨u, hu⟩ : ∃ u, r1.extract 0 p.size = u := ⟨_, rfl⟩
          obtain ⟨D, hD⟩ : ∃ D, (u.toList == p.toList) = D := ⟨_, rfl⟩
          have HS2 := Eqq.mk (show pendF pl xs (i + 1) = D by
            rw [HS.out, Bool.false_or, decide_eq_true (by rw [← HIp.out.size, ← HIr.out.size]; exact hlt), Bool.true_and, ← hD, ← hu, HIu.out.list, HIp.out.list, ← HIp.out.size])
          have h1 : (p.size : Int) ≤ (r1.size : Int) := by omega
          have h3 : (0 : Int) ≤ (p.size : Int) := by omega
          cases D
          · have hD2 : ¬ u.toList = p.toList := by rw [beq_eq_false_iff_ne] at hD; exact hD
            go_wp2_with fail
            go_roundw
            case rel => exact ⟨i + 1, by omega, by go_num, by rw [HS2.out], by first | rfl | trivial⟩
            case measure => simp [intOf]; omega
          · have hD2 : u.toList = p.toList := by rw [beq_iff_eq] at hD; exact hD
            have hup : u = p := by rw [Lib.toList_data, Lib.toList_data] at hD2; exact ByteArray.ext (Array.toList_inj.1 hD2)
            clear hD hD2
            subst hup
            go_wp2_with fail
            go_roundw
            case rel => exact ⟨i + 1, by omega, by go_num, by rw [HS2.out], by first | rfl | trivial⟩
            case measure => simp [intOf]; omega
        · have d1 : decide (p.size < r1.size) = false := decide_eq_false hlt
          have HS2 := Eqq.mk (show pendF pl xs (i + 1) = false by
            rw [HS.out, Bool.false_or, decide_eq_false (by rw [← HIp.out.size, ← HIr.out.size]; exact hlt), Bool.false_and])
          go_wp2_with fail
          go_roundw
          case rel => exact ⟨i + 1, by omega, by go_num, by rw [HS2.out], by first | rfl | trivial⟩
          case measure => simp [intOf]; omega
      · go_wp2_with fail
        go_roundw
        case rel => exact ⟨i + 1, by omega, by go_num, by rw [HS.out]; rfl, by first | rfl | trivial⟩
        case measure => simp [intOf]; omega
    · obtain rfl : i = n := by omega
      rw [HPF.out] at hb
      subst hb
      cases b0
      · go_wp2_with fail
        with_reducible refine (works_any _ (HT.out.keep HB2.out)).mono ?_
        rintro e w3 ⟨rfl, hb⟩
        have HB3 := Lib.hid (HB2.out.trans (hb.mono HB2.out.size))
        have HA3 := Lib.hid (HA2.out.go H2.out hb)
        have H3 := Lib.hid (Nat.le_trans H2.out hb.size)
        clear hb
        go_wp2_with fail
        go_ret
        exact ⟨rfl, HB3.out⟩
      · have hpn : pl = [] := by
          have h := HP0.out
          unfold pendF at h
          rw [List.take_zero, show Ro.longer (rulesL []) pl = false from rfl, Bool.or_false] at h
          cases pl with
          | nil => rfl
          | cons _ _ => cases h
        subst hpn
        obtain rfl : p = ⟨#[]⟩ := HIp.out.eq (Is.mk [])
        go_wp2_with fail
        with_reducible refine (flush_any N a xs ⟨#[]⟩ [] _ HA2.out H2.out HIp.out (by omega)).mono ?_
        rw [show ba (Au.flush (rulesL xs) []) = ⟨#[]⟩ from rfl]
        rintro e w3 ⟨rfl, hb⟩
        have HB3 := Lib.hid (HB2.out.trans (hb.mono HB2.out.size))
        have HA3 := Lib.hid (HA2.out.go H2.out hb)
        have H3 := Lib.hid (Nat.le_trans H2.out hb.size)
        clear hb
        go_wp2_with fail
        with_reducible refine (works_any _ (HT.out.keep HB3.out)).mono ?_
        rintro e w4 ⟨rfl, hb⟩
        have HB4 := Lib.hid (HB3.out.trans (hb.mono HB3.out.size))
        have HA4 := Lib.hid (HA3.out.go H3.out hb)
        have H4 := Lib.hid (Nat.le_trans H3.out hb.size)
        clear hb
        go_wp2_with fail
        go_ret
        exact ⟨rfl, HB4.out⟩

theorem laidOut : laidOutB Tryd.prog = true := by kernel_rfl
set_option maxRecDepth 100000 in
theorem contract (H : Type) (enc : TypeId × Value → H) (W : World) (base : Nat) (args : Array Value) (ds gs : List (DataW H)) (before : List MemPlace)
    (hval : ∀ (j : Nat) t v, Tryd.f8.params[j]? = some t → args[j]? = some v → Value.okWide Tryd.prog W .any base t v)
    (hW : DataW.Whole enc Tryd.prog Tryd.f8.params.toList Rows.autoPendsSpec.vars false W args.toList ds gs before) (hL : laidMetH Tryd.prog Rows.autoPendsRow.laid W) (hS : W.ShapedOpen Tryd.prog)
    (hR : (DataW.weightsEach Tryd.prog (Tryd.f8.params.toList ++ (OpenSpec.ofChange Rows.autoPendsSpec).bare.plain.varTypes Tryd.prog) (ds ++ gs)).all (· ≤ reachBytes) = true) :
    Calls Tryd.prog 8 args W fun e W' => ∃ v, e = .returned v ∧ Rows.autoPendsSpec.post enc Tryd.prog Tryd.f8 false true false false W args v W' := by
  have hT : Tabs W := rtabs_of_laid hL hS
  have hW' := hW
  obtain ⟨p, q, hA0, hV, rfl, hfz, hnd⟩ := hW
  have hA : DataW.TrodAll enc Tryd.prog W 0 (fun _ => true) true Tryd.f8.params.toList args.toList ds p := hA0
  rw [Tryd.params8] at hA hval hR
  obtain ⟨v0, vs0, d0, ds0, p0, q0, hargs, rfl, rfl, h0, r0⟩ := trodAll_cons hA
  obtain ⟨v1, vs1, d1, ds1, p1, q1, rfl, rfl, rfl, h1, r1⟩ := trodAll_cons r0
  obtain ⟨rfl, rfl, rfl⟩ := trodAll_nil r1
  obtain rfl : args = #[v0, v1] := by cases args; simp_all
  obtain ⟨rfl, rfl⟩ := trodVars_none hV
  clear hA0
  simp only [List.append_nil] at hW' hR
  have k0 := h0
  have l0 : ∀ x ∈ p0, x.block < W.heap.size := fun x hx => by simpa using hW'.lt x (by simp [hx])
  have k1 := h1
  have l1 : ∀ x ∈ p1, x.block < W.heap.size := fun x hx => by simpa using hW'.lt x (by simp [hx])
  obtain ⟨xs0, hl0, hn0, hz0⟩ := open_rules (hval 0 22 v0 rfl rfl) h0
  obtain ⟨s1, rfl, rfl, rfl, m1⟩ := open_string Tryd.underlying9 (hval 1 9 v1 rfl rfl) h1
  refine (walk W v0 xs0 hl0 hn0 hz0 s1 m1 hT).mono fun e W' ⟨he, bel⟩ => ?_
  subst he
  exact ⟨_, rfl, _, _, _, [], _, [], hW', trodAll_mk1 (shut_bool Tryd.underlying4 _), (trodAll_cons_mk (Below.trod laidOut (by kernel_rfl) (of_decide_eq_true (by kernel_rfl)) k0 bel l0) (trodAll_cons_mk (Below.trod laidOut (by kernel_rfl) (of_decide_eq_true (by kernel_rfl)) k1 bel l1) trodAll_mk0)), rfl, bel.frame _, fun h => by cases h⟩

theorem reads (os : Os) {H : Type} (enc : TypeId × Value → H) : ∃ places, DataW.whole enc Tryd.prog ((laidWorldR os).forCall (fun _ _ => 0) ⟨#[], #[.slice none 0 0, .string ⟨#[]⟩], []⟩).memory Tryd.f8.params.toList Rows.autoPendsSpec.vars false #[.slice none 0 0, .string ⟨#[]⟩].toList 8 = some ([.nil, .lit (.string [])], [], places) :=
  ⟨[], by kernel_rfl⟩

set_option maxRecDepth 100000 in
theorem lifted (os : Os) (started : os.Started) (H : Type) (enc : TypeId × Value → H) (F : Stop.Interp) :
    ReturnsInHanded {} Tryd.checked os 8 .any ((OpenSpec.ofChange Rows.autoPendsSpec).preRow enc Tryd.prog Tryd.f8 Rows.autoPendsRow.domain false Rows.autoPendsRow.laid) (((OpenSpec.ofChange Rows.autoPendsSpec).at F).post enc Tryd.prog Tryd.f8 false true false false) := by
  obtain ⟨places, hx⟩ := reads os enc
  refine returnsInHanded_of_row (C := Tryd.checked) (s := (OpenSpec.ofChange Rows.autoPendsSpec)) own started (by kernel_rfl) Tryd.func8
    (witness_row_at (enc := enc) (C := Tryd.checked) false (laidWorldR os) #[.slice none 0 0, .string ⟨#[]⟩] rfl (by kernel_rfl) (by kernel_rfl) (by kernel_rfl)
      (OpenSpec.preRow_of_cond 8 hx (by kernel_rfl) (fun k hk => by cases hk) (by kernel_rfl) (laid_metR os _))) ?_
  intro W base args ds gs before hval hW _ hcond hR hL hS _
  exact contract H enc W base args ds gs before hval hW hL hS hR

theorem said : Rows.AutoPendsSaid :=
  OpenClaim.holds_of_cond 8 Tryd.f8 rfl rfl rfl rfl rfl rfl rfl ⟨rfl, rfl, rfl, rfl, rfl⟩ rfl rfl rfl rfl rfl (by kernel_rfl) Tryd.func8 (by kernel_rfl)
    (of_decide_eq_true (by kernel_rfl)) (by unfold Func.isWrapper; first | (rw [if_pos (by decide +kernel)]; kernel_rfl) | (rw [if_neg (by decide +kernel)]; exact ⟨rfl, rfl⟩))
    (fun os started H enc _ F => by rw [OpenClaim.pre_eq_preRow]; exact lifted os started H enc F)

theorem plain (f : FuncId) (fn : Func) (hf : Tryd.pinned.checked.prog.funcNamed "henkan/henkanlaw06.AutoPends" = some f) (hfn : Tryd.pinned.checked.prog.funcs[f]? = some fn) :
    false = Tryd.pinned.checked.prog.looks [] ∧ ∀ (j : Nat) t, fn.params[j]? = some t → Tryd.pinned.checked.prog.wantsStandIn t = false := by
  obtain rfl : f = 8 := Option.some.inj ((show Tryd.prog.funcNamed "henkan/henkanlaw06.AutoPends" = some 8 by kernel_rfl).symm.trans hf) |>.symm
  obtain rfl : fn = Tryd.f8 := (Option.some.inj (Tryd.func8.symm.trans hfn)).symm
  refine ⟨by kernel_rfl, fun j t ht => ?_⟩
  rw [Tryd.params8] at ht
  have hm := Array.mem_of_getElem? ht
  simp only [List.mem_toArray, List.mem_cons, List.not_mem_nil, or_false] at hm
  rcases hm with rfl | rfl
  · exact (show Tryd.prog.wantsStandIn 22 = false by kernel_rfl)
  · exact (show Tryd.prog.wantsStandIn 9 = false by kernel_rfl)

/-- the card -/
theorem proved : Rows.AutoPendsCardSaid :=
  Claim7.holds_tied_plain_at .later [] _ _ _ _ said (fun _ h => by cases h) (by kernel_rfl) (fun _ h => by cases h) autoPends_row_tie rfl ⟨rfl, rfl⟩ (by kernel_rfl) rfl plain (by kernel_rfl)
#print axioms proved
end Go.Proofs.YtdcpiabmgjajlaaDoor.autoPends
