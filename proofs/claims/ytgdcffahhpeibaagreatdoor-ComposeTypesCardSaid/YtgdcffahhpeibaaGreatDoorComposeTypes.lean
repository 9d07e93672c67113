/-
  keys that are typed one after the other write what the automaton says
-/
import Derived.Deep.RegionHeld3
import Derived.Test.YtgdcffahhpeibaaGreatDoorCpFree
import Derived.Carry
import Derived.Laws.AppendOwnNone
namespace Go.Proofs.YtgdcffahhpeibaaGreatDoor.composeTypes
open Go.ChangeShapes Go.WideShapes Go.ChangeAt Go.RowKit
open Go.ChangeMaps (open_string)
set_option linter.unusedVariables false

set_option maxRecDepth 100000 in
set_option maxHeartbeats 16000000 in
theorem walk (w : World) (vr : Value) (rs : List RuleB) (hlr : LieR vr rs w) (hrn : rs.length ≤ 9223372036854775807) (hrz : ∀ r ∈ rs, r.1.size ≤ 9223372036854775807 ∧ r.2.1.size ≤ 9223372036854775807 ∧ r.2.2.size ≤ 9223372036854775807) (s : ByteArray) (hs : s.size ≤ maxLen) (ht : Tabs w) :
    Calls Tryz.prog 7 #[vr, .string s] w fun e w' => e = .returned (.bool true) ∧ Below w.heap.size w w' := by
  have HB := Lib.hid (Below.refl w.heap.size w)
  have HT := Lib.hid ht
  clear ht
  have HLR := Lib.hid hlr
  have HSF := Lib.hid (show Free.Short3 rs from hrz)
  have HRN := Lib.hid hrn
  clear hlr hrz hrn
  have hI := Is.of s
  obtain ⟨sl, hsl⟩ : ∃ sl, s.data.toList = sl := ⟨_, rfl⟩
  rw [hsl] at hI
  have HI := Lib.hid hI
  obtain ⟨n, hn⟩ : ∃ n, s.size = n := ⟨_, rfl⟩
  have HN := Eqq.mk hn
  have HLN := Eqq.mk (show sl.length = n by rw [← hn, hI.size])
  clear hs
  clear hI hsl hn
  go_enter Tryz.func7, Tryz.ntmps7
  go_wp2_with fail
  with_reducible refine (Free.new_any vr rs _ HLR.out HRN.out HSF.out HT.out).mono ?_
  rintro e w1 ⟨hv, hb⟩
  have HB := Lib.hid (HB.out.trans (hb.mono HB.out.size))
  have HT := Lib.hid (HT.out.keep hb)
  have HLR := Lib.hid (HLR.out.keep hb)
  clear hb
  rcases hv with ⟨hne, rfl⟩ | ⟨hok, a, rfl, ha⟩
  · obtain ⟨E, hE⟩ : ∃ E, Ro.check (rulesL rs) = E := ⟨_, rfl⟩
    have HE := Eqq.mk hE
    rw [hE] at hne
    rw [hE]
    have i0 : ¬ ((E : Nat) : Int) = 0 := by omega
    have i1 : (((E : Nat) : Int) == 0) = false := by rw [beq_eq_false_iff_ne]; exact i0
    clear hne hE
    go_wp2_with fail
    with_reducible refine (works_any _ HT.out).mono ?_
    rintro e w2 ⟨rfl, hb⟩
    have HB := Lib.hid (HB.out.trans (hb.mono HB.out.size))
    have HT := Lib.hid (HT.out.keep hb)
    have HLR := Lib.hid (HLR.out.keep hb)
    clear hb
    go_wp2_with fail
    go_ret
    exact ⟨rfl, by first | exact HB.out | exact HB.out.drew⟩
  · have HOK := Eqq.mk hok
    have HSH := Lib.hid (Free.short_good hok).2
    have HA := Lib.hid (show AutoAt rs a w1 from ha)
    have hr500 : rs.length ≤ 500 := by have h := ((Ro.check_zero (rulesL rs)).1 hok).1; unfold rulesL at h; rw [List.length_map] at h; exact h
    clear hok ha
    by_cases h100 : 100 < n
    · have d1 : (100 : Int) < (s.size : Int) := by rw [HN.out]; omega
      have d2 : decide ((100 : Int) < (s.size : Int)) = true := decide_eq_true d1
      have d3 : decide (100 < s.size) = true := decide_eq_true (by rw [HN.out]; exact h100)
      go_wp2_with fail
      with_reducible refine (works_any _ HT.out).mono ?_
      rintro e w2 ⟨rfl, hb⟩
      have HB := Lib.hid (HB.out.trans (hb.mono HB.out.size))
      have HT := Lib.hid (HT.out.keep hb)
      have HLR := Lib.hid (HLR.out.keep hb)
      have HA := Lib.hid (HA.out.keep hb)
      clear hb
      go_wp2_with fail
      go_ret
      exact ⟨rfl, by first | exact HB.out | exact HB.out.drew⟩
    · have d1 : ¬ (100 : Int) < (s.size : Int) := by rw [HN.out]; omega
      have d2 : decide ((100 : Int) < (s.size : Int)) = false := decide_eq_false d1
      have d3 : decide (100 < s.size) = false := decide_eq_false (by rw [HN.out]; exact h100)
      go_wp2_with fail
      go_loopw [7] (fun iv W => ∃ i : Nat, i ≤ n ∧ iv = .int .i64 i ∧ Au.AllKeys (sl.take i) ∧ W = w1) (fun iv _ => n - (intOf iv).toNat)
      case atStart => exact ⟨0, Nat.zero_le _, rfl, fun c hc => by simp at hc, rfl⟩
      case round =>
        obtain ⟨i, hi, rfl, hak, rfl⟩ := hrel
        have HAK := Lib.hid hak
        clear hak
        by_cases hlt : i < n
        · have hlt' : i < s.size := by rw [HN.out]; exact hlt
          have hget := HI.out.get i hlt'
          obtain ⟨ch, hch⟩ : ∃ ch, s[i]'hlt' = ch := ⟨_, rfl⟩
          rw [hch] at hget
          have HTK := Eqq.mk (take_snoc9 sl i ch hget)
          have i0 : (0 : Int) ≤ (i : Int) := by omega
          have i1 : (i : Int) < (s.size : Int) := by omega
          clear hget
          by_cases h33 : (ch.toNat : Int) < 33
          · have q1 : decide ((ch.toNat : Int) < 33) = true := decide_eq_true h33
            go_wp2_with fail
            with_reducible refine (works_any _ HT.out).mono ?_
            rintro e w2 ⟨rfl, hb⟩
            have HB := Lib.hid (HB.out.trans (hb.mono HB.out.size))
            have HT := Lib.hid (HT.out.keep hb)
            have HLR := Lib.hid (HLR.out.keep hb)
            have HA := Lib.hid (HA.out.keep hb)
            clear hb
            go_wp2_with fail
            go_ret
            exact ⟨rfl, by first | exact HB.out | exact HB.out.drew⟩
          have q1 : decide ((ch.toNat : Int) < 33) = false := decide_eq_false h33
          by_cases h126 : 126 < (ch.toNat : Int)
          · have q2 : decide (126 < (ch.toNat : Int)) = true := decide_eq_true h126
            go_wp2_with fail
            with_reducible refine (works_any _ HT.out).mono ?_
            rintro e w2 ⟨rfl, hb⟩
            have HB := Lib.hid (HB.out.trans (hb.mono HB.out.size))
            have HT := Lib.hid (HT.out.keep hb)
            have HLR := Lib.hid (HLR.out.keep hb)
            have HA := Lib.hid (HA.out.keep hb)
            clear hb
            go_wp2_with fail
            go_ret
            exact ⟨rfl, by first | exact HB.out | exact HB.out.drew⟩
          have q2 : decide (126 < (ch.toNat : Int)) = false := decide_eq_false h126
          have HAN := Lib.hid (show Au.AllKeys (sl.take (i + 1)) from by
            rw [HTK.out]
            exact HAK.out.app (fun d hd => by simp at hd; subst hd; exact Au.isKey_yes (by omega) (by omega)))
          go_wp2_with fail
          go_roundw
          case rel => exact ⟨i + 1, by omega, by go_num, HAN.out, by first | rfl | trivial⟩
          case measure => simp [intOf]; omega
        · obtain rfl : i = n := by omega
          have hge : ¬ ((i : Int) < (s.size : Int)) := by rw [HN.out]; omega
          have HALL := Lib.hid (show Au.AllKeys sl from by have := HAK.out; rwa [← HLN.out, List.take_length] at this)
          obtain ⟨⟨⟨tx, tc, tl⟩, tb⟩, hty⟩ : ∃ q, Cp.typedL (rulesL rs) sl Cp.zero = q := ⟨_, rfl⟩
          have HTY := Eqq.mk hty
          obtain ⟨tp, htp⟩ : ∃ tp, ba tl = tp := ⟨_, rfl⟩
          have HTP := Eqq.mk htp
          have HTI := Lib.hid (show Is tp tl by rw [← htp]; exact is_ba tl)
          clear hty htp
          go_wp2_with fail
          with_reducible refine (typed_any _ a rs s sl _ HA.out (Nat.le_refl _) HI.out (by rw [HN.out]; omega) HT.out).mono ?_
          rw [HTY.out]
          rintro e w2 ⟨hr, hb⟩
          have HB := Lib.hid (HB.out.trans (hb.mono HB.out.size))
          have HT := Lib.hid (HT.out.keep hb)
          have HLR := Lib.hid (HLR.out.keep hb)
          have HA := Lib.hid (HA.out.keep hb)
          obtain ⟨a2, n2, c2, rfl, hn2x, ho⟩ := hr.open HTP.out
          have HLX := Lib.hid ho.lie
          have HN2 := Eqq.mk hn2x
          clear ho hr hn2x
          clear hb
          obtain ⟨w3, hwx⟩ : ∃ W, w2.alloc (.cells #[.slice a2 n2 c2, .int .i64 tc, .string tp] 33) = W := ⟨_, rfl⟩
          have HWX1 := Eqq.mk hwx
          have hb : Below w2.heap.size w2 w3 := by rw [← hwx]; exact (Below.refl _ _).alloc (Nat.le_refl _) _
          have HB := Lib.hid (HB.out.trans (hb.mono HB.out.size))
          have HT := Lib.hid (HT.out.keep hb)
          have HLR := Lib.hid (HLR.out.keep hb)
          have HA := Lib.hid (HA.out.keep hb)
          have HLX := Lib.hid (HLX.out.keep hb)
          have RX := Lib.hid (show RowIs 33 w2.heap.size (.slice a2 n2 c2) (tc) (tp) w3 from by rw [← hwx]; exact RowIs.new _ _ _ _ _)
          clear hb hwx
          cases tb
          · go_wp2_with fail
            rw [HWX1.out]
            with_reducible refine (works_any _ HT.out).mono ?_
            rintro e w4 ⟨rfl, hb⟩
            have HB := Lib.hid (HB.out.trans (hb.mono HB.out.size))
            have HT := Lib.hid (HT.out.keep hb)
            have HLR := Lib.hid (HLR.out.keep hb)
            have HA := Lib.hid (HA.out.keep hb)
            have HLX := Lib.hid (HLX.out.keep hb)
            have RX := Lib.hid (RX.out.keep hb)
            clear hb
            go_wp2_with fail
            go_ret
            exact ⟨rfl, by first | exact HB.out | exact HB.out.drew⟩
          · obtain ⟨ht1, ht2, ht3, ht4, ht5, ht6⟩ := Cp.types_law HOK.out HTY.out
            dsimp only at ht3 ht5
            have HTF := Lib.hid (Cp.fits_of ht1 ht2)
            obtain ⟨ob, hob⟩ : ∃ ob, ba (Au.run (rulesL rs) sl).1 = ob := ⟨_, rfl⟩
            have HRV := Eqq.mk (two_v (Au.run (rulesL rs) sl) ob tp hob (by rw [← ht5]; exact HTP.out))
            have HTX := Eqq.mk (text_valid (s3 := ⟨#[]⟩) ht1 ht4 rfl ht6 hob HTP.out rfl)
            have q1 : (ob.toList == ob.toList) = true := by rw [beq_iff_eq]
            have q2 : (tp.toList == tp.toList) = true := by rw [beq_iff_eq]
            rw [HN2.out] at ht3
            have HTC := Eqq.mk ht3
            clear ht1 ht2 ht3 ht4 ht5 ht6 hob
            go_wp2_with fail
            rw [HWX1.out]
            with_reducible refine (run_any _ a rs s sl _ HA.out (Nat.le_refl _) HI.out (by rw [HN.out]; omega)).mono ?_
            rw [HRV.out]
            rintro e w4 ⟨rfl, hb⟩
            have HB := Lib.hid (HB.out.trans (hb.mono HB.out.size))
            have HT := Lib.hid (HT.out.keep hb)
            have HLR := Lib.hid (HLR.out.keep hb)
            have HA := Lib.hid (HA.out.keep hb)
            have HLX := Lib.hid (HLX.out.keep hb)
            have RX := Lib.hid (RX.out.keep hb)
            clear hb
            obtain ⟨⟨RXc0, RXc1, RXc2⟩, RXf0, RXf1, RXf2⟩ := three_cells RX.out
            go_wp2_with fail
            clear RXc0 RXc1 RXc2 RXf0 RXf1 RXf2
            with_reducible refine (text8_any _ tx tc tp tl _ HLX.out HTI.out HTF.out HT.out).mono ?_
            rw [HTX.out]
            rintro e w5 ⟨rfl, hb⟩
            have HB := Lib.hid (HB.out.trans (hb.mono HB.out.size))
            have HT := Lib.hid (HT.out.keep hb)
            have HLR := Lib.hid (HLR.out.keep hb)
            have HA := Lib.hid (HA.out.keep hb)
            have HLX := Lib.hid (HLX.out.keep hb)
            have RX := Lib.hid (RX.out.keep hb)
            clear hb
            have hq := HTC.out
            have hq2 : (tc == (n2 : Int)) = true := by rw [beq_iff_eq]; exact hq
            clear hq
            obtain ⟨⟨RXc0, RXc1, RXc2⟩, RXf0, RXf1, RXf2⟩ := three_cells RX.out
            go_wp2_with fail
            clear RXc0 RXc1 RXc2 RXf0 RXf1 RXf2
            with_reducible refine (works_any _ HT.out).mono ?_
            rintro e w6 ⟨rfl, hb⟩
            have HB := Lib.hid (HB.out.trans (hb.mono HB.out.size))
            have HT := Lib.hid (HT.out.keep hb)
            have HLR := Lib.hid (HLR.out.keep hb)
            have HA := Lib.hid (HA.out.keep hb)
            have HLX := Lib.hid (HLX.out.keep hb)
            have RX := Lib.hid (RX.out.keep hb)
            clear hb
            go_wp2_with fail
            go_ret
            exact ⟨rfl, by first | exact HB.out | exact HB.out.drew⟩

theorem laidOut : laidOutB Tryz.prog = true := by kernel_rfl
set_option maxRecDepth 100000 in
theorem contract (H : Type) (enc : TypeId × Value → H) (W : World) (base : Nat) (args : Array Value) (ds gs : List (DataW H)) (before : List MemPlace)
    (hval : ∀ (j : Nat) t v, Tryz.f7.params[j]? = some t → args[j]? = some v → Value.okWide Tryz.prog W .any base t v)
    (hW : DataW.Whole enc Tryz.prog Tryz.f7.params.toList Rows.composeTypesSpec.vars false W args.toList ds gs before) (hL : laidMetH Tryz.prog Rows.composeTypesRow.laid W) (hS : W.ShapedOpen Tryz.prog)
    (hR : (DataW.weightsEach Tryz.prog (Tryz.f7.params.toList ++ (OpenSpec.ofChange Rows.composeTypesSpec).bare.plain.varTypes Tryz.prog) (ds ++ gs)).all (· ≤ reachBytes) = true) :
    Calls Tryz.prog 7 args W fun e W' => ∃ v, e = .returned v ∧ Rows.composeTypesSpec.post enc Tryz.prog Tryz.f7 false true false false W args v W' := by
  have hT : Tabs W := rtabs_of_laid hL hS
  have hW' := hW
  obtain ⟨p, q, hA0, hV, rfl, hfz, hnd⟩ := hW
  have hA : DataW.TrodAll enc Tryz.prog W 0 (fun _ => true) true Tryz.f7.params.toList args.toList ds p := hA0
  rw [Tryz.params7] at hA hval hR
  obtain ⟨v0, vs0, d0, ds0, p0, q0, hargs, rfl, rfl, h0, r0⟩ := trodAll_cons hA
  obtain ⟨v1, vs1, d1, ds1, p1, q1, rfl, rfl, rfl, h1, r1⟩ := trodAll_cons r0
  obtain ⟨rfl, rfl, rfl⟩ := trodAll_nil r1
  obtain rfl : args = #[v0, v1] := by cases args; simp_all
  obtain ⟨rfl, rfl⟩ := trodVars_none hV
  clear hA0
  simp only [List.append_nil] at hW' hR
  have k0 := h0
  have l0 : ∀ x ∈ p0, x.block < W.heap.size := fun x hx => by simpa using hW'.lt x (by simp [hx])
  have k1 := h1
  have l1 : ∀ x ∈ p1, x.block < W.heap.size := fun x hx => by simpa using hW'.lt x (by simp [hx])
  obtain ⟨xs0, hl0, hn0, hz0⟩ := Free.open_rules (hval 0 27 v0 rfl rfl) h0
  obtain ⟨s1, rfl, rfl, rfl, m1⟩ := open_string Tryz.underlying9 (hval 1 9 v1 rfl rfl) h1
  refine (walk W v0 xs0 hl0 hn0 hz0 s1 m1 hT).mono fun e W' ⟨he, bel⟩ => ?_
  subst he
  exact ⟨_, rfl, _, _, _, [], _, [], hW', trodAll_mk1 (shut_bool Tryz.underlying4 _), (trodAll_cons_mk (Below.trod laidOut (by kernel_rfl) (of_decide_eq_true (by kernel_rfl)) k0 bel l0) (trodAll_cons_mk (Below.trod laidOut (by kernel_rfl) (of_decide_eq_true (by kernel_rfl)) k1 bel l1) trodAll_mk0)), rfl, bel.frame _, fun h => by cases h⟩

theorem reads (os : Os) {H : Type} (enc : TypeId × Value → H) : ∃ places, DataW.whole enc Tryz.prog ((laidWorldR os).forCall (fun _ _ => 0) ⟨#[], #[.slice none 0 0, .string ⟨#[]⟩], []⟩).memory Tryz.f7.params.toList Rows.composeTypesSpec.vars false #[.slice none 0 0, .string ⟨#[]⟩].toList 8 = some ([.nil, .lit (.string [])], [], places) :=
  ⟨[], by kernel_rfl⟩

set_option maxRecDepth 100000 in
theorem lifted (os : Os) (started : os.Started) (H : Type) (enc : TypeId × Value → H) (F : Stop.Interp) :
    ReturnsInHanded {} Tryz.checked os 7 .any ((OpenSpec.ofChange Rows.composeTypesSpec).preRow enc Tryz.prog Tryz.f7 Rows.composeTypesRow.domain false Rows.composeTypesRow.laid) (((OpenSpec.ofChange Rows.composeTypesSpec).at F).post enc Tryz.prog Tryz.f7 false true false false) := by
  obtain ⟨places, hx⟩ := reads os enc
  refine returnsInHanded_of_row (C := Tryz.checked) (s := (OpenSpec.ofChange Rows.composeTypesSpec)) own started (by kernel_rfl) Tryz.func7
    (witness_row_at (enc := enc) (C := Tryz.checked) false (laidWorldR os) #[.slice none 0 0, .string ⟨#[]⟩] rfl (by kernel_rfl) (by kernel_rfl) (by kernel_rfl)
      (OpenSpec.preRow_of_cond 8 hx (by kernel_rfl) (fun k hk => by cases hk) (by kernel_rfl) (laid_metR os _))) ?_
  intro W base args ds gs before hval hW _ hcond hR hL hS _
  exact contract H enc W base args ds gs before hval hW hL hS hR

theorem said : Rows.ComposeTypesSaid :=
  OpenClaim.holds_of_cond 7 Tryz.f7 rfl rfl rfl rfl rfl rfl rfl ⟨rfl, rfl, rfl, rfl, rfl⟩ rfl rfl rfl rfl rfl (by kernel_rfl) Tryz.func7 (by kernel_rfl)
    (of_decide_eq_true (by kernel_rfl)) (by unfold Func.isWrapper; first | (rw [if_pos (by decide +kernel)]; kernel_rfl) | (rw [if_neg (by decide +kernel)]; exact ⟨rfl, rfl⟩))
    (fun os started H enc _ F => by rw [OpenClaim.pre_eq_preRow]; exact lifted os started H enc F)

theorem plain (f : FuncId) (fn : Func) (hf : Tryz.pinned.checked.prog.funcNamed "henkan/henkanlaw08.ComposeTypes" = some f) (hfn : Tryz.pinned.checked.prog.funcs[f]? = some fn) :
    false = Tryz.pinned.checked.prog.looks [] ∧ ∀ (j : Nat) t, fn.params[j]? = some t → Tryz.pinned.checked.prog.wantsStandIn t = false := by
  obtain rfl : f = 7 := Option.some.inj ((show Tryz.prog.funcNamed "henkan/henkanlaw08.ComposeTypes" = some 7 by kernel_rfl).symm.trans hf) |>.symm
  obtain rfl : fn = Tryz.f7 := (Option.some.inj (Tryz.func7.symm.trans hfn)).symm
  refine ⟨by kernel_rfl, fun j t ht => ?_⟩
  rw [Tryz.params7] at ht
  have hm := Array.mem_of_getElem? ht
  simp only [List.mem_toArray, List.mem_cons, List.not_mem_nil, or_false] at hm
  rcases hm with rfl | rfl
  · exact (show Tryz.prog.wantsStandIn 27 = false by kernel_rfl)
  · exact (show Tryz.prog.wantsStandIn 9 = false by kernel_rfl)

/-- the card -/
theorem proved : Rows.ComposeTypesCardSaid :=
  Claim7.holds_tied_plain_at .later [] _ _ _ _ said (fun _ h => by cases h) (by kernel_rfl) (fun _ h => by cases h) composeTypes_row_tie rfl ⟨rfl, rfl⟩ (by kernel_rfl) rfl plain (by kernel_rfl)
#print axioms proved
end Go.Proofs.YtgdcffahhpeibaaGreatDoor.composeTypes
