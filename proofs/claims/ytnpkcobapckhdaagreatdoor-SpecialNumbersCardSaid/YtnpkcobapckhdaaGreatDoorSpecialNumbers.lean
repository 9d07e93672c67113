/-
  a plain number of one to twenty digits answers as the laws say
-/
import Derived.Test.YtnpkcobapckhdaaGreatDoorReach
import Derived.Test.YtnpkcobapckhdaaGreatDoorSpecOnceMath
import Derived.Carry
import Derived.Laws.AppendOwnNone
namespace Go.Proofs.YtnpkcobapckhdaaGreatDoor.specialNumbers
open Go.ChangeShapes Go.WideShapes Go.ChangeAt Go.RowKit
open Go.ChangeMaps (open_string)
set_option linter.unusedVariables false

theorem valid_of (s : ByteArray) (l : List UInt8) (h : Is s l) (h1 : ¬ s.size < 1) (h2 : ¬ 20 < s.size) (h3 : ¬ (1 < s.size ∧ l.head? = some 48)) (ha : l.all Num.isD = true) : Num.valid l = true := by
  have hz := h.size
  rw [Num.valid_iff]
  refine ⟨fun e => by rw [e, List.length_nil] at hz; omega, by omega, ha, ?_⟩
  by_cases h48 : l.head? = some 48
  · have : l.length = 1 := by
      have : ¬ 1 < s.size := fun hh => h3 ⟨hh, h48⟩
      omega
    obtain ⟨c, rfl⟩ := List.length_eq_one_iff.1 this
    rw [List.head?_cons] at h48
    injection h48 with h48
    exact .inr (by rw [h48])
  · exact .inl h48
theorem all_snoc (l : List UInt8) (k : Nat) (c : UInt8) (h : l[k]? = some c) : (l.take (k + 1)).all Num.isD = ((l.take k).all Num.isD && Num.isD c) := by
  have hk : k < l.length := by
    rcases Nat.lt_or_ge k l.length with h' | h'
    · exact h'
    · rw [List.getElem?_eq_none h'] at h; cases h
  rw [List.take_succ_eq_append_getElem hk, List.all_append]
  rw [List.getElem?_eq_getElem hk] at h
  injection h with h
  simp [h]
set_option maxRecDepth 100000 in
set_option maxHeartbeats 4000000 in
theorem walk (w : World) (s : ByteArray) (hs : s.size ≤ 140737488351232) (day : Int) (_ : (Lit.int .i64 day).wf = true) (ht : STabs w) :
    Calls Tryz.prog 6 #[.string s, .int .i64 day] w fun e w' => e = .returned (.bool true) ∧ Below w.heap.size w w' := by
  have HT := Lib.hid ht
  have hi := Is.of s
  have HI := Lib.hid hi
  obtain ⟨l, hl⟩ : ∃ l, l = s.data.toList := ⟨_, rfl⟩
  rw [← hl] at HI hi
  clear hl ht
  by_cases h1 : s.size < 1
  · clear hi
    go_enter Tryz.func6, Tryz.ntmps6
    go_wp2_with fail
    with_reducible refine (sworks_any _ HT.out).mono ?_
    rintro e w4 ⟨rfl, hb⟩
    have HB4 := Lib.hid hb
    clear hb
    go_wp2_with fail
    go_ret
    exact ⟨rfl, HB4.out⟩
  by_cases h2 : 20 < s.size
  · clear hi
    go_enter Tryz.func6, Tryz.ntmps6
    go_wp2_with fail
    with_reducible refine (sworks_any _ HT.out).mono ?_
    rintro e w4 ⟨rfl, hb⟩
    have HB4 := Lib.hid hb
    clear hb
    go_wp2_with fail
    go_ret
    exact ⟨rfl, HB4.out⟩
  have c0 : 0 < s.size := by omega
  have hg0 := hi.get 0 c0
  by_cases h3 : 1 < s.size ∧ l.head? = some 48
  · obtain ⟨h31, h32⟩ := h3
    have d1 : ((s[0].toNat : Int) == 48) = true := by
      rw [List.head?_eq_getElem?, hg0] at h32
      injection h32 with h32
      rw [h32]; rfl
    clear hi hg0 h32
    go_enter Tryz.func6, Tryz.ntmps6
    go_wp2_with fail
    with_reducible refine (sworks_any _ HT.out).mono ?_
    rintro e w4 ⟨rfl, hb⟩
    have HB4 := Lib.hid hb
    clear hb
    go_wp2_with fail
    go_ret
    exact ⟨rfl, HB4.out⟩
  have HV := Lib.hid (valid_of s l hi h1 h2 h3)
  have HSZ := Eqv2.mk hi.size
  have HON := Lib.hid (fun hv => number_in (d := l) hv day)
  have HLEN := Lib.hid (ofL_len l day)
  by_cases hz : 1 < s.size
  · have d48 : ((s[0].toNat : Int) == 48) = false := by
      rw [beq_eq_false_iff_ne]
      intro e
      exact h3 ⟨hz, by rw [List.head?_eq_getElem?, hg0]; congr 1; exact UInt8.toNat_inj.1 (by have : ((48 : UInt8).toNat : Int) = 48 := rfl; omega)⟩
    clear hi hg0 h3
    go_enter Tryz.func6, Tryz.ntmps6
    go_wp2_with fail
    go_loop [5] (fun iv => ∃ k : Nat, k ≤ s.size ∧ iv = .int .i64 k ∧ Eqv2 ((l.take k).all Num.isD) true) (fun iv => s.size - (intOf iv).toNat)
    case atStart => exact ⟨0, Nat.zero_le _, rfl, ⟨rfl⟩⟩
    case round =>
      obtain ⟨k, hk, rfl, HA⟩ := hrel
      by_cases hlt : k < s.size
      · have HG := Eqv2.mk (HI.out.get k hlt)
        by_cases hd : Num.isD s[k] = true
        · have hb := (isD_iff s[k]).1 hd
          have HN := Eqv2.mk (show (l.take (k + 1)).all Num.isD = true by rw [all_snoc _ _ _ HG.out, HA.out, hd]; rfl)
          obtain ⟨b1, b2⟩ := hb
          have q1 : decide ((s[k].toNat : Int) < 48) = false := decide_eq_false (by omega)
          have q2 : decide ((57 : Int) < (s[k].toNat : Int)) = false := decide_eq_false (by omega)
          clear hd HA
          go_wp2_with fail
          go_round
          case rel => exact ⟨k + 1, by omega, by go_num, HN⟩
          case measure => simp [intOf]; omega
        · have hb : ¬ (48 ≤ (s[k].toNat : Int) ∧ (s[k].toNat : Int) ≤ 57) := fun hh => hd ((isD_iff s[k]).2 hh)
          by_cases q : (s[k].toNat : Int) < 48
          · have q1 : decide ((s[k].toNat : Int) < 48) = true := decide_eq_true q
            clear hd HA hb
            go_wp2_with fail
            with_reducible refine (sworks_any _ HT.out).mono ?_
            rintro e w4 ⟨rfl, hb⟩
            have HB4 := Lib.hid hb
            clear hb
            go_wp2_with fail
            go_ret
            exact ⟨rfl, HB4.out⟩
          · have q1 : decide ((s[k].toNat : Int) < 48) = false := decide_eq_false q
            have q2 : decide ((57 : Int) < (s[k].toNat : Int)) = true := decide_eq_true (by omega)
            clear hd HA hb
            go_wp2_with fail
            with_reducible refine (sworks_any _ HT.out).mono ?_
            rintro e w4 ⟨rfl, hb⟩
            have HB4 := Lib.hid hb
            clear hb
            go_wp2_with fail
            go_ret
            exact ⟨rfl, HB4.out⟩
      · obtain rfl : k = s.size := by omega
        have HVV := Lib.hid (HV.out (by have := HA.out; rw [HSZ.out, List.take_length] at this; exact this))
        obtain ⟨hin1, hin2⟩ := HON.out HVV.out
        have HI1 := Lib.hid hin1
        have HI2 := Lib.hid hin2
        have HWD := Eqv2.mk (wide_dig l ((Num.valid_iff l).1 HVV.out).2.2.1)
        clear hin1 hin2
        go_wp2_with fail
        with_reducible refine (of_any s l day _ HI.out (by omega) HT.out).mono ?_
        rintro e w1 ⟨v1, xs1, hm1, hx1, rfl, hb⟩
        have hl1 : xs1.length ≤ 1000 := by have := HLEN.out; rw [← hm1, List.length_map] at this; omega
        have HM1 := Eqv2.mk hm1
        have HX1 := Lib.hid hx1.lies
        have HB1 := Lib.hid hb
        clear hm1 hx1 hb
        have HH1 := Eqv2.mk (show decide (s.data.toList ∈ xs1.map (·.data.toList)) = true by rw [HM1.out, HI.out.data]; exact decide_eq_true HI1.out)
        go_wp2_with fail
        with_reducible refine (has_any v1 xs1 s _ HX1.out hl1).mono ?_
        rw [HH1.out]
        rintro e w2 ⟨rfl, rfl⟩
        go_wp2_with fail
        with_reducible refine (rwide_any s l _ HI.out (by omega)).mono ?_
        rintro e w3 ⟨⟨t, ht, rfl⟩, hb⟩
        have HH2 := Eqv2.mk (show decide (t.data.toList ∈ xs1.map (·.data.toList)) = true by rw [HM1.out, ht.data, HWD.out]; exact decide_eq_true HI2.out)
        have HX3 := Lib.hid (HX1.out.below hb (Nat.le_refl _))
        have HB3 := Lib.hid (HB1.out.trans (hb.mono HB1.out.size))
        have HT3 := Lib.hid (HT.out.keep HB3.out)
        clear ht hb
        go_wp2_with fail
        with_reducible refine (has_any v1 xs1 t _ HX3.out hl1).mono ?_
        rw [HH2.out]
        rintro e w4 ⟨rfl, rfl⟩
        go_wp2_with fail
        with_reducible refine (sworks_any _ HT3.out).mono ?_
        rintro e w5 ⟨rfl, hb⟩
        have HB5 := Lib.hid (HB3.out.trans (hb.mono HB3.out.size))
        clear hb
        go_wp2_with fail
        go_ret
        exact ⟨rfl, HB5.out⟩
  · clear hi hg0 h3
    go_enter Tryz.func6, Tryz.ntmps6
    go_wp2_with fail
    go_loop [5] (fun iv => ∃ k : Nat, k ≤ s.size ∧ iv = .int .i64 k ∧ Eqv2 ((l.take k).all Num.isD) true) (fun iv => s.size - (intOf iv).toNat)
    case atStart => exact ⟨0, Nat.zero_le _, rfl, ⟨rfl⟩⟩
    case round =>
      obtain ⟨k, hk, rfl, HA⟩ := hrel
      by_cases hlt : k < s.size
      · have HG := Eqv2.mk (HI.out.get k hlt)
        by_cases hd : Num.isD s[k] = true
        · have hb := (isD_iff s[k]).1 hd
          have HN := Eqv2.mk (show (l.take (k + 1)).all Num.isD = true by rw [all_snoc _ _ _ HG.out, HA.out, hd]; rfl)
          obtain ⟨b1, b2⟩ := hb
          have q1 : decide ((s[k].toNat : Int) < 48) = false := decide_eq_false (by omega)
          have q2 : decide ((57 : Int) < (s[k].toNat : Int)) = false := decide_eq_false (by omega)
          clear hd HA
          go_wp2_with fail
          go_round
          case rel => exact ⟨k + 1, by omega, by go_num, HN⟩
          case measure => simp [intOf]; omega
        · have hb : ¬ (48 ≤ (s[k].toNat : Int) ∧ (s[k].toNat : Int) ≤ 57) := fun hh => hd ((isD_iff s[k]).2 hh)
          by_cases q : (s[k].toNat : Int) < 48
          · have q1 : decide ((s[k].toNat : Int) < 48) = true := decide_eq_true q
            clear hd HA hb
            go_wp2_with fail
            with_reducible refine (sworks_any _ HT.out).mono ?_
            rintro e w4 ⟨rfl, hb⟩
            have HB4 := Lib.hid hb
            clear hb
            go_wp2_with fail
            go_ret
            exact ⟨rfl, HB4.out⟩
          · have q1 : decide ((s[k].toNat : Int) < 48) = false := decide_eq_false q
            have q2 : decide ((57 : Int) < (s[k].toNat : Int)) = true := decide_eq_true (by omega)
            clear hd HA hb
            go_wp2_with fail
            with_reducible refine (sworks_any _ HT.out).mono ?_
            rintro e w4 ⟨rfl, hb⟩
            have HB4 := Lib.hid hb
            clear hb
            go_wp2_with fail
            go_ret
            exact ⟨rfl, HB4.out⟩
      · obtain rfl : k = s.size := by omega
        have HVV := Lib.hid (HV.out (by have := HA.out; rw [HSZ.out, List.take_length] at this; exact this))
        obtain ⟨hin1, hin2⟩ := HON.out HVV.out
        have HI1 := Lib.hid hin1
        have HI2 := Lib.hid hin2
        have HWD := Eqv2.mk (wide_dig l ((Num.valid_iff l).1 HVV.out).2.2.1)
        clear hin1 hin2
        go_wp2_with fail
        with_reducible refine (of_any s l day _ HI.out (by omega) HT.out).mono ?_
        rintro e w1 ⟨v1, xs1, hm1, hx1, rfl, hb⟩
        have hl1 : xs1.length ≤ 1000 := by have := HLEN.out; rw [← hm1, List.length_map] at this; omega
        have HM1 := Eqv2.mk hm1
        have HX1 := Lib.hid hx1.lies
        have HB1 := Lib.hid hb
        clear hm1 hx1 hb
        have HH1 := Eqv2.mk (show decide (s.data.toList ∈ xs1.map (·.data.toList)) = true by rw [HM1.out, HI.out.data]; exact decide_eq_true HI1.out)
        go_wp2_with fail
        with_reducible refine (has_any v1 xs1 s _ HX1.out hl1).mono ?_
        rw [HH1.out]
        rintro e w2 ⟨rfl, rfl⟩
        go_wp2_with fail
        with_reducible refine (rwide_any s l _ HI.out (by omega)).mono ?_
        rintro e w3 ⟨⟨t, ht, rfl⟩, hb⟩
        have HH2 := Eqv2.mk (show decide (t.data.toList ∈ xs1.map (·.data.toList)) = true by rw [HM1.out, ht.data, HWD.out]; exact decide_eq_true HI2.out)
        have HX3 := Lib.hid (HX1.out.below hb (Nat.le_refl _))
        have HB3 := Lib.hid (HB1.out.trans (hb.mono HB1.out.size))
        have HT3 := Lib.hid (HT.out.keep HB3.out)
        clear ht hb
        go_wp2_with fail
        with_reducible refine (has_any v1 xs1 t _ HX3.out hl1).mono ?_
        rw [HH2.out]
        rintro e w4 ⟨rfl, rfl⟩
        go_wp2_with fail
        with_reducible refine (sworks_any _ HT3.out).mono ?_
        rintro e w5 ⟨rfl, hb⟩
        have HB5 := Lib.hid (HB3.out.trans (hb.mono HB3.out.size))
        clear hb
        go_wp2_with fail
        go_ret
        exact ⟨rfl, HB5.out⟩

theorem laidOut : laidOutB Tryz.prog = true := by kernel_rfl
set_option maxRecDepth 100000 in
theorem contract (H : Type) (enc : TypeId × Value → H) (W : World) (base : Nat) (args : Array Value) (ds gs : List (DataW H)) (before : List MemPlace)
    (hval : ∀ (j : Nat) t v, Tryz.f6.params[j]? = some t → args[j]? = some v → Value.okWide Tryz.prog W .any base t v)
    (hW : DataW.Whole enc Tryz.prog Tryz.f6.params.toList Rows.specialNumbersSpec.vars false W args.toList ds gs before) (hL : laidMetH Tryz.prog Rows.specialNumbersRow.laid W) (hS : W.ShapedOpen Tryz.prog)
    (hR : (DataW.weightsEach Tryz.prog (Tryz.f6.params.toList ++ (OpenSpec.ofChange Rows.specialNumbersSpec).bare.plain.varTypes Tryz.prog) (ds ++ gs)).all (· ≤ reachBytes) = true) :
    Calls Tryz.prog 6 args W fun e W' => ∃ v, e = .returned v ∧ Rows.specialNumbersSpec.post enc Tryz.prog Tryz.f6 false true false false W args v W' := by
  have hT : STabs W := stabs_of_laid hL hS
  have hW' := hW
  obtain ⟨p, q, hA0, hV, rfl, hfz, hnd⟩ := hW
  have hA : DataW.TrodAll enc Tryz.prog W 0 (fun _ => true) true Tryz.f6.params.toList args.toList ds p := hA0
  rw [Tryz.params6] at hA hval hR
  obtain ⟨v0, vs0, d0, ds0, p0, q0, hargs, rfl, rfl, h0, r0⟩ := trodAll_cons hA
  obtain ⟨v1, vs1, d1, ds1, p1, q1, rfl, rfl, rfl, h1, r1⟩ := trodAll_cons r0
  obtain ⟨rfl, rfl, rfl⟩ := trodAll_nil r1
  obtain rfl : args = #[v0, v1] := by cases args; simp_all
  obtain ⟨rfl, rfl⟩ := trodVars_none hV
  clear hA0
  simp only [List.append_nil] at hW' hR
  have k0 := h0
  have l0 : ∀ x ∈ p0, x.block < W.heap.size := fun x hx => by simpa using hW'.lt x (by simp [hx])
  have k1 := h1
  have l1 : ∀ x ∈ p1, x.block < W.heap.size := fun x hx => by simpa using hW'.lt x (by simp [hx])
  obtain ⟨s0, rfl, rfl, rfl, m0⟩ := open_string Tryz.underlying9 (hval 0 9 v0 rfl rfl) h0
  obtain ⟨a1, rfl, rfl, rfl, w1⟩ := open_int Tryz.underlying3 (hval 1 3 v1 rfl rfl) h1
  refine (walk W s0 (reach_at hR 0 rfl) a1 w1 hT).mono fun e W' ⟨he, bel⟩ => ?_
  subst he
  exact ⟨_, rfl, _, _, _, [], _, [], hW', trodAll_mk1 (shut_bool Tryz.underlying4 _), (trodAll_cons_mk (Below.trod laidOut (by kernel_rfl) (of_decide_eq_true (by kernel_rfl)) k0 bel l0) (trodAll_cons_mk (Below.trod laidOut (by kernel_rfl) (of_decide_eq_true (by kernel_rfl)) k1 bel l1) trodAll_mk0)), rfl, bel.frame _, fun h => by cases h⟩

theorem reads (os : Os) {H : Type} (enc : TypeId × Value → H) : ∃ places, DataW.whole enc Tryz.prog ((laidWorldS os).forCall (fun _ _ => 0) ⟨#[], #[.string ⟨#[]⟩, .int .i64 0], []⟩).memory Tryz.f6.params.toList Rows.specialNumbersSpec.vars false #[.string ⟨#[]⟩, .int .i64 0].toList 8 = some ([.lit (.string []), .lit (.int .i64 0)], [], places) :=
  ⟨[], by kernel_rfl⟩

set_option maxRecDepth 100000 in
theorem lifted (os : Os) (started : os.Started) (H : Type) (enc : TypeId × Value → H) (F : Stop.Interp) :
    ReturnsInHanded {} Tryz.checked os 6 .any ((OpenSpec.ofChange Rows.specialNumbersSpec).preRow enc Tryz.prog Tryz.f6 Rows.specialNumbersRow.domain false Rows.specialNumbersRow.laid) (((OpenSpec.ofChange Rows.specialNumbersSpec).at F).post enc Tryz.prog Tryz.f6 false true false false) := by
  obtain ⟨places, hx⟩ := reads os enc
  refine returnsInHanded_of_row (C := Tryz.checked) (s := (OpenSpec.ofChange Rows.specialNumbersSpec)) own started (by kernel_rfl) Tryz.func6
    (witness_row_at (enc := enc) (C := Tryz.checked) false (laidWorldS os) #[.string ⟨#[]⟩, .int .i64 0] rfl (by kernel_rfl) (by kernel_rfl) (by kernel_rfl)
      (OpenSpec.preRow_of_cond 8 hx (by kernel_rfl) (fun k hk => by cases hk) (by kernel_rfl) (laid_metS os _))) ?_
  intro W base args ds gs before hval hW _ hcond hR hL hS _
  exact contract H enc W base args ds gs before hval hW hL hS hR

theorem said : Rows.SpecialNumbersSaid :=
  OpenClaim.holds_of_cond 6 Tryz.f6 rfl rfl rfl rfl rfl rfl rfl ⟨rfl, rfl, rfl, rfl, rfl⟩ rfl rfl rfl rfl rfl (by kernel_rfl) Tryz.func6 (by kernel_rfl)
    (of_decide_eq_true (by kernel_rfl)) (by unfold Func.isWrapper; first | (rw [if_pos (by decide +kernel)]; kernel_rfl) | (rw [if_neg (by decide +kernel)]; exact ⟨rfl, rfl⟩))
    (fun os started H enc _ F => by rw [OpenClaim.pre_eq_preRow]; exact lifted os started H enc F)

theorem plain (f : FuncId) (fn : Func) (hf : Tryz.pinned.checked.prog.funcNamed "henkan/henkanlaw20.SpecialNumbers" = some f) (hfn : Tryz.pinned.checked.prog.funcs[f]? = some fn) :
    true = Tryz.pinned.checked.prog.looks [] ∧ ∀ (j : Nat) t, fn.params[j]? = some t → Tryz.pinned.checked.prog.wantsStandIn t = false := by
  obtain rfl : f = 6 := Option.some.inj ((show Tryz.prog.funcNamed "henkan/henkanlaw20.SpecialNumbers" = some 6 by kernel_rfl).symm.trans hf) |>.symm
  obtain rfl : fn = Tryz.f6 := (Option.some.inj (Tryz.func6.symm.trans hfn)).symm
  refine ⟨by kernel_rfl, fun j t ht => ?_⟩
  rw [Tryz.params6] at ht
  have hm := Array.mem_of_getElem? ht
  simp only [List.mem_toArray, List.mem_cons, List.not_mem_nil, or_false] at hm
  rcases hm with rfl | rfl
  · exact (show Tryz.prog.wantsStandIn 9 = false by kernel_rfl)
  · exact (show Tryz.prog.wantsStandIn 3 = false by kernel_rfl)

/-- the card -/
theorem proved : Rows.SpecialNumbersCardSaid :=
  Claim7.holds_tied_plain_at .later [] _ _ _ _ said (fun _ h => by cases h) (by kernel_rfl) (fun _ h => by cases h) specialNumbers_row_tie rfl ⟨rfl, rfl⟩ (by kernel_rfl) rfl plain (by kernel_rfl)
#print axioms proved
end Go.Proofs.YtnpkcobapckhdaaGreatDoor.specialNumbers
