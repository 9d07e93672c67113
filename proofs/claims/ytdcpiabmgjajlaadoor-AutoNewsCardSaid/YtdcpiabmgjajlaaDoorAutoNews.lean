/-
  there is an automaton for exactly the rules that are valid; the rules that are passed are not retained
-/
import Derived.Test.YtdcpiabmgjajlaaDoorAuReach
import Derived.Test.YtdcpiabmgjajlaaDoorAuTurn
import Derived.Carry
import Derived.Laws.AppendOwnNone
namespace Go.Proofs.YtdcpiabmgjajlaaDoor.autoNews
open Go.ChangeShapes Go.WideShapes Go.ChangeAt Go.RowKit
open Go.ChangeMaps (open_string)
set_option linter.unusedVariables false

set_option maxRecDepth 100000 in
set_option maxHeartbeats 8000000 in
theorem walk (w : World) (v : Value) (xs : List RuleB) (hl : LieR v xs w) (hn : xs.length ≤ 9223372036854775807) (hz : ∀ r ∈ xs, r.1.size ≤ 9223372036854775807 ∧ r.2.1.size ≤ 9223372036854775807 ∧ r.2.2.size ≤ 9223372036854775807) (hsh : v = .slice none 0 0 ∨ ∃ a n c, v = .slice (some a) n c) (s : ByteArray) (hs : s.size ≤ maxLen) (ht : Tabs w) :
    Calls Tryd.prog 3 #[v, .string s] w fun e w' => e = .returned (.bool true) ∧ Below w.heap.size w w' := by
  have HT := Lib.hid ht
  have HLV := Lib.hid hl
  have HZ := Lib.hid hz
  clear ht hl hz
  have HIs := Lib.hid (Is.of s)
  obtain ⟨sl, hsl⟩ : ∃ sl, s.data.toList = sl := ⟨_, rfl⟩
  rw [hsl] at HIs
  clear hsl
  try unfold maxLen at hs
  have HSH := Lib.hid hsh
  clear hsh
  go_enter Tryd.func3, Tryd.ntmps3
  go_wp2_with fail
  with_reducible refine (light_any v xs s _ (HLV.out.keep (Below.refl w.heap.size w)) hn HZ.out (by omega)).mono ?_
  rintro e w' ⟨⟨b, rfl, hb⟩, rfl⟩
  cases b
  · clear hb
    go_wp2_with fail
    go_ret
    exact ⟨rfl, (Below.refl w.heap.size w)⟩
  obtain ⟨h6, hl3, h2⟩ := hb rfl
  have HL3 := Lib.hid hl3
  clear hb hl3
  have HSR := Lib.hid (HLV.out.srcG HSH.out)
  have HE0 := Lib.hid (OwnR.empty 32 w.heap.size w (Nat.le_refl _))
  have HSR0 := Lib.hid (HSR.out.below ((Below.refl w.heap.size w).alloc (Nat.le_refl _) (.cells #[] 32)) (Nat.le_refl _))
  go_wp2_with (at_builtin; refine wpList_append_g ruleApp _ rfl _ _ rfl w.heap.size _ [] rfl (ownR_iff.1 HE0.out) _ xs rfl HSR0.out (by unfold maxLen; simp only [List.length_nil]; omega) (by show (0 + xs.length) * 48 ≤ _; omega) (by simp) ?_)
  intro v9 w1 ho hg
  try rw [List.nil_append] at ho
  have HM1 := Lib.hid (ownR_iff.2 ho)
  have HB1 := Lib.hid (((Below.refl w.heap.size w).alloc (Nat.le_refl _) (.cells #[] 32)).grown hg (by simp) (fun b hb => (World.ownsRow.lt HE0.out b hb).1))
  obtain ⟨ao, cap, rfl⟩ := ho.frame
  clear ho hg
  obtain ⟨n, hn9⟩ : ∃ n, xs.length = n := ⟨_, rfl⟩
  have HNN := Eqq.mk hn9
  rw [hn9] at h6 HM1
  rw [hn9]
  have hn0 : xs.length ≤ 1000000000000 := by omega
  clear hn9
  go_wp2_with fail
  with_reducible refine (new_any _ xs _ HM1.out.lie hn0 HL3.out.short (HT.out.keep HB1.out)).mono ?_
  rintro e w2 ⟨hv, hb⟩
  have HB2 := Lib.hid (HB1.out.trans (hb.mono HB1.out.size))
  have HM2 := Lib.hid (HM1.out.keep hb)
  clear hb
  rcases hv with ⟨hne, rfl⟩ | ⟨hok, a, rfl, ha⟩
  · obtain ⟨E, hE⟩ : ∃ E, Ro.check (rulesL xs) = E := ⟨_, rfl⟩
    have HE := Eqq.mk hE
    rw [hE] at hne
    rw [hE]
    have i0 : ¬ ((E : Nat) : Int) = 0 := by omega
    have i1 : (((E : Nat) : Int) == 0) = false := by rw [beq_eq_false_iff_ne]; exact i0
    have i2 : (((E : Nat) : Int) != 0) = true := by rw [bne, i1]; rfl
    clear hne hE
    go_wp2_with fail
    with_reducible refine (given6_any v xs _ (HLV.out.keep HB2.out) (by rw [HNN.out]; omega)).mono ?_
    rintro e w3 ⟨vg, rfl, ho, hb⟩
    have HB3 := Lib.hid (HB2.out.trans (hb.mono HB2.out.size))
    have HM3 := Lib.hid (HM2.out.keep hb)
    have HLvg := Lib.hid ho.lie
    clear ho hb
    go_wp2_with fail
    with_reducible refine (rcheck_any vg xs _ HLvg.out (by omega) HL3.out.short).mono ?_
    rw [HE.out]
    rintro e w4 ⟨rfl, hb⟩
    have HB4 := Lib.hid (HB3.out.trans (hb.mono HB3.out.size))
    have HM4 := Lib.hid (HM3.out.keep hb)
    clear hb
    have hnc : xs.length ≤ 600 := by rw [HNN.out]; exact h6
    go_wp2_with fail
    go_loopw [9] (fun iv wr => ∃ (i : Nat) (ys : List RuleB), i ≤ n ∧ iv = .int .i64 i ∧ ys.length = n ∧ OwnR 32 w.heap.size (.slice ao n cap) ys wr ∧ Below w.heap.size w wr) (fun iv _ => n - (intOf iv).toNat)
    case atStart => exact ⟨0, xs, Nat.zero_le _, rfl, HNN.out, HM4.out, HB4.out⟩
    case round =>
      obtain ⟨i, ys, hi, rfl, hyl, hm, hb⟩ := hrel
      have HMr := Lib.hid hm
      have HBr := Lib.hid hb
      skip
      clear hm hb
      by_cases hil : i < n
      · obtain ⟨gm, hao, hgm, hcell⟩ := OwnR.at (i := i) HMr.out (by omega)
        subst hao
        obtain ⟨u0, e0, f0⟩ := hcell 0 (by omega)
        obtain ⟨u1, e1, f1⟩ := hcell 1 (by omega)
        obtain ⟨u2, e2, f2⟩ := hcell 2 (by omega)
        rw [Nat.add_zero] at e0 f0
        have g1 : (i : Int) < (n : Int) := by omega
        have g2 : (0 : Int) ≤ (i : Int) := by omega
        have hyi : i < ys.length := by omega
        have hput := OwnR.put HMr.out hyl.symm i hyi (⟨#[113]⟩, ⟨#[227, 129, 172]⟩, ⟨#[]⟩)
        dsimp only at hput
        have HPUT := Lib.hid hput
        have HBP := Lib.hid (((HBr.out.setCell (p := ⟨gm, i * 3, none⟩) hgm (.string ⟨#[113]⟩)).setCell (p := ⟨gm, i * 3 + 1, none⟩) hgm (.string ⟨#[227, 129, 172]⟩)).setCell (p := ⟨gm, i * 3 + 2, none⟩) hgm (.string ⟨#[]⟩))
        skip
        have hsl9 : (ys.set i (⟨#[113]⟩, ⟨#[227, 129, 172]⟩, ⟨#[]⟩)).length = n := by rw [List.length_set]; exact hyl
        clear hput hcell
        go_wp2_with fail
        go_roundw
        case rel => exact ⟨i + 1, _, by omega, by go_num, hsl9, HPUT.out, HBP.out⟩
        case measure => simp [intOf]; omega
      · obtain rfl : i = n := by omega
        go_wp2_with fail
        with_reducible refine (works_any _ (HT.out.keep HBr.out)).mono ?_
        rintro e w7 ⟨rfl, hb⟩
        have HB7 := Lib.hid (HBr.out.trans (hb.mono HBr.out.size))
        clear hb
        go_wp2_with fail
        go_ret
        exact ⟨rfl, HB7.out⟩
  have HOK := Eqq.mk hok
  clear hok
  obtain ⟨N, hN⟩ : ∃ N, w2.heap.size = N := ⟨_, rfl⟩
  have H2 := Lib.hid (Nat.le_of_eq hN.symm)
  rw [hN] at ha
  have HA2 := Lib.hid ha
  clear ha hN
  go_wp2_with fail
  with_reducible refine (given6_any v xs _ (HLV.out.keep HB2.out) (by rw [HNN.out]; omega)).mono ?_
  rintro e w3 ⟨vg, rfl, ho, hb⟩
  have HB3 := Lib.hid (HB2.out.trans (hb.mono HB2.out.size))
  have HM3 := Lib.hid (HM2.out.keep hb)
  have HLvg := Lib.hid ho.lie
  have HA3 := Lib.hid (HA2.out.go H2.out hb)
  have H3 := Lib.hid (Nat.le_trans H2.out hb.size)
  clear ho hb
  go_wp2_with fail
  with_reducible refine (rcheck_any vg xs _ HLvg.out (by omega) HL3.out.short).mono ?_
  rw [HOK.out]
  rintro e w4 ⟨rfl, hb⟩
  have HB4 := Lib.hid (HB3.out.trans (hb.mono HB3.out.size))
  have HA4 := Lib.hid (HA3.out.go H3.out hb)
  have H4 := Lib.hid (Nat.le_trans H3.out hb.size)
  have HM4 := Lib.hid (HM3.out.keep hb)
  clear hb
  obtain ⟨⟨xl, pl⟩, h1⟩ : ∃ p, Au.run (rulesL xs) sl = p := ⟨_, rfl⟩
  have HXx := Eqq.mk h1
  clear h1
  have HIx := Lib.hid (is_ba xl)
  have HIp := Lib.hid (is_ba pl)
  obtain ⟨x, hx⟩ : ∃ x, ba xl = x := ⟨_, rfl⟩
  obtain ⟨p, hp⟩ : ∃ x, ba pl = x := ⟨_, rfl⟩
  have HVx := Eqq.mk (show TwoV (xl, pl) = .returned (.tuple #[.string x, .string p]) by unfold TwoV; rw [hx, hp])
  rw [hx] at HIx
  rw [hp] at HIp
  have HEx := Eqq.mk hx
  have HEp := Eqq.mk hp
  clear hx hp
  have hnc : xs.length ≤ 600 := by rw [HNN.out]; exact h6
  go_wp2_with fail
  go_loopw [9] (fun iv wr => ∃ (i : Nat) (ys : List RuleB), i ≤ n ∧ iv = .int .i64 i ∧ ys.length = n ∧ OwnR 32 w.heap.size (.slice ao n cap) ys wr ∧ AutoIs N xs a wr ∧ N ≤ wr.heap.size ∧ Below w.heap.size w wr) (fun iv _ => n - (intOf iv).toNat)
  case atStart => exact ⟨0, xs, Nat.zero_le _, rfl, HNN.out, HM4.out, HA4.out, H4.out, HB4.out⟩
  case round =>
    obtain ⟨i, ys, hi, rfl, hyl, hm, ha, hN, hb⟩ := hrel
    have HMr := Lib.hid hm
    have HBr := Lib.hid hb
    have HAr := Lib.hid ha
    have hNr := hN
    clear ha
    clear hm hb
    by_cases hil : i < n
    · obtain ⟨gm, hao, hgm, hcell⟩ := OwnR.at (i := i) HMr.out (by omega)
      subst hao
      obtain ⟨u0, e0, f0⟩ := hcell 0 (by omega)
      obtain ⟨u1, e1, f1⟩ := hcell 1 (by omega)
      obtain ⟨u2, e2, f2⟩ := hcell 2 (by omega)
      rw [Nat.add_zero] at e0 f0
      have g1 : (i : Int) < (n : Int) := by omega
      have g2 : (0 : Int) ≤ (i : Int) := by omega
      have hyi : i < ys.length := by omega
      have hput := OwnR.put HMr.out hyl.symm i hyi (⟨#[113]⟩, ⟨#[227, 129, 172]⟩, ⟨#[]⟩)
      dsimp only at hput
      have HPUT := Lib.hid hput
      have HBP := Lib.hid (((HBr.out.setCell (p := ⟨gm, i * 3, none⟩) hgm (.string ⟨#[113]⟩)).setCell (p := ⟨gm, i * 3 + 1, none⟩) hgm (.string ⟨#[227, 129, 172]⟩)).setCell (p := ⟨gm, i * 3 + 2, none⟩) hgm (.string ⟨#[]⟩))
      have HAP := Lib.hid (HAr.out.put HMr.out (by omega) i (.string ⟨#[113]⟩) (.string ⟨#[227, 129, 172]⟩) (.string ⟨#[]⟩))
      have hNP : N ≤ (((wr.setCell ⟨gm, i * 3, none⟩ (.string ⟨#[113]⟩)).setCell ⟨gm, i * 3 + 1, none⟩ (.string ⟨#[227, 129, 172]⟩)).setCell ⟨gm, i * 3 + 2, none⟩ (.string ⟨#[]⟩)).heap.size := by simp; exact hNr
      have hsl9 : (ys.set i (⟨#[113]⟩, ⟨#[227, 129, 172]⟩, ⟨#[]⟩)).length = n := by rw [List.length_set]; exact hyl
      clear hput hcell
      go_wp2_with fail
      go_roundw
      case rel => exact ⟨i + 1, _, by omega, by go_num, hsl9, HPUT.out, HAP.out, hNP, HBP.out⟩
      case measure => simp [intOf]; omega
    · obtain rfl : i = n := by omega
      go_wp2_with fail
      with_reducible refine (run_any N a xs s sl _ HAr.out hNr HIs.out (by omega)).mono ?_
      rw [HXx.out, HVx.out]
      rintro e w6 ⟨rfl, hb⟩
      have HB6 := Lib.hid (HBr.out.trans (hb.mono HBr.out.size))
      clear hb
      go_wp2_with fail
      with_reducible refine (given6_any v xs _ (HLV.out.keep HB6.out) (by omega)).mono ?_
      rintro e w7 ⟨v1, rfl, ho, hb⟩
      have HB7 := Lib.hid (HB6.out.trans (hb.mono HB6.out.size))
      have HLv1 := Lib.hid ho.lie
      clear ho hb
      go_wp2_with fail
      with_reducible refine (rrun_any s sl v1 xs _ HIs.out HLv1.out HOK.out (by omega) (by omega)).mono ?_
      rw [HXx.out, HVx.out]
      rintro e w8 ⟨rfl, hb⟩
      have HB8 := Lib.hid (HB7.out.trans (hb.mono HB7.out.size))
      clear hb
      go_wp2_with fail
      with_reducible refine (works_any _ (HT.out.keep HB8.out)).mono ?_
      rintro e w9 ⟨rfl, hb⟩
      have HB9 := Lib.hid (HB8.out.trans (hb.mono HB8.out.size))
      clear hb
      go_wp2_with fail
      go_ret
      exact ⟨rfl, HB9.out⟩

theorem laidOut : laidOutB Tryd.prog = true := by kernel_rfl
set_option maxRecDepth 100000 in
theorem contract (H : Type) (enc : TypeId × Value → H) (W : World) (base : Nat) (args : Array Value) (ds gs : List (DataW H)) (before : List MemPlace)
    (hval : ∀ (j : Nat) t v, Tryd.f3.params[j]? = some t → args[j]? = some v → Value.okWide Tryd.prog W .any base t v)
    (hW : DataW.Whole enc Tryd.prog Tryd.f3.params.toList Rows.autoNewsSpec.vars false W args.toList ds gs before) (hL : laidMetH Tryd.prog Rows.autoNewsRow.laid W) (hS : W.ShapedOpen Tryd.prog)
    (hR : (DataW.weightsEach Tryd.prog (Tryd.f3.params.toList ++ (OpenSpec.ofChange Rows.autoNewsSpec).bare.plain.varTypes Tryd.prog) (ds ++ gs)).all (· ≤ reachBytes) = true) :
    Calls Tryd.prog 3 args W fun e W' => ∃ v, e = .returned v ∧ Rows.autoNewsSpec.post enc Tryd.prog Tryd.f3 false true false false W args v W' := by
  have hT : Tabs W := rtabs_of_laid hL hS
  have hW' := hW
  obtain ⟨p, q, hA0, hV, rfl, hfz, hnd⟩ := hW
  have hA : DataW.TrodAll enc Tryd.prog W 0 (fun _ => true) true Tryd.f3.params.toList args.toList ds p := hA0
  rw [Tryd.params3] at hA hval hR
  obtain ⟨v0, vs0, d0, ds0, p0, q0, hargs, rfl, rfl, h0, r0⟩ := trodAll_cons hA
  obtain ⟨v1, vs1, d1, ds1, p1, q1, rfl, rfl, rfl, h1, r1⟩ := trodAll_cons r0
  obtain ⟨rfl, rfl, rfl⟩ := trodAll_nil r1
  obtain rfl : args = #[v0, v1] := by cases args; simp_all
  obtain ⟨rfl, rfl⟩ := trodVars_none hV
  clear hA0
  simp only [List.append_nil] at hW' hR
  have k0 := h0
  have l0 : ∀ x ∈ p0, x.block < W.heap.size := fun x hx => by simpa using hW'.lt x (by simp [hx])
  have k1 := h1
  have l1 : ∀ x ∈ p1, x.block < W.heap.size := fun x hx => by simpa using hW'.lt x (by simp [hx])
  have sh0 := open_shape (hval 0 22 v0 rfl rfl) h0
  obtain ⟨xs0, hl0, hn0, hz0⟩ := open_rules (hval 0 22 v0 rfl rfl) h0
  obtain ⟨s1, rfl, rfl, rfl, m1⟩ := open_string Tryd.underlying9 (hval 1 9 v1 rfl rfl) h1
  refine (walk W v0 xs0 hl0 hn0 hz0 sh0 s1 m1 hT).mono fun e W' ⟨he, bel⟩ => ?_
  subst he
  exact ⟨_, rfl, _, _, _, [], _, [], hW', trodAll_mk1 (shut_bool Tryd.underlying4 _), (trodAll_cons_mk (Below.trod laidOut (by kernel_rfl) (of_decide_eq_true (by kernel_rfl)) k0 bel l0) (trodAll_cons_mk (Below.trod laidOut (by kernel_rfl) (of_decide_eq_true (by kernel_rfl)) k1 bel l1) trodAll_mk0)), rfl, bel.frame _, fun h => by cases h⟩

theorem reads (os : Os) {H : Type} (enc : TypeId × Value → H) : ∃ places, DataW.whole enc Tryd.prog ((laidWorldR os).forCall (fun _ _ => 0) ⟨#[], #[.slice none 0 0, .string ⟨#[]⟩], []⟩).memory Tryd.f3.params.toList Rows.autoNewsSpec.vars false #[.slice none 0 0, .string ⟨#[]⟩].toList 8 = some ([.nil, .lit (.string [])], [], places) :=
  ⟨[], by kernel_rfl⟩

set_option maxRecDepth 100000 in
theorem lifted (os : Os) (started : os.Started) (H : Type) (enc : TypeId × Value → H) (F : Stop.Interp) :
    ReturnsInHanded {} Tryd.checked os 3 .any ((OpenSpec.ofChange Rows.autoNewsSpec).preRow enc Tryd.prog Tryd.f3 Rows.autoNewsRow.domain false Rows.autoNewsRow.laid) (((OpenSpec.ofChange Rows.autoNewsSpec).at F).post enc Tryd.prog Tryd.f3 false true false false) := by
  obtain ⟨places, hx⟩ := reads os enc
  refine returnsInHanded_of_row (C := Tryd.checked) (s := (OpenSpec.ofChange Rows.autoNewsSpec)) own started (by kernel_rfl) Tryd.func3
    (witness_row_at (enc := enc) (C := Tryd.checked) false (laidWorldR os) #[.slice none 0 0, .string ⟨#[]⟩] rfl (by kernel_rfl) (by kernel_rfl) (by kernel_rfl)
      (OpenSpec.preRow_of_cond 8 hx (by kernel_rfl) (fun k hk => by cases hk) (by kernel_rfl) (laid_metR os _))) ?_
  intro W base args ds gs before hval hW _ hcond hR hL hS _
  exact contract H enc W base args ds gs before hval hW hL hS hR

theorem said : Rows.AutoNewsSaid :=
  OpenClaim.holds_of_cond 3 Tryd.f3 rfl rfl rfl rfl rfl rfl rfl ⟨rfl, rfl, rfl, rfl, rfl⟩ rfl rfl rfl rfl rfl (by kernel_rfl) Tryd.func3 (by kernel_rfl)
    (of_decide_eq_true (by kernel_rfl)) (by unfold Func.isWrapper; first | (rw [if_pos (by decide +kernel)]; kernel_rfl) | (rw [if_neg (by decide +kernel)]; exact ⟨rfl, rfl⟩))
    (fun os started H enc _ F => by rw [OpenClaim.pre_eq_preRow]; exact lifted os started H enc F)

theorem plain (f : FuncId) (fn : Func) (hf : Tryd.pinned.checked.prog.funcNamed "henkan/henkanlaw06.AutoNews" = some f) (hfn : Tryd.pinned.checked.prog.funcs[f]? = some fn) :
    false = Tryd.pinned.checked.prog.looks [] ∧ ∀ (j : Nat) t, fn.params[j]? = some t → Tryd.pinned.checked.prog.wantsStandIn t = false := by
  obtain rfl : f = 3 := Option.some.inj ((show Tryd.prog.funcNamed "henkan/henkanlaw06.AutoNews" = some 3 by kernel_rfl).symm.trans hf) |>.symm
  obtain rfl : fn = Tryd.f3 := (Option.some.inj (Tryd.func3.symm.trans hfn)).symm
  refine ⟨by kernel_rfl, fun j t ht => ?_⟩
  rw [Tryd.params3] at ht
  have hm := Array.mem_of_getElem? ht
  simp only [List.mem_toArray, List.mem_cons, List.not_mem_nil, or_false] at hm
  rcases hm with rfl | rfl
  · exact (show Tryd.prog.wantsStandIn 22 = false by kernel_rfl)
  · exact (show Tryd.prog.wantsStandIn 9 = false by kernel_rfl)

/-- the card -/
theorem proved : Rows.AutoNewsCardSaid :=
  Claim7.holds_tied_plain_at .later [] _ _ _ _ said (fun _ h => by cases h) (by kernel_rfl) (fun _ h => by cases h) autoNews_row_tie rfl ⟨rfl, rfl⟩ (by kernel_rfl) rfl plain (by kernel_rfl)
#print axioms proved
end Go.Proofs.YtdcpiabmgjajlaaDoor.autoNews
