/-
  the rules of the document are those of its table, in order, each time in new memory
-/
import Derived.Test.YtgdcffahhpeibaaDoorRoDoor
import Derived.Carry
import Derived.Laws.AppendOwnNone
namespace Go.Proofs.YtgdcffahhpeibaaDoor.romanDefault
open Go.ChangeShapes Go.WideShapes Go.ChangeAt Go.RowKit
open Go.ChangeMaps (open_string)
set_option linter.unusedVariables false

set_option maxRecDepth 100000 in
set_option maxHeartbeats 8000000 in
theorem walk (w : World) (ht : Tabs w) :
    Calls Tryd.prog 4 #[] w fun e w' => e = .returned (.bool true) ∧ Below w.heap.size w w' := by
  have HT := Lib.hid ht
  clear ht
  go_enter Tryd.func4, Tryd.ntmps4
  go_wp2_with fail
  with_reducible refine (rdefault_any w).mono ?_
  rintro e w1 ⟨⟨v1, ys, rfl, hy, ho⟩, hb⟩
  have HB1 := Lib.hid hb
  have HY := Eqq.mk hy
  have HL1 := Lib.hid ho.lie
  have hyl := def_long hy
  have HSH := Lib.hid (def_short hy)
  clear hb hy ho
  go_wp2_with fail
  with_reducible refine (default_own w1 (HT.out.keep HB1.out)).mono ?_
  rintro e w2 ⟨⟨g, cap, zs, rfl, hz, hl, hg, hf⟩, hb⟩
  obtain rfl : zs = ys := rulesL_inj (hz.trans HY.out.symm)
  have HB2 := Lib.hid (HB1.out.trans (hb.mono HB1.out.size))
  have HBa := Lib.hid hb
  have HL2 := Lib.hid hl
  have HLa := Lib.hid (HL1.out.keep hb)
  have HHo := Lib.hid (Hole.of hl hyl hf)
  have HG := Lib.hid hg
  have hgl := hb.size
  have HGW := Lib.hid (show g < w2.heap.size from by
    obtain ⟨u, hu⟩ := (Hole.of hl hyl hf 0 (by omega)).1
    exact World.block_lt_of_cell? w2 _ hu)
  have h1e : zs.length ≤ 1000000 := by omega
  have h1f : zs.length ≤ 1000000000000 := by omega
  clear hz hl hg hf hb hgl hyl
  go_wp2_with fail
  with_reducible refine (same_any _ v1 zs zs _ HL2.out HLa.out h1e h1f).mono ?_
  rw [decide_eq_true rfl]
  rintro e w3 ⟨rfl, hb⟩
  have HB3 := Lib.hid (HB2.out.trans (hb.mono HB2.out.size))
  have HBb := Lib.hid (HBa.out.trans (hb.mono HBa.out.size))
  have HL3 := Lib.hid (HL2.out.keep hb)
  have HH3 := Lib.hid (show Hole g w3 from fun j hj => by
    obtain ⟨⟨u, hu⟩, hf⟩ := HHo.out j hj
    exact ⟨⟨u, below_cellU hu hb (Nat.le_refl _)⟩, by rw [hb.frozen (p := ⟨g, j, none⟩) HGW.out]; exact hf⟩)
  have HGX := Lib.hid (Nat.lt_of_lt_of_le HGW.out hb.size)
  clear hb
  go_wp2_with fail
  with_reducible refine (check_any _ zs _ HL3.out h1f HSH.out (HT.out.keep HB3.out)).mono ?_
  rw [HY.out, Ro.def_check]
  rintro e w4 ⟨rfl, hb⟩
  have HB4 := Lib.hid (HB3.out.trans (hb.mono HB3.out.size))
  have HBc := Lib.hid (HBb.out.trans (hb.mono HBb.out.size))
  have HH4 := Lib.hid (show Hole g w4 from fun j hj => by
    obtain ⟨⟨u, hu⟩, hf⟩ := HH3.out j hj
    exact ⟨⟨u, below_cellU hu hb (Nat.le_refl _)⟩, by rw [hb.frozen (p := ⟨g, j, none⟩) HGX.out]; exact hf⟩)
  clear hb
  go_wp2_with fail
  go_loopw [3] (fun iv wr => ∃ i : Nat, i ≤ 162 ∧ iv = .int .i64 i ∧ Hole g wr ∧ Below w1.heap.size w1 wr) (fun iv _ => 162 - (intOf iv).toNat)
  case atStart => exact ⟨0, Nat.zero_le _, rfl, HH4.out, HBc.out⟩
  case round =>
    obtain ⟨i, hi, rfl, hh, hb⟩ := hrel
    have HHr := Lib.hid hh
    have HBr := Lib.hid hb
    clear hh hb
    by_cases hil : i < 162
    · obtain ⟨⟨u0, e0⟩, f0⟩ := HHr.out (i * 3) (by omega)
      obtain ⟨⟨u1, e1⟩, f1⟩ := HHr.out (i * 3 + 1) (by omega)
      obtain ⟨⟨u2, e2⟩, f2⟩ := HHr.out (i * 3 + 2) (by omega)
      have g1 : (i : Int) < (162 : Int) := by omega
      have g2 : (0 : Int) ≤ (i : Int) := by omega
      have HPUT := Lib.hid (((HHr.out.set (i * 3) (.string ⟨#[]⟩)).set (i * 3 + 1) (.string ⟨#[]⟩)).set (i * 3 + 2) (.string ⟨#[]⟩))
      have HBP := Lib.hid (((HBr.out.setCell (p := ⟨g, i * 3, none⟩) HG.out (.string ⟨#[]⟩)).setCell (p := ⟨g, i * 3 + 1, none⟩) HG.out (.string ⟨#[]⟩)).setCell (p := ⟨g, i * 3 + 2, none⟩) HG.out (.string ⟨#[]⟩))
      go_wp2_with fail
      go_roundw
      case rel => exact ⟨i + 1, by omega, by go_num, HPUT.out, HBP.out⟩
      case measure => simp [intOf]; omega
    · obtain rfl : i = 162 := by omega
      have HB5 := Lib.hid (HB1.out.trans (HBr.out.mono HB1.out.size))
      have HL5 := Lib.hid (HL1.out.keep HBr.out)
      go_wp2_with fail
      with_reducible refine (default_any wr (HT.out.keep HB5.out)).mono ?_
      rintro e w6 ⟨⟨v6, zs6, rfl, hz, hl⟩, hb⟩
      obtain rfl : zs6 = zs := rulesL_inj (hz.trans HY.out.symm)
      have HB6 := Lib.hid (HB5.out.trans (hb.mono HB5.out.size))
      have HL6 := Lib.hid (HL5.out.keep hb)
      have HL7 := Lib.hid hl
      clear hz hl hb
      go_wp2_with fail
      with_reducible refine (same_any v6 v1 _ _ _ HL7.out HL6.out h1e h1f).mono ?_
      rw [decide_eq_true rfl]
      rintro e w7 ⟨rfl, hb⟩
      have HB7 := Lib.hid (HB6.out.trans (hb.mono HB6.out.size))
      clear hb
      go_wp2_with fail
      with_reducible refine (works_any _ (HT.out.keep HB7.out)).mono ?_
      rintro e w8 ⟨rfl, hb⟩
      have HB8 := Lib.hid (HB7.out.trans (hb.mono HB7.out.size))
      clear hb
      go_wp2_with fail
      go_ret
      exact ⟨rfl, HB8.out⟩

theorem laidOut : laidOutB Tryd.prog = true := by kernel_rfl
set_option maxRecDepth 100000 in
theorem contract (H : Type) (enc : TypeId × Value → H) (W : World) (base : Nat) (args : Array Value) (ds gs : List (DataW H)) (before : List MemPlace)
    (hval : ∀ (j : Nat) t v, Tryd.f4.params[j]? = some t → args[j]? = some v → Value.okWide Tryd.prog W .any base t v)
    (hW : DataW.Whole enc Tryd.prog Tryd.f4.params.toList Rows.romanDefaultSpec.vars false W args.toList ds gs before) (hL : laidMetH Tryd.prog Rows.romanDefaultRow.laid W) (hS : W.ShapedOpen Tryd.prog)
    (hR : (DataW.weightsEach Tryd.prog (Tryd.f4.params.toList ++ (OpenSpec.ofChange Rows.romanDefaultSpec).bare.plain.varTypes Tryd.prog) (ds ++ gs)).all (· ≤ reachBytes) = true) :
    Calls Tryd.prog 4 args W fun e W' => ∃ v, e = .returned v ∧ Rows.romanDefaultSpec.post enc Tryd.prog Tryd.f4 false true false false W args v W' := by
  have hT : Tabs W := rtabs_of_laid hL hS
  have hW' := hW
  obtain ⟨p, q, hA0, hV, rfl, hfz, hnd⟩ := hW
  have hA : DataW.TrodAll enc Tryd.prog W 0 (fun _ => true) true Tryd.f4.params.toList args.toList ds p := hA0
  rw [Tryd.params4] at hA hval hR
  obtain ⟨hargs, rfl, rfl⟩ := trodAll_nil hA
  obtain rfl : args = #[] := by cases args; simp_all
  obtain ⟨rfl, rfl⟩ := trodVars_none hV
  clear hA0
  simp only [List.append_nil] at hW' hR
  refine (walk W hT).mono fun e W' ⟨he, bel⟩ => ?_
  subst he
  exact ⟨_, rfl, _, _, _, [], _, [], hW', trodAll_mk1 (shut_bool Tryd.underlying4 _), trodAll_mk0, rfl, bel.frame _, fun h => by cases h⟩

theorem reads (os : Os) {H : Type} (enc : TypeId × Value → H) : ∃ places, DataW.whole enc Tryd.prog ((laidWorldR os).forCall (fun _ _ => 0) ⟨#[], #[], []⟩).memory Tryd.f4.params.toList Rows.romanDefaultSpec.vars false #[].toList 8 = some ([], [], places) :=
  ⟨[], by kernel_rfl⟩

set_option maxRecDepth 100000 in
theorem lifted (os : Os) (started : os.Started) (H : Type) (enc : TypeId × Value → H) (F : Stop.Interp) :
    ReturnsInHanded {} Tryd.checked os 4 .any ((OpenSpec.ofChange Rows.romanDefaultSpec).preRow enc Tryd.prog Tryd.f4 Rows.romanDefaultRow.domain false Rows.romanDefaultRow.laid) (((OpenSpec.ofChange Rows.romanDefaultSpec).at F).post enc Tryd.prog Tryd.f4 false true false false) := by
  obtain ⟨places, hx⟩ := reads os enc
  refine returnsInHanded_of_row (C := Tryd.checked) (s := (OpenSpec.ofChange Rows.romanDefaultSpec)) own started (by kernel_rfl) Tryd.func4
    (witness_row_at (enc := enc) (C := Tryd.checked) false (laidWorldR os) #[] rfl (by kernel_rfl) (by kernel_rfl) (by kernel_rfl)
      (OpenSpec.preRow_of_cond 8 hx (by kernel_rfl) (fun k hk => by cases hk) (by kernel_rfl) (laid_metR os _))) ?_
  intro W base args ds gs before hval hW _ hcond hR hL hS _
  exact contract H enc W base args ds gs before hval hW hL hS hR

theorem said : Rows.RomanDefaultSaid :=
  OpenClaim.holds_of_cond 4 Tryd.f4 rfl rfl rfl rfl rfl rfl rfl ⟨rfl, rfl, rfl, rfl, rfl⟩ rfl rfl rfl rfl rfl (by kernel_rfl) Tryd.func4 (by kernel_rfl)
    (of_decide_eq_true (by kernel_rfl)) (by unfold Func.isWrapper; first | (rw [if_pos (by decide +kernel)]; kernel_rfl) | (rw [if_neg (by decide +kernel)]; exact ⟨rfl, rfl⟩))
    (fun os started H enc _ F => by rw [OpenClaim.pre_eq_preRow]; exact lifted os started H enc F)

theorem plain (f : FuncId) (fn : Func) (hf : Tryd.pinned.checked.prog.funcNamed "henkan/henkanlaw05.RomanDefault" = some f) (hfn : Tryd.pinned.checked.prog.funcs[f]? = some fn) :
    false = Tryd.pinned.checked.prog.looks [] ∧ ∀ (j : Nat) t, fn.params[j]? = some t → Tryd.pinned.checked.prog.wantsStandIn t = false := by
  obtain rfl : f = 4 := Option.some.inj ((show Tryd.prog.funcNamed "henkan/henkanlaw05.RomanDefault" = some 4 by kernel_rfl).symm.trans hf) |>.symm
  obtain rfl : fn = Tryd.f4 := (Option.some.inj (Tryd.func4.symm.trans hfn)).symm
  refine ⟨by kernel_rfl, fun j t ht => ?_⟩
  rw [Tryd.params4] at ht
  simp at ht

/-- the card -/
theorem proved : Rows.RomanDefaultCardSaid :=
  Claim7.holds_tied_plain_at .later [] _ _ _ _ said (fun _ h => by cases h) (by kernel_rfl) (fun _ h => by cases h) romanDefault_row_tie rfl ⟨rfl, rfl⟩ (by kernel_rfl) rfl plain (by kernel_rfl)
#print axioms proved
end Go.Proofs.YtgdcffahhpeibaaDoor.romanDefault
