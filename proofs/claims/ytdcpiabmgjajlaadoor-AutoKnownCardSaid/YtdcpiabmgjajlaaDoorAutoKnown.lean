/-
  the examples of the chapter
-/
import Derived.Test.YtdcpiabmgjajlaaDoorAuReach
import Derived.Test.YtdcpiabmgjajlaaDoorAuTurn
import Derived.Carry
import Derived.Laws.AppendOwnNone
namespace Go.Proofs.YtdcpiabmgjajlaaDoor.autoKnown
open Go.ChangeShapes Go.WideShapes Go.ChangeAt Go.RowKit
open Go.ChangeMaps (open_string)
set_option linter.unusedVariables false

structure LitOk (b : ByteArray) (l : List UInt8) : Prop where
  mk1 ::
  «1» : Is b l
  «2» : b.size ≤ 1000000000
  «3» : b.size ≤ 500000000
  «4» : b.size < 9223372036854775807
theorem t_120_98 : LitOk ⟨#[120, 98]⟩ [120, 98] := ⟨rfl, by decide, by decide, by decide⟩
theorem t_107_65 : LitOk ⟨#[107, 65]⟩ [107, 65] := ⟨rfl, by decide, by decide, by decide⟩
theorem t_110 : LitOk ⟨#[110]⟩ [110] := ⟨rfl, by decide, by decide, by decide⟩
theorem t_227_130_147_227_129_130 : LitOk ⟨#[227, 130, 147, 227, 129, 130]⟩ [227, 130, 147, 227, 129, 130] := ⟨rfl, by decide, by decide, by decide⟩
theorem t_227_130_147 : LitOk ⟨#[227, 130, 147]⟩ [227, 130, 147] := ⟨rfl, by decide, by decide, by decide⟩
theorem t_227_129_139 : LitOk ⟨#[227, 129, 139]⟩ [227, 129, 139] := ⟨rfl, by decide, by decide, by decide⟩
theorem t_e : LitOk ⟨#[]⟩ [] := ⟨rfl, by decide, by decide, by decide⟩
set_option maxRecDepth 100000 in
set_option maxHeartbeats 8000000 in
theorem walk (w : World) (ht : Tabs w) :
    Calls Tryd.prog 13 #[] w fun e w' => e = .returned (.bool true) ∧ Below w.heap.size w w' := by
  have HT := Lib.hid ht
  clear ht
  go_enter Tryd.func13, Tryd.ntmps13
  go_wp2_with fail
  with_reducible refine (small_any _).mono ?_
  rintro e w1 ⟨⟨v, rfl, hl⟩, hb⟩
  have HB1 := Lib.hid ((Below.refl w.heap.size w).trans (hb.mono (Below.refl w.heap.size w).size))
  have HL := Lib.hid hl
  clear hl
  clear hb
  go_wp2_with fail
  with_reducible refine (new_any v smallB w1 HL.out smallB_len smallB_short (HT.out.keep HB1.out)).mono ?_
  rintro e w2 ⟨hv, hb⟩
  rcases hv with ⟨hne, _⟩ | ⟨_, a, rfl, ha⟩
  · exact absurd Au.small_ok hne
  have HB2 := Lib.hid (HB1.out.trans (hb.mono HB1.out.size))
  clear hb
  obtain ⟨N, hN⟩ : ∃ N, w2.heap.size = N := ⟨_, rfl⟩
  have H2 := Lib.hid (Nat.le_of_eq hN.symm)
  rw [hN] at ha
  have HA2 := Lib.hid ha
  clear ha hN
  go_wp2_with fail
  with_reducible refine (run_any N a smallB ⟨#[120, 98]⟩ [120, 98] w2 HA2.out H2.out t_120_98.«1» t_120_98.«2»).mono ?_
  rw [smallB_is, Au.small_run3, show TwoV ([120, 98], []) = .returned (.tuple #[.string ⟨#[120, 98]⟩, .string ⟨#[]⟩]) from rfl]
  rintro e w3 ⟨rfl, hb⟩
  have HB3 := Lib.hid (HB2.out.trans (hb.mono HB2.out.size))
  have HA3 := Lib.hid (HA2.out.go H2.out hb)
  have H3 := Lib.hid (Nat.le_trans H2.out hb.size)
  clear hb
  go_wp2_with fail
  with_reducible refine (run_any N a smallB ⟨#[107, 65]⟩ [107, 65] w3 HA3.out H3.out t_107_65.«1» t_107_65.«2»).mono ?_
  rw [smallB_is, Au.small_run4, show TwoV ([107, 65], []) = .returned (.tuple #[.string ⟨#[107, 65]⟩, .string ⟨#[]⟩]) from rfl]
  rintro e w4 ⟨rfl, hb⟩
  have HB4 := Lib.hid (HB3.out.trans (hb.mono HB3.out.size))
  have HA4 := Lib.hid (HA3.out.go H3.out hb)
  have H4 := Lib.hid (Nat.le_trans H3.out hb.size)
  clear hb
  go_wp2_with fail
  with_reducible refine (step_any N a smallB ⟨#[110]⟩ [110] 107 107 rfl w4 HA4.out H4.out t_110.«1» t_110.«3»).mono ?_
  rw [smallB_is, Au.small_step, show TwoV ([227, 130, 147, 107], []) = .returned (.tuple #[.string ⟨#[227, 130, 147, 107]⟩, .string ⟨#[]⟩]) from rfl]
  rintro e w5 ⟨rfl, hb⟩
  have HB5 := Lib.hid (HB4.out.trans (hb.mono HB4.out.size))
  have HA5 := Lib.hid (HA4.out.go H4.out hb)
  have H5 := Lib.hid (Nat.le_trans H4.out hb.size)
  clear hb
  go_wp2_with fail
  with_reducible refine (type_any N a smallB ⟨#[227, 130, 147, 227, 129, 130]⟩ [227, 130, 147, 227, 129, 130] w5 HA5.out H5.out t_227_130_147_227_129_130.«1» t_227_130_147_227_129_130.«4» (HT.out.keep HB5.out)).mono ?_
  rintro e w6 ⟨hty, hb⟩
  obtain ⟨r, hr, rfl⟩ := hty.2 (by decide +kernel) (by decide +kernel)
  rw [smallB_is] at hr
  obtain rfl := hr.eq Au.small_nna
  rw [show TypeE (some [110, 110, 97]) = .returned (.tuple #[.string ⟨#[110, 110, 97]⟩, .bool true]) from rfl]
  have HB6 := Lib.hid (HB5.out.trans (hb.mono HB5.out.size))
  have HA6 := Lib.hid (HA5.out.go H5.out hb)
  have H6 := Lib.hid (Nat.le_trans H5.out hb.size)
  clear hb hr hty
  go_wp2_with fail
  with_reducible refine (type_any N a smallB ⟨#[227, 130, 147]⟩ [227, 130, 147] w6 HA6.out H6.out t_227_130_147.«1» t_227_130_147.«4» (HT.out.keep HB6.out)).mono ?_
  rintro e w7 ⟨hty, hb⟩
  obtain ⟨r, hr, rfl⟩ := hty.2 (by decide +kernel) (by decide +kernel)
  rw [smallB_is] at hr
  obtain rfl := hr.eq Au.small_nn
  rw [show TypeE (some [110, 110]) = .returned (.tuple #[.string ⟨#[110, 110]⟩, .bool true]) from rfl]
  have HB7 := Lib.hid (HB6.out.trans (hb.mono HB6.out.size))
  have HA7 := Lib.hid (HA6.out.go H6.out hb)
  have H7 := Lib.hid (Nat.le_trans H6.out hb.size)
  clear hb hr hty
  go_wp2_with fail
  with_reducible refine (type_any N a smallB ⟨#[227, 129, 139]⟩ [227, 129, 139] w7 HA7.out H7.out t_227_129_139.«1» t_227_129_139.«4» (HT.out.keep HB7.out)).mono ?_
  rintro e w8 ⟨hty, hb⟩
  obtain ⟨r, hr, rfl⟩ := hty.2 (by decide +kernel) (by decide +kernel)
  rw [smallB_is] at hr
  obtain rfl := hr.eq Au.small_ka
  rw [show TypeE none = .returned (.tuple #[.string ⟨#[]⟩, .bool false]) from rfl]
  have HB8 := Lib.hid (HB7.out.trans (hb.mono HB7.out.size))
  have HA8 := Lib.hid (HA7.out.go H7.out hb)
  have H8 := Lib.hid (Nat.le_trans H7.out hb.size)
  clear hb hr hty
  go_wp2_with fail
  with_reducible refine (type_any N a smallB ⟨#[]⟩ [] w8 HA8.out H8.out t_e.«1» t_e.«4» (HT.out.keep HB8.out)).mono ?_
  rintro e w9 ⟨hty, hb⟩
  obtain ⟨r, hr, rfl⟩ := hty.2 (by decide +kernel) (by decide +kernel)
  rw [smallB_is] at hr
  obtain rfl := hr.eq Au.small_empty
  rw [show TypeE (some []) = .returned (.tuple #[.string ⟨#[]⟩, .bool true]) from rfl]
  have HB9 := Lib.hid (HB8.out.trans (hb.mono HB8.out.size))
  have HA9 := Lib.hid (HA8.out.go H8.out hb)
  have H9 := Lib.hid (Nat.le_trans H8.out hb.size)
  clear hb hr hty
  go_wp2_with fail
  with_reducible refine (works_any _ (HT.out.keep HB9.out)).mono ?_
  rintro e w10 ⟨rfl, hb⟩
  have HB10 := Lib.hid (HB9.out.trans (hb.mono HB9.out.size))
  have HA10 := Lib.hid (HA9.out.go H9.out hb)
  have H10 := Lib.hid (Nat.le_trans H9.out hb.size)
  clear hb
  go_wp2_with fail
  go_ret
  exact ⟨rfl, HB10.out⟩

theorem laidOut : laidOutB Tryd.prog = true := by kernel_rfl
set_option maxRecDepth 100000 in
theorem contract (H : Type) (enc : TypeId × Value → H) (W : World) (base : Nat) (args : Array Value) (ds gs : List (DataW H)) (before : List MemPlace)
    (hval : ∀ (j : Nat) t v, Tryd.f13.params[j]? = some t → args[j]? = some v → Value.okWide Tryd.prog W .any base t v)
    (hW : DataW.Whole enc Tryd.prog Tryd.f13.params.toList Rows.autoKnownSpec.vars false W args.toList ds gs before) (hL : laidMetH Tryd.prog Rows.autoKnownRow.laid W) (hS : W.ShapedOpen Tryd.prog)
    (hR : (DataW.weightsEach Tryd.prog (Tryd.f13.params.toList ++ (OpenSpec.ofChange Rows.autoKnownSpec).bare.plain.varTypes Tryd.prog) (ds ++ gs)).all (· ≤ reachBytes) = true) :
    Calls Tryd.prog 13 args W fun e W' => ∃ v, e = .returned v ∧ Rows.autoKnownSpec.post enc Tryd.prog Tryd.f13 false true false false W args v W' := by
  have hT : Tabs W := rtabs_of_laid hL hS
  have hW' := hW
  obtain ⟨p, q, hA0, hV, rfl, hfz, hnd⟩ := hW
  have hA : DataW.TrodAll enc Tryd.prog W 0 (fun _ => true) true Tryd.f13.params.toList args.toList ds p := hA0
  rw [Tryd.params13] at hA hval hR
  obtain ⟨hargs, rfl, rfl⟩ := trodAll_nil hA
  obtain rfl : args = #[] := by cases args; simp_all
  obtain ⟨rfl, rfl⟩ := trodVars_none hV
  clear hA0
  simp only [List.append_nil] at hW' hR
  refine (walk W hT).mono fun e W' ⟨he, bel⟩ => ?_
  subst he
  exact ⟨_, rfl, _, _, _, [], _, [], hW', trodAll_mk1 (shut_bool Tryd.underlying4 _), trodAll_mk0, rfl, bel.frame _, fun h => by cases h⟩

theorem reads (os : Os) {H : Type} (enc : TypeId × Value → H) : ∃ places, DataW.whole enc Tryd.prog ((laidWorldR os).forCall (fun _ _ => 0) ⟨#[], #[], []⟩).memory Tryd.f13.params.toList Rows.autoKnownSpec.vars false #[].toList 8 = some ([], [], places) :=
  ⟨[], by kernel_rfl⟩

set_option maxRecDepth 100000 in
theorem lifted (os : Os) (started : os.Started) (H : Type) (enc : TypeId × Value → H) (F : Stop.Interp) :
    ReturnsInHanded {} Tryd.checked os 13 .any ((OpenSpec.ofChange Rows.autoKnownSpec).preRow enc Tryd.prog Tryd.f13 Rows.autoKnownRow.domain false Rows.autoKnownRow.laid) (((OpenSpec.ofChange Rows.autoKnownSpec).at F).post enc Tryd.prog Tryd.f13 false true false false) := by
  obtain ⟨places, hx⟩ := reads os enc
  refine returnsInHanded_of_row (C := Tryd.checked) (s := (OpenSpec.ofChange Rows.autoKnownSpec)) own started (by kernel_rfl) Tryd.func13
    (witness_row_at (enc := enc) (C := Tryd.checked) false (laidWorldR os) #[] rfl (by kernel_rfl) (by kernel_rfl) (by kernel_rfl)
      (OpenSpec.preRow_of_cond 8 hx (by kernel_rfl) (fun k hk => by cases hk) (by kernel_rfl) (laid_metR os _))) ?_
  intro W base args ds gs before hval hW _ hcond hR hL hS _
  exact contract H enc W base args ds gs before hval hW hL hS hR

theorem said : Rows.AutoKnownSaid :=
  OpenClaim.holds_of_cond 13 Tryd.f13 rfl rfl rfl rfl rfl rfl rfl ⟨rfl, rfl, rfl, rfl, rfl⟩ rfl rfl rfl rfl rfl (by kernel_rfl) Tryd.func13 (by kernel_rfl)
    (of_decide_eq_true (by kernel_rfl)) (by unfold Func.isWrapper; first | (rw [if_pos (by decide +kernel)]; kernel_rfl) | (rw [if_neg (by decide +kernel)]; exact ⟨rfl, rfl⟩))
    (fun os started H enc _ F => by rw [OpenClaim.pre_eq_preRow]; exact lifted os started H enc F)

theorem plain (f : FuncId) (fn : Func) (hf : Tryd.pinned.checked.prog.funcNamed "henkan/henkanlaw06.AutoKnown" = some f) (hfn : Tryd.pinned.checked.prog.funcs[f]? = some fn) :
    false = Tryd.pinned.checked.prog.looks [] ∧ ∀ (j : Nat) t, fn.params[j]? = some t → Tryd.pinned.checked.prog.wantsStandIn t = false := by
  obtain rfl : f = 13 := Option.some.inj ((show Tryd.prog.funcNamed "henkan/henkanlaw06.AutoKnown" = some 13 by kernel_rfl).symm.trans hf) |>.symm
  obtain rfl : fn = Tryd.f13 := (Option.some.inj (Tryd.func13.symm.trans hfn)).symm
  refine ⟨by kernel_rfl, fun j t ht => ?_⟩
  rw [Tryd.params13] at ht
  simp at ht

/-- the card -/
theorem proved : Rows.AutoKnownCardSaid :=
  Claim7.holds_tied_plain_at .later [] _ _ _ _ said (fun _ h => by cases h) (by kernel_rfl) (fun _ h => by cases h) autoKnown_row_tie rfl ⟨rfl, rfl⟩ (by kernel_rfl) rfl plain (by kernel_rfl)
#print axioms proved
end Go.Proofs.YtdcpiabmgjajlaaDoor.autoKnown
