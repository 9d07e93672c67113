/-
  Over the twenty readings of the table special.Of and the reference list the same entries, and both work.
-/
import Derived.Test.YtnpkcobapckhdaaGreatDoorSpecAll
import Derived.Carry
import Derived.Laws.AppendOwnNone
namespace Go.Proofs.YtnpkcobapckhdaaGreatDoor.specialTable
open Go.ChangeShapes Go.WideShapes Go.ChangeAt Go.RowKit
open Go.ChangeMaps (open_string)
set_option linter.unusedVariables false

theorem wf_u8 {a : Int} (h : (Lit.int .u8 a).wf = true) : ∃ u : Nat, a = (u : Int) ∧ u ≤ 255 := by
  have hx : 0 ≤ a ∧ a ≤ 255 := by simpa [Lit.wf, IntKind.min, IntKind.max, IntKind.signed, IntKind.bits] using h
  exact ⟨a.toNat, by omega, by omega⟩
def tab : List ByteArray := [⟨#[227, 129, 141, 227, 130, 135, 227, 129, 134]⟩, ⟨#[227, 129, 130, 227, 129, 151, 227, 129, 159]⟩, ⟨#[227, 129, 130, 227, 129, 153]⟩, ⟨#[227, 129, 130, 227, 129, 149, 227, 129, 163, 227, 129, 166]⟩, ⟨#[227, 129, 141, 227, 129, 174, 227, 129, 134]⟩, ⟨#[227, 129, 138, 227, 129, 168, 227, 129, 168, 227, 129, 132]⟩, ⟨#[227, 130, 132, 227, 129, 152, 227, 130, 139, 227, 129, 151]⟩, ⟨#[227, 129, 187, 227, 129, 151]⟩, ⟨#[227, 129, 190, 227, 130, 139]⟩, ⟨#[227, 129, 149, 227, 130, 147, 227, 129, 139, 227, 129, 143]⟩, ⟨#[227, 129, 151, 227, 129, 139, 227, 129, 143]⟩, ⟨#[227, 129, 139, 227, 129, 163, 227, 129, 147]⟩, ⟨#[227, 129, 138, 227, 130, 147, 227, 129, 183]⟩, ⟨#[227, 129, 147, 227, 130, 129]⟩, ⟨#[227, 129, 139, 227, 130, 137]⟩, ⟨#[227, 129, 166, 227, 130, 147]⟩, ⟨#[227, 130, 134, 227, 129, 134, 227, 129, 179, 227, 130, 147]⟩, ⟨#[227, 129, 138, 227, 129, 170, 227, 129, 152]⟩, ⟨#[227, 129, 130, 227, 129, 149]⟩, ⟨#[227, 129, 187, 227, 129, 151, 227, 129, 132]⟩]
theorem tab_cell (w : World) (j : Nat) (hj : j < 20) : ∃ x, (w.alloc (.cells #[.string ⟨#[227, 129, 141, 227, 130, 135, 227, 129, 134]⟩, .string ⟨#[227, 129, 130, 227, 129, 151, 227, 129, 159]⟩, .string ⟨#[227, 129, 130, 227, 129, 153]⟩, .string ⟨#[227, 129, 130, 227, 129, 149, 227, 129, 163, 227, 129, 166]⟩, .string ⟨#[227, 129, 141, 227, 129, 174, 227, 129, 134]⟩, .string ⟨#[227, 129, 138, 227, 129, 168, 227, 129, 168, 227, 129, 132]⟩, .string ⟨#[227, 130, 132, 227, 129, 152, 227, 130, 139, 227, 129, 151]⟩, .string ⟨#[227, 129, 187, 227, 129, 151]⟩, .string ⟨#[227, 129, 190, 227, 130, 139]⟩, .string ⟨#[227, 129, 149, 227, 130, 147, 227, 129, 139, 227, 129, 143]⟩, .string ⟨#[227, 129, 151, 227, 129, 139, 227, 129, 143]⟩, .string ⟨#[227, 129, 139, 227, 129, 163, 227, 129, 147]⟩, .string ⟨#[227, 129, 138, 227, 130, 147, 227, 129, 183]⟩, .string ⟨#[227, 129, 147, 227, 130, 129]⟩, .string ⟨#[227, 129, 139, 227, 130, 137]⟩, .string ⟨#[227, 129, 166, 227, 130, 147]⟩, .string ⟨#[227, 130, 134, 227, 129, 134, 227, 129, 179, 227, 130, 147]⟩, .string ⟨#[227, 129, 138, 227, 129, 170, 227, 129, 152]⟩, .string ⟨#[227, 129, 130, 227, 129, 149]⟩, .string ⟨#[227, 129, 187, 227, 129, 151, 227, 129, 132]⟩] 9)).cell? ⟨w.heap.size, j, none⟩ = some (.string x) ∧ x.size ≤ 1000 := by
  obtain ⟨ao, cap, h, hc⟩ := (strs_new w tab _ 20 rfl rfl (by decide)).lies
  obtain ⟨g, rfl, hg⟩ := hc j hj
  injection h with h
  injection h with h
  injection h with h
  subst h
  exact ⟨_, hg, by have : ∀ x ∈ tab, x.size ≤ 1000 := by decide +kernel
                   rw [List.getD_eq_getElem?_getD, List.getElem?_eq_getElem (show j < tab.length from hj)]
                   exact this _ (List.getElem_mem _)⟩
set_option maxRecDepth 100000 in
set_option maxHeartbeats 4000000 in
theorem walk (w : World) (a : Int) (hwf : (Lit.int .u8 a).wf = true) (day : Int) (_ : (Lit.int .i64 day).wf = true) (ht : STabs w) :
    Calls Tryz.prog 4 #[.int .u8 a, .int .i64 day] w fun e w' => e = .returned (.bool true) ∧ Below w.heap.size w w' := by
  obtain ⟨k, rfl, hk⟩ := wf_u8 hwf
  obtain ⟨s, hg, hs⟩ := tab_cell w (k % 20) (by omega)
  have HB0 := Lib.hid ((Below.refl w.heap.size w).alloc (Nat.le_refl _) (.cells #[.string ⟨#[227, 129, 141, 227, 130, 135, 227, 129, 134]⟩, .string ⟨#[227, 129, 130, 227, 129, 151, 227, 129, 159]⟩, .string ⟨#[227, 129, 130, 227, 129, 153]⟩, .string ⟨#[227, 129, 130, 227, 129, 149, 227, 129, 163, 227, 129, 166]⟩, .string ⟨#[227, 129, 141, 227, 129, 174, 227, 129, 134]⟩, .string ⟨#[227, 129, 138, 227, 129, 168, 227, 129, 168, 227, 129, 132]⟩, .string ⟨#[227, 130, 132, 227, 129, 152, 227, 130, 139, 227, 129, 151]⟩, .string ⟨#[227, 129, 187, 227, 129, 151]⟩, .string ⟨#[227, 129, 190, 227, 130, 139]⟩, .string ⟨#[227, 129, 149, 227, 130, 147, 227, 129, 139, 227, 129, 143]⟩, .string ⟨#[227, 129, 151, 227, 129, 139, 227, 129, 143]⟩, .string ⟨#[227, 129, 139, 227, 129, 163, 227, 129, 147]⟩, .string ⟨#[227, 129, 138, 227, 130, 147, 227, 129, 183]⟩, .string ⟨#[227, 129, 147, 227, 130, 129]⟩, .string ⟨#[227, 129, 139, 227, 130, 137]⟩, .string ⟨#[227, 129, 166, 227, 130, 147]⟩, .string ⟨#[227, 130, 134, 227, 129, 134, 227, 129, 179, 227, 130, 147]⟩, .string ⟨#[227, 129, 138, 227, 129, 170, 227, 129, 152]⟩, .string ⟨#[227, 129, 130, 227, 129, 149]⟩, .string ⟨#[227, 129, 187, 227, 129, 151, 227, 129, 132]⟩] 9))
  have HT0 := Lib.hid ht
  have HT := Lib.hid (ht.keep HB0.out)
  have HI := Lib.hid (Is.of s)
  obtain ⟨l, hl⟩ : ∃ l, l = s.data.toList := ⟨_, rfl⟩
  rw [← hl] at HI
  have HLEN := Lib.hid (ofL_len l day)
  clear hl ht
  go_enter Tryz.func4, Tryz.ntmps4
  go_wp2_with fail
  with_reducible refine (of_any s l day _ HI.out (by omega) HT.out).mono ?_
  rintro e w1 ⟨v1, xs1, hm1, hx1, rfl, hb⟩
  have HM1 := Eqv2.mk hm1
  have HX1 := Lib.hid hx1.lies
  have HB1 := Lib.hid (HB0.out.trans (hb.mono HB0.out.size))
  have hl1 : xs1.length ≤ 40 := by have := HLEN.out; rw [← hm1, List.length_map] at this; exact this
  clear hm1 hx1 hb
  go_wp2_with fail
  with_reducible refine (rof_any s l day _ HI.out (by omega)).mono ?_
  rintro e w2 ⟨v2, xs2, hm2, hx2, rfl, hb⟩
  obtain rfl := bas_inj (hm2.trans HM1.out.symm)
  have HX2 := Lib.hid hx2.lies
  have HX1b := Lib.hid (HX1.out.below hb (Nat.le_refl _))
  have HB2 := Lib.hid (HB1.out.trans (hb.mono HB1.out.size))
  clear hm2 hx2 hb
  go_wp2_with fail
  with_reducible refine (same20_yes v1 v2 xs2 _ HX1b.out HX2.out (by omega)).mono ?_
  rintro e w3 ⟨rfl, hb⟩
  have HB3 := Lib.hid (HB2.out.trans (hb.mono HB2.out.size))
  have HT3 := Lib.hid (HT0.out.keep HB3.out)
  clear hb
  go_wp2_with fail
  with_reducible refine (sworks_any _ HT3.out).mono ?_
  rintro e w4 ⟨rfl, hb⟩
  have HB4 := Lib.hid (HB3.out.trans (hb.mono HB3.out.size))
  clear hb
  go_wp2_with fail
  go_ret
  exact ⟨rfl, HB4.out⟩

theorem laidOut : laidOutB Tryz.prog = true := by kernel_rfl
set_option maxRecDepth 100000 in
theorem contract (H : Type) (enc : TypeId × Value → H) (W : World) (base : Nat) (args : Array Value) (ds gs : List (DataW H)) (before : List MemPlace)
    (hval : ∀ (j : Nat) t v, Tryz.f4.params[j]? = some t → args[j]? = some v → Value.okWide Tryz.prog W .any base t v)
    (hW : DataW.Whole enc Tryz.prog Tryz.f4.params.toList Rows.specialTableSpec.vars false W args.toList ds gs before) (hL : laidMetH Tryz.prog Rows.specialTableRow.laid W) (hS : W.ShapedOpen Tryz.prog)
    (hR : (DataW.weightsEach Tryz.prog (Tryz.f4.params.toList ++ (OpenSpec.ofChange Rows.specialTableSpec).bare.plain.varTypes Tryz.prog) (ds ++ gs)).all (· ≤ reachBytes) = true) :
    Calls Tryz.prog 4 args W fun e W' => ∃ v, e = .returned v ∧ Rows.specialTableSpec.post enc Tryz.prog Tryz.f4 false true false false W args v W' := by
  have hT : STabs W := stabs_of_laid hL hS
  have hW' := hW
  obtain ⟨p, q, hA0, hV, rfl, hfz, hnd⟩ := hW
  have hA : DataW.TrodAll enc Tryz.prog W 0 (fun _ => true) true Tryz.f4.params.toList args.toList ds p := hA0
  rw [Tryz.params4] at hA hval hR
  obtain ⟨v0, vs0, d0, ds0, p0, q0, hargs, rfl, rfl, h0, r0⟩ := trodAll_cons hA
  obtain ⟨v1, vs1, d1, ds1, p1, q1, rfl, rfl, rfl, h1, r1⟩ := trodAll_cons r0
  obtain ⟨rfl, rfl, rfl⟩ := trodAll_nil r1
  obtain rfl : args = #[v0, v1] := by cases args; simp_all
  obtain ⟨rfl, rfl⟩ := trodVars_none hV
  clear hA0
  simp only [List.append_nil] at hW' hR
  have k0 := h0
  have l0 : ∀ x ∈ p0, x.block < W.heap.size := fun x hx => by simpa using hW'.lt x (by simp [hx])
  have k1 := h1
  have l1 : ∀ x ∈ p1, x.block < W.heap.size := fun x hx => by simpa using hW'.lt x (by simp [hx])
  obtain ⟨a0, rfl, rfl, rfl, w0⟩ := open_int Tryz.underlying5 (hval 0 5 v0 rfl rfl) h0
  obtain ⟨a1, rfl, rfl, rfl, w1⟩ := open_int Tryz.underlying3 (hval 1 3 v1 rfl rfl) h1
  refine (walk W a0 w0 a1 w1 hT).mono fun e W' ⟨he, bel⟩ => ?_
  subst he
  exact ⟨_, rfl, _, _, _, [], _, [], hW', trodAll_mk1 (shut_bool Tryz.underlying4 _), (trodAll_cons_mk (Below.trod laidOut (by kernel_rfl) (of_decide_eq_true (by kernel_rfl)) k0 bel l0) (trodAll_cons_mk (Below.trod laidOut (by kernel_rfl) (of_decide_eq_true (by kernel_rfl)) k1 bel l1) trodAll_mk0)), rfl, bel.frame _, fun h => by cases h⟩

theorem reads (os : Os) {H : Type} (enc : TypeId × Value → H) : ∃ places, DataW.whole enc Tryz.prog ((laidWorldS os).forCall (fun _ _ => 0) ⟨#[], #[.int .u8 0, .int .i64 0], []⟩).memory Tryz.f4.params.toList Rows.specialTableSpec.vars false #[.int .u8 0, .int .i64 0].toList 8 = some ([.lit (.int .u8 0), .lit (.int .i64 0)], [], places) :=
  ⟨[], by kernel_rfl⟩

set_option maxRecDepth 100000 in
theorem lifted (os : Os) (started : os.Started) (H : Type) (enc : TypeId × Value → H) (F : Stop.Interp) :
    ReturnsInHanded {} Tryz.checked os 4 .any ((OpenSpec.ofChange Rows.specialTableSpec).preRow enc Tryz.prog Tryz.f4 Rows.specialTableRow.domain false Rows.specialTableRow.laid) (((OpenSpec.ofChange Rows.specialTableSpec).at F).post enc Tryz.prog Tryz.f4 false true false false) := by
  obtain ⟨places, hx⟩ := reads os enc
  refine returnsInHanded_of_row (C := Tryz.checked) (s := (OpenSpec.ofChange Rows.specialTableSpec)) own started (by kernel_rfl) Tryz.func4
    (witness_row_at (enc := enc) (C := Tryz.checked) false (laidWorldS os) #[.int .u8 0, .int .i64 0] rfl (by kernel_rfl) (by kernel_rfl) (by kernel_rfl)
      (OpenSpec.preRow_of_cond 8 hx (by kernel_rfl) (fun k hk => by cases hk) (by kernel_rfl) (laid_metS os _))) ?_
  intro W base args ds gs before hval hW _ hcond hR hL hS _
  exact contract H enc W base args ds gs before hval hW hL hS hR

theorem said : Rows.SpecialTableSaid :=
  OpenClaim.holds_of_cond 4 Tryz.f4 rfl rfl rfl rfl rfl rfl rfl ⟨rfl, rfl, rfl, rfl, rfl⟩ rfl rfl rfl rfl rfl (by kernel_rfl) Tryz.func4 (by kernel_rfl)
    (of_decide_eq_true (by kernel_rfl)) (by unfold Func.isWrapper; first | (rw [if_pos (by decide +kernel)]; kernel_rfl) | (rw [if_neg (by decide +kernel)]; exact ⟨rfl, rfl⟩))
    (fun os started H enc _ F => by rw [OpenClaim.pre_eq_preRow]; exact lifted os started H enc F)

theorem plain (f : FuncId) (fn : Func) (hf : Tryz.pinned.checked.prog.funcNamed "henkan/henkanlaw20.SpecialTable" = some f) (hfn : Tryz.pinned.checked.prog.funcs[f]? = some fn) :
    true = Tryz.pinned.checked.prog.looks [] ∧ ∀ (j : Nat) t, fn.params[j]? = some t → Tryz.pinned.checked.prog.wantsStandIn t = false := by
  obtain rfl : f = 4 := Option.some.inj ((show Tryz.prog.funcNamed "henkan/henkanlaw20.SpecialTable" = some 4 by kernel_rfl).symm.trans hf) |>.symm
  obtain rfl : fn = Tryz.f4 := (Option.some.inj (Tryz.func4.symm.trans hfn)).symm
  refine ⟨by kernel_rfl, fun j t ht => ?_⟩
  rw [Tryz.params4] at ht
  have hm := Array.mem_of_getElem? ht
  simp only [List.mem_toArray, List.mem_cons, List.not_mem_nil, or_false] at hm
  rcases hm with rfl | rfl
  · exact (show Tryz.prog.wantsStandIn 5 = false by kernel_rfl)
  · exact (show Tryz.prog.wantsStandIn 3 = false by kernel_rfl)

/-- the card -/
theorem proved : Rows.SpecialTableCardSaid :=
  Claim7.holds_tied_plain_at .later [] _ _ _ _ said (fun _ h => by cases h) (by kernel_rfl) (fun _ h => by cases h) specialTable_row_tie rfl ⟨rfl, rfl⟩ (by kernel_rfl) rfl plain (by kernel_rfl)
#print axioms proved
end Go.Proofs.YtnpkcobapckhdaaGreatDoor.specialTable
