/-
  henkanlaw03.NumeralBack answers true for every slice of bytes: what is written for a number is read back. No condition but what the row lists.
-/
import Derived.Test.YtcgfcedlllmbhaaDoorLawOpen
import Derived.Carry
namespace Go.Proofs.YtcgfcedlllmbhaaDoor.numeralBack
open Go.ChangeShapes Go.WideShapes Go.ChangeAt Go.RowKit
open Go.ChangeMaps (open_string)
set_option linter.unusedVariables false

set_option maxRecDepth 100000 in
set_option maxHeartbeats 4000000 in
theorem walk (w : World) (ao : Option Addr) (n c : Nat) (bs : List UInt8) (hn : bs.length = n) (h9 : n ≤ 9223372036854775807) (hc : ∀ k, k < n → ∃ g o, ao = some ⟨g, o, none⟩ ∧ w.cell? ⟨g, o + k, none⟩ = some (.int .u8 ((bs.getD k 0).toNat : Int))) (ht : Tabs w) :
    Calls Tryd.prog 5 #[.slice ao n c] w fun e w' => e = .returned (.bool true) ∧ Below w.heap.size w w' := by
  have HT := Lib.hid ht
  have HN := Lib.hid hn
  have HC := Lib.hid hc
  obtain ⟨l, hl⟩ : ∃ l, Num.number bs = l := ⟨_, rfl⟩
  have hv : Num.valid l = true := by rw [← hl]; exact Num.number_valid bs
  have hlen := ((Num.valid_iff l).1 hv).2.1
  have HL := Lib.hid hl
  have HV := Lib.hid hv
  clear ht hn hc hl hv
  go_enter Tryd.func5, Tryd.ntmps5
  go_wp2_with fail
  refine (number_any ao n c bs _ HN.out h9 HC.out).mono ?_
  rintro e w1 ⟨⟨d, hd, rfl⟩, hb1⟩
  rw [HL.out] at hd
  have hd9 : d.size ≤ 20 := by rw [hd.size]; exact hlen
  have HD := Lib.hid hd
  have HB1 := Lib.hid hb1
  have HT1 := Lib.hid (HT.out.keep hb1)
  clear hd hb1
  go_wp2_with fail
  refine (kanji_any d l _ HD.out (by omega) HT1.out).mono ?_
  rintro e w2 ⟨a2, ha2, rfl, hb2⟩
  have z2 : a2.size ≤ 180 := by rw [ha2.size]; exact wrt_len false l
  have e2 := Lib.hid (show Is a2 (Num.writ false l) by have := ha2; unfold wrt at this; rwa [if_pos HV.out] at this)
  have HB2 := Lib.hid (HB1.out.trans (hb2.mono HB1.out.size))
  have HT2 := Lib.hid (HT1.out.keep hb2)
  clear ha2 hb2
  go_wp2_with fail
  refine (positional_any d l _ HD.out (by omega) HT2.out).mono ?_
  rintro e w3 ⟨a3, ha3, rfl, hb3⟩
  have e3 := Lib.hid (show Is a3 (Num.pos l) by rwa [if_pos HV.out] at ha3)
  have z3 : a3.size ≤ 60 := by rw [e3.out.size]; have := Num.pos_len l; omega
  have HB3 := Lib.hid (HB2.out.trans (hb3.mono HB2.out.size))
  have HT3 := Lib.hid (HT2.out.keep hb3)
  clear ha3 hb3
  go_wp2_with fail
  refine (formal_any d l _ HD.out (by omega) HT3.out).mono ?_
  rintro e w4 ⟨a4, ha4, rfl, hb4⟩
  have z4 : a4.size ≤ 180 := by rw [ha4.size]; exact wrt_len true l
  have e4 := Lib.hid (show Is a4 (Num.writ true l) by have := ha4; unfold wrt at this; rwa [if_pos HV.out] at this)
  have HB4 := Lib.hid (HB3.out.trans (hb4.mono HB3.out.size))
  have HT4 := Lib.hid (HT3.out.keep hb4)
  clear ha4 hb4
  go_wp2_with fail
  refine (parse_any a2 (Num.writ false l) _ e2.out (by omega) HT4.out).mono ?_
  rintro e w5 ⟨x5, hx5, rfl, hb5⟩
  rw [Num.ref_writ false l HV.out] at hx5
  rw [Num.ref_writ false l HV.out]
  have hxd : d = x5 := HD.out.eq hx5
  subst hxd
  have HB5 := Lib.hid (HB4.out.trans (hb5.mono HB4.out.size))
  have HT5 := Lib.hid (HT4.out.keep hb5)
  clear hx5 hb5
  go_wp2_with fail
  refine (parse_any a3 (Num.pos l) _ e3.out (by omega) HT5.out).mono ?_
  rintro e w6 ⟨x6, hx6, rfl, hb6⟩
  rw [Num.ref_pos l HV.out] at hx6
  rw [Num.ref_pos l HV.out]
  have hxd : d = x6 := HD.out.eq hx6
  subst hxd
  have HB6 := Lib.hid (HB5.out.trans (hb6.mono HB5.out.size))
  have HT6 := Lib.hid (HT5.out.keep hb6)
  clear hx6 hb6
  go_wp2_with fail
  refine (parse_any a4 (Num.writ true l) _ e4.out (by omega) HT6.out).mono ?_
  rintro e w7 ⟨x7, hx7, rfl, hb7⟩
  rw [Num.ref_writ true l HV.out] at hx7
  rw [Num.ref_writ true l HV.out]
  have hxd : d = x7 := HD.out.eq hx7
  subst hxd
  have HB7 := Lib.hid (HB6.out.trans (hb7.mono HB6.out.size))
  have HT7 := Lib.hid (HT6.out.keep hb7)
  clear hx7 hb7
  go_wp2_with fail
  refine (works_any _ HT7.out).mono ?_
  rintro e w8 ⟨rfl, hb8⟩
  have HB8 := Lib.hid (HB7.out.trans (hb8.mono HB7.out.size))
  clear hb8
  go_wp2_with fail
  go_ret
  exact ⟨rfl, HB8.out⟩

theorem laidOut : laidOutB Tryd.prog = true := by kernel_rfl
theorem contract (H : Type) (enc : TypeId × Value → H) (W : World) (base : Nat) (args : Array Value) (ds gs : List (DataW H)) (before : List MemPlace)
    (hval : ∀ (j : Nat) t v, Tryd.f5.params[j]? = some t → args[j]? = some v → Value.okWide Tryd.prog W .any base t v)
    (hW : DataW.Whole enc Tryd.prog Tryd.f5.params.toList Rows.numeralBackSpec.vars false W args.toList ds gs before) (hL : laidMetH Tryd.prog Rows.numeralBackRow.laid W)
    (hR : (DataW.weightsEach Tryd.prog (Tryd.f5.params.toList ++ (OpenSpec.ofChange Rows.numeralBackSpec).bare.plain.varTypes Tryd.prog) (ds ++ gs)).all (· ≤ reachBytes) = true) :
    Calls Tryd.prog 5 args W fun e W' => ∃ v, e = .returned v ∧ Rows.numeralBackSpec.post enc Tryd.prog Tryd.f5 false true false false W args v W' := by
  have hT : Tabs W := tabs_of_laid hL
  have hW' := hW
  obtain ⟨p, q, hA0, hV, rfl, hfz, hnd⟩ := hW
  have hA : DataW.TrodAll enc Tryd.prog W 0 (fun _ => true) true Tryd.f5.params.toList args.toList ds p := hA0
  rw [Tryd.params5] at hA hval hR
  obtain ⟨v0, vs0, d0, ds0, p0, q0, hargs, rfl, rfl, h0, r0⟩ := trodAll_cons hA
  obtain ⟨rfl, rfl, rfl⟩ := trodAll_nil r0
  obtain rfl : args = #[v0] := by cases args; simp_all
  obtain ⟨rfl, rfl⟩ := trodVars_none hV
  clear hA0
  simp only [List.append_nil] at hW' hR
  have k0 := h0
  have l0 : ∀ x ∈ p0, x.block < W.heap.size := fun x hx => by simpa using hW'.lt x (by simp [hx])
  obtain ⟨ao0, n0, c0, bs0, rfl, hn0, hm0, hc0⟩ := open_u8s (hval 0 26 v0 rfl rfl) h0
  refine (walk W ao0 n0 c0 bs0 hn0 hm0 hc0 hT).mono fun e W' ⟨he, bel⟩ => ?_
  subst he
  exact ⟨_, rfl, _, _, _, [], _, [], hW', trodAll_mk1 (shut_bool Tryd.underlying4 _), (trodAll_cons_mk (Below.trod laidOut (by kernel_rfl) (of_decide_eq_true (by kernel_rfl)) k0 bel l0) trodAll_mk0), rfl, bel.frame _, fun h => by cases h⟩

theorem reads (os : Os) {H : Type} (enc : TypeId × Value → H) : ∃ places, DataW.whole enc Tryd.prog ((laidWorld os).forCall (fun _ _ => 0) ⟨#[], #[.slice none 0 0], []⟩).memory Tryd.f5.params.toList Rows.numeralBackSpec.vars false #[.slice none 0 0].toList 8 = some ([.nil], [], places) :=
  ⟨[], by kernel_rfl⟩

set_option maxRecDepth 100000 in
theorem lifted (os : Os) (started : os.Started) (H : Type) (enc : TypeId × Value → H) (F : Stop.Interp) :
    ReturnsInHanded {} Tryd.checked os 5 .any ((OpenSpec.ofChange Rows.numeralBackSpec).preRow enc Tryd.prog Tryd.f5 Rows.numeralBackRow.domain false Rows.numeralBackRow.laid) (((OpenSpec.ofChange Rows.numeralBackSpec).at F).post enc Tryd.prog Tryd.f5 false true false false) := by
  obtain ⟨places, hx⟩ := reads os enc
  refine returnsInHanded_of_row (C := Tryd.checked) (s := OpenSpec.ofChange Rows.numeralBackSpec) own started (by kernel_rfl) Tryd.func5
    (witness_row_at (enc := enc) (C := Tryd.checked) false (laidWorld os) #[.slice none 0 0] rfl (by kernel_rfl) (by kernel_rfl) (by kernel_rfl)
      (OpenSpec.preRow_of_cond 8 hx (by kernel_rfl) (fun k hk => by cases hk) (by kernel_rfl) (laid_met os _))) ?_
  intro W base args ds gs before hval hW _ _ hR hL _ _
  exact contract H enc W base args ds gs before hval hW hL hR

theorem said : Rows.NumeralBackSaid :=
  OpenClaim.holds_of_cond 5 Tryd.f5 rfl rfl rfl rfl rfl rfl rfl ⟨rfl, rfl, rfl, rfl, rfl⟩ rfl rfl rfl rfl rfl (by kernel_rfl) Tryd.func5 (by kernel_rfl)
    (of_decide_eq_true (by kernel_rfl)) (by unfold Func.isWrapper; first | (rw [if_pos (by decide +kernel)]; kernel_rfl) | (rw [if_neg (by decide +kernel)]; exact ⟨rfl, rfl⟩))
    (fun os started H enc _ F => by rw [OpenClaim.pre_eq_preRow]; exact lifted os started H enc F)

theorem plain (f : FuncId) (fn : Func) (hf : Tryd.pinned.checked.prog.funcNamed "henkan/henkanlaw03.NumeralBack" = some f) (hfn : Tryd.pinned.checked.prog.funcs[f]? = some fn) :
    false = Tryd.pinned.checked.prog.looks [] ∧ ∀ (j : Nat) t, fn.params[j]? = some t → Tryd.pinned.checked.prog.wantsStandIn t = false := by
  obtain rfl : f = 5 := Option.some.inj ((show Tryd.prog.funcNamed "henkan/henkanlaw03.NumeralBack" = some 5 by kernel_rfl).symm.trans hf) |>.symm
  obtain rfl : fn = Tryd.f5 := (Option.some.inj (Tryd.func5.symm.trans hfn)).symm
  refine ⟨by kernel_rfl, fun j t ht => ?_⟩
  rw [Tryd.params5] at ht
  have hm := Array.mem_of_getElem? ht
  simp only [List.mem_toArray, List.mem_cons, List.not_mem_nil, or_false] at hm
  subst hm
  exact (show Tryd.prog.wantsStandIn 26 = false by kernel_rfl)

/-- the card -/
theorem proved : Rows.NumeralBackCardSaid :=
  Claim7.holds_tied_plain_at .later [] _ _ _ _ said (fun _ h => by cases h) (by kernel_rfl) (fun _ h => by cases h) numeralBack_row_tie rfl ⟨rfl, rfl⟩ (by kernel_rfl) rfl plain (by kernel_rfl)
#print axioms proved
end Go.Proofs.YtcgfcedlllmbhaaDoor.numeralBack
