/-
  henkanlaw03.NumeralCommas answers true for every slice of bytes. No condition but what the row lists.
-/
import Derived.Test.YtcgfcedlllmbhaaDoorLawOpen
import Derived.Carry
namespace Go.Proofs.YtcgfcedlllmbhaaDoor.numeralCommas
open Go.ChangeShapes Go.WideShapes Go.ChangeAt Go.RowKit
open Go.ChangeMaps (open_string)
set_option linter.unusedVariables false

theorem drop_cons {l : List UInt8} {k : Nat} {x : UInt8} (h : l[k]? = some x) : l.drop k = x :: l.drop (k + 1) := by
  have hk : k < l.length := by
    rcases Nat.lt_or_ge k l.length with h' | h'
    · exact h'
    · rw [List.getElem?_eq_none h'] at h; cases h
  rw [List.drop_eq_getElem_cons hk]
  congr 1
  rw [List.getElem?_eq_getElem hk] at h
  exact Option.some.inj h
theorem cut_one {t : ByteArray} {l : List UInt8} (h : Is t l) (k : Nat) (x : UInt8) (hx : l[k]? = some x) : Is (t.extract k (k + 1)) [x] := by
  unfold Is at *
  rw [Lib.extract_data, h, show k + 1 - k = 1 by omega, drop_cons hx]
  rfl
set_option maxRecDepth 100000 in
set_option maxHeartbeats 4000000 in
theorem walk (w : World) (ao : Option Addr) (n c : Nat) (bs : List UInt8) (hn : bs.length = n) (h9 : n ≤ 9223372036854775807) (hc : ∀ k, k < n → ∃ g o, ao = some ⟨g, o, none⟩ ∧ w.cell? ⟨g, o + k, none⟩ = some (.int .u8 ((bs.getD k 0).toNat : Int))) (ht : Tabs w) :
    Calls Tryd.prog 8 #[.slice ao n c] w fun e w' => e = .returned (.bool true) ∧ Below w.heap.size w w' := by
  have HT := Lib.hid ht
  have HN := Lib.hid hn
  have HC := Lib.hid hc
  obtain ⟨l, hl⟩ : ∃ l, Num.number bs = l := ⟨_, rfl⟩
  have hv : Num.valid l = true := by rw [← hl]; exact Num.number_valid bs
  have hlen := ((Num.valid_iff l).1 hv).2.1
  have HL := Lib.hid hl
  have HV := Lib.hid hv
  have CS := Lib.hid (Num.cs_com l ((Num.valid_iff l).1 hv).2.2.1 ((Num.valid_iff l).1 hv).1)
  clear ht hn hc hl hv
  go_enter Tryd.func8, Tryd.ntmps8
  go_wp2_with fail
  refine (number_any ao n c bs _ HN.out h9 HC.out).mono ?_
  rintro e w1 ⟨⟨d, hd, rfl⟩, hb1⟩
  rw [HL.out] at hd
  have hd9 : d.size ≤ 20 := by rw [hd.size]; exact hlen
  have HD := Lib.hid hd
  have HB1 := Lib.hid hb1
  have HT1 := Lib.hid (HT.out.keep hb1)
  clear hd hb1
  go_wp2_with fail
  refine (commas_any d l _ HD.out (by omega)).mono ?_
  rintro e w2 ⟨a, ha, rfl, hb2⟩
  rw [HV.out]
  have HA := Lib.hid (show Is a (Num.com true l) by rwa [if_pos HV.out] at ha)
  have haz : a.size ≤ 40 := by rw [HA.out.size]; have := Num.com_len true l; omega
  have HB2 := Lib.hid (HB1.out.trans (hb2.mono HB1.out.size))
  have HT2 := Lib.hid (HT1.out.keep hb2)
  clear ha hb2
  go_wp2_with fail
  go_loop [6, 7, 8, 19] (fun sv rv fv iv => ∃ (k : Nat) (s0 : List UInt8) (r0 : Nat) (f0 : Bool) (t : ByteArray), k ≤ a.size ∧ iv = .int .i64 k ∧ sv = .string t ∧ rv = .int .i64 r0 ∧ fv = .bool f0 ∧ Is t s0 ∧ s0.length ≤ k ∧ r0 ≤ k ∧ Num.csOk ((Num.com true l).drop k) ⟨s0, r0, f0⟩ = true ∧ Num.CSEnd l (((Num.com true l).drop k).foldl Num.csStep ⟨s0, r0, f0⟩)) (fun _ _ _ iv => a.size - (intOf iv).toNat)
  case atStart => exact ⟨0, [], 0, true, ⟨#[]⟩, by omega, rfl, rfl, rfl, rfl, Is.mk [], by simp, by omega, CS.out.1, CS.out.2⟩
  case round =>
    obtain ⟨k, s0, r0, f0, t, hk, rfl, rfl, rfl, rfl, htt, hsk, hrk, hok, hend⟩ := hrel
    have HTT := Lib.hid htt
    have htz : t.size ≤ k := by rw [htt.size]; exact hsk
    have HOK := Lib.hid hok
    have HEND := Lib.hid hend
    clear htt hok hend
    by_cases hlt : k < a.size
    · have HG := Lib.hid (HA.out.get k hlt)
      have HDR := Lib.hid (drop_cons (HA.out.get k hlt))
      have HCUT := Lib.hid (cut_one HA.out k _ (HA.out.get k hlt))
      have hcz : (a.extract k (k + 1)).size ≤ 1 := by rw [HCUT.out.size]; simp
      obtain ⟨x, hx⟩ : ∃ x, a[k] = x := ⟨_, rfl⟩
      have hok2 : Num.csBad ⟨s0, r0, f0⟩ x = false ∧ Num.csOk ((Num.com true l).drop (k + 1)) (Num.csStep ⟨s0, r0, f0⟩ x) = true := by
        have h := HOK.out
        rw [HDR.out, hx, Num.csOk, Bool.and_eq_true, Bool.not_eq_true'] at h
        exact h
      have hend2 : Num.CSEnd l (((Num.com true l).drop (k + 1)).foldl Num.csStep (Num.csStep ⟨s0, r0, f0⟩ x)) := by
        have h := HEND.out
        rw [HDR.out, hx, List.foldl_cons] at h
        exact h
      obtain ⟨hbad, hok3⟩ := hok2
      by_cases h44 : x = 44
      · have hx44 : ((a[k].toNat : Int) != 44) = false := by rw [hx, h44]; rfl
        have hst : Num.csStep ⟨s0, r0, f0⟩ x = ⟨s0, 0, false⟩ := by unfold Num.csStep; rw [if_neg (by simpa using h44)]
        rw [hst] at hok3 hend2
        have HOK3 := Lib.hid hok3
        have HEND2 := Lib.hid hend2
        have hr : 1 ≤ r0 ∧ r0 ≤ 3 ∧ (f0 = true ∨ r0 = 3) := by
          rw [h44] at hbad
          unfold Num.csBad at hbad
          simp at hbad
          refine ⟨by omega, by omega, ?_⟩
          cases f0
          · right; have := hbad.2; simpa using this
          · left; rfl
        obtain ⟨hr1, hr2, hr3⟩ := hr
        clear hx hok3 hend2 hst hbad h44
        rcases hr3 with rfl | rfl
        · go_wp2_with fail
          go_round
          case rel => exact ⟨k + 1, s0, 0, false, t, by omega, by go_num, rfl, rfl, rfl, HTT.out, by omega, by omega, HOK3.out, HEND2.out⟩
          case measure => simp [intOf]; omega
        · cases f0
          · go_wp2_with fail
            go_round
            case rel => exact ⟨k + 1, s0, 0, false, t, by omega, by go_num, rfl, rfl, rfl, HTT.out, by omega, by omega, HOK3.out, HEND2.out⟩
            case measure => simp [intOf]; omega
          · go_wp2_with fail
            go_round
            case rel => exact ⟨k + 1, s0, 0, false, t, by omega, by go_num, rfl, rfl, rfl, HTT.out, by omega, by omega, HOK3.out, HEND2.out⟩
            case measure => simp [intOf]; omega
      · have hx44 : ((a[k].toNat : Int) != 44) = true := by
          rw [hx, bne_iff_ne]; intro e; apply h44; apply UInt8.toNat_inj.1
          have : (44 : UInt8).toNat = 44 := rfl
          omega
        have hst : Num.csStep ⟨s0, r0, f0⟩ x = ⟨s0 ++ [x], r0 + 1, f0⟩ := by unfold Num.csStep; rw [if_pos h44]
        rw [hst, ← hx] at hok3 hend2
        have HOK3 := Lib.hid hok3
        have HEND2 := Lib.hid hend2
        clear hx hok3 hend2 hst hbad h44
        go_wp2_with fail
        go_round
        case rel => exact ⟨k + 1, s0 ++ [a[k]], r0 + 1, f0, _, by omega, by go_num, rfl, by go_num, rfl, HTT.out.append HCUT.out, by rw [List.length_append]; simp; exact hsk, by omega, HOK3.out, HEND2.out⟩
        case measure => simp [intOf]; omega
    · have hke : k = a.size := by omega
      have hE : Num.CSEnd l ⟨s0, r0, f0⟩ := by
        have h := HEND.out
        rw [List.drop_eq_nil_of_le (by have := HA.out.size; omega)] at h
        exact h
      obtain ⟨he1, he2, he3, he4⟩ := hE
      simp only at he1 he2 he3 he4
      subst he1
      obtain rfl : t = d := HTT.out.eq HD.out
      clear hke
      cases f0
      · have h3 : r0 = 3 := he4 rfl
        subst h3
        clear he4
        go_wp2_with fail
        refine (works_any _ HT2.out).mono ?_
        rintro e w3 ⟨rfl, hb3⟩
        have HB3 := Lib.hid (HB2.out.trans (hb3.mono HB2.out.size))
        clear hb3
        go_wp2_with fail
        go_ret
        exact ⟨rfl, HB3.out⟩
      · clear he4
        go_wp2_with fail
        refine (works_any _ HT2.out).mono ?_
        rintro e w3 ⟨rfl, hb3⟩
        have HB3 := Lib.hid (HB2.out.trans (hb3.mono HB2.out.size))
        clear hb3
        go_wp2_with fail
        go_ret
        exact ⟨rfl, HB3.out⟩

theorem laidOut : laidOutB Tryd.prog = true := by kernel_rfl
theorem contract (H : Type) (enc : TypeId × Value → H) (W : World) (base : Nat) (args : Array Value) (ds gs : List (DataW H)) (before : List MemPlace)
    (hval : ∀ (j : Nat) t v, Tryd.f8.params[j]? = some t → args[j]? = some v → Value.okWide Tryd.prog W .any base t v)
    (hW : DataW.Whole enc Tryd.prog Tryd.f8.params.toList Rows.numeralCommasSpec.vars false W args.toList ds gs before) (hL : laidMetH Tryd.prog Rows.numeralCommasRow.laid W)
    (hR : (DataW.weightsEach Tryd.prog (Tryd.f8.params.toList ++ (OpenSpec.ofChange Rows.numeralCommasSpec).bare.plain.varTypes Tryd.prog) (ds ++ gs)).all (· ≤ reachBytes) = true) :
    Calls Tryd.prog 8 args W fun e W' => ∃ v, e = .returned v ∧ Rows.numeralCommasSpec.post enc Tryd.prog Tryd.f8 false true false false W args v W' := by
  have hT : Tabs W := tabs_of_laid hL
  have hW' := hW
  obtain ⟨p, q, hA0, hV, rfl, hfz, hnd⟩ := hW
  have hA : DataW.TrodAll enc Tryd.prog W 0 (fun _ => true) true Tryd.f8.params.toList args.toList ds p := hA0
  rw [Tryd.params8] at hA hval hR
  obtain ⟨v0, vs0, d0, ds0, p0, q0, hargs, rfl, rfl, h0, r0⟩ := trodAll_cons hA
  obtain ⟨rfl, rfl, rfl⟩ := trodAll_nil r0
  obtain rfl : args = #[v0] := by cases args; simp_all
  obtain ⟨rfl, rfl⟩ := trodVars_none hV
  clear hA0
  simp only [List.append_nil] at hW' hR
  have k0 := h0
  have l0 : ∀ x ∈ p0, x.block < W.heap.size := fun x hx => by simpa using hW'.lt x (by simp [hx])
  obtain ⟨ao0, n0, c0, bs0, rfl, hn0, hm0, hc0⟩ := open_u8s (hval 0 26 v0 rfl rfl) h0
  refine (walk W ao0 n0 c0 bs0 hn0 hm0 hc0 hT).mono fun e W' ⟨he, bel⟩ => ?_
  subst he
  exact ⟨_, rfl, _, _, _, [], _, [], hW', trodAll_mk1 (shut_bool Tryd.underlying4 _), (trodAll_cons_mk (Below.trod laidOut (by kernel_rfl) (of_decide_eq_true (by kernel_rfl)) k0 bel l0) trodAll_mk0), rfl, bel.frame _, fun h => by cases h⟩

theorem reads (os : Os) {H : Type} (enc : TypeId × Value → H) : ∃ places, DataW.whole enc Tryd.prog ((laidWorld os).forCall (fun _ _ => 0) ⟨#[], #[.slice none 0 0], []⟩).memory Tryd.f8.params.toList Rows.numeralCommasSpec.vars false #[.slice none 0 0].toList 8 = some ([.nil], [], places) :=
  ⟨[], by kernel_rfl⟩

set_option maxRecDepth 100000 in
theorem lifted (os : Os) (started : os.Started) (H : Type) (enc : TypeId × Value → H) (F : Stop.Interp) :
    ReturnsInHanded {} Tryd.checked os 8 .any ((OpenSpec.ofChange Rows.numeralCommasSpec).preRow enc Tryd.prog Tryd.f8 Rows.numeralCommasRow.domain false Rows.numeralCommasRow.laid) (((OpenSpec.ofChange Rows.numeralCommasSpec).at F).post enc Tryd.prog Tryd.f8 false true false false) := by
  obtain ⟨places, hx⟩ := reads os enc
  refine returnsInHanded_of_row (C := Tryd.checked) (s := OpenSpec.ofChange Rows.numeralCommasSpec) own started (by kernel_rfl) Tryd.func8
    (witness_row_at (enc := enc) (C := Tryd.checked) false (laidWorld os) #[.slice none 0 0] rfl (by kernel_rfl) (by kernel_rfl) (by kernel_rfl)
      (OpenSpec.preRow_of_cond 8 hx (by kernel_rfl) (fun k hk => by cases hk) (by kernel_rfl) (laid_met os _))) ?_
  intro W base args ds gs before hval hW _ _ hR hL _ _
  exact contract H enc W base args ds gs before hval hW hL hR

theorem said : Rows.NumeralCommasSaid :=
  OpenClaim.holds_of_cond 8 Tryd.f8 rfl rfl rfl rfl rfl rfl rfl ⟨rfl, rfl, rfl, rfl, rfl⟩ rfl rfl rfl rfl rfl (by kernel_rfl) Tryd.func8 (by kernel_rfl)
    (of_decide_eq_true (by kernel_rfl)) (by unfold Func.isWrapper; first | (rw [if_pos (by decide +kernel)]; kernel_rfl) | (rw [if_neg (by decide +kernel)]; exact ⟨rfl, rfl⟩))
    (fun os started H enc _ F => by rw [OpenClaim.pre_eq_preRow]; exact lifted os started H enc F)

theorem plain (f : FuncId) (fn : Func) (hf : Tryd.pinned.checked.prog.funcNamed "henkan/henkanlaw03.NumeralCommas" = some f) (hfn : Tryd.pinned.checked.prog.funcs[f]? = some fn) :
    false = Tryd.pinned.checked.prog.looks [] ∧ ∀ (j : Nat) t, fn.params[j]? = some t → Tryd.pinned.checked.prog.wantsStandIn t = false := by
  obtain rfl : f = 8 := Option.some.inj ((show Tryd.prog.funcNamed "henkan/henkanlaw03.NumeralCommas" = some 8 by kernel_rfl).symm.trans hf) |>.symm
  obtain rfl : fn = Tryd.f8 := (Option.some.inj (Tryd.func8.symm.trans hfn)).symm
  refine ⟨by kernel_rfl, fun j t ht => ?_⟩
  rw [Tryd.params8] at ht
  have hm := Array.mem_of_getElem? ht
  simp only [List.mem_toArray, List.mem_cons, List.not_mem_nil, or_false] at hm
  subst hm
  exact (show Tryd.prog.wantsStandIn 26 = false by kernel_rfl)

/-- the card -/
theorem proved : Rows.NumeralCommasCardSaid :=
  Claim7.holds_tied_plain_at .later [] _ _ _ _ said (fun _ h => by cases h) (by kernel_rfl) (fun _ h => by cases h) numeralCommas_row_tie rfl ⟨rfl, rfl⟩ (by kernel_rfl) rfl plain (by kernel_rfl)
#print axioms proved
end Go.Proofs.YtcgfcedlllmbhaaDoor.numeralCommas
