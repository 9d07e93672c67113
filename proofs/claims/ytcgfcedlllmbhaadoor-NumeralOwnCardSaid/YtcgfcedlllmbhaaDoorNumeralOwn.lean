/-
  henkanlaw03.NumeralOwn answers true for every string: the list that Forms returns is new memory. No condition but what the row lists.
-/
import Derived.Test.YtcgfcedlllmbhaaDoorFormLaw
import Derived.Carry
import Derived.Laws.AppendOwnNone
namespace Go.Proofs.YtcgfcedlllmbhaaDoor.numeralOwn
open Go.ChangeShapes Go.WideShapes Go.ChangeAt Go.RowKit
open Go.ChangeMaps (open_string)
set_option linter.unusedVariables false

theorem owns_empty (B g : Nat) (w : World) (hB : B ≤ g) (h : w.heap[g]? = some (.cells #[] 9 (0, 0))) : w.ownsRow B 9 1 (.slice (some ⟨g, 0, none⟩) 0 0) 0 [] :=
  ⟨rfl, .inr ⟨g, 0, #[], rfl, hB, h, Nat.le_refl _, by decide, rfl, rfl⟩⟩
/-- behind the loop: the list anew, and the copy -/
def Rest (l : List UInt8) (xs : List ByteArray) (w wr : World) (v2 : Value) : Prop := Strs w.heap.size v2 xs wr ∧ Below w.heap.size w wr ∧ Tabs wr ∧ xs.map (·.data.toList) = Num.forms l
set_option maxRecDepth 100000 in
set_option maxHeartbeats 2000000 in
theorem walk (w : World) (s : ByteArray) (hs : s.size ≤ 140737488351232) (ht : Tabs w) :
    Calls Tryd.prog 10 #[.string s] w fun e w' => e = .returned (.bool true) ∧ Below w.heap.size w w' := by
  have HT := Lib.hid ht
  obtain ⟨l, hl⟩ : ∃ l, Is s l := ⟨_, rfl⟩
  have HI := Lib.hid hl
  clear ht hl
  go_enter Tryd.func10, Tryd.ntmps10
  go_wp2_with fail
  refine (forms_any s l _ HI.out hs HT.out).mono ?_
  rintro e w1 ⟨v1, xs, hm1, hx1, rfl, hb1⟩
  have HM1 := Lib.hid hm1
  have hlen6 : xs.length ≤ 6 := by have := congrArg List.length hm1; rw [List.length_map] at this; have := forms_len l; omega
  have HB1 := Lib.hid hb1
  have hs1 := hb1.size
  obtain ⟨i0, hi, hz0, hz1, hz2⟩ := info_parts infoStr
  have HNEW := Lib.hid (owns_empty w1.heap.size w1.heap.size (w1.alloc (.cells #[] 9)) (Nat.le_refl _) (MapKept.heap_alloc w1 _).1)
  have hlies := hx1.lies
  obtain ⟨hxl, ⟨rfl, hn0⟩ | ⟨g, cap, cur, rfl, hgB, hg, hcap, hmx, hsz, htk⟩⟩ := hx1
  · obtain rfl : xs = [] := List.eq_nil_of_length_eq_zero hn0
    clear hm1 hb1 hlies hxl hn0
    go_wp2_with (at_builtin; refine wpList_append_own_none rfl _ _ 32 rfl w1.heap.size 9 i0 1 Tryd.underlying32 hi _ _ _ rfl HNEW.out rfl ?_)
    go_loopw [13] (fun iv wr => iv = .int .i64 0 ∧ Strs w1.heap.size (.slice (some ⟨w1.heap.size, 0, none⟩) 0 0) [] wr ∧ Below w.heap.size w wr) (fun _ _ => 0)
    case atStart => exact ⟨rfl, HNEW.out, HB1.out.alloc hs1 _⟩
    case round =>
      obtain ⟨rfl, hx, hb⟩ := hrel
      have HX := Lib.hid hx
      have HB := Lib.hid hb
      clear hx hb
      go_wp2_with fail
      refine (forms_any s l _ HI.out hs (HT.out.keep HB.out)).mono ?_
      rintro e w3 ⟨v2, xs2, hm2, hx2, rfl, hb2⟩
      have hxx : xs2 = [] := bas_inj (hm2.trans HM1.out.symm)
      subst hxx
      have HL2 := Lib.hid hx2.lies
      have HL1 := Lib.hid (HX.out.lies.below hb2 (Nat.le_refl _))
      have HB2 := Lib.hid (HB.out.trans (hb2.mono HB.out.size))
      have HT2 := Lib.hid (HT.out.keep HB2.out)
      clear hm2 hx2 hb2
      go_wp2_with fail
      refine (same_yes v2 (.slice (some ⟨w1.heap.size, 0, none⟩) 0 0) [] _ HL2.out HL1.out (by simp)).mono ?_
      rintro e w4 ⟨rfl, hb3⟩
      have HB3 := Lib.hid (HB2.out.trans (hb3.mono HB2.out.size))
      have HT3 := Lib.hid (HT2.out.keep hb3)
      clear hb3
      go_wp2_with fail
      refine (works_any _ HT3.out).mono ?_
      rintro e w5 ⟨rfl, hb4⟩
      have HB4 := Lib.hid (HB3.out.trans (hb4.mono HB3.out.size))
      clear hb4
      go_wp2_with fail
      go_ret
      exact ⟨rfl, HB4.out⟩
  · obtain ⟨n, hn⟩ : ∃ n, xs.length = n := ⟨_, rfl⟩
    have HN := Lib.hid hn
    have HG := Lib.hid hg
    have hg1 := heap_lt hg
    have hcur : n ≤ cur.size := by rw [hsz]; omega
    have hn6 : n ≤ 6 := by omega
    have HLEN := Lib.hid (show xs.length ≤ 4611686018427387904 by omega)
    have hnews : ∀ (j : Nat) (u : Value), (xs.map Value.string)[j]? = some u → (w1.alloc (.cells #[] 9)).cell? ((⟨g, 0, none⟩ : Addr).add j) = some u := by
      intro j u hu
      have hj : j < xs.length := by
        rcases Nat.lt_or_ge j xs.length with h' | h'
        · exact h'
        · rw [List.getElem?_eq_none (by rw [List.length_map]; exact h')] at hu; cases hu
      have ha : (⟨g, 0, none⟩ : Addr).add j = ⟨g, j, none⟩ := by
        unfold Addr.add
        split
        · rename_i e; rw [e]
        · simp
      rw [ha, Lib.cell_of_heap (by rw [Lib.alloc_old w1 _ _ hg1]; exact hg), ← Array.getElem?_toList]
      have h2 : (cur.toList.take (xs.length * 1))[j]? = some u := by rw [htk]; exact hu
      rw [List.getElem?_take, if_pos (by omega)] at h2
      exact h2
    have HNEWS := Lib.hid hnews
    rw [hn]
    clear hm1 hb1 hlies hxl hg hnews hsz htk hmx hn
    go_wp2_with (at_builtin; refine wpList_append_own _ rfl _ _ 32 rfl w1.heap.size 9 i0 (.string ⟨#[]⟩) 1 16 Tryd.underlying32 hi hz0 hz1 hz2 rfl (by decide) _ _ _ rfl HNEW.out ⟨g, 0, none⟩ n cap (xs.map Value.string) rfl ?c0 HNEWS.out ?c2 ?c3 ?c4 ?c5 ?_)
    case c0 => rw [List.length_map, HN.out]; omega
    case c2 => intro u hu; rw [List.mem_map] at hu; obtain ⟨y, _, rfl⟩ := hu; rfl
    case c3 => unfold maxLen; omega
    case c4 => omega
    case c5 => simp
    intro v' w2 hown' hgrow _
    have HX2 := Lib.hid (show Strs w1.heap.size v' xs w2 by
      unfold Strs
      rw [HN.out]
      first | exact hown' | simpa using hown')
    have hg2 : w2.heap[g]? = some (.cells cur 9 (0, 0)) := by
      rw [hgrow.block g (by simp; omega) (by simp [Value.ownBlock]; omega), Lib.alloc_old w1 _ _ hg1]
      exact HG.out
    have HG2 := Lib.hid hg2
    have HB2 := Lib.hid (show Below w.heap.size w w2 from (HB1.out.alloc hs1 _).grown hgrow (by simp; omega) (fun k hk => by simp [Value.ownBlock] at hk; omega))
    have hs2 : w1.heap.size ≤ w2.heap.size := by have := hgrow.size; simp at this; omega
    clear hown' hgrow hg2
    go_wp2_with fail
    go_loopw [13] (fun iv wr => ∃ (k : Nat) (cs : Array Value), k ≤ n ∧ iv = .int .i64 k ∧ Strs w1.heap.size v' xs wr ∧ wr.heap[g]? = some (.cells cs 9 (0, 0)) ∧ n ≤ cs.size ∧ Below w.heap.size w wr) (fun iv _ => n - (intOf iv).toNat)
    case atStart => exact ⟨0, cur, by omega, rfl, HX2.out, HG2.out, hcur, HB2.out⟩
    case round =>
      obtain ⟨k, cs, hk, rfl, hx, hgw, hcs, hb⟩ := hrel
      have HX := Lib.hid hx
      have HB := Lib.hid hb
      have HGW := Lib.hid hgw
      by_cases hlt : k < n
      · obtain ⟨u, hu⟩ : ∃ u, cs[k]? = some u := ⟨_, Array.getElem?_eq_getElem (by omega)⟩
        have hc : wr.cell? ⟨g, k, none⟩ = some u := by rw [Lib.cell_of_heap hgw]; exact hu
        have hf : wr.frozen? ⟨g, k, none⟩ = false := Lib.frozen_of_heap hgw k
        clear hx hb hgw hu
        go_wp2_with fail
        go_roundw
        case rel =>
          refine ⟨k + 1, cs.setIfInBounds k (.string ⟨#[120]⟩), by omega, by go_num, ?_, row_set HGW.out k _, by rw [Array.size_setIfInBounds]; exact hcs, HB.out.setCell (p := ⟨g, k, none⟩) hgB _⟩
          refine World.ownsRow.kept HX.out (row := some g) (grown_set (grown_refl _ _) _ _) (Or.inr ?_)
          intro e
          have := (World.ownsRow.lt HX.out g e).1
          omega
        case measure => simp [intOf]; omega
      · have hkn : k = n := by omega
        clear hx hb hgw
        go_wp2_with fail
        refine (forms_any s l _ HI.out hs (HT.out.keep HB.out)).mono ?_
        rintro e w3 ⟨v2, xs2, hm2, hx2, rfl, hb2⟩
        have hxx : xs2 = xs := bas_inj (hm2.trans HM1.out.symm)
        subst hxx
        have HL2 := Lib.hid hx2.lies
        have HL1 := Lib.hid (HX.out.lies.below hb2 (Nat.le_refl _))
        have HB2 := Lib.hid (HB.out.trans (hb2.mono HB.out.size))
        have HT2 := Lib.hid (HT.out.keep HB2.out)
        clear hm2 hx2 hb2
        go_wp2_with fail
        refine (same_yes v2 v' xs2 _ HL2.out HL1.out HLEN.out).mono ?_
        rintro e w4 ⟨rfl, hb3⟩
        have HB3 := Lib.hid (HB2.out.trans (hb3.mono HB2.out.size))
        have HT3 := Lib.hid (HT2.out.keep hb3)
        clear hb3
        go_wp2_with fail
        refine (works_any _ HT3.out).mono ?_
        rintro e w5 ⟨rfl, hb4⟩
        have HB4 := Lib.hid (HB3.out.trans (hb4.mono HB3.out.size))
        clear hb4
        go_wp2_with fail
        go_ret
        exact ⟨rfl, HB4.out⟩

theorem laidOut : laidOutB Tryd.prog = true := by kernel_rfl
theorem contract (H : Type) (enc : TypeId × Value → H) (W : World) (base : Nat) (args : Array Value) (ds gs : List (DataW H)) (before : List MemPlace)
    (hval : ∀ (j : Nat) t v, Tryd.f10.params[j]? = some t → args[j]? = some v → Value.okWide Tryd.prog W .any base t v)
    (hW : DataW.Whole enc Tryd.prog Tryd.f10.params.toList Rows.numeralOwnSpec.vars false W args.toList ds gs before) (hL : laidMetH Tryd.prog Rows.numeralOwnRow.laid W)
    (hR : (DataW.weightsEach Tryd.prog (Tryd.f10.params.toList ++ (OpenSpec.ofChange Rows.numeralOwnSpec).bare.plain.varTypes Tryd.prog) (ds ++ gs)).all (· ≤ reachBytes) = true) :
    Calls Tryd.prog 10 args W fun e W' => ∃ v, e = .returned v ∧ Rows.numeralOwnSpec.post enc Tryd.prog Tryd.f10 false true false false W args v W' := by
  have hT : Tabs W := tabs_of_laid hL
  have hW' := hW
  obtain ⟨p, q, hA0, hV, rfl, hfz, hnd⟩ := hW
  have hA : DataW.TrodAll enc Tryd.prog W 0 (fun _ => true) true Tryd.f10.params.toList args.toList ds p := hA0
  rw [Tryd.params10] at hA hval hR
  obtain ⟨v0, vs0, d0, ds0, p0, q0, hargs, rfl, rfl, h0, r0⟩ := trodAll_cons hA
  obtain ⟨rfl, rfl, rfl⟩ := trodAll_nil r0
  obtain rfl : args = #[v0] := by cases args; simp_all
  obtain ⟨rfl, rfl⟩ := trodVars_none hV
  clear hA0
  simp only [List.append_nil] at hW' hR
  have k0 := h0
  have l0 : ∀ x ∈ p0, x.block < W.heap.size := fun x hx => by simpa using hW'.lt x (by simp [hx])
  obtain ⟨s0, rfl, rfl, rfl, m0⟩ := open_string Tryd.underlying9 (hval 0 9 v0 rfl rfl) h0
  refine (walk W s0 (reach_at hR 0 rfl) hT).mono fun e W' ⟨he, bel⟩ => ?_
  subst he
  exact ⟨_, rfl, _, _, _, [], _, [], hW', trodAll_mk1 (shut_bool Tryd.underlying4 _), (trodAll_cons_mk (Below.trod laidOut (by kernel_rfl) (of_decide_eq_true (by kernel_rfl)) k0 bel l0) trodAll_mk0), rfl, bel.frame _, fun h => by cases h⟩

theorem reads (os : Os) {H : Type} (enc : TypeId × Value → H) : ∃ places, DataW.whole enc Tryd.prog ((laidWorld os).forCall (fun _ _ => 0) ⟨#[], #[.string ⟨#[]⟩], []⟩).memory Tryd.f10.params.toList Rows.numeralOwnSpec.vars false #[.string ⟨#[]⟩].toList 8 = some ([.lit (.string [])], [], places) :=
  ⟨[], by kernel_rfl⟩

set_option maxRecDepth 100000 in
theorem lifted (os : Os) (started : os.Started) (H : Type) (enc : TypeId × Value → H) (F : Stop.Interp) :
    ReturnsInHanded {} Tryd.checked os 10 .any ((OpenSpec.ofChange Rows.numeralOwnSpec).preRow enc Tryd.prog Tryd.f10 Rows.numeralOwnRow.domain false Rows.numeralOwnRow.laid) (((OpenSpec.ofChange Rows.numeralOwnSpec).at F).post enc Tryd.prog Tryd.f10 false true false false) := by
  obtain ⟨places, hx⟩ := reads os enc
  refine returnsInHanded_of_row (C := Tryd.checked) (s := OpenSpec.ofChange Rows.numeralOwnSpec) own started (by kernel_rfl) Tryd.func10
    (witness_row_at (enc := enc) (C := Tryd.checked) false (laidWorld os) #[.string ⟨#[]⟩] rfl (by kernel_rfl) (by kernel_rfl) (by kernel_rfl)
      (OpenSpec.preRow_of_cond 8 hx (by kernel_rfl) (fun k hk => by cases hk) (by kernel_rfl) (laid_met os _))) ?_
  intro W base args ds gs before hval hW _ _ hR hL _ _
  exact contract H enc W base args ds gs before hval hW hL hR

theorem said : Rows.NumeralOwnSaid :=
  OpenClaim.holds_of_cond 10 Tryd.f10 rfl rfl rfl rfl rfl rfl rfl ⟨rfl, rfl, rfl, rfl, rfl⟩ rfl rfl rfl rfl rfl (by kernel_rfl) Tryd.func10 (by kernel_rfl)
    (of_decide_eq_true (by kernel_rfl)) (by unfold Func.isWrapper; first | (rw [if_pos (by decide +kernel)]; kernel_rfl) | (rw [if_neg (by decide +kernel)]; exact ⟨rfl, rfl⟩))
    (fun os started H enc _ F => by rw [OpenClaim.pre_eq_preRow]; exact lifted os started H enc F)

theorem plain (f : FuncId) (fn : Func) (hf : Tryd.pinned.checked.prog.funcNamed "henkan/henkanlaw03.NumeralOwn" = some f) (hfn : Tryd.pinned.checked.prog.funcs[f]? = some fn) :
    false = Tryd.pinned.checked.prog.looks [] ∧ ∀ (j : Nat) t, fn.params[j]? = some t → Tryd.pinned.checked.prog.wantsStandIn t = false := by
  obtain rfl : f = 10 := Option.some.inj ((show Tryd.prog.funcNamed "henkan/henkanlaw03.NumeralOwn" = some 10 by kernel_rfl).symm.trans hf) |>.symm
  obtain rfl : fn = Tryd.f10 := (Option.some.inj (Tryd.func10.symm.trans hfn)).symm
  refine ⟨by kernel_rfl, fun j t ht => ?_⟩
  rw [Tryd.params10] at ht
  have hm := Array.mem_of_getElem? ht
  simp only [List.mem_toArray, List.mem_cons, List.not_mem_nil, or_false] at hm
  subst hm
  exact (show Tryd.prog.wantsStandIn 9 = false by kernel_rfl)

/-- the card -/
theorem proved : Rows.NumeralOwnCardSaid :=
  Claim7.holds_tied_plain_at .later [] _ _ _ _ said (fun _ h => by cases h) (by kernel_rfl) (fun _ h => by cases h) numeralOwn_row_tie rfl ⟨rfl, rfl⟩ (by kernel_rfl) rfl plain (by kernel_rfl)
#print axioms proved
end Go.Proofs.YtcgfcedlllmbhaaDoor.numeralOwn
