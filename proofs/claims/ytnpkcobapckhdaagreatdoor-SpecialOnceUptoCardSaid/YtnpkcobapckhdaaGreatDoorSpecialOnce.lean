/-
  what Of answers is without repetitions, and each reading has a sign
-/
import Derived.Deep.RegionHeld3
import Derived.Test.YtnpkcobapckhdaaGreatDoorSpecOnceMath
import Derived.Carry
import Derived.Laws.AppendOwnNone
namespace Go.Proofs.YtnpkcobapckhdaaGreatDoor.specialOnce
open Go.ChangeShapes Go.WideShapes Go.ChangeAt Go.RowKit
open Go.ChangeMaps (open_string)
set_option linter.unusedVariables false

theorem take_nodup {L : List (List UInt8)} (h : L.Nodup) (k : Nat) (x : List UInt8) (hx : L[k]? = some x) : x ∉ L.take k := by
  have hk : k < L.length := by
    rcases Nat.lt_or_ge k L.length with h' | h'
    · exact h'
    · rw [List.getElem?_eq_none h'] at hx; cases hx
  rw [List.getElem?_eq_getElem hk] at hx
  injection hx with hx
  intro hm
  have e : L = L.take k ++ x :: L.drop (k + 1) := by
    conv => lhs; rw [← List.take_append_drop k L, List.drop_eq_getElem_cons hk, hx]
  rw [e, List.nodup_append] at h
  exact h.2.2 _ hm x (List.mem_cons_self ..) rfl
theorem lies_take {g n cap : Nat} {xs : List ByteArray} {w : World} (hn : xs.length = n) (hc : ∀ k, k < n → w.cell? ⟨g, k, none⟩ = some (.string (xs.getD k ⟨#[]⟩))) (k : Nat) (hk : k ≤ n) : Lies (.slice (some ⟨g, 0, none⟩) k cap) (xs.take k) w := by
  refine ⟨_, cap, by rw [List.length_take, hn, Nat.min_eq_left hk], fun j hj => ⟨g, rfl, ?_⟩⟩
  rw [List.length_take, hn, Nat.min_eq_left hk] at hj
  rw [hc j (by omega)]
  congr 2
  rw [List.getD_eq_getElem?_getD, List.getD_eq_getElem?_getD, List.getElem?_take, if_pos hj]
set_option maxRecDepth 100000 in
set_option maxHeartbeats 4000000 in
theorem walk (w : World) (s : ByteArray) (hs : s.size ≤ 1048576) (day : Int) (_ : (Lit.int .i64 day).wf = true) (ht : STabs w) :
    Calls Tryz.prog 5 #[.string s, .int .i64 day] w fun e w' => e = .returned (.bool true) ∧ Below w.heap.size w w' := by
  have HT := Lib.hid ht
  have HI := Lib.hid (Is.of s)
  obtain ⟨l, hl⟩ : ∃ l, l = s.data.toList := ⟨_, rfl⟩
  rw [← hl] at HI
  have HLEN := Lib.hid (ofL_len l day)
  have HON := Lib.hid (ofL_once l day)
  have HSM := Lib.hid (ofL_small l day)
  clear hl ht
  go_enter Tryz.func5, Tryz.ntmps5
  go_wp2_with fail
  with_reducible refine (of_any s l day _ HI.out (by omega) HT.out).mono ?_
  rintro e w1 ⟨v1, xs, hm1, hx1, rfl, hb⟩
  have HND := Lib.hid (show (xs.map (·.data.toList)).Nodup ∧ ∀ x ∈ xs.map (·.data.toList), Vne x by rw [hm1]; exact HON.out)
  have hl1 : xs.length ≤ 40 := by have := HLEN.out; rw [← hm1, List.length_map] at this; exact this
  have HSZ := Lib.hid (show ∀ x ∈ xs.map (·.data.toList), x.length ≤ 1000 by rw [hm1]; exact HSM.out)
  have HB1 := Lib.hid hb
  obtain ⟨ao, cap, rfl, hcl⟩ := hx1.lies
  obtain ⟨n, hn⟩ : ∃ n, xs.length = n := ⟨_, rfl⟩
  have hcap : n ≤ cap ∨ n = 0 := by
    rcases hx1.src with ⟨_, h0⟩ | ⟨g, cap', he, hcc, _⟩
    · right; rw [← hn, h0]; rfl
    · left; injection he with _ _ h3; rw [h3, ← hn]; exact hcc
  have HCL := Lib.hid hcl
  have HN := Eqv2.mk hn
  rw [hn] at hl1 hcl ⊢
  have HCN := Lib.hid hcl
  clear hm1 hx1 hb hn hcl
  go_wp2_with fail
  go_loopw [6] (fun iv wr => ∃ k : Nat, k ≤ n ∧ iv = .int .i64 k ∧ Below w1.heap.size w1 wr) (fun iv _ => n - (intOf iv).toNat)
  case atStart => exact ⟨0, Nat.zero_le _, rfl, Below.refl _ _⟩
  case round =>
    obtain ⟨k, hk, rfl, hb⟩ := hrel
    have HB := Lib.hid hb
    clear hb
    by_cases hlt : k < n
    · obtain ⟨g, rfl, hg⟩ := HCN.out k hlt
      have hcp : n ≤ cap := by omega
      have hkl : k < xs.length := by rw [HN.out]; exact hlt
      have HCG := Lib.hid (show ∀ j, j < n → w1.cell? ⟨g, j, none⟩ = some (.string (xs.getD j ⟨#[]⟩)) by
        intro j hj
        obtain ⟨g', he, hc⟩ := HCN.out j hj
        injection he with he; injection he with he
        rw [he]; exact hc)
      obtain ⟨x, hx⟩ : ∃ x, xs.getD k ⟨#[]⟩ = x := ⟨_, rfl⟩
      have hxk : xs[k]? = some x := by rw [← hx, List.getD_eq_getElem?_getD, List.getElem?_eq_getElem hkl]; rfl
      have hmk : (xs.map (·.data.toList))[k]? = some x.data.toList := by rw [List.getElem?_map, hxk]; rfl
      have hv := HND.out.2 _ (List.mem_of_getElem? hmk)
      have hsz := HSZ.out _ (List.mem_of_getElem? hmk)
      have hxs : x.size ≤ 17592186044416 := by rw [(Is.of x).size]; omega
      obtain ⟨m, hm⟩ : ∃ m, (UT.runes x.data.toList).length = m := ⟨_, rfl⟩
      have hm1 : 1 ≤ m := by rw [← hm]; exact runes_pos hv
      have HCNT := Eqv2.mk (show (if Lib.validD x.data.toList = true then ((UT.runes x.data.toList).length : Int) else -1) = (m : Int) by rw [if_pos hv.1, hm])
      have HNO := Eqv2.mk (show decide (x.data.toList ∈ (xs.take k).map (·.data.toList)) = false by
        rw [decide_eq_false_iff_not, List.map_take]
        exact take_nodup HND.out.1 k _ hmk)
      rw [hx] at hg
      have c1 : wr.cell? ⟨g, k, none⟩ = some (.string x) := below_cellU hg HB.out (Nat.le_refl _)
      have hd1 : decide ((m : Int) < 1) = false := decide_eq_false (by omega)
      have hkk : (k : Int) < (n : Int) := by omega
      have i0 : (0 : Int) ≤ (k : Int) := by omega
      have i1 : (k : Int) ≤ (n : Int) := by omega
      have i2 : (k : Int) ≤ (cap : Int) := by omega
      have i3 : k ≤ cap := by omega
      have HLT := Lib.hid (fun (W : World) (hW : Below w1.heap.size w1 W) => (lies_take (cap := cap) HN.out HCG.out k (by omega)).below hW (Nat.le_refl _))
      have HIX := Lib.hid (Is.of x)
      have htl : (xs.take k).length ≤ 1000 := by rw [List.length_take]; omega
      clear hx hxk hmk hv hsz hm hg
      go_wp2_with fail
      go_region_held3 (fun w' => w'.cell? ⟨g, k, none⟩ = some (.string x) ∧ Below w1.heap.size w1 w') (first | exact ⟨c1, HB.out⟩ | exact ⟨c1, HB.out.drew⟩ | exact ⟨c2, HB2.out⟩ | go_keep)
        (first | (go_at_call 17; refine (count_any x _ _ HIX.out hxs).mono ?_; rw [HCNT.out]; rintro e w2 ⟨he, hb2⟩; subst he; have hbd : Below wr.heap.size wr w2 := (Below.refl _ _).drew.trans hb2; have c2 : w2.cell? ⟨g, k, none⟩ = some (.string x) := below_cellU c1 hbd (Nat.le_refl _); have HB2 := Lib.hid (HB.out.trans (hbd.mono HB.out.size)); clear hb2 hbd) | (go_at_call 18; refine (has_any _ (xs.take k) x _ (HLT.out _ HB2.out) htl).mono ?_; rw [HNO.out]; rintro e w3 ⟨he, hw⟩; subst he; subst hw))
      go_wp2_with fail
      go_roundw
      case rel => exact ⟨k + 1, by omega, by go_num, HB2.out⟩
      case measure => simp [intOf]; omega
    · obtain rfl : k = n := by omega
      have HBW := Lib.hid (HB1.out.trans (HB.out.mono HB1.out.size))
      have HTW := Lib.hid (HT.out.keep HBW.out)
      go_wp2_with fail
      with_reducible refine (sworks_any _ HTW.out).mono ?_
      rintro e w5 ⟨rfl, hb⟩
      have HB5 := Lib.hid (HBW.out.trans (hb.mono HBW.out.size))
      clear hb
      go_wp2_with fail
      go_ret
      exact ⟨rfl, HB5.out⟩

theorem laidOut : laidOutB Tryz.prog = true := by kernel_rfl
set_option maxRecDepth 100000 in
theorem contract (H : Type) (enc : TypeId × Value → H) (W : World) (base : Nat) (args : Array Value) (ds gs : List (DataW H)) (before : List MemPlace)
    (hval : ∀ (j : Nat) t v, Tryz.f5.params[j]? = some t → args[j]? = some v → Value.okWide Tryz.prog W .any base t v)
    (hW : DataW.Whole enc Tryz.prog Tryz.f5.params.toList Rows.specialOnceSpec.vars false W args.toList ds gs before) (hL : laidMetH Tryz.prog Rows.specialOnceRow.laid W) (hS : W.ShapedOpen Tryz.prog) (hC : Rows.uptoSmall H (ds ++ gs) = true)
    (hR : (DataW.weightsEach Tryz.prog (Tryz.f5.params.toList ++ (OpenSpec.ofChange Rows.specialOnceSpec).bare.plain.varTypes Tryz.prog) (ds ++ gs)).all (· ≤ reachBytes) = true) :
    Calls Tryz.prog 5 args W fun e W' => ∃ v, e = .returned v ∧ Rows.specialOnceSpec.post enc Tryz.prog Tryz.f5 false true false false W args v W' := by
  have hT : STabs W := stabs_of_laid hL hS
  have hW' := hW
  obtain ⟨p, q, hA0, hV, rfl, hfz, hnd⟩ := hW
  have hA : DataW.TrodAll enc Tryz.prog W 0 (fun _ => true) true Tryz.f5.params.toList args.toList ds p := hA0
  rw [Tryz.params5] at hA hval hR
  obtain ⟨v0, vs0, d0, ds0, p0, q0, hargs, rfl, rfl, h0, r0⟩ := trodAll_cons hA
  obtain ⟨v1, vs1, d1, ds1, p1, q1, rfl, rfl, rfl, h1, r1⟩ := trodAll_cons r0
  obtain ⟨rfl, rfl, rfl⟩ := trodAll_nil r1
  obtain rfl : args = #[v0, v1] := by cases args; simp_all
  obtain ⟨rfl, rfl⟩ := trodVars_none hV
  clear hA0
  simp only [List.append_nil] at hW' hR
  have k0 := h0
  have l0 : ∀ x ∈ p0, x.block < W.heap.size := fun x hx => by simpa using hW'.lt x (by simp [hx])
  have k1 := h1
  have l1 : ∀ x ∈ p1, x.block < W.heap.size := fun x hx => by simpa using hW'.lt x (by simp [hx])
  obtain ⟨s0, rfl, rfl, rfl, m0⟩ := open_string Tryz.underlying9 (hval 0 9 v0 rfl rfl) h0
  obtain ⟨a1, rfl, rfl, rfl, w1⟩ := open_int Tryz.underlying3 (hval 1 3 v1 rfl rfl) h1
  have hB : Rows.uptoBulkAll _ ≤ 1048576 := of_decide_eq_true hC
  simp only [List.append_nil, Rows.uptoBulkAll, Rows.uptoBulk] at hB
  refine (walk W s0 (by have := Lib.size_eq s0; omega) a1 w1 hT).mono fun e W' ⟨he, bel⟩ => ?_
  subst he
  exact ⟨_, rfl, _, _, _, [], _, [], hW', trodAll_mk1 (shut_bool Tryz.underlying4 _), (trodAll_cons_mk (Below.trod laidOut (by kernel_rfl) (of_decide_eq_true (by kernel_rfl)) k0 bel l0) (trodAll_cons_mk (Below.trod laidOut (by kernel_rfl) (of_decide_eq_true (by kernel_rfl)) k1 bel l1) trodAll_mk0)), rfl, bel.frame _, fun h => by cases h⟩

theorem reads (os : Os) {H : Type} (enc : TypeId × Value → H) : ∃ places, DataW.whole enc Tryz.prog ((laidWorldS os).forCall (fun _ _ => 0) ⟨#[], #[.string ⟨#[]⟩, .int .i64 0], []⟩).memory Tryz.f5.params.toList Rows.specialOnceSpec.vars false #[.string ⟨#[]⟩, .int .i64 0].toList 8 = some ([.lit (.string []), .lit (.int .i64 0)], [], places) :=
  ⟨[], by kernel_rfl⟩

set_option maxRecDepth 100000 in
theorem lifted (os : Os) (started : os.Started) (H : Type) (enc : TypeId × Value → H) (F : Stop.Interp) :
    ReturnsInHanded {} Tryz.checked os 5 .any ((Rows.OpenSpec.upto Rows.specialOnceSpec).preRow enc Tryz.prog Tryz.f5 Rows.specialOnceUptoRow.domain false Rows.specialOnceUptoRow.laid) (((Rows.OpenSpec.upto Rows.specialOnceSpec).at F).post enc Tryz.prog Tryz.f5 false true false false) := by
  obtain ⟨places, hx⟩ := reads os enc
  refine returnsInHanded_of_row (C := Tryz.checked) (s := (Rows.OpenSpec.upto Rows.specialOnceSpec)) own started (by kernel_rfl) Tryz.func5
    (witness_row_at (enc := enc) (C := Tryz.checked) false (laidWorldS os) #[.string ⟨#[]⟩, .int .i64 0] rfl (by kernel_rfl) (by kernel_rfl) (by kernel_rfl)
      (OpenSpec.preRow_of_cond 8 hx (by kernel_rfl) (fun k hk => by cases hk; kernel_rfl) (by kernel_rfl) (laid_metS os _))) ?_
  intro W base args ds gs before hval hW _ hcond hR hL hS _
  exact contract H enc W base args ds gs before hval hW hL hS (hcond _ rfl) hR

theorem said : Rows.SpecialOnceUptoSaid :=
  OpenClaim.holds_of_cond 5 Tryz.f5 rfl rfl rfl rfl rfl rfl rfl ⟨rfl, rfl, rfl, rfl, rfl⟩ rfl rfl rfl rfl rfl (by kernel_rfl) Tryz.func5 (by kernel_rfl)
    (of_decide_eq_true (by kernel_rfl)) (by unfold Func.isWrapper; first | (rw [if_pos (by decide +kernel)]; kernel_rfl) | (rw [if_neg (by decide +kernel)]; exact ⟨rfl, rfl⟩))
    (fun os started H enc _ F => by rw [OpenClaim.pre_eq_preRow]; exact lifted os started H enc F)

theorem plain (f : FuncId) (fn : Func) (hf : Tryz.pinned.checked.prog.funcNamed "henkan/henkanlaw20.SpecialOnce" = some f) (hfn : Tryz.pinned.checked.prog.funcs[f]? = some fn) :
    true = Tryz.pinned.checked.prog.looks [] ∧ ∀ (j : Nat) t, fn.params[j]? = some t → Tryz.pinned.checked.prog.wantsStandIn t = false := by
  obtain rfl : f = 5 := Option.some.inj ((show Tryz.prog.funcNamed "henkan/henkanlaw20.SpecialOnce" = some 5 by kernel_rfl).symm.trans hf) |>.symm
  obtain rfl : fn = Tryz.f5 := (Option.some.inj (Tryz.func5.symm.trans hfn)).symm
  refine ⟨by kernel_rfl, fun j t ht => ?_⟩
  rw [Tryz.params5] at ht
  have hm := Array.mem_of_getElem? ht
  simp only [List.mem_toArray, List.mem_cons, List.not_mem_nil, or_false] at hm
  rcases hm with rfl | rfl
  · exact (show Tryz.prog.wantsStandIn 9 = false by kernel_rfl)
  · exact (show Tryz.prog.wantsStandIn 3 = false by kernel_rfl)

/-- the card -/
theorem proved : Rows.SpecialOnceUptoCardSaid :=
  Claim7.holds_tied_plain_at .later [] _ _ _ _ said (fun _ h => by cases h) (by kernel_rfl) (fun _ h => by cases h) specialOnceUpto_row_tie rfl ⟨rfl, rfl⟩ (by kernel_rfl) rfl plain (by kernel_rfl)
#print axioms proved
end Go.Proofs.YtnpkcobapckhdaaGreatDoor.specialOnce
