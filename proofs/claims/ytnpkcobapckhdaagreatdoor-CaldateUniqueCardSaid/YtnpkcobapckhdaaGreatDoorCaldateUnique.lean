/-
  henkanlaw04.CaldateUnique: the forms of a day are distinct, and those with a year are read as the day. No condition.
-/
import Derived.Test.YtnpkcobapckhdaaGreatDoorCalDoor
import Derived.Carry
import Derived.Laws.AppendOwnNone
namespace Go.Proofs.YtnpkcobapckhdaaGreatDoor.caldateUnique
open Go.ChangeShapes Go.WideShapes Go.ChangeAt Go.RowKit
open Go.ChangeMaps (open_string)
set_option linter.unusedVariables false

theorem short_no {n y m d : Nat} (hok : Cal.ok y m d = true) (i : Nat) (t : List UInt8) (hi : (CF.formsL n y m d)[i]? = some t) (hK : (CF.withYear n y m d).length ≤ i) : CF.progCal t = (0, false) := by
  have hk := (Cal.ok_iff y m d).1 hok
  have hl := Cal.mlen_bd y m
  unfold CF.formsL at hi
  rw [List.getElem?_append_right hK] at hi
  obtain h | h | h : i - (CF.withYear n y m d).length = 0 ∨ i - (CF.withYear n y m d).length = 1 ∨ 2 ≤ i - (CF.withYear n y m d).length := by omega
  · rw [h] at hi
    injection hi with hi
    rw [← hi]; exact CF.prog_short (by omega) (by omega)
  · rw [h] at hi
    injection hi with hi
    rw [← hi]; exact CF.prog_md (by omega) (by omega)
  · rw [List.getElem?_eq_none (by exact h)] at hi; cases hi
theorem forms_short (n y m d : Nat) : ∀ t ∈ CF.formsL n y m d, t.length ≤ 200 := by
  have a := (Num.digs_len y).2
  have a1 := (Num.digs_len m).2
  have a2 := (Num.digs_len d).2
  have b := CF.short_len m d
  have c := CF.wd_len (n % 7)
  have p4 := CF.pad_len 4 y
  have p2 := CF.pad_len 2 m
  have q2 := CF.pad_len 2 d
  have k1 := CF.kan_len m
  have k2 := CF.kan_len d
  have n3 : CF.nen.length = 3 := rfl
  have g3 : CF.gatsu.length = 3 := rfl
  have i3 : CF.nichi.length = 3 := rfl
  intro t ht
  unfold CF.formsL CF.withYear at ht
  rcases List.mem_append.1 ht with ht | ht
  · rcases List.mem_append.1 ht with ht | ht
    · simp only [List.mem_cons, List.not_mem_nil, or_false] at ht
      rcases ht with rfl | rfl | rfl | rfl
      · unfold CF.form1; simp only [List.length_append]; omega
      · unfold CF.form2; simp only [List.length_append, List.length_cons, List.length_nil]; omega
      · unfold CF.form3; simp only [List.length_append, List.length_cons, List.length_nil]; omega
      · unfold CF.form4; simp only [List.length_append, List.length_cons, List.length_nil]; omega
    · cases he : CF.era n with
      | none => rw [he] at ht; simp at ht
      | some eb =>
        obtain ⟨e, b0⟩ := eb
        rw [he] at ht
        have he6 : e.length = 6 := by
          rcases CF.era_name he with rfl | rfl | rfl | rfl | rfl <;> rfl
        have ya : (CF.yearA (y - b0)).length ≤ 4 := by
          unfold CF.yearA; split
          · decide
          · exact (Num.digs_len _).2
        have yb : (CF.yearB (y - b0)).length ≤ 40 := by
          unfold CF.yearB; split
          · decide
          · exact CF.kan_len _
        simp only [List.mem_cons, List.not_mem_nil, or_false] at ht
        rcases ht with rfl | rfl
        · unfold CF.form5; simp only [List.length_append]; omega
        · unfold CF.form6; simp only [List.length_append]; omega
  · simp only [List.mem_cons, List.not_mem_nil, or_false] at ht
    rcases ht with rfl | rfl
    · omega
    · simp only [List.length_append, List.length_cons, List.length_nil]; omega
theorem wy_cases (n y m d : Nat) : (CF.withYear n y m d).length = 4 ∨ (CF.withYear n y m d).length = 6 := by
  unfold CF.withYear
  cases CF.era n with
  | none => exact .inl rfl
  | some x => exact .inr rfl
set_option maxRecDepth 100000 in
set_option maxHeartbeats 4000000 in
theorem walk_in (w : World) (n : Nat) (h1 : 1 ≤ n) (h2 : n ≤ 3652059) (ht : PTabs w) :
    Calls Tryz.prog 11 #[.int .i64 n] w fun e w' => e = .returned (.bool true) ∧ Below w.heap.size w w' := by
  obtain ⟨y, m, d, hok, hnum⟩ : ∃ y m d : Nat, Cal.ok y m d = true ∧ Cal.num y m d = n := date_exists n h1 h2
  have HT := Lib.hid ht
  have HO := Lib.hid hok
  have HN := Eqq.mk hnum
  clear ht hok hnum
  go_enter Tryz.func11, Tryz.ntmps11
  go_wp2_with fail
  with_reducible refine (formsC_any n y m d _ h1 h2 HO.out HN.out HT.out.cal).mono ?_
  rintro e w1 ⟨v, xs, hm, hx, rfl, hb⟩
  have hc := wy_cases n y m d
  have hwl := formsL_wy n y m d
  have hnd := CF.forms_nodup HO.out HN.out
  have hyes : ∀ i t, (CF.formsL n y m d)[i]? = some t → i < (CF.withYear n y m d).length → CF.progCal t = ((n : Int), true) := by
    intro i t hi hk
    rw [wy_at n y m d i hk] at hi
    have := (CF.both_find t y m d HO.out (by rw [HN.out, Int.toNat_natCast]; exact List.mem_of_getElem? hi)).1
    rw [HN.out] at this; exact this
  have hno : ∀ i t, (CF.formsL n y m d)[i]? = some t → (CF.withYear n y m d).length ≤ i → CF.progCal t = (0, false) := fun i t hi hk => short_no HO.out i t hi hk
  have hs9 : ∀ (i : Nat) (x : ByteArray), (CF.formsL n y m d)[i]? = some x.data.toList → x.size < 4294967281 := by
    intro i x h
    have := forms_short n y m d _ (List.mem_of_getElem? h)
    rw [(Is.of x).size]; omega
  obtain ⟨L, hL⟩ : ∃ L, CF.formsL n y m d = L := ⟨_, rfl⟩
  obtain ⟨K, hK⟩ : ∃ K, (CF.withYear n y m d).length = K := ⟨_, rfl⟩
  rw [hL, hK] at hwl
  rw [hL] at hm hnd
  rw [hL, hK] at hyes hno
  rw [hL] at hs9
  have HS := Lib.hid hs9
  clear hs9
  rw [hK] at hc
  have hl : xs.length = K + 2 := by rw [← hwl, ← hm, List.length_map]
  obtain ⟨g, cap, rfl, hgB, hgl, hcap, hcell, _⟩ := hx.at (by intro e; rw [e] at hl; simp at hl)
  have HND := Lib.hid hnd
  have HYES := Lib.hid hyes
  have HNO := Lib.hid hno
  have HC := Lib.hid hcell
  have HM := Eqq.mk hm
  have HB1 := Lib.hid hb
  have HT1 := Lib.hid (HT.out.keep hb)
  clear hnd hyes hno hcell hm hb hx hL hK hwl hgB
  obtain ⟨N, hN⟩ : ∃ N, N = K + 2 := ⟨_, rfl⟩
  rw [← hN] at hl
  rw [hl] at hcap ⊢
  have e6 : ((N : Int) != 6) = false ∨ (((N : Int) != 6) = true ∧ ((N : Int) != 8) = false) := by
    rcases hc with hK | hK
    · exact .inl (by rw [hN, hK]; rfl)
    · exact .inr ⟨by rw [hN, hK]; rfl, by rw [hN, hK]; rfl⟩
  have hN9 : N ≤ 8 := by omega
  have hN1 : N ≤ K + 2 := by omega
  have hN2 : K + 2 ≤ N := by omega
  have hKN : (N : Int) - 2 = (K : Int) := by omega
  clear hc hN
  rcases e6 with e6 | ⟨e6, e8⟩
  all_goals
    go_wp2_with fail
    go_loopw [4] (fun iv wr => ∃ i : Nat, i ≤ N ∧ iv = .int .i64 i ∧ Below w1.heap.size w1 wr) (fun iv _ => N - (intOf iv).toNat)
    case atStart => exact ⟨0, Nat.zero_le _, rfl, Below.refl _ _⟩
    case round =>
      obtain ⟨wo, rfl⟩ : ∃ wo : World, wo = wr := ⟨_, rfl⟩
      obtain ⟨i, hi, rfl, hb⟩ := hrel
      have HBI := Lib.hid hb
      have HTI := Lib.hid (HT1.out.keep hb)
      clear hb
      by_cases hiN : i < N
      · obtain ⟨xi, hxi⟩ : ∃ x, xs.getD i ⟨#[]⟩ = x := ⟨_, rfl⟩
        have hxil : xs[i]? = some xi := by rw [← hxi, List.getD_eq_getElem?_getD, List.getElem?_eq_getElem (by omega)]; rfl
        have HCI : Hid (∀ q, (wo.drewN q).cell? ⟨g, i, none⟩ = some (.string xi)) := Lib.hid (fun q => (HBI.out.cell (p := ⟨g, i, none⟩) hgl).trans (HC.out i xi hxil))
        have HXI := Eqq.mk hxil
        clear hxi hxil
        go_wp2_with fail
        go_loopw [5] (fun kv wr => ∃ k q : Nat, k ≤ i ∧ kv = .int .i64 k ∧ wr = wo.drewN q) (fun kv _ => i - (intOf kv).toNat)
        case atStart => exact ⟨0, 0, Nat.zero_le _, rfl, rfl⟩
        case round =>
          obtain ⟨k, q, hk, rfl, rfl⟩ := hrel
          by_cases hki : k < i
          · obtain ⟨xk, hxk⟩ : ∃ x, xs.getD k ⟨#[]⟩ = x := ⟨_, rfl⟩
            have hxkl : xs[k]? = some xk := by rw [← hxk, List.getD_eq_getElem?_getD, List.getElem?_eq_getElem (by omega)]; rfl
            have hck : wo.cell? ⟨g, k, none⟩ = some (.string xk) := (HBI.out.cell (p := ⟨g, k, none⟩) hgl).trans (HC.out k xk hxkl)
            have hci : wo.cell? ⟨g, i, none⟩ = some (.string xi) := HCI.out 0
            have hne : (xi.toList == xk.toList) = false := by
              rw [Lib.toList_data, Lib.toList_data, beq_eq_false_iff_ne]
              intro e
              have hkl : k < xs.length := by omega
              have hil : i < xs.length := by omega
              have a : L[i]? = some xi.data.toList := by rw [← HM.out, List.getElem?_map, HXI.out]; rfl
              have b : L[k]? = some xk.data.toList := by rw [← HM.out, List.getElem?_map, hxkl]; rfl
              have hLl : L.length = xs.length := by rw [← HM.out, List.length_map]
              have := (List.getElem?_inj (i := i) (j := k) (by omega) HND.out).1 (a.trans (by rw [e]; exact b.symm))
              omega
            clear hxk hxkl
            go_wp2_with fail
            go_quiet (fail)
            go_wp2_with fail
            go_roundw
            case rel => exact ⟨k + 1, _, by omega, by go_num, rfl⟩
            case measure => simp [intOf]; omega
          · obtain rfl : k = i := by omega
            have hci : wo.cell? ⟨g, k, none⟩ = some (.string xi) := HCI.out 0
            have HL : Eqq (L[k]?) (some xi.data.toList) := ⟨by rw [← HM.out, List.getElem?_map, HXI.out]; rfl⟩
            by_cases hkK : k < K
            · have HP := Eqq.mk (HYES.out k _ HL.out hkK)
              go_wp2_with fail
              with_reducible refine (pparse_any xi _ _ (Is.of xi) (HS.out k xi HL.out) (HTI.out.keep (bel_dn (Below.refl _ _) _))).mono ?_
              rw [HP.out]
              rintro e w2 ⟨rfl, hb⟩
              have HB2 := Lib.hid ((HBI.out.trans ((bel_dn (Below.refl _ _) _).trans hb |>.mono HBI.out.size)))
              clear hb
              go_wp2_with fail
              go_roundw
              case rel => exact ⟨k + 1, by omega, by go_num, HB2.out⟩
              case measure => simp [intOf]; omega
            · have HP := Eqq.mk (HNO.out k _ HL.out (by omega))
              go_wp2_with fail
              with_reducible refine (pparse_any xi _ _ (Is.of xi) (HS.out k xi HL.out) (HTI.out.keep (bel_dn (Below.refl _ _) _))).mono ?_
              rw [HP.out]
              rintro e w2 ⟨rfl, hb⟩
              have HB2 := Lib.hid ((HBI.out.trans ((bel_dn (Below.refl _ _) _).trans hb |>.mono HBI.out.size)))
              clear hb
              go_wp2_with fail
              go_roundw
              case rel => exact ⟨k + 1, by omega, by go_num, HB2.out⟩
              case measure => simp [intOf]; omega
      · obtain rfl : i = N := by omega
        go_wp2_with fail
        with_reducible refine (works_any _).mono ?_
        rintro e w4 ⟨rfl, hb4⟩
        have HB4 := Lib.hid (HB1.out.trans ((HBI.out.trans (hb4.mono HBI.out.size)).mono HB1.out.size))
        clear hb4
        go_wp2_with fail
        go_ret
        exact ⟨rfl, HB4.out⟩
set_option maxRecDepth 100000 in
set_option maxHeartbeats 1000000 in
theorem walk_out (w : World) (n : Int) (h : n < 1 ∨ 3652059 < n) :
    Calls Tryz.prog 11 #[.int .i64 n] w fun e w' => e = .returned (.bool true) ∧ Below w.heap.size w w' := by
  have H := Lib.hid h
  rcases h with h | h
  all_goals
    go_enter Tryz.func11, Tryz.ntmps11
    go_wp2_with fail
    with_reducible refine (forms_no n _ H.out).mono ?_
    rintro e w1 ⟨rfl, rfl⟩
    go_wp2_with fail
    with_reducible refine (works_any _).mono ?_
    rintro e w4 ⟨rfl, hb4⟩
    have HB4 := Lib.hid hb4
    clear hb4
    go_wp2_with fail
    go_ret
    exact ⟨rfl, HB4.out⟩
theorem walk (w : World) (n : Int) (wf : (Lit.int .i64 n).wf = true) (ht : PTabs w) :
    Calls Tryz.prog 11 #[.int .i64 n] w fun e w' => e = .returned (.bool true) ∧ Below w.heap.size w w' := by
  by_cases h : n < 1 ∨ 3652059 < n
  · exact walk_out w n h
  · obtain ⟨k, rfl⟩ : ∃ k : Nat, n = k := ⟨n.toNat, by omega⟩
    exact walk_in w k (by omega) (by omega) ht

theorem laidOut : laidOutB Tryz.prog = true := by kernel_rfl
set_option maxRecDepth 100000 in
theorem contract (H : Type) (enc : TypeId × Value → H) (W : World) (base : Nat) (args : Array Value) (ds gs : List (DataW H)) (before : List MemPlace)
    (hval : ∀ (j : Nat) t v, Tryz.f11.params[j]? = some t → args[j]? = some v → Value.okWide Tryz.prog W .any base t v)
    (hW : DataW.Whole enc Tryz.prog Tryz.f11.params.toList Rows.caldateUniqueSpec.vars false W args.toList ds gs before) (hL : laidMetH Tryz.prog Rows.caldateUniqueRow.laid W) (hS : W.ShapedOpen Tryz.prog)
    (hR : (DataW.weightsEach Tryz.prog (Tryz.f11.params.toList ++ (OpenSpec.ofChange Rows.caldateUniqueSpec).bare.plain.varTypes Tryz.prog) (ds ++ gs)).all (· ≤ reachBytes) = true) :
    Calls Tryz.prog 11 args W fun e W' => ∃ v, e = .returned v ∧ Rows.caldateUniqueSpec.post enc Tryz.prog Tryz.f11 false true false false W args v W' := by
  have hT : PTabs W := ptabs_of_laid hL hS
  have hW' := hW
  obtain ⟨p, q, hA0, hV, rfl, hfz, hnd⟩ := hW
  have hA : DataW.TrodAll enc Tryz.prog W 0 (fun _ => true) true Tryz.f11.params.toList args.toList ds p := hA0
  rw [Tryz.params11] at hA hval hR
  obtain ⟨v0, vs0, d0, ds0, p0, q0, hargs, rfl, rfl, h0, r0⟩ := trodAll_cons hA
  obtain ⟨rfl, rfl, rfl⟩ := trodAll_nil r0
  obtain rfl : args = #[v0] := by cases args; simp_all
  obtain ⟨rfl, rfl⟩ := trodVars_none hV
  clear hA0
  simp only [List.append_nil] at hW' hR
  have k0 := h0
  have l0 : ∀ x ∈ p0, x.block < W.heap.size := fun x hx => by simpa using hW'.lt x (by simp [hx])
  obtain ⟨a0, rfl, rfl, rfl, w0⟩ := open_int Tryz.underlying3 (hval 0 3 v0 rfl rfl) h0
  refine (walk W a0 w0 hT).mono fun e W' ⟨he, bel⟩ => ?_
  subst he
  exact ⟨_, rfl, _, _, _, [], _, [], hW', trodAll_mk1 (shut_bool Tryz.underlying4 _), (trodAll_cons_mk (Below.trod laidOut (by kernel_rfl) (of_decide_eq_true (by kernel_rfl)) k0 bel l0) trodAll_mk0), rfl, bel.frame _, fun h => by cases h⟩

theorem reads (os : Os) {H : Type} (enc : TypeId × Value → H) : ∃ places, DataW.whole enc Tryz.prog ((laidWorldP os).forCall (fun _ _ => 0) ⟨#[], #[.int .i64 0], []⟩).memory Tryz.f11.params.toList Rows.caldateUniqueSpec.vars false #[.int .i64 0].toList 8 = some ([.lit (.int .i64 0)], [], places) :=
  ⟨[], by kernel_rfl⟩

set_option maxRecDepth 100000 in
theorem lifted (os : Os) (started : os.Started) (H : Type) (enc : TypeId × Value → H) (F : Stop.Interp) :
    ReturnsInHanded {} Tryz.checked os 11 .any ((OpenSpec.ofChange Rows.caldateUniqueSpec).preRow enc Tryz.prog Tryz.f11 Rows.caldateUniqueRow.domain false Rows.caldateUniqueRow.laid) (((OpenSpec.ofChange Rows.caldateUniqueSpec).at F).post enc Tryz.prog Tryz.f11 false true false false) := by
  obtain ⟨places, hx⟩ := reads os enc
  refine returnsInHanded_of_row (C := Tryz.checked) (s := (OpenSpec.ofChange Rows.caldateUniqueSpec)) own started (by kernel_rfl) Tryz.func11
    (witness_row_at (enc := enc) (C := Tryz.checked) false (laidWorldP os) #[.int .i64 0] rfl (by kernel_rfl) (by kernel_rfl) (by kernel_rfl)
      (OpenSpec.preRow_of_cond 8 hx (by kernel_rfl) (fun k hk => by cases hk) (by kernel_rfl) (laid_metP os _))) ?_
  intro W base args ds gs before hval hW _ hcond hR hL hS _
  exact contract H enc W base args ds gs before hval hW hL hS hR

theorem said : Rows.CaldateUniqueSaid :=
  OpenClaim.holds_of_cond 11 Tryz.f11 rfl rfl rfl rfl rfl rfl rfl ⟨rfl, rfl, rfl, rfl, rfl⟩ rfl rfl rfl rfl rfl (by kernel_rfl) Tryz.func11 (by kernel_rfl)
    (of_decide_eq_true (by kernel_rfl)) (by unfold Func.isWrapper; first | (rw [if_pos (by decide +kernel)]; kernel_rfl) | (rw [if_neg (by decide +kernel)]; exact ⟨rfl, rfl⟩))
    (fun os started H enc _ F => by rw [OpenClaim.pre_eq_preRow]; exact lifted os started H enc F)

theorem plain (f : FuncId) (fn : Func) (hf : Tryz.pinned.checked.prog.funcNamed "henkan/henkanlaw04.CaldateUnique" = some f) (hfn : Tryz.pinned.checked.prog.funcs[f]? = some fn) :
    true = Tryz.pinned.checked.prog.looks [] ∧ ∀ (j : Nat) t, fn.params[j]? = some t → Tryz.pinned.checked.prog.wantsStandIn t = false := by
  obtain rfl : f = 11 := Option.some.inj ((show Tryz.prog.funcNamed "henkan/henkanlaw04.CaldateUnique" = some 11 by kernel_rfl).symm.trans hf) |>.symm
  obtain rfl : fn = Tryz.f11 := (Option.some.inj (Tryz.func11.symm.trans hfn)).symm
  refine ⟨by kernel_rfl, fun j t ht => ?_⟩
  rw [Tryz.params11] at ht
  have hm := Array.mem_of_getElem? ht
  simp only [List.mem_toArray, List.mem_cons, List.not_mem_nil, or_false] at hm
  subst hm
  exact (show Tryz.prog.wantsStandIn 3 = false by kernel_rfl)

/-- the card -/
theorem proved : Rows.CaldateUniqueCardSaid :=
  Claim7.holds_tied_plain_at .later [] _ _ _ _ said (fun _ h => by cases h) (by kernel_rfl) (fun _ h => by cases h) caldateUnique_row_tie rfl ⟨rfl, rfl⟩ (by kernel_rfl) rfl plain (by kernel_rfl)
#print axioms proved
end Go.Proofs.YtnpkcobapckhdaaGreatDoor.caldateUnique
