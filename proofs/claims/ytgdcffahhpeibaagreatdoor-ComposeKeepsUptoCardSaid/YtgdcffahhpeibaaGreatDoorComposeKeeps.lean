/-
  the items before and behind the caret are kept
-/
import Derived.Deep.RegionHeldLaw
import Derived.IntWalk
import Derived.Deep.RegionHeld3
import Derived.Test.YtgdcffahhpeibaaGreatDoorCpMore
import Derived.Carry
import Derived.Laws.AppendOwnNone
namespace Go.Proofs.YtgdcffahhpeibaaGreatDoor.composeKeeps
open Go.ChangeShapes Go.WideShapes Go.ChangeAt Go.RowKit
open Go.ChangeMaps (open_string)
set_option linter.unusedVariables false

theorem u8_keep (z : Int) (X W2 : World) {B : Nat} (hb : Below B (X.alloc (.cells #[.int .u8 z] 5)) W2) (hB : (X.alloc (.cells #[.int .u8 z] 5)).heap.size ≤ B := by first | exact Nat.le_refl _ | simp) : W2.cell? ⟨X.heap.size, 0, none⟩ = some (.int .u8 z) :=
  below_cellU (cell_one_new X (.int .u8 z) 5 0 _ rfl) hb hB
/-- the part ahead of the caret, and the part behind it -/
theorem kp_before {xs : List Cp.Item} {k : Nat} {pl : List UInt8} (h : Cp.valid ⟨xs, (k : Int), pl⟩ = true) : Cp.valid ⟨xs.take k, (k : Int), pl⟩ = true ∧ Cp.raw ⟨xs.take k, (k : Int), pl⟩ = Cp.rawOf (xs.take k) ++ pl := by
  unfold Cp.valid at h ⊢
  simp only [Bool.and_eq_true, decide_eq_true_eq] at h ⊢
  obtain ⟨h1, h2, h3, h4, h5, h6⟩ := h
  have hl : (xs.take k).length = k := by rw [List.length_take]; omega
  refine ⟨⟨by omega, by omega, by omega, h4, h5, ?_⟩, ?_⟩
  · rw [List.all_eq_true] at h6 ⊢
    exact fun x hx => h6 x (List.mem_of_mem_take hx)
  · unfold Cp.raw
    dsimp only
    rw [Int.toNat_natCast, List.take_take, Nat.min_self, List.drop_eq_nil_of_le (Nat.le_of_eq hl)]
    show Cp.rawOf _ ++ (pl ++ []) = _
    rw [List.append_nil]
theorem rawOf_len : ∀ (xs : List Cp.Item), (∀ x ∈ xs, x.1.length ≤ 2000000 ∧ x.2.length ≤ 2000000) → (Cp.rawOf xs).length ≤ 2000000 * xs.length
  | [], _ => Nat.le_refl _
  | x :: xs, h => by
    have h1 := rawOf_len xs fun y hy => h y (List.mem_cons_of_mem _ hy)
    have h2 := (h x List.mem_cons_self).1
    show (x.1 ++ Cp.rawOf xs).length ≤ _
    rw [List.length_append, List.length_cons]
    omega
theorem raw_len8 {xs : List Cp.Item} {c : Int} {pl : List UInt8} (hf : Fits xs pl) (hv : Cp.valid ⟨xs, c, pl⟩ = true) : (Cp.raw ⟨xs, c, pl⟩).length ≤ 1000000000 := by
  have h64 := (valid_parts hv).1
  have h1 := rawOf_len (xs.take c.toNat) fun x hx => hf.x x (List.mem_of_mem_take hx)
  have h2 := rawOf_len (xs.drop c.toNat) fun x hx => hf.x x (List.mem_of_mem_drop hx)
  have h3 := hf.p
  have h4 : (xs.take c.toNat).length ≤ xs.length := by rw [List.length_take]; omega
  have h5 : (xs.drop c.toNat).length ≤ xs.length := by rw [List.length_drop]; omega
  show (Cp.rawOf (xs.take c.toNat) ++ (pl ++ Cp.rawOf (xs.drop c.toNat))).length ≤ _
  rw [List.length_append, List.length_append]
  omega
theorem kp_after {xs : List Cp.Item} {k : Nat} {pl : List UInt8} (h : Cp.valid ⟨xs, (k : Int), pl⟩ = true) : Cp.valid ⟨xs.drop k, 0, []⟩ = true ∧ Cp.raw ⟨xs.drop k, 0, []⟩ = Cp.rawOf (xs.drop k) := by
  unfold Cp.valid at h ⊢
  simp only [Bool.and_eq_true, decide_eq_true_eq] at h ⊢
  obtain ⟨h1, h2, h3, h4, h5, h6⟩ := h
  refine ⟨⟨by rw [List.length_drop]; omega, by omega, by omega, by decide, rfl, ?_⟩, rfl⟩
  rw [List.all_eq_true] at h6 ⊢
  exact fun x hx => h6 x (List.mem_of_mem_drop hx)

set_option maxRecDepth 100000 in
set_option maxHeartbeats 16000000 in
theorem walk (w : World) (vr : Value) (rs : List RuleB) (hlr : LieR vr rs w) (hrn : rs.length ≤ 1048576) (hrz : ∀ r ∈ rs, r.1.size ≤ 1048576 ∧ r.2.1.size ≤ 1048576 ∧ r.2.2.size ≤ 1048576) (v : Value) (xs : List Cp.Item) (c : Int) (p : ByteArray) (hl : LieG itemE v xs w) (hf : Fits xs p.data.toList) (z : Int) (hwf : (Lit.int .u8 z).wf = true) (ht : Tabs w) :
    Calls Tryz.prog 6 #[vr, bufV v c p, .int .u8 z] w fun e w' => e = .returned (.bool true) ∧ Below w.heap.size w w' := by
  have HB := Lib.hid (Below.refl w.heap.size w)
  have HT := Lib.hid ht
  clear ht
  obtain ⟨ch, hz⟩ := u8_of hwf
  have hz0 : 0 ≤ z := by omega
  have hz9 : z ≤ 255 := by have := ch.toNat_lt; omega
  have HZ := Eqq.mk hz
  have hwr : IntKind.i32.wrap z = z := by rw [IntWalk.i32_in _ (by omega)]
  clear hz
  have hIs := Is.of p
  obtain ⟨pl, hpl⟩ : ∃ pl, p.data.toList = pl := ⟨_, rfl⟩
  rw [hpl] at hIs hf
  have HP := Lib.hid hIs
  have HPB := Eqq.mk hIs.ba
  have HF := Lib.hid hf
  have HL := Lib.hid hl
  have hn2 := hf.n
  clear hIs hpl hf hl
  have HLR := Lib.hid hlr
  have HSH := Lib.hid (show Short3 rs from fun r hr => by have h := hrz r hr; omega)
  clear hlr hrz
  obtain ⟨w1, hwx⟩ : ∃ W, w.alloc (.cells #[v, .int .i64 c, .string p] 33) = W := ⟨_, rfl⟩
  have HWX1 := Eqq.mk hwx
  have hb : Below w.heap.size w w1 := by rw [← hwx]; exact (Below.refl _ _).alloc (Nat.le_refl _) _
  have HB := Lib.hid (HB.out.trans (hb.mono HB.out.size))
  have HT := Lib.hid (HT.out.keep hb)
  have HL := Lib.hid (HL.out.keep hb)
  have HLR := Lib.hid (HLR.out.keep hb)
  have RB := Lib.hid (show RowIs 33 w.heap.size (v) (c) (p) w1 from by rw [← hwx]; exact RowIs.new _ _ _ _ _)
  clear hb hwx
  go_enter Tryz.func6, Tryz.ntmps6
  go_wp2_with fail
  rw [HWX1.out]
  with_reducible refine (new_any vr rs _ HLR.out (Nat.le_trans hrn (by decide)) HSH.out HT.out).mono ?_
  rintro e w2 ⟨hv, hb⟩
  have HB := Lib.hid (HB.out.trans (hb.mono HB.out.size))
  have HT := Lib.hid (HT.out.keep hb)
  have HL := Lib.hid (HL.out.keep hb)
  have HLR := Lib.hid (HLR.out.keep hb)
  have RB := Lib.hid (RB.out.keep hb)
  clear hb
  rcases hv with ⟨hne, rfl⟩ | ⟨hok, a, rfl, ha⟩
  · obtain ⟨E, hE⟩ : ∃ E, Ro.check (rulesL rs) = E := ⟨_, rfl⟩
    have HE := Eqq.mk hE
    rw [hE] at hne
    rw [hE]
    have i0 : ¬ ((E : Nat) : Int) = 0 := by omega
    have i1 : (((E : Nat) : Int) == 0) = false := by rw [beq_eq_false_iff_ne]; exact i0
    clear hne hE
    go_wp2_with fail
    with_reducible refine (works_any _ HT.out).mono ?_
    rintro e w3 ⟨rfl, hb⟩
    have HB := Lib.hid (HB.out.trans (hb.mono HB.out.size))
    have HT := Lib.hid (HT.out.keep hb)
    have HL := Lib.hid (HL.out.keep hb)
    have HLR := Lib.hid (HLR.out.keep hb)
    have RB := Lib.hid (RB.out.keep hb)
    clear hb
    go_wp2_with fail
    go_ret
    exact ⟨rfl, by first | exact HB.out | exact HB.out.drew⟩
  · have HOK := Eqq.mk hok
    have HA := Lib.hid (show AutoAt rs a w2 from ha)
    have hr500 : rs.length ≤ 500 := by have h := ((Ro.check_zero (rulesL rs)).1 hok).1; unfold rulesL at h; rw [List.length_map] at h; exact h
    clear hok ha
    obtain ⟨⟨⟨nx, nc, nl⟩, er⟩, hkey⟩ : ∃ q, Cp.key (rulesL rs) ⟨xs, c, pl⟩ ch = q := ⟨_, rfl⟩
    have HKEY := Eqq.mk hkey
    obtain ⟨np, hnp⟩ : ∃ np, ba nl = np := ⟨_, rfl⟩
    have HNP := Eqq.mk hnp
    have HNI := Lib.hid (show Is np nl by rw [← hnp]; exact is_ba nl)
    clear hkey hnp
    obtain ⟨⟨RBc0, RBc1, RBc2⟩, RBf0, RBf1, RBf2⟩ := three_cells RB.out
    go_wp2_with fail
    clear RBc0 RBc1 RBc2 RBf0 RBf1 RBf2
    with_reducible refine (pkey_any _ a rs v xs c p pl ch z HZ.out _ HL.out HP.out HF.out HA.out (Nat.le_refl _) HT.out).mono ?_
    rw [HKEY.out]
    rintro e w3 ⟨hr, hb⟩
    have HB := Lib.hid (HB.out.trans (hb.mono HB.out.size))
    have HT := Lib.hid (HT.out.keep hb)
    have HL := Lib.hid (HL.out.keep hb)
    have HLR := Lib.hid (HLR.out.keep hb)
    have RB := Lib.hid (RB.out.keep hb)
    have HA := Lib.hid (HA.out.keep hb)
    obtain ⟨a2, n2, c2, rfl, hn2x, ho⟩ := hr.open HNP.out
    have HLX := Lib.hid ho.lie
    clear ho hr hn2x
    clear hb
    obtain ⟨w4, hwx⟩ : ∃ W, w3.alloc (.cells #[.slice a2 n2 c2, .int .i64 nc, .string np] 33) = W := ⟨_, rfl⟩
    have HWX2 := Eqq.mk hwx
    have hb : Below w3.heap.size w3 w4 := by rw [← hwx]; exact (Below.refl _ _).alloc (Nat.le_refl _) _
    have HB := Lib.hid (HB.out.trans (hb.mono HB.out.size))
    have HT := Lib.hid (HT.out.keep hb)
    have HL := Lib.hid (HL.out.keep hb)
    have HLR := Lib.hid (HLR.out.keep hb)
    have RB := Lib.hid (RB.out.keep hb)
    have HA := Lib.hid (HA.out.keep hb)
    have HLX := Lib.hid (HLX.out.keep hb)
    have RX := Lib.hid (show RowIs 33 w3.heap.size (.slice a2 n2 c2) (nc) (np) w4 from by rw [← hwx]; exact RowIs.new _ _ _ _ _)
    clear hb hwx
    by_cases her : er = 0
    · subst her
      obtain ⟨hv9, _, h8s, _, _⟩ := Cp.key_ok HKEY.out
      have HV := Eqq.mk hv9
      obtain ⟨h64, ⟨k, rfl, hk⟩, h8, _, _⟩ := valid_parts hv9
      have HFX := Lib.hid (key_fits HKEY.out HF.out)
      have HNV := Eqq.mk (Cp.key_valid HOK.out HKEY.out).1
      have HBV := Lib.hid (kp_before hv9)
      have HAV := Lib.hid (kp_after hv9)
      have HFB := Lib.hid (show Fits (xs.take k) pl from ⟨by rw [List.length_take]; have := HF.out.n; omega, HF.out.p, fun x hx => HF.out.x x (List.mem_of_mem_take hx)⟩)
      have HFA := Lib.hid (show Fits (xs.drop k) [] from ⟨by rw [List.length_drop]; have := HF.out.n; omega, by decide, fun x hx => HF.out.x x (List.mem_of_mem_drop hx)⟩)
      obtain ⟨n, hn⟩ : ∃ n, xs.length = n := ⟨_, rfl⟩
      have HN := Eqq.mk hn
      obtain ⟨ao, cap, rfl, hcap, hno, hsp, hx⟩ := id HL.out
      rw [hn] at RB HL hcap hk h64
      try rw [hn]
      have HNO := Lib.hid hno
      have HSP := Lib.hid hsp
      have d0 : decide ((k : Int) < 0) = false := decide_eq_false (by omega)
      have d1 : decide ((n : Int) < (k : Int)) = false := decide_eq_false (by omega)
      have hpz : p.size ≤ 8 := by rw [HP.out.size]; exact h8
      obtain ⟨⟨ol, sl⟩, hst⟩ : ∃ q, Au.step (rulesL rs) pl ch = q := ⟨_, rfl⟩
      have HST := Eqq.mk hst
      rw [hst] at h8s
      dsimp only at h8s
      obtain ⟨ob, hob⟩ : ∃ ob, ba ol = ob := ⟨_, rfl⟩
      obtain ⟨sb, hsb⟩ : ∃ sb, ba sl = sb := ⟨_, rfl⟩
      have HO := Lib.hid (show Is ob ol by rw [← hob]; exact is_ba ol)
      have HSL := Lib.hid (show Is sb sl by rw [← hsb]; exact is_ba sl)
      have hsz : sb.size ≤ 8 := by rw [HSL.out.size]; exact h8s
      have H2V := Eqq.mk (two_v (ol, sl) ob sb hob hsb)
      obtain ⟨kb, hkb⟩ : ∃ kb, ba [ch] = kb := ⟨_, rfl⟩
      have HKI := Lib.hid (show Is kb [ch] by rw [← hkb]; exact is_ba [ch])
      have hkz : kb.size = 1 := by rw [← hkb, ba_size]; rfl
      have HCV := Lib.hid (fun (W : World) (b : Nat) (h : W.cell? ⟨b, 0, none⟩ = some (.int .u8 z)) => show (convert 57 9 (.slice (some ⟨b, 0, none⟩) 1 1)).run Tryz.prog W = .ok (.string kb) W from by rw [← hkb]; exact conv_one ch z HZ.out W b h)
      obtain ⟨ab, hab⟩ : ∃ ab, p ++ kb = ab := ⟨_, rfl⟩
      have HAB := Lib.hid (show Is ab (pl ++ [ch]) by rw [← hab, ← hkb]; exact HP.out.append (is_ba [ch]))
      have hbig : ¬ 9223372036854775807 < p.size + kb.size := by omega
      have habz : ab.size ≤ 9 := by rw [← hab, ByteArray.size_append]; omega
      clear hv9 hst hob hsb hkb h8s hno hsp hx h64
      obtain ⟨⟨RBc0, RBc1, RBc2⟩, RBf0, RBf1, RBf2⟩ := three_cells (show (w3.alloc (.cells #[.slice a2 n2 c2, .int .i64 nc, .string np] 33)).heap[_]? = _ from by rw [HWX2.out]; exact RB.out)
      go_upto_region 7 with fail
      clear RBc0 RBc1 RBc2 RBf0 RBf1 RBf2
      rw [HWX2.out]
      obtain ⟨⟨y0, y1, y2⟩, z0, z1, z2⟩ := three_cells RB.out
      have hcv := HCV.out (w4.alloc (.cells #[.int .u8 z] 5)) w4.heap.size (cell_one_new w4 (.int .u8 z) 5 0 _ rfl)
      obtain ⟨w5, hwx⟩ : ∃ W, w4.alloc (.cells #[.int .u8 z] 5) = W := ⟨_, rfl⟩
      have HWU := Eqq.mk hwx
      have hb : Below w4.heap.size w4 w5 := by rw [← hwx]; exact (Below.refl _ _).alloc (Nat.le_refl _) _
      have HB := Lib.hid (HB.out.trans (hb.mono HB.out.size))
      have HT := Lib.hid (HT.out.keep hb)
      have HL := Lib.hid (HL.out.keep hb)
      have HLR := Lib.hid (HLR.out.keep hb)
      have RB := Lib.hid (RB.out.keep hb)
      have HA := Lib.hid (HA.out.keep hb)
      have HLX := Lib.hid (HLX.out.keep hb)
      have RX := Lib.hid (RX.out.keep hb)
      clear hb hwx
      obtain ⟨⟨RBc0, RBc1, RBc2⟩, RBf0, RBf1, RBf2⟩ := three_cells (show (w4.alloc (.cells #[.int .u8 z] 5)).heap[_]? = _ from by rw [HWU.out]; exact RB.out)
      go_wp2_with fail
      clear RBc0 RBc1 RBc2 RBf0 RBf1 RBf2
      rw [HWU.out]
      with_reducible refine (step_any _ a rs p pl ch z HZ.out _ HA.out (Nat.le_refl _) HP.out (by omega)).mono ?_
      rw [HST.out, H2V.out]
      rintro e w6 ⟨rfl, hb⟩
      have HB := Lib.hid (HB.out.trans (hb.mono HB.out.size))
      have HT := Lib.hid (HT.out.keep hb)
      have HL := Lib.hid (HL.out.keep hb)
      have HLR := Lib.hid (HLR.out.keep hb)
      have RB := Lib.hid (RB.out.keep hb)
      have HA := Lib.hid (HA.out.keep hb)
      have HLX := Lib.hid (HLX.out.keep hb)
      have RX := Lib.hid (RX.out.keep hb)
      clear hb
      clear hcv y0 y1 y2 z0 z1 z2 hbig
      obtain ⟨Q, hQ⟩ : ∃ Q, decide (ab.size < sb.size ∨ ab.extract (ab.size - sb.size) ab.size ≠ sb ∨ (ob.toList = [] ∧ sb.toList ≠ ab.toList)) = Q := ⟨_, rfl⟩
      have HQ := Eqq.mk hQ
      clear hQ
      go_upto_region 9 with fail
      go_cut [89] from 65 (fun bv wx => bv = .bool Q ∧ wx = w6)
      case first =>
        by_cases hle : sb.size ≤ ab.size
        · obtain ⟨d, hd⟩ : ∃ d, ab.size = sb.size + d := ⟨ab.size - sb.size, by omega⟩
          have g0 : (ab.size : Int) - (sb.size : Int) = (d : Int) := by omega
          have g1 : ¬ (ab.size : Int) < (sb.size : Int) := by omega
          have d9 : decide ((ab.size : Int) < (sb.size : Int)) = false := decide_eq_false g1
          have g2 : (d : Int) ≤ (ab.size : Int) := by omega
          have g3 : d ≤ ab.size := by omega
          have g4 : (0 : Int) ≤ (d : Int) := by omega
          have hdd : ab.size - sb.size = d := by omega
          rw [hdd] at HQ
          obtain ⟨u, hu⟩ : ∃ u, ab.extract d ab.size = u := ⟨_, rfl⟩
          rw [hu] at HQ
          by_cases hq : u = sb
          · rw [hq] at hu HQ
            have hbq : (sb.toList == sb.toList) = true := by rw [beq_iff_eq]
            by_cases ho0 : ob.toList = []
            · have o1 : (ob.toList == []) = true := by rw [beq_iff_eq]; exact ho0
              by_cases hr0 : sb.toList = ab.toList
              · have r1 : (sb.toList == ab.toList) = true := by rw [beq_iff_eq]; exact hr0
                have HQ2 := Eqq.mk (show Q = false by rw [← HQ.out]; exact decide_eq_false (by rintro (h | h | h); exact absurd h (by omega); exact h rfl; exact h.2 hr0))
                clear ho0 hr0 hd hdd hle
                go_wp2_with fail
                go_meet
                case rel => exact ⟨by rw [HQ2.out], rfl⟩
              · have r1 : (sb.toList == ab.toList) = false := by rw [beq_eq_false_iff_ne]; exact hr0
                have HQ2 := Eqq.mk (show Q = true by rw [← HQ.out]; exact decide_eq_true (.inr (.inr ⟨ho0, hr0⟩)))
                clear ho0 hr0 hd hdd hle
                go_wp2_with fail
                go_meet
                case rel => exact ⟨by rw [HQ2.out], rfl⟩
            · have o1 : (ob.toList == []) = false := by rw [beq_eq_false_iff_ne]; exact ho0
              have HQ2 := Eqq.mk (show Q = false by rw [← HQ.out]; exact decide_eq_false (by rintro (h | h | h); exact absurd h (by omega); exact h rfl; exact ho0 h.1))
              clear ho0 hd hdd hle
              go_wp2_with fail
              go_meet
              case rel => exact ⟨by rw [HQ2.out], rfl⟩
          · have hqt : ¬ u.toList = sb.toList := fun h => hq (by rw [Is.of u |>.ba, Is.of sb |>.ba, ← Lib.toList_data, ← Lib.toList_data, h])
            have hbq : (u.toList == sb.toList) = false := by rw [beq_eq_false_iff_ne]; exact hqt
            have HQ2 := Eqq.mk (show Q = true by rw [← HQ.out]; exact decide_eq_true (.inr (.inl hq)))
            clear hqt hq hd hdd hle
            go_wp2_with fail
            go_meet
            case rel => exact ⟨by rw [HQ2.out], rfl⟩
        · have g1 : (ab.size : Int) < (sb.size : Int) := by omega
          have d9 : decide ((ab.size : Int) < (sb.size : Int)) = true := decide_eq_true g1
          have HQ2 := Eqq.mk (show Q = true by rw [← HQ.out]; exact decide_eq_true (.inl (by omega)))
          go_wp2_with fail
          go_meet
          case rel => exact ⟨by rw [HQ2.out], rfl⟩
      case rest =>
        obtain ⟨rfl, hcw⟩ := hcut
        have hcw2 := hcw.symm
        clear hcw
        subst hcw2
        cases Q
        · have hnq := of_decide_eq_false HQ.out
          have HKEEP := Eqq.mk (show Cp.raw ⟨nx, nc, nl⟩ = Cp.rawOf (xs.take k) ++ (pl ++ [ch]) ++ Cp.rawOf (xs.drop k) from by
            have e1 := HAB.out.size
            have e2 := HSL.out.size
            have hle : sb.size ≤ ab.size := Nat.le_of_not_lt fun h => hnq (.inl h)
            have hex : ab.extract (ab.size - sb.size) ab.size = sb := Decidable.byContradiction fun h => hnq (.inr (.inl h))
            have hdr : (pl ++ [ch]).drop ((pl ++ [ch]).length - sl.length) = sl := by
              have h1 : Is sb ((pl ++ [ch]).drop (ab.size - sb.size)) := by
                have h0 := HAB.out.from (ab.size - sb.size)
                rw [hex] at h0
                exact h0
              have h2 := h1.list
              rw [HSL.out.list, e1, e2] at h2
              exact h2.symm
            have h3 : ol ≠ [] ∨ sl = pl ++ [ch] := by
              by_cases h : ol = []
              · refine .inr (Decidable.byContradiction fun h' => hnq (.inr (.inr ⟨by rw [HO.out.list]; exact h, by rw [HSL.out.list, HAB.out.list]; exact h'⟩)))
              · exact .inl h
            have h9 := Cp.keeps_law HKEY.out (by rw [HST.out]; show sl.length ≤ (pl ++ [ch]).length; omega) (by rw [HST.out]; exact hdr) (by rw [HST.out]; exact h3)
            rw [Int.toNat_natCast] at h9
            exact h9)
          clear hnq
          obtain ⟨sA, hsA⟩ : ∃ s, ba (Cp.raw ⟨nx, nc, nl⟩) = s := ⟨_, rfl⟩
          obtain ⟨sB, hsB⟩ : ∃ s, ba (Cp.rawOf (xs.take k) ++ pl) = s := ⟨_, rfl⟩
          obtain ⟨sD, hsD⟩ : ∃ s, ba (Cp.rawOf (xs.drop k)) = s := ⟨_, rfl⟩
          have HRA := Eqq.mk (show RawV ⟨nx, nc, nl⟩ = .returned (.string sA) by unfold RawV; rw [if_pos HNV.out, hsA])
          have HRB := Eqq.mk (show RawV ⟨xs.take k, (k : Int), pl⟩ = .returned (.string sB) by unfold RawV; rw [if_pos HBV.out.1, HBV.out.2, hsB])
          have HRD := Eqq.mk (show RawV ⟨xs.drop k, 0, []⟩ = .returned (.string sD) by unfold RawV; rw [if_pos HAV.out.1, HAV.out.2, hsD])
          obtain ⟨sE, hsE⟩ : ∃ s, sB ++ kb = s := ⟨_, rfl⟩
          have hsF : sE ++ sD = sA := by
            have h1 : Is sB (Cp.rawOf (xs.take k) ++ pl) := by rw [← hsB]; exact is_ba _
            have h2 : Is sD (Cp.rawOf (xs.drop k)) := by rw [← hsD]; exact is_ba _
            have h3 := ((h1.append HKI.out).append h2).ba
            rw [hsE] at h3
            rw [h3, ← hsA, HKEEP.out]
            simp only [List.append_assoc]
          have HAZ := Lib.hid (show (Cp.raw ⟨nx, nc, nl⟩).length ≤ 1000000000 from raw_len8 HFX.out HNV.out)
          have haz : sA.size ≤ 1000000000 := by rw [← hsA, ba_size]; exact HAZ.out
          have hez : sE.size + sD.size = sA.size := by rw [← hsF, ByteArray.size_append]
          have hbz : sB.size + kb.size = sE.size := by rw [← hsE, ByteArray.size_append]
          have hbg1 : ¬ 9223372036854775807 < sB.size + kb.size := by omega
          have hbg2 : ¬ 9223372036854775807 < sE.size + sD.size := by omega
          have hbq : (sA.toList == sA.toList) = true := by rw [beq_iff_eq]
          clear hsA hsB hsD haz hez hbz
          go_upto_region 11 with fail
          go_cut [14] from 91 (fun pa wx => ∃ (a1 : Option Addr) (m1 q1 : Nat), pa = .pointer (some ⟨w6.heap.size, 0, none⟩) ∧ RowIs 33 w6.heap.size (.slice a1 m1 q1) k p wx ∧ LieG itemE (.slice a1 m1 q1) (xs.take k) wx ∧ Below w6.heap.size w6 wx)
          case first =>
            have HKP := Lib.hid (fun (W : World) (hW : Below w6.heap.size w6 W) => (show (Below w6.heap.size w6 W ∧ (W.cell? ⟨w.heap.size, 0, none⟩ = some (.slice ao n cap) ∧ W.cell? ⟨w.heap.size, 1, none⟩ = some (.int .i64 k) ∧ W.cell? ⟨w.heap.size, 2, none⟩ = some (.string p))) from ⟨hW, (three_cells (RB.out.keep hW)).1⟩))
            obtain ⟨⟨y0, y1, y2⟩, z0, z1, z2⟩ := three_cells RB.out
            have i1 : (k : Int) ≤ (n : Int) := by omega
            have i2 : (0 : Int) ≤ (k : Int) := by omega
            have i3 : (k : Int) ≤ (cap : Int) := by omega
            cases ao with
              | none =>
                obtain rfl : cap = 0 := HNO.out rfl
                obtain rfl : n = 0 := by omega
                obtain rfl : k = 0 := by omega
                have HX0 := Eqq.mk (show xs = [] from List.eq_nil_of_length_eq_zero HN.out)
                have HLT := Lib.hid (show LieG itemE (.slice none 0 0) (xs.take 0) w6 by rw [List.take_zero]; exact LieG.nil _)
                have HLD := Lib.hid (show LieG itemE (.slice none 0 0) (xs.drop 0) w6 by rw [HX0.out]; exact LieG.nil _)
                go_region_held3 (fun W => (Below w6.heap.size w6 W ∧ (W.cell? ⟨w.heap.size, 0, none⟩ = some (.slice none 0 0) ∧ W.cell? ⟨w.heap.size, 1, none⟩ = some (.int .i64 ((0 : Nat) : Int)) ∧ W.cell? ⟨w.heap.size, 2, none⟩ = some (.string p))))
                  (first | exact HKP.out _ (Below.refl _ _) | exact HKP.out _ (Below.refl _ _).drew | exact HKP.out _ ((Below.refl _ _).alloc (Nat.le_refl _) _) | exact HKP.out _ ((Below.refl _ _).drew.alloc (Nat.le_refl _) _) | exact HKP.out _ (((Below.refl _ _).alloc (Nat.le_refl _) _).drew) | go_keep)
                  (fail)
                all_goals
                  (rename_i hHeld
                   have HDD := Lib.hid hHeld.1
                   clear hHeld
                   go_wp2_with fail
                   go_meet
                   case rel => exact ⟨_, _, _, rfl, RowIs.new _ _ _ _ _, HLT.out.keep HDD.out, HDD.out⟩)
              | some ad =>
                obtain ⟨gg, o, rfl⟩ := HSP.out ad rfl
                have HLT := Lib.hid (show LieG itemE (.slice (some ⟨gg, o, none⟩) k cap) (xs.take k) w6 from HL.out.take hk)
                by_cases hck : cap = k
                · have HLD := Lib.hid (show LieG itemE (.slice (some ⟨gg, o, none⟩) 0 0) (xs.drop k) w6 from lie_full HL.out hk hck)
                  have hck2 : k = cap := hck.symm
                  clear hck
                  subst hck2
                  go_region_held3 (fun W => (Below w6.heap.size w6 W ∧ (W.cell? ⟨w.heap.size, 0, none⟩ = some (.slice (some ⟨gg, o, none⟩) n k) ∧ W.cell? ⟨w.heap.size, 1, none⟩ = some (.int .i64 k) ∧ W.cell? ⟨w.heap.size, 2, none⟩ = some (.string p))))
                    (first | exact HKP.out _ (Below.refl _ _) | exact HKP.out _ (Below.refl _ _).drew | exact HKP.out _ ((Below.refl _ _).alloc (Nat.le_refl _) _) | exact HKP.out _ ((Below.refl _ _).drew.alloc (Nat.le_refl _) _) | exact HKP.out _ (((Below.refl _ _).alloc (Nat.le_refl _) _).drew) | go_keep)
                    (fail)
                  all_goals
                    (rename_i hHeld
                     have HDD := Lib.hid hHeld.1
                     clear hHeld
                     go_wp2_with fail
                     go_meet
                     case rel => exact ⟨_, _, _, rfl, RowIs.new _ _ _ _ _, HLT.out.keep HDD.out, HDD.out⟩)
                · have HLD := Lib.hid (show LieG itemE (.slice (some ⟨gg, o + k * 2, none⟩) (n - k) (cap - k)) (xs.drop k) w6 from HL.out.drop hk)
                  have j1 : ¬ cap - k = 0 := by omega
                  have j2 : ¬ (cap : Int) = (k : Int) := by omega
                  go_region_held3 (fun W => (Below w6.heap.size w6 W ∧ (W.cell? ⟨w.heap.size, 0, none⟩ = some (.slice (some ⟨gg, o, none⟩) n cap) ∧ W.cell? ⟨w.heap.size, 1, none⟩ = some (.int .i64 k) ∧ W.cell? ⟨w.heap.size, 2, none⟩ = some (.string p))))
                    (first | exact HKP.out _ (Below.refl _ _) | exact HKP.out _ (Below.refl _ _).drew | exact HKP.out _ ((Below.refl _ _).alloc (Nat.le_refl _) _) | exact HKP.out _ ((Below.refl _ _).drew.alloc (Nat.le_refl _) _) | exact HKP.out _ (((Below.refl _ _).alloc (Nat.le_refl _) _).drew) | go_keep)
                    (fail)
                  all_goals
                    (rename_i hHeld
                     have HDD := Lib.hid hHeld.1
                     clear hHeld
                     go_wp2_with fail
                     go_meet
                     case rel => exact ⟨_, _, _, rfl, RowIs.new _ _ _ _ _, HLT.out.keep HDD.out, HDD.out⟩)
          case rest =>
            obtain ⟨a1, m1, q1, rfl, hr1, hl1, hb⟩ := hcut
            obtain ⟨w71, hw71⟩ : ∃ W, W = wc := ⟨_, rfl⟩
            subst hw71
            have HB := Lib.hid (HB.out.trans (hb.mono HB.out.size))
            have HT := Lib.hid (HT.out.keep hb)
            have HL := Lib.hid (HL.out.keep hb)
            have HLR := Lib.hid (HLR.out.keep hb)
            have RB := Lib.hid (RB.out.keep hb)
            have HA := Lib.hid (HA.out.keep hb)
            have HLX := Lib.hid (HLX.out.keep hb)
            have RX := Lib.hid (RX.out.keep hb)
            have RT := Lib.hid hr1
            have HLF := Lib.hid hl1
            clear hb hr1 hl1
            go_upto_region 12 with fail
            go_cut [15] from 101 (fun pa wx => ∃ (a3 : Option Addr) (m3 q3 : Nat), pa = .pointer (some ⟨w71.heap.size, 0, none⟩) ∧ RowIs 33 w71.heap.size (.slice a3 m3 q3) 0 ⟨#[]⟩ wx ∧ LieG itemE (.slice a3 m3 q3) (xs.drop k) wx ∧ Below w71.heap.size w71 wx)
            case first =>
              have HKP := Lib.hid (fun (W : World) (hW : Below w71.heap.size w71 W) => (show (Below w71.heap.size w71 W ∧ (W.cell? ⟨w.heap.size, 0, none⟩ = some (.slice ao n cap) ∧ W.cell? ⟨w.heap.size, 1, none⟩ = some (.int .i64 k) ∧ W.cell? ⟨w.heap.size, 2, none⟩ = some (.string p))) from ⟨hW, (three_cells (RB.out.keep hW)).1⟩))
              obtain ⟨⟨y0, y1, y2⟩, z0, z1, z2⟩ := three_cells RB.out
              have i1 : (k : Int) ≤ (n : Int) := by omega
              have i2 : (0 : Int) ≤ (k : Int) := by omega
              have i3 : (k : Int) ≤ (cap : Int) := by omega
              cases ao with
                | none =>
                  obtain rfl : cap = 0 := HNO.out rfl
                  obtain rfl : n = 0 := by omega
                  obtain rfl : k = 0 := by omega
                  have HX0 := Eqq.mk (show xs = [] from List.eq_nil_of_length_eq_zero HN.out)
                  have HLT := Lib.hid (show LieG itemE (.slice none 0 0) (xs.take 0) w71 by rw [List.take_zero]; exact LieG.nil _)
                  have HLD := Lib.hid (show LieG itemE (.slice none 0 0) (xs.drop 0) w71 by rw [HX0.out]; exact LieG.nil _)
                  go_wp2_with fail
                  go_meet
                  case rel => exact ⟨_, _, _, rfl, RowIs.new _ _ _ _ _, HLD.out.keep ((Below.refl _ _).alloc (Nat.le_refl _) _), (Below.refl _ _).alloc (Nat.le_refl _) _⟩
                | some ad =>
                  obtain ⟨gg, o, rfl⟩ := HSP.out ad rfl
                  have HLT := Lib.hid (show LieG itemE (.slice (some ⟨gg, o, none⟩) k cap) (xs.take k) w71 from HL.out.take hk)
                  by_cases hck : cap = k
                  · have HLD := Lib.hid (show LieG itemE (.slice (some ⟨gg, o, none⟩) 0 0) (xs.drop k) w71 from lie_full HL.out hk hck)
                    have hck2 : k = cap := hck.symm
                    clear hck
                    subst hck2
                    go_wp2_with fail
                    go_meet
                    case rel => exact ⟨_, _, _, rfl, RowIs.new _ _ _ _ _, HLD.out.keep ((Below.refl _ _).alloc (Nat.le_refl _) _), (Below.refl _ _).alloc (Nat.le_refl _) _⟩
                  · have HLD := Lib.hid (show LieG itemE (.slice (some ⟨gg, o + k * 2, none⟩) (n - k) (cap - k)) (xs.drop k) w71 from HL.out.drop hk)
                    have j1 : ¬ cap - k = 0 := by omega
                    have j2 : ¬ (cap : Int) = (k : Int) := by omega
                    go_wp2_with fail
                    go_meet
                    case rel => exact ⟨_, _, _, rfl, RowIs.new _ _ _ _ _, HLD.out.keep ((Below.refl _ _).alloc (Nat.le_refl _) _), (Below.refl _ _).alloc (Nat.le_refl _) _⟩
            case rest =>
              obtain ⟨a3, m3, q3, rfl, hr1, hl1, hb⟩ := hcut
              obtain ⟨w72, hw72⟩ : ∃ W, W = wc := ⟨_, rfl⟩
              subst hw72
              have HB := Lib.hid (HB.out.trans (hb.mono HB.out.size))
              have HT := Lib.hid (HT.out.keep hb)
              have HL := Lib.hid (HL.out.keep hb)
              have HLR := Lib.hid (HLR.out.keep hb)
              have RB := Lib.hid (RB.out.keep hb)
              have HA := Lib.hid (HA.out.keep hb)
              have HLX := Lib.hid (HLX.out.keep hb)
              have RX := Lib.hid (RX.out.keep hb)
              have RT := Lib.hid (RT.out.keep hb)
              have HLF := Lib.hid (HLF.out.keep hb)
              have RD := Lib.hid hr1
              have HLD := Lib.hid hl1
              clear hb hr1 hl1
              have HKP := Lib.hid (fun (W : World) (hW : Below w72.heap.size w72 W) => (show (Below w72.heap.size w72 W ∧ (W.cell? ⟨w3.heap.size, 0, none⟩ = some (.slice a2 n2 c2) ∧ W.cell? ⟨w3.heap.size, 1, none⟩ = some (.int .i64 nc) ∧ W.cell? ⟨w3.heap.size, 2, none⟩ = some (.string np)) ∧ (W.cell? ⟨w6.heap.size, 0, none⟩ = some (.slice a1 m1 q1) ∧ W.cell? ⟨w6.heap.size, 1, none⟩ = some (.int .i64 k) ∧ W.cell? ⟨w6.heap.size, 2, none⟩ = some (.string p)) ∧ (W.cell? ⟨w71.heap.size, 0, none⟩ = some (.slice a3 m3 q3) ∧ W.cell? ⟨w71.heap.size, 1, none⟩ = some (.int .i64 0) ∧ W.cell? ⟨w71.heap.size, 2, none⟩ = some (.string ⟨#[]⟩))) from ⟨hW, (three_cells (RX.out.keep hW)).1, (three_cells (RT.out.keep hW)).1, (three_cells (RD.out.keep hW)).1⟩))
              have HBR := Lib.hid (Below.refl w72.heap.size w72)
              have HCW1 := Lib.hid (fun (X : World) => show (convert 57 9 (.slice (some ⟨X.heap.size, 0, none⟩) 1 1)).run Tryz.prog (X.alloc (.cells #[.int .u8 z] 5)) = .ok (.string kb) (X.alloc (.cells #[.int .u8 z] 5)) from HCV.out (X.alloc (.cells #[.int .u8 z] 5)) X.heap.size (cell_one_new X (.int .u8 z) 5 0 _ rfl))
              have HCW2 := Lib.hid (fun (X : World) => show (convert 57 9 (.slice (some ⟨X.heap.size, 0, none⟩) 1 1)).run Tryz.prog (X.alloc (.cells #[.int .u8 z] 5)).drew = .ok (.string kb) (X.alloc (.cells #[.int .u8 z] 5)).drew from HCV.out (X.alloc (.cells #[.int .u8 z] 5)).drew X.heap.size (cell_one_new X (.int .u8 z) 5 0 _ rfl))
              have HCW3 := Lib.hid (fun (X : World) => show (convert 57 9 (.slice (some ⟨X.heap.size, 0, none⟩) 1 1)).run Tryz.prog (X.drew.alloc (.cells #[.int .u8 z] 5)) = .ok (.string kb) (X.drew.alloc (.cells #[.int .u8 z] 5)) from HCV.out (X.drew.alloc (.cells #[.int .u8 z] 5)) X.heap.size (cell_one_new X.drew (.int .u8 z) 5 0 _ rfl))
              have HCVD := Lib.hid (fun (W : World) (b : Nat) (h : W.cell? ⟨b, 0, none⟩ = some (.int .u8 z)) => show (convert 57 9 (.slice (some ⟨b, 0, none⟩) 1 1)).run Tryz.prog W.drew = .ok (.string kb) W.drew from HCV.out W.drew b h)
              have HC1 := Lib.hid (fun (W : World) (hW : Below w72.heap.size w72 W) => raw8_any _ nx nc np nl W (HLX.out.keep hW) HNI.out HFX.out (HT.out.keep hW))
              have HC2 := Lib.hid (fun (W : World) (hW : Below w72.heap.size w72 W) => raw8_any _ (xs.take k) k p pl W (HLF.out.keep hW) HP.out HFB.out (HT.out.keep hW))
              have HC3 := Lib.hid (fun (W : World) (hW : Below w72.heap.size w72 W) => raw8_any _ (xs.drop k) 0 ⟨#[]⟩ [] W (HLD.out.keep hW) (Is.mk []) HFA.out (HT.out.keep hW))
              have HC4 := Lib.hid (fun (W : World) (hW : Below w72.heap.size w72 W) => works_any W (HT.out.keep hW))
              obtain ⟨⟨RXc0, RXc1, RXc2⟩, RXf0, RXf1, RXf2⟩ := three_cells RX.out
              obtain ⟨⟨RTc0, RTc1, RTc2⟩, RTf0, RTf1, RTf2⟩ := three_cells RT.out
              obtain ⟨⟨RDc0, RDc1, RDc2⟩, RDf0, RDf1, RDf2⟩ := three_cells RD.out
              go_wp2_with fail
              clear RXc0 RXc1 RXc2 RXf0 RXf1 RXf2
              clear RTc0 RTc1 RTc2 RTf0 RTf1 RTf2
              clear RDc0 RDc1 RDc2 RDf0 RDf1 RDf2
              go_region_held_law (fun W => (Below w72.heap.size w72 W ∧ (W.cell? ⟨w3.heap.size, 0, none⟩ = some (.slice a2 n2 c2) ∧ W.cell? ⟨w3.heap.size, 1, none⟩ = some (.int .i64 nc) ∧ W.cell? ⟨w3.heap.size, 2, none⟩ = some (.string np)) ∧ (W.cell? ⟨w6.heap.size, 0, none⟩ = some (.slice a1 m1 q1) ∧ W.cell? ⟨w6.heap.size, 1, none⟩ = some (.int .i64 k) ∧ W.cell? ⟨w6.heap.size, 2, none⟩ = some (.string p)) ∧ (W.cell? ⟨w71.heap.size, 0, none⟩ = some (.slice a3 m3 q3) ∧ W.cell? ⟨w71.heap.size, 1, none⟩ = some (.int .i64 0) ∧ W.cell? ⟨w71.heap.size, 2, none⟩ = some (.string ⟨#[]⟩))))
                (first | exact HKP.out _ HBR.out | exact HKP.out _ HBR.out.drew | exact HKP.out _ (HBR.out.alloc HBR.out.size _) | exact HKP.out _ (HBR.out.alloc HBR.out.size _).drew | exact HKP.out _ (HBR.out.drew.alloc HBR.out.size _) | go_keep)
                (first
                 | (rw [HCW1.out _]; simp only [Result.andThen]; rw [Oper.upon_value])
                 | (rw [HCW2.out _]; simp only [Result.andThen]; rw [Oper.upon_value])
                 | (rw [HCW3.out _]; simp only [Result.andThen]; rw [Oper.upon_value])
                 | (rw [HCV.out _ _ HUC.out]; simp only [Result.andThen]; rw [Oper.upon_value])
                 | (rw [HCVD.out _ _ HUC.out]; simp only [Result.andThen]; rw [Oper.upon_value])
                 | (go_at_call 23; have huc := HUC.out; (first | (with_reducible refine (HC1.out _ HBR.out.drew).mono ?_) | (with_reducible refine (HC1.out _ HBR.out).mono ?_)); rw [HRA.out]; rintro e w99 ⟨he, hb⟩; subst he; (try have hb := Below.trans (Below.refl _ _).drew hb); have HUC := Lib.hid (below_cellU huc hb (Nat.le_refl _)); have HBR := Lib.hid (HBR.out.trans (hb.mono HBR.out.size)); clear hb huc)
                 | (go_at_call 23; (first | (with_reducible refine (HC1.out _ (HBR.out.alloc HBR.out.size _).drew).mono ?_) | (with_reducible refine (HC1.out _ (HBR.out.alloc HBR.out.size _)).mono ?_)); rw [HRA.out]; rintro e w99 ⟨he, hb⟩; subst he; (try have hb := Below.trans (Below.refl _ _).drew hb); have HUC := Lib.hid (u8_keep z _ _ hb); have HBR := Lib.hid ((HBR.out.alloc HBR.out.size _).trans (hb.mono (HBR.out.alloc HBR.out.size _).size)); clear hb)
                 | (go_at_call 23; (first | (with_reducible refine (HC1.out _ HBR.out.drew).mono ?_) | (with_reducible refine (HC1.out _ HBR.out).mono ?_)); rw [HRA.out]; rintro e w99 ⟨he, hb⟩; subst he; (try have hb := Below.trans (Below.refl _ _).drew hb); have HBR := Lib.hid (HBR.out.trans (hb.mono HBR.out.size)); clear hb)
                 | (go_at_call 23; have huc := HUC.out; (first | (with_reducible refine (HC2.out _ HBR.out.drew).mono ?_) | (with_reducible refine (HC2.out _ HBR.out).mono ?_)); rw [HRB.out]; rintro e w99 ⟨he, hb⟩; subst he; (try have hb := Below.trans (Below.refl _ _).drew hb); have HUC := Lib.hid (below_cellU huc hb (Nat.le_refl _)); have HBR := Lib.hid (HBR.out.trans (hb.mono HBR.out.size)); clear hb huc)
                 | (go_at_call 23; (first | (with_reducible refine (HC2.out _ (HBR.out.alloc HBR.out.size _).drew).mono ?_) | (with_reducible refine (HC2.out _ (HBR.out.alloc HBR.out.size _)).mono ?_)); rw [HRB.out]; rintro e w99 ⟨he, hb⟩; subst he; (try have hb := Below.trans (Below.refl _ _).drew hb); have HUC := Lib.hid (u8_keep z _ _ hb); have HBR := Lib.hid ((HBR.out.alloc HBR.out.size _).trans (hb.mono (HBR.out.alloc HBR.out.size _).size)); clear hb)
                 | (go_at_call 23; (first | (with_reducible refine (HC2.out _ HBR.out.drew).mono ?_) | (with_reducible refine (HC2.out _ HBR.out).mono ?_)); rw [HRB.out]; rintro e w99 ⟨he, hb⟩; subst he; (try have hb := Below.trans (Below.refl _ _).drew hb); have HBR := Lib.hid (HBR.out.trans (hb.mono HBR.out.size)); clear hb)
                 | (go_at_call 23; have huc := HUC.out; (first | (with_reducible refine (HC3.out _ HBR.out.drew).mono ?_) | (with_reducible refine (HC3.out _ HBR.out).mono ?_)); rw [HRD.out]; rintro e w99 ⟨he, hb⟩; subst he; (try have hb := Below.trans (Below.refl _ _).drew hb); have HUC := Lib.hid (below_cellU huc hb (Nat.le_refl _)); have HBR := Lib.hid (HBR.out.trans (hb.mono HBR.out.size)); clear hb huc)
                 | (go_at_call 23; (first | (with_reducible refine (HC3.out _ (HBR.out.alloc HBR.out.size _).drew).mono ?_) | (with_reducible refine (HC3.out _ (HBR.out.alloc HBR.out.size _)).mono ?_)); rw [HRD.out]; rintro e w99 ⟨he, hb⟩; subst he; (try have hb := Below.trans (Below.refl _ _).drew hb); have HUC := Lib.hid (u8_keep z _ _ hb); have HBR := Lib.hid ((HBR.out.alloc HBR.out.size _).trans (hb.mono (HBR.out.alloc HBR.out.size _).size)); clear hb)
                 | (go_at_call 23; (first | (with_reducible refine (HC3.out _ HBR.out.drew).mono ?_) | (with_reducible refine (HC3.out _ HBR.out).mono ?_)); rw [HRD.out]; rintro e w99 ⟨he, hb⟩; subst he; (try have hb := Below.trans (Below.refl _ _).drew hb); have HBR := Lib.hid (HBR.out.trans (hb.mono HBR.out.size)); clear hb)
                 | (go_at_call 26; (first | (with_reducible refine (HC4.out _ (HBR.out.alloc HBR.out.size _).drew).mono ?_) | (with_reducible refine (HC4.out _ (HBR.out.alloc HBR.out.size _)).mono ?_)); rintro e w99 ⟨he, hb⟩; subst he; (try have hb := Below.trans (Below.refl _ _).drew hb); have HBR := Lib.hid ((HBR.out.alloc HBR.out.size _).trans (hb.mono (HBR.out.alloc HBR.out.size _).size)); clear hb)
                 | (go_at_call 26; (first | (with_reducible refine (HC4.out _ HBR.out.drew).mono ?_) | (with_reducible refine (HC4.out _ HBR.out).mono ?_)); rintro e w99 ⟨he, hb⟩; subst he; (try have hb := Below.trans (Below.refl _ _).drew hb); have HBR := Lib.hid (HBR.out.trans (hb.mono HBR.out.size)); clear hb))
              all_goals
                (rename_i hHeld
                 clear hHeld
                 have HB := Lib.hid (HB.out.trans (HBR.out.mono HB.out.size))
                 go_wp2_with fail
                 go_ret
                 exact ⟨rfl, by first | exact HB.out | exact HB.out.drew⟩)
        · go_wp2_with fail
          with_reducible refine (works_any _ HT.out).mono ?_
          rintro e w7 ⟨rfl, hb⟩
          have HB := Lib.hid (HB.out.trans (hb.mono HB.out.size))
          have HT := Lib.hid (HT.out.keep hb)
          have HL := Lib.hid (HL.out.keep hb)
          have HLR := Lib.hid (HLR.out.keep hb)
          have RB := Lib.hid (RB.out.keep hb)
          have HA := Lib.hid (HA.out.keep hb)
          have HLX := Lib.hid (HLX.out.keep hb)
          have RX := Lib.hid (RX.out.keep hb)
          clear hb
          go_wp2_with fail
          go_ret
          exact ⟨rfl, by first | exact HB.out | exact HB.out.drew⟩
    · have r1 : (er == 0) = false := by rw [beq_eq_false_iff_ne]; exact her
      obtain ⟨⟨RBc0, RBc1, RBc2⟩, RBf0, RBf1, RBf2⟩ := three_cells (show (w3.alloc (.cells #[.slice a2 n2 c2, .int .i64 nc, .string np] 33)).heap[_]? = _ from by rw [HWX2.out]; exact RB.out)
      go_wp2_with fail
      clear RBc0 RBc1 RBc2 RBf0 RBf1 RBf2
      rw [HWX2.out]
      with_reducible refine (works_any _ HT.out).mono ?_
      rintro e w5 ⟨rfl, hb⟩
      have HB := Lib.hid (HB.out.trans (hb.mono HB.out.size))
      have HT := Lib.hid (HT.out.keep hb)
      have HL := Lib.hid (HL.out.keep hb)
      have HLR := Lib.hid (HLR.out.keep hb)
      have RB := Lib.hid (RB.out.keep hb)
      have HA := Lib.hid (HA.out.keep hb)
      have HLX := Lib.hid (HLX.out.keep hb)
      have RX := Lib.hid (RX.out.keep hb)
      clear hb
      go_wp2_with fail
      go_ret
      exact ⟨by show Ending.returned (.bool (er != 0)) = _; rw [show (er != 0) = true from bne_iff_ne.2 her], by first | exact HB.out | exact HB.out.drew⟩

theorem laidOut : laidOutB Tryz.prog = true := by kernel_rfl
set_option maxRecDepth 100000 in
theorem contract (H : Type) (enc : TypeId × Value → H) (W : World) (base : Nat) (args : Array Value) (ds gs : List (DataW H)) (before : List MemPlace)
    (hval : ∀ (j : Nat) t v, Tryz.f6.params[j]? = some t → args[j]? = some v → Value.okWide Tryz.prog W .any base t v)
    (hW : DataW.Whole enc Tryz.prog Tryz.f6.params.toList Rows.composeKeepsSpec.vars false W args.toList ds gs before) (hL : laidMetH Tryz.prog Rows.composeKeepsRow.laid W) (hS : W.ShapedOpen Tryz.prog) (hC : Rows.uptoSmall H (ds ++ gs) = true)
    (hR : (DataW.weightsEach Tryz.prog (Tryz.f6.params.toList ++ (OpenSpec.ofChange Rows.composeKeepsSpec).bare.plain.varTypes Tryz.prog) (ds ++ gs)).all (· ≤ reachBytes) = true) :
    Calls Tryz.prog 6 args W fun e W' => ∃ v, e = .returned v ∧ Rows.composeKeepsSpec.post enc Tryz.prog Tryz.f6 false true false false W args v W' := by
  have hT : Tabs W := rtabs_of_laid hL hS
  have hW' := hW
  obtain ⟨p, q, hA0, hV, rfl, hfz, hnd⟩ := hW
  have hA : DataW.TrodAll enc Tryz.prog W 0 (fun _ => true) true Tryz.f6.params.toList args.toList ds p := hA0
  rw [Tryz.params6] at hA hval hR
  obtain ⟨v0, vs0, d0, ds0, p0, q0, hargs, rfl, rfl, h0, r0⟩ := trodAll_cons hA
  obtain ⟨v1, vs1, d1, ds1, p1, q1, rfl, rfl, rfl, h1, r1⟩ := trodAll_cons r0
  obtain ⟨v2, vs2, d2, ds2, p2, q2, rfl, rfl, rfl, h2, r2⟩ := trodAll_cons r1
  obtain ⟨rfl, rfl, rfl⟩ := trodAll_nil r2
  obtain rfl : args = #[v0, v1, v2] := by cases args; simp_all
  obtain ⟨rfl, rfl⟩ := trodVars_none hV
  clear hA0
  simp only [List.append_nil] at hW' hR
  have k0 := h0
  have l0 : ∀ x ∈ p0, x.block < W.heap.size := fun x hx => by simpa using hW'.lt x (by simp [hx])
  have k1 := h1
  have l1 : ∀ x ∈ p1, x.block < W.heap.size := fun x hx => by simpa using hW'.lt x (by simp [hx])
  have k2 := h2
  have l2 : ∀ x ∈ p2, x.block < W.heap.size := fun x hx => by simpa using hW'.lt x (by simp [hx])
  have hB : Rows.uptoBulkAll _ ≤ 1048576 := of_decide_eq_true hC
  simp only [List.append_nil, Rows.uptoBulkAll] at hB
  have b0 : Rows.uptoBulk d0 ≤ 1048576 := by omega
  have b1 : Rows.uptoBulk d1 ≤ 1048576 := by omega
  have b2 : Rows.uptoBulk d2 ≤ 1048576 := by omega
  obtain ⟨xs0, hl0, hn0, hz0⟩ := open_rulesB (hval 0 27 v0 rfl rfl) h0 b0
  obtain ⟨u1, xs1, c1, pb1, rfl, hl1, hf1, _, _⟩ := open_bufB (hval 1 33 v1 rfl rfl) h1 b1 (by decide)
  obtain ⟨a2, rfl, rfl, rfl, w2⟩ := open_int Tryz.underlying5 (hval 2 5 v2 rfl rfl) h2
  refine (walk W v0 xs0 hl0 hn0 hz0 u1 xs1 c1 pb1 hl1 hf1 a2 w2 hT).mono fun e W' ⟨he, bel⟩ => ?_
  subst he
  exact ⟨_, rfl, _, _, _, [], _, [], hW', trodAll_mk1 (shut_bool Tryz.underlying4 _), (trodAll_cons_mk (Below.trod laidOut (by kernel_rfl) (of_decide_eq_true (by kernel_rfl)) k0 bel l0) (trodAll_cons_mk (Below.trod laidOut (by kernel_rfl) (of_decide_eq_true (by kernel_rfl)) k1 bel l1) (trodAll_cons_mk (Below.trod laidOut (by kernel_rfl) (of_decide_eq_true (by kernel_rfl)) k2 bel l2) trodAll_mk0))), rfl, bel.frame _, fun h => by cases h⟩

theorem reads (os : Os) {H : Type} (enc : TypeId × Value → H) : ∃ places, DataW.whole enc Tryz.prog ((laidWorldR os).forCall (fun _ _ => 0) ⟨#[], #[.slice none 0 0, .agg #[.slice none 0 0, .int .i64 0, .string ⟨#[]⟩], .int .u8 0], []⟩).memory Tryz.f6.params.toList Rows.composeKeepsSpec.vars false #[.slice none 0 0, .agg #[.slice none 0 0, .int .i64 0, .string ⟨#[]⟩], .int .u8 0].toList 8 = some ([.nil, .agg [.nil, .lit (.int .i64 0), .lit (.string [])], .lit (.int .u8 0)], [], places) :=
  ⟨[], by kernel_rfl⟩

set_option maxRecDepth 100000 in
theorem lifted (os : Os) (started : os.Started) (H : Type) (enc : TypeId × Value → H) (F : Stop.Interp) :
    ReturnsInHanded {} Tryz.checked os 6 .any ((Rows.OpenSpec.upto Rows.composeKeepsSpec).preRow enc Tryz.prog Tryz.f6 Rows.composeKeepsUptoRow.domain false Rows.composeKeepsUptoRow.laid) (((Rows.OpenSpec.upto Rows.composeKeepsSpec).at F).post enc Tryz.prog Tryz.f6 false true false false) := by
  obtain ⟨places, hx⟩ := reads os enc
  refine returnsInHanded_of_row (C := Tryz.checked) (s := (Rows.OpenSpec.upto Rows.composeKeepsSpec)) own started (by kernel_rfl) Tryz.func6
    (witness_row_at (enc := enc) (C := Tryz.checked) false (laidWorldR os) #[.slice none 0 0, .agg #[.slice none 0 0, .int .i64 0, .string ⟨#[]⟩], .int .u8 0] rfl (by kernel_rfl) (by kernel_rfl) (by kernel_rfl)
      (OpenSpec.preRow_of_cond 8 hx (by kernel_rfl) (fun k hk => by cases hk; kernel_rfl) (by kernel_rfl) (laid_metR os _))) ?_
  intro W base args ds gs before hval hW _ hcond hR hL hS _
  exact contract H enc W base args ds gs before hval hW hL hS (hcond _ rfl) hR

theorem said : Rows.ComposeKeepsUptoSaid :=
  OpenClaim.holds_of_cond 6 Tryz.f6 rfl rfl rfl rfl rfl rfl rfl ⟨rfl, rfl, rfl, rfl, rfl⟩ rfl rfl rfl rfl rfl (by kernel_rfl) Tryz.func6 (by kernel_rfl)
    (of_decide_eq_true (by kernel_rfl)) (by unfold Func.isWrapper; first | (rw [if_pos (by decide +kernel)]; kernel_rfl) | (rw [if_neg (by decide +kernel)]; exact ⟨rfl, rfl⟩))
    (fun os started H enc _ F => by rw [OpenClaim.pre_eq_preRow]; exact lifted os started H enc F)

theorem plain (f : FuncId) (fn : Func) (hf : Tryz.pinned.checked.prog.funcNamed "henkan/henkanlaw08.ComposeKeeps" = some f) (hfn : Tryz.pinned.checked.prog.funcs[f]? = some fn) :
    false = Tryz.pinned.checked.prog.looks [] ∧ ∀ (j : Nat) t, fn.params[j]? = some t → Tryz.pinned.checked.prog.wantsStandIn t = false := by
  obtain rfl : f = 6 := Option.some.inj ((show Tryz.prog.funcNamed "henkan/henkanlaw08.ComposeKeeps" = some 6 by kernel_rfl).symm.trans hf) |>.symm
  obtain rfl : fn = Tryz.f6 := (Option.some.inj (Tryz.func6.symm.trans hfn)).symm
  refine ⟨by kernel_rfl, fun j t ht => ?_⟩
  rw [Tryz.params6] at ht
  have hm := Array.mem_of_getElem? ht
  simp only [List.mem_toArray, List.mem_cons, List.not_mem_nil, or_false] at hm
  rcases hm with rfl | rfl | rfl
  · exact (show Tryz.prog.wantsStandIn 27 = false by kernel_rfl)
  · exact (show Tryz.prog.wantsStandIn 33 = false by kernel_rfl)
  · exact (show Tryz.prog.wantsStandIn 5 = false by kernel_rfl)

/-- the card -/
theorem proved : Rows.ComposeKeepsUptoCardSaid :=
  Claim7.holds_tied_plain_at .later [] _ _ _ _ said (fun _ h => by cases h) (by kernel_rfl) (fun _ h => by cases h) composeKeepsUpto_row_tie rfl ⟨rfl, rfl⟩ (by kernel_rfl) rfl plain (by kernel_rfl)
#print axioms proved
end Go.Proofs.YtgdcffahhpeibaaGreatDoor.composeKeeps
