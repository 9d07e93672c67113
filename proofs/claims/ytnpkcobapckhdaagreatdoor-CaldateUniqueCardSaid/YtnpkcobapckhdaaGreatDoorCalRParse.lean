/-
  henkanref04.Parse by its contract. No condition but the string's own bound.
-/
import Derived.Test.YtnpkcobapckhdaaGreatDoorCalThree
import Derived.Test.YtnpkcobapckhdaaGreatDoorCalIs
import Derived.Test.YtnpkcobapckhdaaGreatDoorCalStage
import Derived.Deep.CutRange
import Derived.Deep.RegionHeld3
namespace Go.Proofs.YtnpkcobapckhdaaGreatDoor
open Go.RowKit
theorem last3 (x : ByteArray) (a : List UInt8) (hx : Is x a) : (x.extract (x.size - 3) x.size).toList = a.drop (a.length - 3) := by
  rw [Lib.toList_data, ← hx.size, ← hx.data]
  simp [ByteArray.data_extract, Array.toList_extract, List.extract]
  rw [List.take_of_length_le]
  rw [List.length_drop]
  exact Nat.le_refl _
theorem suffix_iff (a n : List UInt8) (h3 : n.length = 3) : n.isSuffixOf a = true ↔ (3 ≤ a.length ∧ a.drop (a.length - 3) = n) := by
  rw [List.isSuffixOf_iff_suffix]
  constructor
  · rintro ⟨p, rfl⟩
    refine ⟨by rw [List.length_append]; omega, ?_⟩
    rw [List.length_append, h3, Nat.add_sub_cancel, List.drop_left]
  · rintro ⟨_, h⟩
    exact ⟨a.take (a.length - 3), by rw [← h, List.take_append_drop]⟩
theorem txt_of (x : ByteArray) (l : List UInt8) (hx : Is x (Lib.cut l [40]).1) :
    (3 ≤ x.size → (x.extract (x.size - 3) x.size).toList = [230, 151, 165] → Is (x.extract 0 (x.size - 3)) (CF.txt l)) ∧
    (¬ (3 ≤ x.size ∧ (x.extract (x.size - 3) x.size).toList = [230, 151, 165]) → Is x (CF.txt l)) := by
  have e := suffix_iff (Lib.cut l [40]).1 CF.nichi rfl
  rw [last3 x _ hx, hx.size]
  unfold CF.txt Lib.trimSuffix Lib.hasSuffix
  constructor
  · intro h1 h2
    rw [if_pos (e.2 ⟨h1, h2⟩)]
    unfold Is
    rw [← hx.size, ← hx.data]
    simp [ByteArray.data_extract, Array.toList_extract, List.extract, CF.nichi]
  · intro h
    rw [if_neg (fun h2 => h (e.1 h2))]
    exact hx
/-- an equation that no tactic looks into -/
structure Eqq {α : Type} (a b : α) : Prop where
  out : a = b
def nameB (k : Nat) : ByteArray := ⟨(CF.enames.getD k []).toArray⟩
theorem nameB_is (k : Nat) : (nameB k).toList = CF.enames.getD k [] := by rw [Lib.toList_data]; rfl
/-- what a round of the eras' loop makes of the text and the years -/
theorem stage_step (t : ByteArray) (l : List UInt8) (k : Nat) (ht : Is t (CF.stage l k).1) (hk : k < 5) :
    (6 ≤ t.size → ((t.extract 0 6).toList == (nameB k).toList) = true → Is (t.extract 6 t.size) (CF.stage l (k + 1)).1 ∧ (CF.stage l (k + 1)).2 = CF.ebase.getD k 0) ∧
    ((¬ 6 ≤ t.size ∨ ((t.extract 0 6).toList == (nameB k).toList) = false) → Is t (CF.stage l (k + 1)).1 ∧ (CF.stage l (k + 1)).2 = (CF.stage l k).2) := by
  have hl : (CF.enames.getD k []).length = 6 := by
    obtain rfl | rfl | rfl | rfl | rfl : k = 0 ∨ k = 1 ∨ k = 2 ∨ k = 3 ∨ k = 4 := by omega
    all_goals rfl
  have e6 : (t.extract 0 6).toList = (CF.stage l k).1.take 6 := by
    rw [Lib.toList_data, ← ht.data]; simp [ByteArray.data_extract, Array.toList_extract, List.extract]
  rw [nameB_is, e6, ht.size, CF.stage]
  generalize CF.stage l k = x at *
  generalize CF.enames.getD k [] = n at *
  have hp : Lib.hasPrefix x.1 n = true ↔ (6 ≤ x.1.length ∧ x.1.take 6 = n) := by
    unfold Lib.hasPrefix
    rw [List.isPrefixOf_iff_prefix]
    constructor
    · intro h
      refine ⟨by rw [← hl]; exact h.length_le, ?_⟩
      have := List.prefix_iff_eq_take.1 h
      rw [hl] at this; exact this.symm
    · rintro ⟨_, h⟩
      rw [← h]; exact List.take_prefix _ _
  unfold CF.rera1
  constructor
  · intro h1 h2
    rw [if_pos (hp.2 ⟨h1, eq_of_beq h2⟩)]
    refine ⟨?_, rfl⟩
    unfold Is
    rw [← ht.data]
    simp [ByteArray.data_extract, Array.toList_extract, List.extract]
    rw [List.take_of_length_le]
    rw [List.length_drop]
    have := ht.size
    rw [← ht.data] at this
    simp at this
    simp
  · intro h
    rw [if_neg (fun h2 => by
      have h3 := hp.1 h2
      rcases h with h | h
      · exact h h3.1
      · rw [h3.2] at h; simp at h)]
    exact ⟨ht, rfl⟩
theorem three_tr (A : Nat) (l ta tb : List UInt8) : ∃ Y M D : Nat, ∃ ok, Eqq (threeV l ta tb) (.tuple #[.int .i64 Y, .int .i64 M, .int .i64 D, .bool ok]) ∧ Y < 100000 ∧ M < 100000 ∧ D < 100000 ∧
    (ok = false → CF.rtr A l ta tb = none) ∧ (ok = true → CF.rtr A l ta tb = some ((Y : Int) + A, (M : Int), (D : Int))) :=
  ⟨_, _, _, _, ⟨rfl⟩, CF.rnum_bd _, CF.rnum_bd _, CF.rnum_bd _, CF.rtr_none, CF.rtr_some⟩
theorem ok_nat {y m d : Int} (h : Cal.ok y m d = true) : ∃ n : Nat, Cal.num y m d = n ∧ 1 ≤ n ∧ n ≤ 3652059 := by
  have := Cal.num_bd y m d h
  exact ⟨(Cal.num y m d).toNat, by omega, by omega, by omega⟩

theorem ebase_bd (k : Nat) (h : k < 5) : 0 ≤ CF.ebase.getD k 0 ∧ CF.ebase.getD k 0 ≤ 2018 := by
  obtain rfl | rfl | rfl | rfl | rfl : k = 0 ∨ k = 1 ∨ k = 2 ∨ k = 3 ∨ k = 4 := by omega
  all_goals (simp [CF.ebase])
/-- the pairs of signs in memory -/
def sepW (w : World) : World := (((w.alloc (.cells #[.string ⟨#[229, 185, 180]⟩, .string ⟨#[230, 156, 136]⟩] 9)).alloc (.cells #[.string ⟨#[47]⟩, .string ⟨#[47]⟩] 9)).alloc (.cells #[.string ⟨#[45]⟩, .string ⟨#[45]⟩] 9)).alloc (.cells #[.slice (some ⟨w.heap.size, 0, none⟩) 2 2, .slice (some ⟨w.heap.size + 1, 0, none⟩) 2 2, .slice (some ⟨w.heap.size + 1 + 1, 0, none⟩) 2 2] 23)
theorem sep_cells (w : World) : ∀ j, j < 3 → ∃ g a b, g < (sepW w).heap.size ∧ (sepW w).cell? ⟨w.heap.size + 1 + 1 + 1, j, none⟩ = some (.slice (some ⟨g, 0, none⟩) 2 2) ∧ (sepW w).cell? ⟨g, 0, none⟩ = some (.string a) ∧ (sepW w).cell? ⟨g, 1, none⟩ = some (.string b) ∧ Is a (CF.sepA j) ∧ Is b (CF.sepB j) := by
  intro j hj
  unfold sepW
  obtain rfl | rfl | rfl : j = 0 ∨ j = 1 ∨ j = 2 := by omega
  · exact ⟨w.heap.size, ⟨#[229, 185, 180]⟩, ⟨#[230, 156, 136]⟩, by simp; omega, by go_simp, by go_simp, by go_simp, Is.mk _, Is.mk _⟩
  · exact ⟨w.heap.size + 1, ⟨#[47]⟩, ⟨#[47]⟩, by simp, by go_simp, by go_simp, by go_simp, Is.mk _, Is.mk _⟩
  · exact ⟨w.heap.size + 1 + 1, ⟨#[45]⟩, ⟨#[45]⟩, by simp, by go_simp, by go_simp, by go_simp, Is.mk _, Is.mk _⟩
set_option maxRecDepth 100000 in
set_option maxHeartbeats 4000000 in
theorem rparseC_any (s : ByteArray) (l : List UInt8) (w : World) (h : Is s l) (hs : s.size ≤ 140737488351232) :
    Calls Tryz.prog 23 #[.string s] w (fun e w' => e = .returned (.tuple #[.int .i64 (CF.refCal l).1, .bool (CF.refCal l).2]) ∧ Below w.heap.size w w') := by
  have HI := Lib.hid h
  have hz := h.size
  have HL1 := Lib.hid (cut_len l [40])
  obtain ⟨F, hF⟩ : ∃ F, CF.refCal l = F := ⟨_, rfl⟩
  have HF := Eqq.mk hF
  rw [hF]
  clear h hF
  go_enter Tryz.func23, Tryz.ntmps23
  go_wp2_with fail
  refine (rcut_any s ⟨#[40]⟩ l [40] _ HI.out (Is.mk _) hs (by decide) (by decide)).mono ?_
  rintro e w1 ⟨x, r1, hx1, hr1, rfl, hw1⟩
  have hz1 : x.size ≤ s.size := by rw [hx1.size, hz]; exact HL1.out.1
  have HT := Lib.hid (txt_of x l hx1)
  have HW1 := Lib.hid hw1
  clear hx1 hr1 hw1
  go_upto_region 2 with fail
  obtain ⟨P, hP⟩ : ∃ P : Bool, P = decide (3 ≤ x.size ∧ (x.extract (x.size - 3) x.size).toList = [230, 151, 165]) := ⟨_, rfl⟩
  go_cut [35] from 25 to 35 (fun c wx => c = .bool P ∧ wx = w1)
  case first =>
    by_cases h3 : 3 ≤ x.size
    · obtain ⟨E, hE⟩ : ∃ E : Nat, E + 3 = x.size := ⟨x.size - 3, by omega⟩
      have hEI : (x.size : Int) - 3 = (E : Int) := by omega
      have hE2 : x.size - 3 = E := by omega
      rw [hE2] at hP
      cases hq : ((x.extract E x.size).toList == [230, 151, 165])
      · have hPf : P = false := by rw [hP]; simp at hq; simp [hq]
        go_wp2_with fail
        go_meet
        case rel => exact ⟨by rw [hPf], rfl⟩
      · have hPt : P = true := by rw [hP]; simp at hq; simp [hq, h3]
        go_wp2_with fail
        go_meet
        case rel => exact ⟨by rw [hPt], rfl⟩
    · have hPf : P = false := by rw [hP]; simp [h3]
      go_wp2_with fail
      go_meet
      case rel => exact ⟨by rw [hPf], rfl⟩
  case rest =>
    obtain ⟨rfl, rfl⟩ := hcut
    have HP := Eqq.mk hP
    clear hP
    go_upto_if 35 with fail
    go_cut [4] from 36 to 40 (fun v wx => ∃ y, v = .string y ∧ Is y (CF.txt l) ∧ y.size ≤ s.size ∧ wx = wc)
    case first =>
      cases P
      · have hp := of_decide_eq_false HP.out.symm
        have HY := Lib.hid (HT.out.2 hp)
        clear hp
        go_wp2_with fail
        go_meet
        case rel => exact ⟨x, rfl, HY.out, hz1, rfl⟩
      · have hp := of_decide_eq_true HP.out.symm
        have h3 := hp.1
        have HY := Lib.hid (HT.out.1 hp.1 hp.2)
        clear hp
        go_wp2_with fail
        go_meet
        case rel => exact ⟨_, rfl, HY.out, Nat.le_trans (by rw [ByteArray.size_extract]; omega) hz1, rfl⟩
    case rest =>
      obtain ⟨y, rfl, hy, hyz, rfl⟩ := hcut
      have HY := Lib.hid hy
      clear hy
      go_wp2_with fail
      have hn : ∀ k, k < 5 → ((wc.alloc (.cells #[.string ⟨#[230, 152, 142, 230, 178, 187]⟩, .string ⟨#[229, 164, 167, 230, 173, 163]⟩, .string ⟨#[230, 152, 173, 229, 146, 140]⟩, .string ⟨#[229, 185, 179, 230, 136, 144]⟩, .string ⟨#[228, 187, 164, 229, 146, 140]⟩] 9)).alloc (.cells #[.int .i64 1868, .int .i64 1912, .int .i64 1926, .int .i64 1989, .int .i64 2019] 3)).cell? ⟨wc.heap.size, k, none⟩ = some (.string (nameB k)) := by
        intro k hk
        obtain rfl | rfl | rfl | rfl | rfl : k = 0 ∨ k = 1 ∨ k = 2 ∨ k = 3 ∨ k = 4 := by omega
        all_goals (go_simp; rfl)
      have hm : ∀ k, k < 5 → ((wc.alloc (.cells #[.string ⟨#[230, 152, 142, 230, 178, 187]⟩, .string ⟨#[229, 164, 167, 230, 173, 163]⟩, .string ⟨#[230, 152, 173, 229, 146, 140]⟩, .string ⟨#[229, 185, 179, 230, 136, 144]⟩, .string ⟨#[228, 187, 164, 229, 146, 140]⟩] 9)).alloc (.cells #[.int .i64 1868, .int .i64 1912, .int .i64 1926, .int .i64 1989, .int .i64 2019] 3)).cell? ⟨wc.heap.size + 1, k, none⟩ = some (.int .i64 (CF.ebase.getD k 0 + 1)) := by
        intro k hk
        obtain rfl | rfl | rfl | rfl | rfl : k = 0 ∨ k = 1 ∨ k = 2 ∨ k = 3 ∨ k = 4 := by omega
        all_goals (go_simp; rfl)
      have hb : Below wc.heap.size wc ((wc.alloc (.cells #[.string ⟨#[230, 152, 142, 230, 178, 187]⟩, .string ⟨#[229, 164, 167, 230, 173, 163]⟩, .string ⟨#[230, 152, 173, 229, 146, 140]⟩, .string ⟨#[229, 185, 179, 230, 136, 144]⟩, .string ⟨#[228, 187, 164, 229, 146, 140]⟩] 9)).alloc (.cells #[.int .i64 1868, .int .i64 1912, .int .i64 1926, .int .i64 1989, .int .i64 2019] 3)) := ((Below.refl _ _).alloc (Nat.le_refl _) _).alloc (by simp) _
      obtain ⟨wl, hwl⟩ : ∃ wl, ((wc.alloc (.cells #[.string ⟨#[230, 152, 142, 230, 178, 187]⟩, .string ⟨#[229, 164, 167, 230, 173, 163]⟩, .string ⟨#[230, 152, 173, 229, 146, 140]⟩, .string ⟨#[229, 185, 179, 230, 136, 144]⟩, .string ⟨#[228, 187, 164, 229, 146, 140]⟩] 9)).alloc (.cells #[.int .i64 1868, .int .i64 1912, .int .i64 1926, .int .i64 1989, .int .i64 2019] 3)) = wl := ⟨_, rfl⟩
      rw [hwl] at hn hm hb ⊢
      have HN := Lib.hid hn
      have HM := Lib.hid hm
      have HBL := Lib.hid (HW1.out.trans (hb.mono HW1.out.size))
      clear hn hm hb hwl
      go_loopw [4, 7, 10] (fun tv av iv wr => ∃ (k : Nat) (t : ByteArray), k ≤ 5 ∧ tv = .string t ∧ av = .int .i64 (CF.stage (CF.txt l) k).2 ∧ iv = .int .i64 k ∧ Is t (CF.stage (CF.txt l) k).1 ∧ t.size ≤ s.size ∧ ∃ q, wr = wl.drewN q) (fun _ _ iv _ => 5 - (intOf iv).toNat)
      case atStart => exact ⟨0, y, by omega, rfl, rfl, rfl, HY.out, hyz, 0, rfl⟩
      case round =>
        obtain ⟨k, t, hk, rfl, rfl, rfl, ht, htz, q, rfl⟩ := hrel
        have HT := Lib.hid ht
        obtain ⟨A, hA⟩ : ∃ A, (CF.stage (CF.txt l) k).2 = A := ⟨_, rfl⟩
        have HA := Lib.hid hA
        rw [hA]
        clear ht hA
        by_cases hk5 : k < 5
        · have hcn := HN.out k hk5
          have hcm := HM.out k hk5
          have HS := stage_step t (CF.txt l) k HT.out hk5
          have heb := ebase_bd k hk5
          obtain ⟨E, hE⟩ : ∃ E, CF.ebase.getD k 0 = E := ⟨_, rfl⟩
          rw [hE] at hcm HS heb
          replace HS := Lib.hid HS
          obtain ⟨heb1, heb2⟩ := heb
          clear hE
          by_cases h6 : 6 ≤ t.size
          · have d6 : ((6 : Int) ≤ (t.size : Int)) := by omega
            cases hq : ((t.extract 0 6).toList == (nameB k).toList)
            · have HR := Lib.hid (HS.out.2 (.inr hq))
              go_wp2_with fail
              go_quiet (fail)
              go_wp2_with fail
              go_roundw
              case rel => exact ⟨k + 1, _, by omega, rfl, by rw [HR.out.2, ←HA.out], by go_num, HR.out.1, by omega, _, rfl⟩
              case measure => simp [intOf]; omega
            · have HR := Lib.hid (HS.out.1 h6 hq)
              go_wp2_with fail
              go_quiet (fail)
              go_wp2_with fail
              go_roundw
              case rel => exact ⟨k + 1, _, by omega, rfl, by rw [HR.out.2], by go_num, HR.out.1, by rw [ByteArray.size_extract]; omega, _, rfl⟩
              case measure => simp [intOf]; omega
          · have hd : decide ((6 : Int) ≤ (t.size : Int)) = false := by simp; omega
            have HR := Lib.hid (HS.out.2 (.inl h6))
            go_wp2_with fail
            go_quiet (fail)
            go_wp2_with fail
            go_roundw
            case rel => exact ⟨k + 1, _, by omega, rfl, by rw [HR.out.2, ← HA.out], by go_num, HR.out.1, by omega, _, rfl⟩
            case measure => simp [intOf]; omega
        · obtain rfl : k = 5 := by omega
          go_wp2_with fail
          have HSS := Lib.hid (sep_cells (wl.drewN q))
          have hbs : Below (wl.drewN q).heap.size (wl.drewN q) (sepW (wl.drewN q)) := ((((Below.refl _ _).alloc (Nat.le_refl _) _).alloc (by simp) _).alloc (by simp; omega) _).alloc (by simp; omega) _
          have HBS := Lib.hid ((bel_dw HBL.out q).trans (hbs.mono (bel_dw HBL.out q).size))
          change Code.wp _ _ _ _ (sepW (wl.drewN q))
          obtain ⟨ws, hws⟩ : ∃ ws, sepW (wl.drewN q) = ws := ⟨_, rfl⟩
          rw [hws] at HSS HBS ⊢
          clear hbs hws
          have hA1 : 0 ≤ A ∧ A ≤ 2018 := by rw [← HA.out]; exact CF.stage_bd _ _
          obtain ⟨hA1, hA2⟩ := hA1
          obtain ⟨A', rfl⟩ := Int.eq_ofNat_of_zero_le hA1
          have HL0 : Eqq (CF.tleft l (CF.rtr (A' : Int) (CF.stage (CF.txt l) 5).1) 0) F := ⟨by rw [← HF.out, CF.refCal_left, HA.out]⟩
          have h5 : ((5 : Nat) : Int) = 5 := rfl
          rw [h5]
          clear h5
          go_loopw [12] (fun iv wr => ∃ j : Nat, j ≤ 3 ∧ iv = .int .i64 j ∧ Eqq (CF.tleft l (CF.rtr (A' : Int) (CF.stage (CF.txt l) 5).1) j) F ∧ Below ws.heap.size ws wr) (fun iv _ => 3 - (intOf iv).toNat)
          case atStart => exact ⟨0, by omega, rfl, HL0, Below.refl _ _⟩
          case round =>
            obtain ⟨j, hj, rfl, HLJ, hb⟩ := hrel
            have HBR := Lib.hid hb
            clear hb
            by_cases hj3 : j < 3
            · obtain ⟨g, a, b, hg, d1, d2, d3, ia, ib⟩ := HSS.out j hj3
              have c1 : wr.cell? ⟨wl.heap.size + 1 + 1 + 1, j, none⟩ = some (.slice (some ⟨g, 0, none⟩) 2 2) := below_cell d1 HBR.out (Nat.le_refl _)
              have c2 : wr.cell? ⟨g, 0, none⟩ = some (.string a) := below_cell d2 HBR.out (Nat.le_refl _)
              have c3 : wr.cell? ⟨g, 1, none⟩ = some (.string b) := below_cell d3 HBR.out (Nat.le_refl _)
              have IA := Lib.hid ia
              have IB := Lib.hid ib
              clear d1 d2 d3 ia ib
              go_upto_region 17 with fail
              obtain ⟨ha1, ha3, hb1, hb3⟩ := CF.sep_len j
              obtain ⟨Y, M, D, ok, HV, hY, hM, hD, ho0, ho1⟩ := three_tr A' (CF.stage (CF.txt l) 5).1 (CF.sepA j) (CF.sepB j)
              have hts : t.size ≤ 140737488351232 := by omega
              have HO0 := Lib.hid ho0
              have HO1 := Lib.hid ho1
              clear ho0 ho1
              go_region_held3 (fun w' => w'.cell? ⟨wl.heap.size + 1 + 1 + 1, j, none⟩ = some (.slice (some ⟨g, 0, none⟩) 2 2) ∧ w'.cell? ⟨g, 0, none⟩ = some (.string a) ∧ w'.cell? ⟨g, 1, none⟩ = some (.string b) ∧ Below ws.heap.size ws w') (first | exact ⟨c1, c2, c3, HBR.out⟩ | exact ⟨c1, c2, c3, bel_dw HBR.out 1⟩ | exact ⟨e1, e2, e3, HB2.out⟩ | go_keep)
                (first | (go_at_call 50; refine (three_any t a b _ _ _ _ HT.out IA.out IB.out hts ha1 ha3 hb1 hb3).mono ?_; rintro e w2 ⟨he, hb2⟩; rw [HV.out] at he; subst he; have hbd : Below wr.heap.size wr w2 := (bel_dw (Below.refl _ _) 1).trans hb2; have e1 : w2.cell? ⟨wl.heap.size + 1 + 1 + 1, j, none⟩ = some (.slice (some ⟨g, 0, none⟩) 2 2) := below_cell c1 hbd (Nat.le_refl _); have e2 : w2.cell? ⟨g, 0, none⟩ = some (.string a) := below_cell c2 hbd (Nat.le_refl _); have e3 : w2.cell? ⟨g, 1, none⟩ = some (.string b) := below_cell c3 hbd (Nat.le_refl _); have HB2 := Lib.hid (HBR.out.trans (hbd.mono HBR.out.size)); clear hb2 hbd))
              cases ok
              · have HNX := Lib.hid (CF.tleft_skip (s := l) hj3 (HO0.out rfl))
                go_wp2_with fail
                go_roundw
                case rel => exact ⟨j + 1, by omega, by go_num, ⟨by rw [← HNX.out]; exact HLJ.out⟩, HB2.out⟩
                case measure => simp [intOf]; omega
              · have HSM := Lib.hid (HO1.out rfl)
                cases hok : Cal.ok ((Y : Int) + A') M D
                · have HNX := Lib.hid (CF.tleft_miss (s := l) hj3 HSM.out (fun h => by rw [hok] at h; cases h.1))
                  have HOK := Lib.hid hok
                  clear hok
                  go_wp2_with fail
                  refine (rday_no _ _ _ _ HOK.out).mono ?_
                  rintro e w3 ⟨rfl, rfl⟩
                  go_wp2_with fail
                  go_roundw
                  case rel => exact ⟨j + 1, by omega, by go_num, ⟨by rw [← HNX.out]; exact HLJ.out⟩, HB2.out⟩
                  case measure => simp [intOf]; omega
                · obtain ⟨n, hn, n1, n2⟩ := ok_nat hok
                  have HOK := Lib.hid hok
                  have HNN := Lib.hid hn
                  have HOK2 := Lib.hid (show Cal.ok ((Y + A' : Nat) : Int) M D = true by rw [Int.natCast_add]; exact hok)
                  have HNN2 := Lib.hid (show Cal.num ((Y + A' : Nat) : Int) M D = n by rw [Int.natCast_add]; exact hn)
                  clear hok hn
                  cases hin : decide (l ∈ CF.withYear n (Y + A') M D)
                  · have HNX := Lib.hid (CF.tleft_miss (s := l) hj3 HSM.out (fun h => by have h2 := h.2; rw [HNN.out] at h2; simp only [Int.toNat_natCast, ← Int.natCast_add] at h2; exact of_decide_eq_false hin h2))
                    have HIN := Lib.hid hin
                    clear hin
                    go_wp2_with fail
                    refine (rday_yes _ _ _ _ HOK.out).mono ?_
                    rw [HNN.out]
                    rintro e w3 ⟨rfl, rfl⟩
                    go_wp2_with fail
                    refine (ris_any s l n (Y + A') M D _ HI.out n1 n2 HOK2.out HNN2.out).mono ?_
                    rw [HIN.out]
                    rintro e w3 ⟨rfl, hb3⟩
                    have HB3 := Lib.hid (HB2.out.trans (hb3.mono HB2.out.size))
                    clear hb3
                    go_wp2_with fail
                    go_roundw
                    case rel => exact ⟨j + 1, by omega, by go_num, ⟨by rw [← HNX.out]; exact HLJ.out⟩, HB3.out⟩
                    case measure => simp [intOf]; omega
                  · have HNX : Eqq F ((n : Int), true) := ⟨by rw [← HLJ.out, CF.tleft_hit (s := l) hj3 HSM.out HOK.out (by rw [HNN.out]; simp only [Int.toNat_natCast, ← Int.natCast_add]; exact of_decide_eq_true hin), HNN.out]⟩
                    have HIN := Lib.hid hin
                    clear hin
                    go_wp2_with fail
                    refine (rday_yes _ _ _ _ HOK.out).mono ?_
                    rw [HNN.out]
                    rintro e w3 ⟨rfl, rfl⟩
                    go_wp2_with fail
                    refine (ris_any s l n (Y + A') M D _ HI.out n1 n2 HOK2.out HNN2.out).mono ?_
                    rw [HIN.out]
                    rintro e w3 ⟨rfl, hb3⟩
                    have HB3 := Lib.hid (HB2.out.trans (hb3.mono HB2.out.size))
                    clear hb3
                    go_wp2_with fail
                    go_ret2
                    exact ⟨by rw [HNX.out]; rfl, HBS.out.trans (HB3.out.mono HBS.out.size)⟩
            · obtain rfl : j = 3 := by omega
              have HE := Lib.hid (show F = (0, false) from HLJ.out.symm)
              go_wp2_with fail
              go_ret2
              exact ⟨by rw [HE.out]; rfl, HBS.out.trans (HBR.out.mono HBS.out.size)⟩
end Go.Proofs.YtnpkcobapckhdaaGreatDoor
