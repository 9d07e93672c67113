/-
  henkanref05.table and henkanref05.Default by their contracts: the rules of the document, in order. No condition.
-/
import Derived.Test.YtgdcffahhpeibaaDoorRoPutW
import Derived.Test.YtgdcffahhpeibaaDoorRoPrint
import Derived.Deep.RegionHeld3
import Derived.IntWalk
namespace Go.Proofs.YtgdcffahhpeibaaDoor
open Go.RowKit
set_option linter.unusedVariables false
set_option maxRecDepth 100000 in
set_option maxHeartbeats 4000000 in
theorem table_any (w : World) : Calls Tryd.prog 23 #[] w fun e w' => e = .returned (.slice (some ⟨w.heap.size, 0, none⟩) 25 25) ∧ w' = w.alloc (.cells tabC.toArray 57) := by
  go_enter Tryd.func23, Tryd.ntmps23
  go_wp2_with fail
  go_ret
  exact ⟨rfl, by kernel_rfl⟩
/-- the list that is being made: the rules put so far, in order -/
def AccIs (B : Nat) (W0 : World) (L : List Ro.Rule) (v : Value) (w : World) : Prop := ∃ xs, rulesL xs = Ro.acc L ∧ OwnR 44 B v xs w ∧ Below W0.heap.size W0 w
theorem AccIs.below {B : Nat} {W0 : World} {L : List Ro.Rule} {v : Value} {w : World} (h : AccIs B W0 L v w) : Below W0.heap.size W0 w := h.elim fun _ h => h.2.2
theorem AccIs.drew {B : Nat} {W0 : World} {L : List Ro.Rule} {v : Value} {w : World} (h : AccIs B W0 L v w) : AccIs B W0 L v w.drew := h.elim fun xs h => ⟨xs, h.1, h.2.1.drewN 1, h.2.2.drew⟩
theorem put_acc (B : Nat) (W0 : World) (L : List Ro.Rule) (r : RuleB) (v : Value) (w : World) (hB : B ≤ W0.heap.size) (h : AccIs B W0 L v w) (hL : L.length ≤ 1000) :
    Calls Tryd.prog 24 #[v, ruleV r] w fun e w' => ∃ v', e = .returned v' ∧ AccIs B W0 (L ++ [ruleL r]) v' w' := by
  obtain ⟨xs, hx, ho, hb⟩ := h
  have hl : xs.length = L.length := by
    have := Ro.acc_len L
    rw [← hx] at this
    unfold rulesL at this
    rwa [List.length_map] at this
  refine (rput5_any v xs r w ho.lie (by omega)).mono ?_
  rintro e w' ⟨⟨v', ys, rfl, hy, ho'⟩, hb'⟩
  exact ⟨v', rfl, ys, by rw [hy, hx, Ro.acc_snoc], ho'.low (Nat.le_trans hB hb.size), hb.trans (hb'.mono hb.size)⟩
theorem vowel_at (k : Nat) (hk : k < 5) : (#[Value.string ⟨#[97]⟩, .string ⟨#[105]⟩, .string ⟨#[117]⟩, .string ⟨#[101]⟩, .string ⟨#[111]⟩] : Array Value)[k]? = some (.string (ba (Ro.vowel.getD k []))) ∧ (ba (Ro.vowel.getD k [])).size = 1 := by
  rcases (show k = 0 ∨ k = 1 ∨ k = 2 ∨ k = 3 ∨ k = 4 by omega) with rfl | rfl | rfl | rfl | rfl <;> exact ⟨rfl, rfl⟩
def dblR : ByteArray := ⟨#[98, 99, 100, 102, 103, 104, 106, 107, 109, 112, 114, 115, 116, 118, 119, 121, 122]⟩
theorem dblR_cut : ∀ j, j < 17 → dblR.extract j (j + 1) = ba [Ro.doubles.getD j 0] := by decide +kernel
theorem dblR_seq : ∀ j, j < 17 → Ro.doubleSeq.take (j + 1) = Ro.doubleSeq.take j ++ [([Ro.doubles.getD j 0] ++ [Ro.doubles.getD j 0], [227, 129, 163], [Ro.doubles.getD j 0])] := by decide +kernel
theorem ba_cat (a b : List UInt8) : ba a ++ ba b = ba (a ++ b) := ((is_ba a).append (is_ba b)).ba
theorem wrap_one5 {a c : Nat} (h : a + 1 = c) (hc : c ≤ 1000000000000) : wrap64 ((a : Int) + 1) = (c : Int) := by unfold wrap64; omega
theorem acc_fin {B : Nat} {W0 : World} {v : Value} {w : World} (h : AccIs B W0 (Ro.tableSeq ++ Ro.tailSeq ++ Ro.doubleSeq.take 17) v w) : ∃ xs, rulesL xs = Ro.defL ∧ OwnR 44 B v xs w ∧ Below W0.heap.size W0 w := by
  obtain ⟨xs, hx, h⟩ := h
  exact ⟨xs, by rw [hx, List.append_assoc]; exact Ro.acc_all, h⟩
theorem more_len {L : List Ro.Rule} {x : Ro.Rule} {n : Nat} (h : L.length ≤ n) : (L ++ [x]).length ≤ n + 1 := by rw [List.length_append, List.length_singleton]; omega
theorem seq_short (i : Nat) (hi : i ≤ 25) (r : Ro.Row) (k : Nat) (hk : k ≤ 5) : (Ro.rowsSeq i ++ Ro.rowSeq r k).length ≤ 300 := by
  have h1 := Ro.rowsSeq_len i
  have h2 := Ro.rowSeq_len r k
  rw [List.length_append]
  omega
set_option maxRecDepth 100000 in
set_option maxHeartbeats 8000000 in
theorem rdefault_any (w : World) : Calls Tryd.prog 12 #[] w fun e w' => PutsR w.heap.size Ro.defL e w' ∧ Below w.heap.size w w' := by
  have hz1 : (w.alloc (.cells #[.string ⟨#[97]⟩, .string ⟨#[105]⟩, .string ⟨#[117]⟩, .string ⟨#[101]⟩, .string ⟨#[111]⟩] 9)).heap.size = w.heap.size + 1 := World.size_alloc ..
  have HC1 := Lib.hid (MapKept.heap_alloc w (.cells #[.string ⟨#[97]⟩, .string ⟨#[105]⟩, .string ⟨#[117]⟩, .string ⟨#[101]⟩, .string ⟨#[111]⟩] 9)).1
  have HB1 := Lib.hid ((Below.refl w.heap.size w).alloc (Nat.le_refl _) (.cells #[.string ⟨#[97]⟩, .string ⟨#[105]⟩, .string ⟨#[117]⟩, .string ⟨#[101]⟩, .string ⟨#[111]⟩] 9))
  have HZ1 := Eqq.mk hz1
  clear hz1
  go_enter Tryd.func12, Tryd.ntmps12
  go_wp2_with fail
  obtain ⟨W1, hW1⟩ : ∃ W1, w.alloc (.cells #[.string ⟨#[97]⟩, .string ⟨#[105]⟩, .string ⟨#[117]⟩, .string ⟨#[101]⟩, .string ⟨#[111]⟩] 9) = W1 := ⟨_, rfl⟩
  rw [hW1] at HC1 HB1 HZ1 ⊢
  clear hW1
  with_reducible refine (table_any W1).mono ?_
  rintro e w2 ⟨rfl, rfl⟩
  have HC2 := Lib.hid (MapKept.heap_alloc W1 (.cells tabC.toArray 57)).1
  have HB2 := Lib.hid (HB1.out.alloc HB1.out.size (.cells tabC.toArray 57))
  have HC3 := Lib.hid (show (W1.alloc (.cells tabC.toArray 57)).heap[w.heap.size]? = _ from (Lib.alloc_old W1 _ _ (heap_lt HC1.out)).trans HC1.out)
  have HZ2 := Eqq.mk (show (W1.alloc (.cells tabC.toArray 57)).heap.size = w.heap.size + 2 by rw [World.size_alloc, HZ1.out])
  obtain ⟨G, hG⟩ : ∃ G, W1.heap.size = G := ⟨_, rfl⟩
  obtain ⟨W2, hW2⟩ : ∃ W2, W1.alloc (.cells tabC.toArray 57) = W2 := ⟨_, rfl⟩
  rw [hG, hW2] at HC2
  rw [hW2] at HB2 HC3 HZ2
  have HA0 := Lib.hid (show AccIs w.heap.size W2 (Ro.rowsSeq 0) (.slice none 0 0) W2 from ⟨[], rfl, OwnR.nil _ _ _, Below.refl _ _⟩)
  have HBW := Lib.hid (show w.heap.size ≤ W2.heap.size by rw [HZ2.out]; omega)
  have HCV := Lib.hid (fun (W : World) (hW : Below W2.heap.size W2 W) (k : Nat) (hk : k < 5) => (show W.cell? ⟨w.heap.size, k, none⟩ = some (.string (ba (Ro.vowel.getD k []))) from below_cellU (by rw [Lib.cell_of_heap HC3.out]; exact (vowel_at k hk).1) hW (Nat.le_refl _)))
  have HCT := Lib.hid (fun (W : World) (hW : Below W2.heap.size W2 W) (i : Nat) (r : Ro.Row) (h : Ro.tab[i]? = some r) => (show W.cell? ⟨G, i * 6, none⟩ = some (.string (ba r.1)) ∧ ∀ k, k < 5 → W.cell? ⟨G, i * 6 + 1 + k, none⟩ = some (.string (ba (Ro.kan r k))) from
    ⟨below_cellU (by rw [Lib.cell_of_heap HC2.out, List.getElem?_toArray]; exact (tabC_at i r h).1) hW (Nat.le_refl _), fun k hk => below_cellU (by rw [Lib.cell_of_heap HC2.out, List.getElem?_toArray]; exact (tabC_at i r h).2 k hk) hW (Nat.le_refl _)⟩))
  go_wp2_with fail
  try rw [hW2]
  try rw [hG]
  clear hW2 hG HC1 HC2 HC3 HZ1
  go_loopw [2, 4] (fun lv iv wr => ∃ i : Nat, i ≤ 25 ∧ iv = .int .i64 i ∧ AccIs w.heap.size W2 (Ro.rowsSeq i) lv wr) (fun _ iv _ => 25 - (intOf iv).toNat)
  case atStart => exact ⟨0, Nat.zero_le _, rfl, HA0.out⟩
  case round =>
    obtain ⟨i, hi, rfl, ha⟩ := hrel
    have HA := Lib.hid ha
    clear ha
    by_cases hil : i < 25
    · obtain ⟨r, hr⟩ : ∃ r, Ro.tab[i]? = some r := ⟨_, List.getElem?_eq_getElem (by rw [Ro.tab_len]; exact hil)⟩
      have HRS := Eqq.mk (Ro.rowsSeq_succ i r hr)
      obtain ⟨hsh0, hshk⟩ := Ro.tab_short r (List.mem_of_getElem? hr)
      have HSK := Lib.hid hshk
      have HCR := Lib.hid (fun (W : World) (hW : Below W2.heap.size W2 W) => HCT.out W hW i r hr)
      obtain ⟨P0, hP0⟩ : ∃ P0, ba r.1 = P0 := ⟨_, rfl⟩
      have HIP := Lib.hid (show Is P0 r.1 by rw [← hP0]; exact is_ba _)
      have hpz : P0.size ≤ 20 := by rw [← hP0, ba_size]; exact hsh0
      have g1 : (i : Int) < (25 : Int) := by omega
      have g2 : (0 : Int) ≤ (i : Int) := by omega
      rw [hP0] at HCR
      have HP0 := Eqq.mk hP0
      clear hr hsh0 hshk hP0
      go_wp2_with fail
      go_loopw [2, 5] (fun lv kv wr => ∃ k : Nat, k ≤ 5 ∧ kv = .int .i64 k ∧ AccIs w.heap.size W2 (Ro.rowsSeq i ++ Ro.rowSeq r k) lv wr) (fun _ kv _ => 5 - (intOf kv).toNat)
      case atStart => exact ⟨0, Nat.zero_le _, rfl, by rw [show Ro.rowSeq r 0 = [] from rfl, List.append_nil]; exact HA.out⟩
      case round =>
        obtain ⟨k, hk, rfl, ha⟩ := hrel
        have HA := Lib.hid ha
        clear ha
        by_cases hkl : k < 5
        · have g3 : (k : Int) < (5 : Int) := by omega
          have g4 : (0 : Int) ≤ (k : Int) := by omega
          have HRK := Eqq.mk (Ro.rowSeq_succ r k)
          obtain ⟨K, hK⟩ : ∃ K, ba (Ro.kan r k) = K := ⟨_, rfl⟩
          have HIK := Lib.hid (show Is K (Ro.kan r k) by rw [← hK]; exact is_ba _)
          obtain ⟨vb, hvb⟩ : ∃ vb, ba (Ro.vowel.getD k []) = vb := ⟨_, rfl⟩
          have HIV := Lib.hid (show Is vb (Ro.vowel.getD k []) by rw [← hvb]; exact is_ba _)
          have hvz : vb.size = 1 := by rw [← hvb]; exact (vowel_at k hkl).2
          have HVZ := Lib.hid (show vb.size ≤ 1 by omega)
          have HC := Lib.hid (fun (W : World) (hW : Below W2.heap.size W2 W) => (show W.cell? ⟨G, i * 6, none⟩ = some (.string P0) ∧ W.cell? ⟨w.heap.size, k, none⟩ = some (.string vb) ∧ W.cell? ⟨G, i * 6 + 1 + k, none⟩ = some (.string K) from
            ⟨(HCR.out W hW).1, by rw [← hvb]; exact HCV.out W hW k hkl, by rw [← hK]; exact (HCR.out W hW).2 k hkl⟩))
          clear hK hvb hvz
          obtain ⟨c0, c1, c2⟩ := HC.out _ HA.out.below
          have hlen : (Ro.rowsSeq i ++ Ro.rowSeq r k).length ≤ 1000 := Nat.le_trans (seq_short i hi r k hk) (by decide)
          by_cases hke : Ro.kan r k = []
          · have e1 : K.toList.isEmpty = true := by rw [HIK.out.list, hke]; rfl
            have e2 : K.data.isEmpty = true := by rw [data_isEmpty, HIK.out.data, hke]; rfl
            have HN := Eqq.mk (show Ro.rowSeq r (k + 1) = Ro.rowSeq r k by rw [HRK.out, if_pos hke, List.append_nil])
            clear hke
            go_wp2_with fail
            go_roundw
            case rel => exact ⟨k + 1, by omega, by go_num, by rw [HN.out]; exact HA.out⟩
            case measure => simp [intOf]; omega
          · have hne : ∀ l : List UInt8, l = Ro.kan r k → l.isEmpty = false := fun l h => by subst h; cases hh : Ro.kan r k with | nil => exact absurd hh hke | cons a b => rfl
            have e1 : K.toList.isEmpty = false := hne _ HIK.out.list
            have e2 : K.data.isEmpty = false := by rw [data_isEmpty]; exact hne _ HIK.out.data
            have HN := Eqq.mk (show Ro.rowSeq r (k + 1) = Ro.rowSeq r k ++ [(r.1 ++ Ro.vowel.getD k [], Ro.kan r k, [])] by rw [HRK.out, if_neg hke])
            have HE := Eqq.mk (show ruleL (P0 ++ vb, K, ⟨#[]⟩) = (r.1 ++ Ro.vowel.getD k [], Ro.kan r k, []) by
              show ((P0 ++ vb).data.toList, K.data.toList, []) = _
              rw [(HIP.out.append HIV.out).data, HIK.out.data])
            clear hke hne
            go_wp2_with fail
            clear e1 e2
            have hvz := HVZ.out
            have i5 : ¬ 9223372036854775807 < P0.size + vb.size := by omega
            have hBw := HBW.out
            go_region_held3 (fun W => W.cell? ⟨G, i * 6, none⟩ = some (.string P0) ∧ W.cell? ⟨w.heap.size, k, none⟩ = some (.string vb) ∧ W.cell? ⟨G, i * 6 + 1 + k, none⟩ = some (.string K))
              (first | exact HC.out _ HA.out.below | exact HC.out _ HA.out.below.drew | exact HC.out _ HA3.out.below)
              (first
               | (go_at_call 24; (with_reducible refine (put_acc w.heap.size W2 _ (P0 ++ vb, K, ⟨#[]⟩) _ _ hBw HA.out.drew hlen).mono ?_); rintro e w3 ⟨v3, he, ha⟩; subst he; have HA3 := Lib.hid ha; clear ha)
               | (go_at_call 24; (with_reducible refine (put_acc w.heap.size W2 _ (P0 ++ vb, K, ⟨#[]⟩) _ _ hBw HA.out hlen).mono ?_); rintro e w3 ⟨v3, he, ha⟩; subst he; have HA3 := Lib.hid ha; clear ha))
            rename_i hHeld
            clear hHeld c0 c1 c2
            have HA4 := Lib.hid (show AccIs w.heap.size W2 (Ro.rowsSeq i ++ Ro.rowSeq r (k + 1)) v3 w3 by
              have h := HA3.out
              rw [HE.out, List.append_assoc, ← HN.out] at h
              exact h)
            go_wp2_with fail
            go_roundw
            case rel => exact ⟨k + 1, by omega, by go_num, HA4.out⟩
            case measure => simp [intOf]; omega
        · obtain rfl : k = 5 := by omega
          have HD := Lib.hid (fun (W : World) (hW : Below W2.heap.size W2 W) => (HCR.out W hW).2 1 (by omega))
          obtain ⟨K, hK⟩ : ∃ K, ba (Ro.kan r 1) = K := ⟨_, rfl⟩
          have HIK := Lib.hid (show Is K (Ro.kan r 1) by rw [← hK]; exact is_ba _)
          have hkz : K.size ≤ 20 := by rw [HIK.out.size]; exact HSK.out 1 (by omega)
          rw [hK] at HD
          have HD2 := Lib.hid (fun (W : World) (hW : Below W2.heap.size W2 W) => (show W.cell? ⟨G, i * 6 + 2, none⟩ = some (.string K) from HD.out W hW))
          have c0 := (HCR.out _ HA.out.below).1
          obtain ⟨D, hD⟩ : ∃ D, Ro.isCons r.1 = D := ⟨_, rfl⟩
          have HDD := Eqq.mk hD
          clear hK hD
          go_upto_region 13 with fail
          go_cut [100] from 12 to 136 (fun bv wx => bv = .bool D ∧ wx = wr)
          case first =>
            cases D
            · have hno : ∀ c, Ro.consB.contains c = true → (P0.toList == [c]) = false ∧ ¬ P0.toList = [c] := fun c hc => by
                have h := Ro.cons_no _ HDD.out c hc
                rw [HIP.out.list]
                exact ⟨beq_eq_false_iff_ne.2 h, h⟩
              obtain ⟨e0, f0⟩ := hno 107 (by decide)
              obtain ⟨e1, f1⟩ := hno 115 (by decide)
              obtain ⟨e2, f2⟩ := hno 116 (by decide)
              obtain ⟨e3, f3⟩ := hno 110 (by decide)
              obtain ⟨e4, f4⟩ := hno 104 (by decide)
              obtain ⟨e5, f5⟩ := hno 109 (by decide)
              obtain ⟨e6, f6⟩ := hno 114 (by decide)
              obtain ⟨e7, f7⟩ := hno 103 (by decide)
              obtain ⟨e8, f8⟩ := hno 122 (by decide)
              obtain ⟨e9, f9⟩ := hno 100 (by decide)
              obtain ⟨e10, f10⟩ := hno 98 (by decide)
              obtain ⟨e11, f11⟩ := hno 112 (by decide)
              clear hno
              go_wp2_with fail
              go_meet
              case rel => exact ⟨rfl, rfl⟩
            · rcases Ro.cons_cases _ HDD.out with h | h | h | h | h | h | h | h | h | h | h | h
              · obtain rfl : P0 = ⟨#[107]⟩ := HIP.out.eq (by rw [h]; exact Is.mk [107])
                clear h
                go_wp2_with fail
                go_meet
                case rel => exact ⟨rfl, rfl⟩
              · obtain rfl : P0 = ⟨#[115]⟩ := HIP.out.eq (by rw [h]; exact Is.mk [115])
                clear h
                go_wp2_with fail
                go_meet
                case rel => exact ⟨rfl, rfl⟩
              · obtain rfl : P0 = ⟨#[116]⟩ := HIP.out.eq (by rw [h]; exact Is.mk [116])
                clear h
                go_wp2_with fail
                go_meet
                case rel => exact ⟨rfl, rfl⟩
              · obtain rfl : P0 = ⟨#[110]⟩ := HIP.out.eq (by rw [h]; exact Is.mk [110])
                clear h
                go_wp2_with fail
                go_meet
                case rel => exact ⟨rfl, rfl⟩
              · obtain rfl : P0 = ⟨#[104]⟩ := HIP.out.eq (by rw [h]; exact Is.mk [104])
                clear h
                go_wp2_with fail
                go_meet
                case rel => exact ⟨rfl, rfl⟩
              · obtain rfl : P0 = ⟨#[109]⟩ := HIP.out.eq (by rw [h]; exact Is.mk [109])
                clear h
                go_wp2_with fail
                go_meet
                case rel => exact ⟨rfl, rfl⟩
              · obtain rfl : P0 = ⟨#[114]⟩ := HIP.out.eq (by rw [h]; exact Is.mk [114])
                clear h
                go_wp2_with fail
                go_meet
                case rel => exact ⟨rfl, rfl⟩
              · obtain rfl : P0 = ⟨#[103]⟩ := HIP.out.eq (by rw [h]; exact Is.mk [103])
                clear h
                go_wp2_with fail
                go_meet
                case rel => exact ⟨rfl, rfl⟩
              · obtain rfl : P0 = ⟨#[122]⟩ := HIP.out.eq (by rw [h]; exact Is.mk [122])
                clear h
                go_wp2_with fail
                go_meet
                case rel => exact ⟨rfl, rfl⟩
              · obtain rfl : P0 = ⟨#[100]⟩ := HIP.out.eq (by rw [h]; exact Is.mk [100])
                clear h
                go_wp2_with fail
                go_meet
                case rel => exact ⟨rfl, rfl⟩
              · obtain rfl : P0 = ⟨#[98]⟩ := HIP.out.eq (by rw [h]; exact Is.mk [98])
                clear h
                go_wp2_with fail
                go_meet
                case rel => exact ⟨rfl, rfl⟩
              · obtain rfl : P0 = ⟨#[112]⟩ := HIP.out.eq (by rw [h]; exact Is.mk [112])
                clear h
                go_wp2_with fail
                go_meet
                case rel => exact ⟨rfl, rfl⟩
          case rest =>
            obtain ⟨rfl, rfl⟩ := hcut
            cases D
            · have HN := Eqq.mk (show Ro.rowsSeq (i + 1) = Ro.rowsSeq i ++ Ro.rowSeq r 5 by rw [HRS.out]; unfold Ro.rowAll Ro.yPart; rw [HDD.out, if_neg (by simp), List.append_nil])
              go_wp2_with fail
              go_roundw
              case rel => exact ⟨i + 1, by omega, by go_num, by rw [HN.out]; exact HA.out⟩
              case measure => simp [intOf]; omega
            · have HN := Eqq.mk (show Ro.rowsSeq (i + 1) = Ro.rowsSeq i ++ Ro.rowSeq r 5 ++ [(r.1 ++ [121, 97], Ro.kan r 1 ++ [227, 130, 131], [])] ++ [(r.1 ++ [121, 117], Ro.kan r 1 ++ [227, 130, 133], [])] ++ [(r.1 ++ [121, 111], Ro.kan r 1 ++ [227, 130, 135], [])] by
                rw [HRS.out]
                unfold Ro.rowAll Ro.yPart Ro.yRules
                rw [HDD.out, if_pos rfl]
                simp only [List.append_assoc, List.cons_append, List.nil_append])
              have hl1 : (Ro.rowsSeq i ++ Ro.rowSeq r 5).length ≤ 300 := seq_short i hi r 5 (by omega)
              have i5 : ¬ 9223372036854775807 < P0.size + 2 := by omega
              have i6 : ¬ 9223372036854775807 < K.size + 3 := by omega
              have HE3 := Eqq.mk (show ruleL (P0 ++ ⟨#[121, 97]⟩, K ++ ⟨#[227, 130, 131]⟩, ⟨#[]⟩) = (r.1 ++ [121, 97], Ro.kan r 1 ++ [227, 130, 131], []) by
                show ((P0 ++ ⟨#[121, 97]⟩).data.toList, (K ++ ⟨#[227, 130, 131]⟩).data.toList, []) = _
                rw [(HIP.out.append (Is.mk [121, 97])).data, (HIK.out.append (Is.mk [227, 130, 131])).data])
              have c1 := HD.out _ HA.out.below
              have c2 := HD2.out _ HA.out.below
              go_wp2_with fail
              clear c1 c2
              with_reducible refine (put_acc w.heap.size W2 _ (P0 ++ ⟨#[121, 97]⟩, K ++ ⟨#[227, 130, 131]⟩, ⟨#[]⟩) _ _ HBW.out HA.out (Nat.le_trans hl1 (by decide))).mono ?_
              rintro e w3 ⟨v3, rfl, ha⟩
              rw [HE3.out] at ha
              have HA3 := Lib.hid ha
              have hl2 := more_len hl1 (x := (r.1 ++ [121, 97], Ro.kan r 1 ++ [227, 130, 131], []))
              clear ha
              have HE4 := Eqq.mk (show ruleL (P0 ++ ⟨#[121, 117]⟩, K ++ ⟨#[227, 130, 133]⟩, ⟨#[]⟩) = (r.1 ++ [121, 117], Ro.kan r 1 ++ [227, 130, 133], []) by
                show ((P0 ++ ⟨#[121, 117]⟩).data.toList, (K ++ ⟨#[227, 130, 133]⟩).data.toList, []) = _
                rw [(HIP.out.append (Is.mk [121, 117])).data, (HIK.out.append (Is.mk [227, 130, 133])).data])
              have c1 := HD.out _ HA3.out.below
              have c2 := HD2.out _ HA3.out.below
              go_wp2_with fail
              clear c1 c2
              with_reducible refine (put_acc w.heap.size W2 _ (P0 ++ ⟨#[121, 117]⟩, K ++ ⟨#[227, 130, 133]⟩, ⟨#[]⟩) _ _ HBW.out HA3.out (Nat.le_trans hl2 (by decide))).mono ?_
              rintro e w4 ⟨v4, rfl, ha⟩
              rw [HE4.out] at ha
              have HA4 := Lib.hid ha
              have hl3 := more_len hl2 (x := (r.1 ++ [121, 117], Ro.kan r 1 ++ [227, 130, 133], []))
              clear ha
              have HE5 := Eqq.mk (show ruleL (P0 ++ ⟨#[121, 111]⟩, K ++ ⟨#[227, 130, 135]⟩, ⟨#[]⟩) = (r.1 ++ [121, 111], Ro.kan r 1 ++ [227, 130, 135], []) by
                show ((P0 ++ ⟨#[121, 111]⟩).data.toList, (K ++ ⟨#[227, 130, 135]⟩).data.toList, []) = _
                rw [(HIP.out.append (Is.mk [121, 111])).data, (HIK.out.append (Is.mk [227, 130, 135])).data])
              have c1 := HD.out _ HA4.out.below
              have c2 := HD2.out _ HA4.out.below
              go_wp2_with fail
              clear c1 c2
              with_reducible refine (put_acc w.heap.size W2 _ (P0 ++ ⟨#[121, 111]⟩, K ++ ⟨#[227, 130, 135]⟩, ⟨#[]⟩) _ _ HBW.out HA4.out (Nat.le_trans hl3 (by decide))).mono ?_
              rintro e w5 ⟨v5, rfl, ha⟩
              rw [HE5.out] at ha
              have HA5 := Lib.hid ha
              have hl4 := more_len hl3 (x := (r.1 ++ [121, 111], Ro.kan r 1 ++ [227, 130, 135], []))
              clear ha
              go_wp2_with fail
              go_roundw
              case rel => exact ⟨i + 1, by omega, by go_num, by rw [HN.out]; exact HA5.out⟩
              case measure => simp [intOf]; omega
    · obtain rfl : i = 25 := by omega
      have hl1 : Ro.tableSeq.length ≤ 300 := by rw [← Ro.rowsSeq_all]; exact Nat.le_trans (Ro.rowsSeq_len 25) (by decide)
      have HA1 := Lib.hid (show AccIs w.heap.size W2 Ro.tableSeq _ wr by rw [← Ro.rowsSeq_all]; exact HA.out)
      go_wp2_with fail
      with_reducible refine (put_acc w.heap.size W2 _ (⟨#[110]⟩, ⟨#[227, 130, 147]⟩, ⟨#[]⟩) _ _ HBW.out HA1.out (Nat.le_trans hl1 (by decide))).mono ?_
      rintro e w2 ⟨v2, rfl, ha⟩
      have HA2 := Lib.hid ha
      have hl2 := more_len hl1 (x := ruleL (⟨#[110]⟩, ⟨#[227, 130, 147]⟩, ⟨#[]⟩))
      clear ha
      go_wp2_with fail
      with_reducible refine (put_acc w.heap.size W2 _ (⟨#[110, 110]⟩, ⟨#[227, 130, 147]⟩, ⟨#[]⟩) _ _ HBW.out HA2.out (Nat.le_trans hl2 (by decide))).mono ?_
      rintro e w3 ⟨v3, rfl, ha⟩
      have HA3 := Lib.hid ha
      have hl3 := more_len hl2 (x := ruleL (⟨#[110, 110]⟩, ⟨#[227, 130, 147]⟩, ⟨#[]⟩))
      clear ha
      go_wp2_with fail
      with_reducible refine (put_acc w.heap.size W2 _ (⟨#[110, 39]⟩, ⟨#[227, 130, 147]⟩, ⟨#[]⟩) _ _ HBW.out HA3.out (Nat.le_trans hl3 (by decide))).mono ?_
      rintro e w4 ⟨v4, rfl, ha⟩
      have HA4 := Lib.hid ha
      have hl4 := more_len hl3 (x := ruleL (⟨#[110, 39]⟩, ⟨#[227, 130, 147]⟩, ⟨#[]⟩))
      clear ha
      go_wp2_with fail
      with_reducible refine (put_acc w.heap.size W2 _ (⟨#[45]⟩, ⟨#[227, 131, 188]⟩, ⟨#[]⟩) _ _ HBW.out HA4.out (Nat.le_trans hl4 (by decide))).mono ?_
      rintro e w5 ⟨v5, rfl, ha⟩
      have HA5 := Lib.hid ha
      have hl5 := more_len hl4 (x := ruleL (⟨#[45]⟩, ⟨#[227, 131, 188]⟩, ⟨#[]⟩))
      clear ha
      go_wp2_with fail
      with_reducible refine (put_acc w.heap.size W2 _ (⟨#[44]⟩, ⟨#[227, 128, 129]⟩, ⟨#[]⟩) _ _ HBW.out HA5.out (Nat.le_trans hl5 (by decide))).mono ?_
      rintro e w6 ⟨v6, rfl, ha⟩
      have HA6 := Lib.hid ha
      have hl6 := more_len hl5 (x := ruleL (⟨#[44]⟩, ⟨#[227, 128, 129]⟩, ⟨#[]⟩))
      clear ha
      go_wp2_with fail
      with_reducible refine (put_acc w.heap.size W2 _ (⟨#[46]⟩, ⟨#[227, 128, 130]⟩, ⟨#[]⟩) _ _ HBW.out HA6.out (Nat.le_trans hl6 (by decide))).mono ?_
      rintro e w7 ⟨v7, rfl, ha⟩
      have HA7 := Lib.hid ha
      have hl7 := more_len hl6 (x := ruleL (⟨#[46]⟩, ⟨#[227, 128, 130]⟩, ⟨#[]⟩))
      clear ha
      go_wp2_with fail
      with_reducible refine (put_acc w.heap.size W2 _ (⟨#[116, 99]⟩, ⟨#[227, 129, 163]⟩, ⟨#[99]⟩) _ _ HBW.out HA7.out (Nat.le_trans hl7 (by decide))).mono ?_
      rintro e w8 ⟨v8, rfl, ha⟩
      have HA8 := Lib.hid ha
      have hl8 := more_len hl7 (x := ruleL (⟨#[116, 99]⟩, ⟨#[227, 129, 163]⟩, ⟨#[99]⟩))
      clear ha
      have HA9 := Lib.hid (show AccIs w.heap.size W2 (Ro.tableSeq ++ Ro.tailSeq ++ Ro.doubleSeq.take 0) v8 w8 by
        have h := HA8.out
        simp only [List.append_assoc] at h
        rw [List.take_zero, List.append_nil]
        exact h)
      go_wp2_with fail
      try rw [show ((25 : Nat) : Int) = 25 from rfl]
      go_loopw [2, 8] (fun lv jv wr => ∃ j : Nat, j ≤ 17 ∧ jv = .int .i64 j ∧ AccIs w.heap.size W2 (Ro.tableSeq ++ Ro.tailSeq ++ Ro.doubleSeq.take j) lv wr) (fun _ jv _ => 17 - (intOf jv).toNat)
      case atStart => exact ⟨0, Nat.zero_le _, rfl, HA9.out⟩
      case round =>
        obtain ⟨j, hj, rfl, ha⟩ := hrel
        have HAj := Lib.hid ha
        clear ha
        by_cases hjl : j < 17
        · have hcut := dblR_cut j hjl
          have hsq := dblR_seq j hjl
          obtain ⟨c, hc⟩ : ∃ c, Ro.doubles.getD j 0 = c := ⟨_, rfl⟩
          rw [hc] at hcut hsq
          have HSQ := Eqq.mk hsq
          have i3 : (0 : Int) ≤ (j : Int) := by omega
          have i4 : (j : Int) < 17 := by omega
          obtain ⟨t, ht⟩ : ∃ t, ba [c] = t := ⟨_, rfl⟩
          have htz : t.size = 1 := by rw [← ht]; rfl
          have HIT := Lib.hid (show Is t [c] by rw [← ht]; exact is_ba _)
          have i5 : ¬ 9223372036854775807 < t.size + t.size := by omega
          rw [ht] at hcut
          have hcut2 : ByteArray.extract { data := #[98, 99, 100, 102, 103, 104, 106, 107, 109, 112, 114, 115, 116, 118, 119, 121, 122] } j (j + 1) = t := hcut
          have HE := Eqq.mk (show ruleL (t ++ t, ⟨#[227, 129, 163]⟩, t) = ([c] ++ [c], [227, 129, 163], [c]) by
            show ((t ++ t).data.toList, _, t.data.toList) = _
            rw [(HIT.out.append HIT.out).data, HIT.out.data])
          have hlen : (Ro.tableSeq ++ Ro.tailSeq ++ Ro.doubleSeq.take j).length ≤ 1000 := by
            rw [List.length_append, List.length_append, List.length_take]
            have : Ro.tailSeq.length = 7 := rfl
            omega
          clear hcut hsq hc ht htz
          go_wp2_with fail
          clear hcut2
          with_reducible refine (put_acc w.heap.size W2 _ (t ++ t, ⟨#[227, 129, 163]⟩, t) _ _ HBW.out HAj.out hlen).mono ?_
          rintro e w9 ⟨v9, rfl, ha⟩
          have HN := Lib.hid (show AccIs w.heap.size W2 (Ro.tableSeq ++ Ro.tailSeq ++ Ro.doubleSeq.take (j + 1)) v9 w9 by
            rw [HE.out, List.append_assoc] at ha
            rw [HSQ.out]
            exact ha)
          clear ha
          go_wp2_with fail
          go_roundw
          case rel => exact ⟨j + 1, by omega, by go_num, HN.out⟩
          case measure => simp [intOf]; omega
        · obtain rfl : j = 17 := by omega
          obtain ⟨xs, hx, ho, hb⟩ := acc_fin HAj.out
          have HX := Eqq.mk hx
          have HO := Lib.hid ho
          have HBF := Lib.hid (HB2.out.trans (hb.mono HBW.out))
          clear hx ho hb
          go_wp2_with fail
          go_ret
          exact ⟨⟨_, xs, rfl, HX.out, HO.out⟩, HBF.out⟩
end Go.Proofs.YtgdcffahhpeibaaDoor
