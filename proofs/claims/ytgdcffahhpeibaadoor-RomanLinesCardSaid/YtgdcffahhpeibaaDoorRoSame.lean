/-
  henkanref05.Same, henkanlaw05.same, henkanref05.Check by their contracts. No condition but the lists' and the strings' own bound.
-/
import Derived.Test.YtgdcffahhpeibaaDoorRoGiven
namespace Go.Proofs.YtgdcffahhpeibaaDoor
open Go.RowKit
theorem rEq_no (r s : RuleB) (h : r ≠ s) : (¬ r.1.toList = s.1.toList) ∨ (r.1 = s.1 ∧ ¬ r.2.1.toList = s.2.1.toList) ∨ (r.1 = s.1 ∧ r.2.1 = s.2.1 ∧ ¬ r.2.2.toList = s.2.2.toList) := by
  obtain ⟨a, b, c⟩ := r
  obtain ⟨d, e, f⟩ := s
  have hh : ∀ x y : ByteArray, x.toList = y.toList → x = y := fun x y he => by
    rw [Lib.toList_data, Lib.toList_data] at he
    exact ByteArray.ext (Array.toList_inj.1 he)
  dsimp only
  by_cases h1 : a.toList = d.toList
  · by_cases h2 : b.toList = e.toList
    · by_cases h3 : c.toList = f.toList
      · exact absurd (by rw [hh _ _ h1, hh _ _ h2, hh _ _ h3]) h
      · exact .inr (.inr ⟨hh _ _ h1, hh _ _ h2, h3⟩)
    · exact .inr (.inl ⟨hh _ _ h1, h2⟩)
  · exact .inl h1
@[go_sem] theorem egR : Tryd.prog.eqGuardType Tryd.prog.depth 44 = false := by kernel_rfl
@[go_sem] theorem egP : Tryd.prog.eqGuardType Tryd.prog.depth 39 = false := by kernel_rfl
theorem take_eq_snoc (xs ys : List RuleB) (k : Nat) (r : RuleB) (h1 : xs[k]? = some r) (h2 : ys[k]? = some r) (h : xs.take k = ys.take k) : xs.take (k + 1) = ys.take (k + 1) := by
  rw [take_snoc xs k r h1, take_snoc ys k r h2, h]
theorem ne_at (xs ys : List RuleB) (k : Nat) (r s : RuleB) (h1 : xs[k]? = some r) (h2 : ys[k]? = some s) (h : r ≠ s) : xs ≠ ys := by
  rintro rfl
  rw [h1] at h2
  injection h2 with h2
  exact h h2
set_option maxRecDepth 100000 in
set_option maxHeartbeats 4000000 in
theorem rsame_any (v1 v2 : Value) (xs ys : List RuleB) (w : World) (h1 : LieR v1 xs w) (h2 : LieR v2 ys w) (hn1 : xs.length ≤ 1000000000000) (hn2 : ys.length ≤ 1000000000000) :
    Calls Tryd.prog 21 #[v1, v2] w fun e w' => e = .returned (.bool (decide (xs = ys))) ∧ Below w.heap.size w w' := by
  obtain ⟨ao1, cap1, rfl, hc1, hx1⟩ := h1
  obtain ⟨ao2, cap2, rfl, hc2, hx2⟩ := h2
  obtain ⟨n, hn⟩ : ∃ n, xs.length = n := ⟨_, rfl⟩
  obtain ⟨m, hm⟩ : ∃ m, ys.length = m := ⟨_, rfl⟩
  have HN := Eqq.mk hn
  have HM := Eqq.mk hm
  rw [hn] at hn1 ⊢
  rw [hm] at hn2 ⊢
  have HX1 := Lib.hid hx1
  have HX2 := Lib.hid hx2
  clear hx1 hx2 hc1 hc2
  by_cases hnm : n = m
  · subst hnm
    have HTK := Lib.hid (show xs.take n = ys.take n → xs = ys by intro h; rwa [← HN.out, List.take_length, HN.out, ← HM.out, List.take_length] at h)
    clear hn hm
    go_enter Tryd.func21, Tryd.ntmps21
    go_wp2_with fail
    go_loopw [5] (fun iv wr => ∃ k : Nat, k ≤ n ∧ iv = .int .i64 k ∧ Eqq (xs.take k) (ys.take k) ∧ Below w.heap.size w wr) (fun iv _ => n - (intOf iv).toNat)
    case atStart => exact ⟨0, Nat.zero_le _, rfl, ⟨rfl⟩, Below.refl _ _⟩
    case round =>
      obtain ⟨k, hk, rfl, HE, hb⟩ := hrel
      have HB := Lib.hid hb
      clear hb
      by_cases hlt : k < n
      · obtain ⟨r, hr⟩ : ∃ r, xs[k]? = some r := ⟨_, List.getElem?_eq_getElem (by rw [HN.out]; exact hlt)⟩
        obtain ⟨s, hs⟩ : ∃ s, ys[k]? = some s := ⟨_, List.getElem?_eq_getElem (by rw [HM.out]; exact hlt)⟩
        obtain ⟨g1, o1, rfl, d1, d2, d3⟩ := HX1.out k r hr
        obtain ⟨g2, o2, rfl, f1, f2, f3⟩ := HX2.out k s hs
        have c1 := below_cellU d1 HB.out (Nat.le_refl _)
        have c2 := below_cellU d2 HB.out (Nat.le_refl _)
        have c3 := below_cellU d3 HB.out (Nat.le_refl _)
        have b1 := below_cellU f1 HB.out (Nat.le_refl _)
        have b2 := below_cellU f2 HB.out (Nat.le_refl _)
        have b3 := below_cellU f3 HB.out (Nat.le_refl _)
        by_cases hrs : r = s
        · subst hrs
          have HE2 := Eqq.mk (take_eq_snoc xs ys k r hr hs HE.out)
          obtain ⟨r1, r2, r3⟩ := r
          dsimp only at c1 c2 c3 b1 b2 b3
          clear hr hs d1 d2 d3 f1 f2 f3
          go_wp2_with fail
          go_quiet (fail)
          go_wp2_with fail
          go_roundw
          case rel => exact ⟨k + 1, by omega, by go_num, HE2, by first | exact HB.out.drew | exact HB.out | exact bel_dn HB.out _⟩
          case measure => simp [intOf]; omega
        · have hq := rEq_no r s hrs
          have HD := Eqq.mk (decide_eq_false (ne_at xs ys k r s hr hs hrs))
          obtain ⟨r1, r2, r3⟩ := r
          obtain ⟨s1, s2, s3⟩ := s
          dsimp only at c1 c2 c3 b1 b2 b3 hq
          clear hr hs d1 d2 d3 f1 f2 f3 hrs
          rcases hq with hq | ⟨rfl, hq⟩ | ⟨rfl, rfl, hq⟩ <;>
          (go_wp2_with fail
           go_quiet (fail)
           go_wp2_with fail
           go_ret
           exact ⟨by rw [HD.out]; rfl, by first | exact HB.out.drew | exact HB.out | exact bel_dn HB.out _⟩)
      · obtain rfl : k = n := by omega
        have HD := Eqq.mk (decide_eq_true (HTK.out HE.out))
        go_wp2_with fail
        go_ret
        exact ⟨by rw [HD.out]; rfl, HB.out⟩
  · have HD := Eqq.mk (decide_eq_false (show xs ≠ ys by rintro rfl; rw [hn] at hm; exact hnm hm))
    have i1 : ((n : Int) == (m : Int)) = false := by rw [beq_eq_false_iff_ne]; omega
    have i2 : ¬ ((n : Int) = (m : Int)) := by omega
    clear hn hm
    go_enter Tryd.func21, Tryd.ntmps21
    go_wp2_with fail
    go_ret
    exact ⟨by rw [HD.out]; rfl, Below.refl _ _⟩
set_option maxRecDepth 100000 in
set_option maxHeartbeats 4000000 in
theorem same_any (v1 v2 : Value) (xs ys : List RuleB) (w : World) (h1 : LieR v1 xs w) (h2 : LieR v2 ys w) (hn1 : xs.length ≤ 1000000) (hn2 : ys.length ≤ 1000000000000) :
    Calls Tryd.prog 9 #[v1, v2] w fun e w' => e = .returned (.bool (decide (xs = ys))) ∧ Below w.heap.size w w' := by
  have HL2 := Lib.hid h2
  have HL1 := Lib.hid h1
  clear h1 h2
  go_enter Tryd.func9, Tryd.ntmps9
  go_wp2_with fail
  with_reducible refine (taken_any v1 xs _ HL1.out hn1).mono ?_
  rintro e w2 ⟨v', rfl, ho, hb⟩
  have HB := Lib.hid hb
  have HO := Lib.hid ho.lie
  clear hb ho
  go_wp2_with fail
  with_reducible refine (rsame_any v' v2 xs ys _ HO.out (HL2.out.keep HB.out) (by omega) hn2).mono ?_
  rintro e w3 ⟨rfl, hb⟩
  have HB3 := Lib.hid (HB.out.trans (hb.mono HB.out.size))
  clear hb
  go_wp2_with fail
  go_ret
  exact ⟨rfl, HB3.out⟩
theorem box3g (w : World) (x y z : Value) (T : TypeId) (j : Nat) : (w.alloc (.cells #[x, y, z] T)).frozen? ⟨w.heap.size, j, none⟩ = false :=
  Lib.frozen_of_heap (MapKept.heap_alloc w (.cells #[x, y, z] T)).1 j
theorem found_parts (xs : List RuleB) (k : List UInt8) : ∃ r, FoundV xs k = .tuple #[ruleV r, .bool ((keysL xs).contains k)] := by
  have e : (keysL xs).contains k = (xs.find? (fun r => r.1.data.toList == k)).isSome := by
    unfold keysL rulesL
    rw [List.map_map, Bool.eq_iff_iff, List.contains_iff_mem, List.find?_isSome, List.mem_map]
    constructor
    · rintro ⟨x, hx, he⟩; exact ⟨x, hx, by rw [← he]; exact beq_self_eq_true _⟩
    · rintro ⟨x, hx, he⟩; exact ⟨x, hx, eq_of_beq he⟩
  unfold FoundV
  rw [e]
  cases xs.find? (fun r => r.1.data.toList == k) with
  | none => exact ⟨(⟨#[]⟩, ⟨#[]⟩, ⟨#[]⟩), rfl⟩
  | some r => exact ⟨r, rfl⟩
theorem LieR.take {ao : Option Addr} {n cap : Nat} {xs : List RuleB} {w : World} (hx : ∀ k r, xs[k]? = some r → ∃ g o, ao = some ⟨g, o, none⟩ ∧
  w.cell? ⟨g, o + k * 3, none⟩ = some (.string r.1) ∧ w.cell? ⟨g, o + k * 3 + 1, none⟩ = some (.string r.2.1) ∧ w.cell? ⟨g, o + k * 3 + 2, none⟩ = some (.string r.2.2)) (hn : xs.length = n) (hc : n ≤ cap) (k : Nat) (hk : k ≤ n) : LieR (.slice ao k cap) (xs.take k) w := by
  refine ⟨ao, cap, by rw [List.length_take, hn, Nat.min_eq_left hk], by rw [List.length_take]; omega, fun j r hj => ?_⟩
  rw [List.getElem?_take] at hj
  split at hj
  · exact hx j r hj
  · cases hj
end Go.Proofs.YtgdcffahhpeibaaDoor
