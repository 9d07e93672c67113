/-
  henkanref05.Print by its contract. No condition but the list's and the strings' own bound.
-/
import Derived.Test.YtbdekjfimojkbaaDoorRoFew
namespace Go.Proofs.YtbdekjfimojkbaaDoor
open Go.RowKit
theorem Is.cat {a b : ByteArray} {x y : List UInt8} (h : Is a x) (h' : Is b y) : Is (a ++ b) (x ++ y) := h.append h'
set_option maxRecDepth 100000 in
set_option maxHeartbeats 4000000 in
theorem rprint_any (v : Value) (xs : List RuleB) (w : World) (h : LieR v xs w) (hn : xs.length ≤ 1000000000000) (hz : Short3 xs) :
    Calls Tryd.prog 18 #[v] w fun e w' => GivesT (Ro.print (rulesL xs)) e ∧ Below w.heap.size w w' := by
  have HL := Lib.hid h
  have HZ := Lib.hid hz
  clear hz
  rcases Ro.check_cases (rulesL xs) with hc | hc | hc
  case inr.inl =>
    have HR := Eqq.mk (show Ro.print (rulesL xs) = ([], 2) by unfold Ro.print; rw [hc]; rfl)
    have HC := Eqq.mk hc
    clear hc h
    go_enter Tryd.func18, Tryd.ntmps18
    go_wp2_with fail
    with_reducible refine (rcheck_any v xs _ HL.out hn HZ.out).mono ?_
    rw [HC.out]
    rintro e w1 ⟨rfl, hb⟩
    have HB := Lib.hid hb
    clear hb
    go_wp2_with fail
    go_ret2
    exact ⟨⟨⟨#[]⟩, by rw [HR.out]; exact Is.mk [], by rw [HR.out]; rfl⟩, HB.out⟩
  case inr.inr =>
    have HR := Eqq.mk (show Ro.print (rulesL xs) = ([], 50) by unfold Ro.print; rw [hc]; rfl)
    have HC := Eqq.mk hc
    clear hc h
    go_enter Tryd.func18, Tryd.ntmps18
    go_wp2_with fail
    with_reducible refine (rcheck_any v xs _ HL.out hn HZ.out).mono ?_
    rw [HC.out]
    rintro e w1 ⟨rfl, hb⟩
    have HB := Lib.hid hb
    clear hb
    go_wp2_with fail
    go_ret2
    exact ⟨⟨⟨#[]⟩, by rw [HR.out]; exact Is.mk [], by rw [HR.out]; rfl⟩, HB.out⟩
  have HR := Eqq.mk (show Ro.print (rulesL xs) = (Ro.text (rulesL xs), 0) by unfold Ro.print; rw [hc]; rfl)
  have HC := Eqq.mk hc
  obtain ⟨h5, hgd⟩ := (Ro.check_zero _).1 hc
  have hal := ((Ro.good_iff _).1 hgd).1
  obtain ⟨n, hnn⟩ : ∃ n, xs.length = n := ⟨_, rfl⟩
  have hn5 : n ≤ 500 := by have : (rulesL xs).length = n := by unfold rulesL; rw [List.length_map, hnn]
                           omega
  have HTL := Lib.hid (show ∀ k, k ≤ n → (Ro.text (rulesL (xs.take k))).length ≤ 26 * k by
    intro k hk
    have h1 := Ro.text_len (rulesL (xs.take k)) (fun r hr => hal r (by unfold rulesL at hr ⊢; obtain ⟨x, hx, rfl⟩ := List.mem_map.1 hr; exact List.mem_map.2 ⟨x, List.mem_of_mem_take hx, rfl⟩))
    have h2 : (rulesL (xs.take k)).length = k := by unfold rulesL; rw [List.length_map, List.length_take]; omega
    rw [h2] at h1
    exact h1)
  have HSL := Lib.hid (show ∀ k (r : RuleB), xs[k]? = some r → r.1.size ≤ 25 ∧ r.2.1.size ≤ 25 ∧ r.2.2.size ≤ 25 by
    intro k r hr
    have h1 := Ro.ruleLine_len (hal (ruleL r) (List.mem_map.2 ⟨r, List.mem_of_getElem? hr, rfl⟩))
    obtain ⟨r1, r2, r3⟩ := r
    unfold Ro.ruleLine ruleL at h1
    dsimp only at h1 ⊢
    simp only [List.length_append, List.length_cons, List.length_nil] at h1
    have hq1 := (Is.of r1).size
    have hq2 := (Is.of r2).size
    have hq3 := (Is.of r3).size
    refine ⟨by omega, by omega, ?_⟩
    by_cases h : r3.data.toList = []
    · rw [hq3, h]; simp
    · rw [if_neg h] at h1
      simp only [List.length_append, List.length_cons, List.length_nil] at h1
      omega)
  have HN := Eqq.mk hnn
  clear hc h h5 hgd hal
  go_enter Tryd.func18, Tryd.ntmps18
  go_wp2_with fail
  with_reducible refine (rcheck_any v xs _ HL.out hn HZ.out).mono ?_
  rw [HC.out]
  rintro e w1 ⟨rfl, hb⟩
  have HB := Lib.hid hb
  have HL1 := Lib.hid (HL.out.keep hb)
  clear hb
  obtain ⟨ao, cap, rfl, hcap, hx⟩ := HL1.out
  rw [hnn] at hn hcap ⊢
  have HX := Lib.hid hx
  clear hx hnn hcap
  go_wp2_with fail
  go_loopw [5, 6] (fun sv iv wr => ∃ (k : Nat) (acc : ByteArray), k ≤ n ∧ iv = .int .i64 k ∧ sv = .string acc ∧ Is acc (Ro.text (rulesL (xs.take k))) ∧ Below w1.heap.size w1 wr) (fun _ iv _ => n - (intOf iv).toNat)
  case atStart => exact ⟨0, ⟨#[]⟩, Nat.zero_le _, rfl, rfl, Is.mk [], Below.refl _ _⟩
  case round =>
    obtain ⟨k, acc, hk, rfl, rfl, hi, hb⟩ := hrel
    have HBe := Lib.hid hb
    have HI := Lib.hid hi
    have hacc : acc.size ≤ 13000 := by rw [hi.size]; have := HTL.out k hk; omega
    clear hb hi
    by_cases hlt : k < n
    · obtain ⟨r, hr⟩ : ∃ r, xs[k]? = some r := ⟨_, List.getElem?_eq_getElem (by rw [HN.out]; exact hlt)⟩
      obtain ⟨g, o, rfl, d1, d2, d3⟩ := HX.out k r hr
      have c1 := below_cellU d1 HBe.out (Nat.le_refl _)
      have c2 := below_cellU d2 HBe.out (Nat.le_refl _)
      have c3 := below_cellU d3 HBe.out (Nat.le_refl _)
      obtain ⟨z1, z2, z3⟩ := HSL.out k r hr
      have HTS := Eqq.mk (text_snoc xs k r hr)
      obtain ⟨r1, r2, r3⟩ := r
      dsimp only at c1 c2 c3 z1 z2 z3
      clear hr d1 d2 d3
      have hrl3 := (Is.of r3).list
      by_cases h3 : r3.data.toList = []
      · have e3 : r3.toList.isEmpty = true := by rw [hrl3, h3]; rfl
        have f3 : (!r3.toList.isEmpty) = false := by rw [e3]; rfl
        have k3 : r3.data.isEmpty = true := by rw [data_isEmpty, h3]; rfl
        have j3 : (!r3.data.isEmpty) = false := by rw [k3]; rfl
        have HX3 := Eqq.mk (show Ro.ruleLine (ruleL (r1, r2, r3)) ++ [10] = r1.data.toList ++ ([9] ++ r2.data.toList) ++ [10] by unfold Ro.ruleLine ruleL; dsimp only; rw [if_pos h3, List.append_nil])
        clear h3 hrl3
        go_wp2_with fail
        go_quiet (fail)
        go_wp2_with fail
        go_roundw
        case rel =>
          refine ⟨k + 1, _, by omega, by go_num, rfl, ?_, by first | exact HBe.out.drew | exact HBe.out | exact bel_dn HBe.out _⟩
          rw [HTS.out, HX3.out]
          have := HI.out
          unfold Is at this ⊢
          simp [ByteArray.data_append, this, List.append_assoc]
        case measure => simp [intOf]; omega
      · have e3 : r3.toList.isEmpty = false := by rw [hrl3]; cases h : r3.data.toList with | nil => exact absurd h h3 | cons a b => rfl
        have f3 : (!r3.toList.isEmpty) = true := by rw [e3]; rfl
        have k3 : r3.data.isEmpty = false := by rw [data_isEmpty]; cases h : r3.data.toList with | nil => exact absurd h h3 | cons a b => rfl
        have j3 : (!r3.data.isEmpty) = true := by rw [k3]; rfl
        have HX3 := Eqq.mk (show Ro.ruleLine (ruleL (r1, r2, r3)) ++ [10] = r1.data.toList ++ ([9] ++ (r2.data.toList ++ ([9] ++ r3.data.toList))) ++ [10] by unfold Ro.ruleLine ruleL; dsimp only; rw [if_neg h3])
        clear h3 hrl3
        go_wp2_with fail
        go_quiet (fail)
        go_wp2_with fail
        go_roundw
        case rel =>
          refine ⟨k + 1, _, by omega, by go_num, rfl, ?_, by first | exact HBe.out.drew | exact HBe.out | exact bel_dn HBe.out _⟩
          rw [HTS.out, HX3.out]
          have := HI.out
          unfold Is at this ⊢
          simp [ByteArray.data_append, this, List.append_assoc]
        case measure => simp [intOf]; omega
    · obtain rfl : k = n := by omega
      have HRR := Eqq.mk (show Ro.print (rulesL xs) = (Ro.text (rulesL (xs.take k)), 0) by rw [HR.out, ← HN.out, List.take_length])
      go_wp2_with fail
      go_ret2
      exact ⟨⟨_, by rw [HRR.out]; exact HI.out, by rw [HRR.out]; rfl⟩, HB.out.trans (HBe.out.mono HB.out.size)⟩
end Go.Proofs.YtbdekjfimojkbaaDoor
