/-
  henkanref03.Digits by its contract. No condition but the string's own bound.
-/
import Derived.Test.YtnpkcobapckhdaaGreatDoorNumTabs
namespace Go.Proofs.YtnpkcobapckhdaaGreatDoor
open Go.RowKit
theorem take_all_snoc (l : List UInt8) (k : Nat) (c : UInt8) (h : l[k]? = some c) (h1 : (l.take k).all Num.isD = true) (h2 : Num.isD c = true) : (l.take (k + 1)).all Num.isD = true := by
  rw [List.take_add_one, h]
  simp [h1, h2]
theorem take_not (l : List UInt8) (k : Nat) (c : UInt8) (h : l[k]? = some c) (h2 : Num.isD c = false) : Num.valid l = false := by
  cases e : Num.valid l
  · rfl
  · rw [Num.valid_iff] at e
    have := List.all_eq_true.1 e.2.2.1 c (List.mem_of_getElem? h)
    rw [h2] at this; cases this

set_option maxHeartbeats 1000000 in
theorem digits_any (s : ByteArray) (l : List UInt8) (w : World) (h : Is s l) (hs : s.size ≤ 9223372036854775807) :
    Calls Tryz.prog 118 #[.string s] w fun e w' => e = .returned (.bool (Num.valid l)) ∧ w = w' := by
  have HI := Lib.hid h
  have HZ := Lib.hid h.size
  clear h
  go_enter Tryz.func118, Tryz.ntmps118
  go_wp2_with fail
  go_loop [3] (fun i => ∃ k : Nat, k ≤ s.size ∧ i = .int .i64 k ∧ (l.take k).all Num.isD = true) (fun i => s.size - (intOf i).toNat)
  case atStart => exact ⟨0, by omega, rfl, by simp⟩
  case round =>
    obtain ⟨k, hk, rfl, ha⟩ := hrel
    have HA := Lib.hid ha
    clear ha
    by_cases hlt : k < s.size
    · have hg := Lib.hid (HI.out.get k hlt)
      by_cases c1 : 48 ≤ (s[k].toNat : Int) ∧ (s[k].toNat : Int) ≤ 57
      · have HD := Lib.hid ((isD_iff _).2 c1)
        obtain ⟨c2, c3⟩ := c1
        go_wp2_with fail
        go_round
        case rel => exact ⟨k + 1, by omega, by go_num, take_all_snoc l k _ hg.out HA.out HD.out⟩
        case measure => simp [intOf]; omega
      · have HD := Lib.hid (show Num.isD s[k] = false by cases e : Num.isD s[k]; rfl; exact absurd ((isD_iff _).1 e) c1)
        by_cases c2 : (s[k].toNat : Int) < 48
        · clear c1
          go_wp2_with fail
          go_ret
          exact ⟨by rw [take_not l k _ hg.out HD.out]; rfl, rfl⟩
        · have c3 : 57 < (s[k].toNat : Int) := by omega
          clear c1
          go_wp2_with fail
          go_ret
          exact ⟨by rw [take_not l k _ hg.out HD.out]; rfl, rfl⟩
    · obtain rfl : k = s.size := by omega
      have HA2 := Lib.hid (show l.all Num.isD = true by have := HA.out; rwa [HZ.out, List.take_length] at this)
      clear HA
      by_cases c1 : s.size = 0
      · have HV := Lib.hid (show Num.valid l = false by have := HZ.out; rw [c1] at this; cases l with | nil => rfl | cons a r => simp at this)
        have c2 : ¬ 1 ≤ s.size := by omega
        clear c1
        go_wp2_with fail
        go_ret
        exact ⟨by rw [HV.out]; rfl, rfl⟩
      by_cases c2 : 20 < s.size
      · have HV := Lib.hid (show Num.valid l = false by have := HZ.out; unfold Num.valid; simp; omega)
        clear c1
        go_wp2_with fail
        go_ret
        exact ⟨by rw [HV.out]; rfl, rfl⟩
      have c0 : 0 < s.size := by omega
      have hg := HI.out.get 0 c0
      by_cases c4 : l.head? = some 48
      · have d1 : ((s[0].toNat : Int) != 48) = false := by
          rw [List.head?_eq_getElem?, hg] at c4
          injection c4 with c4
          rw [c4]; rfl
        have hz := HZ.out
        cases c5 : (l == [48])
        · have d2 : ((s.size : Int) == 1) = false := by
            rw [beq_eq_false_iff_ne]
            intro e
            have : l = [48] := by
              cases l with
              | nil => simp at c4
              | cons a r =>
                simp at c4
                have : r = [] := by apply List.eq_nil_of_length_eq_zero; simp at hz; omega
                rw [this, c4]
            rw [this] at c5; simp at c5
          have HV := Lib.hid (show Num.valid l = false by unfold Num.valid; rw [c4, c5]; simp)
          clear c1 c4 c5 hg hz
          go_wp2_with fail
          go_ret
          exact ⟨by rw [HV.out]; rfl, rfl⟩
        · have d2 : ((s.size : Int) == 1) = true := by
            have := eq_of_beq c5; rw [this] at hz; simp at hz; simp [hz]
          have HV := Lib.hid (show Num.valid l = true by have := eq_of_beq c5; subst this; rfl)
          clear c1 c4 c5 hg hz
          go_wp2_with fail
          go_ret
          exact ⟨by rw [HV.out]; rfl, rfl⟩
      · have d1 : ((s[0].toNat : Int) != 48) = true := by
          rw [List.head?_eq_getElem?, hg] at c4
          rw [bne_iff_ne]
          intro e
          apply c4
          congr 1
          exact UInt8.toNat_inj.1 (by have : ((48 : UInt8).toNat : Int) = 48 := rfl; omega)
        have hz := HZ.out
        have HV := Lib.hid (show Num.valid l = true by
          rw [Num.valid_iff]; exact ⟨by intro e; rw [e] at hz; have : ([] : List UInt8).length = 0 := rfl; omega, by omega, HA2.out, Or.inl c4⟩)
        clear c1 c4 hg hz
        go_wp2_with fail
        go_ret
        exact ⟨by rw [HV.out]; rfl, rfl⟩
end Go.Proofs.YtnpkcobapckhdaaGreatDoor
