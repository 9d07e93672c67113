/-
  roman.isKeys, isKana (with slices.ContainsFunc and its closure), utf.Runes; henkanref05.keyed, kana by their contracts. No condition but the string's own bound.
-/
import Derived.Test.YtgdcffahhpeibaaGreatDoorRRules
namespace Go.Proofs.YtgdcffahhpeibaaGreatDoor
open Go.RowKit
theorem all_take_succ {α : Type} (p : α → Bool) (l : List α) (k : Nat) (c : α) (h : l[k]? = some c) : (l.take (k + 1)).all p = ((l.take k).all p && p c) := by
  have hk : k < l.length := by
    rcases Nat.lt_or_ge k l.length with h' | h'
    · exact h'
    · rw [List.getElem?_eq_none h'] at h; cases h
  rw [List.take_succ_eq_append_getElem hk, List.all_append]
  rw [List.getElem?_eq_getElem hk] at h
  injection h with h
  simp [h]
theorem all_false {α : Type} (p : α → Bool) (l : List α) (k : Nat) (c : α) (h : l[k]? = some c) (hp : p c = false) : l.all p = false := by
  cases ha : l.all p
  · rfl
  · rw [List.all_eq_true] at ha
    rw [ha c (List.mem_of_getElem? h)] at hp
    cases hp
theorem isK_yes {c : UInt8} (h : (97 ≤ c.toNat ∧ c.toNat ≤ 122) ∨ c.toNat = 45 ∨ c.toNat = 44 ∨ c.toNat = 46 ∨ c.toNat = 39) : Ro.isK c = true := by
  unfold Ro.isK
  simp only [Bool.or_eq_true, Bool.and_eq_true, decide_eq_true_eq, beq_iff_eq]
  exact h
theorem isK_no {c : UInt8} (h : ¬ ((97 ≤ c.toNat ∧ c.toNat ≤ 122) ∨ c.toNat = 45 ∨ c.toNat = 44 ∨ c.toNat = 46 ∨ c.toNat = 39)) : Ro.isK c = false := by
  cases hk : Ro.isK c
  · rfl
  · unfold Ro.isK at hk
    simp only [Bool.or_eq_true, Bool.and_eq_true, decide_eq_true_eq, beq_iff_eq] at hk
    exact absurd hk h
def keysC : List UInt8 := [97, 98, 99, 100, 101, 102, 103, 104, 105, 106, 107, 108, 109, 110, 111, 112, 113, 114, 115, 116, 117, 118, 119, 120, 121, 122, 45, 44, 46, 39]
theorem trimK_nil (l : List UInt8) : Lib.trimS l keysC = [] ↔ l.all Ro.isK = true := by
  have hc : ∀ c : UInt8, keysC.contains c = Ro.isK c := by
    intro c
    have h : ∀ n : Fin 256, keysC.contains (UInt8.ofNat n) = Ro.isK (UInt8.ofNat n) := by decide +kernel
    have := h ⟨c.toNat, c.toNat_lt⟩
    simpa using this
  have hd : ∀ (m : List UInt8), m.dropWhile (keysC.contains ·) = [] ↔ m.all Ro.isK = true := by
    intro m
    induction m with
    | nil => simp
    | cons a m ih =>
      rw [List.dropWhile_cons, hc a]
      cases h : Ro.isK a
      · simp [h]
      · simp only [if_true]
        rw [ih]; simp [h]
  unfold Lib.trimS Lib.trimLeftS Lib.trimRightS
  rw [hd]
  constructor
  · intro h
    have h2 : (List.dropWhile (fun x => keysC.contains x) l.reverse).all Ro.isK = true := by
      rw [List.all_reverse] at h; exact h
    have h3 : l.reverse.dropWhile (keysC.contains ·) = [] := by
      cases e : l.reverse.dropWhile (keysC.contains ·) with
      | nil => rfl
      | cons a m =>
        exfalso
        have h4 := List.head_dropWhile_not (p := fun x => keysC.contains x) (l := l.reverse) (by rw [e]; simp)
        rw [e] at h2
        have h5 : Ro.isK a = true := by simp at h2; exact h2.1
        simp only [e, List.head_cons] at h4
        rw [hc] at h4
        rw [h5] at h4
        cases h4
    rw [hd, List.all_reverse] at h3
    exact h3
  · intro h
    have h3 : l.reverse.dropWhile (keysC.contains ·) = [] := by rw [hd, List.all_reverse]; exact h
    rw [h3]; rfl
theorem trimK_any (s : ByteArray) (w : World) (hs : s.size ≤ 9223372036854775807) :
    Calls Tryz.prog 120 #[.string s, .string ⟨#[97, 98, 99, 100, 101, 102, 103, 104, 105, 106, 107, 108, 109, 110, 111, 112, 113, 114, 115, 116, 117, 118, 119, 120, 121, 122, 45, 44, 46, 39]⟩] w fun e w' => e = .returned (.string ⟨(Lib.trimS s.data.toList keysC).toArray⟩) ∧ Below w.heap.size w w' :=
  Any.strings_Trim_laid Tryz.lays160 (by kernel_rfl) s ⟨#[97, 98, 99, 100, 101, 102, 103, 104, 105, 106, 107, 108, 109, 110, 111, 112, 113, 114, 115, 116, 117, 118, 119, 120, 121, 122, 45, 44, 46, 39]⟩ w hs (by decide) (ascii_of_all (by decide))
set_option maxRecDepth 100000 in
set_option maxHeartbeats 4000000 in
theorem iskeys_any (s : ByteArray) (l : List UInt8) (n : Nat) (z : Int) (hz : z = (n : Int)) (w : World) (h : Is s l) (hs : s.size ≤ 9223372036854775807) :
    Calls Tryz.prog 97 #[.string s, .int .i64 z] w fun e w' => e = .returned (.bool (Ro.keyed l n)) ∧ Below w.heap.size w w' := by
  subst hz
  have HI := Lib.hid h
  have hsz := h.size
  have HSZ := Eqq.mk hsz
  clear h hsz
  by_cases hm : s.size ≤ n
  · have hd : decide (s.size ≤ n) = true := decide_eq_true hm
    by_cases ha : l.all Ro.isK = true
    · have HNO := Eqq.mk (show Ro.keyed l n = true by unfold Ro.keyed; rw [ha, decide_eq_true (by rw [← HSZ.out]; exact hm)]; rfl)
      have HT := Eqq.mk ((trimK_nil l).2 ha)
      clear ha
      go_enter Tryz.func97, Tryz.ntmps97
      go_wp2_with fail
      with_reducible refine (trimK_any s _ hs).mono ?_
      rw [HI.out.data, HT.out]
      rintro e w2 ⟨rfl, hb⟩
      have HB := Lib.hid hb
      clear hb
      go_wp2_with fail
      go_ret
      exact ⟨by rw [HNO.out]; rfl, HB.out⟩
    · have HNO := Eqq.mk (show Ro.keyed l n = false by unfold Ro.keyed; rw [Bool.eq_false_iff.2 ha, Bool.and_false])
      obtain ⟨t, ht⟩ : ∃ t, Is t (Lib.trimS l keysC) := ⟨_, Is.mk _⟩
      have e2 : t.toList.isEmpty = false := by
        rw [ht.list]
        cases e : Lib.trimS l keysC
        · exact absurd ((trimK_nil l).1 e) ha
        · rfl
      have HT := Eqq.mk (show (⟨(Lib.trimS l keysC).toArray⟩ : ByteArray) = t from (Is.mk _).eq ht)
      clear ha ht
      go_enter Tryz.func97, Tryz.ntmps97
      go_wp2_with fail
      with_reducible refine (trimK_any s _ hs).mono ?_
      rw [HI.out.data, HT.out]
      rintro e w2 ⟨rfl, hb⟩
      have HB := Lib.hid hb
      clear hb
      go_wp2_with fail
      go_ret
      exact ⟨by rw [HNO.out]; rfl, HB.out⟩
  · have hd : decide (s.size ≤ n) = false := decide_eq_false hm
    have HNO := Eqq.mk (show Ro.keyed l n = false by unfold Ro.keyed; rw [decide_eq_false (by rw [← HSZ.out]; exact hm)]; rfl)
    clear hm
    go_enter Tryz.func97, Tryz.ntmps97
    go_wp2_with fail
    go_ret
    exact ⟨by rw [HNO.out]; rfl, Below.refl _ _⟩
end Go.Proofs.YtgdcffahhpeibaaGreatDoor
