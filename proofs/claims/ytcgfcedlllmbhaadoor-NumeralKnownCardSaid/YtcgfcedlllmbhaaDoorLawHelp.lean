/-
  henkanlaw03.number, digits, same by their contracts. No condition but the ranges named.
-/
import Derived.Test.YtcgfcedlllmbhaaDoorNumCom
import Derived.Test.YtcgfcedlllmbhaaDoorNumIdx
import Derived.Test.YtcgfcedlllmbhaaDoorLawMath
namespace Go.Proofs.YtcgfcedlllmbhaaDoor
open Go.RowKit

theorem ten_cut (g : Nat) (h : g < 10) : Is ((⟨#[48, 49, 50, 51, 52, 53, 54, 55, 56, 57]⟩ : ByteArray).extract g (g + 1)) [UInt8.ofNat (48 + g)] := by
  have h1 : g = 0 ∨ g = 1 ∨ g = 2 ∨ g = 3 ∨ g = 4 ∨ g = 5 ∨ g = 6 ∨ g = 7 ∨ g = 8 ∨ g = 9 := by omega
  rcases h1 with rfl | rfl | rfl | rfl | rfl | rfl | rfl | rfl | rfl | rfl <;> (unfold Is; decide)

set_option maxHeartbeats 1000000 in
theorem ldigits_small (n : Nat) (w : World) (hn : n < 10) :
    Calls Tryd.prog 24 #[.int .i64 n] w fun e w' => (∃ b, Is b (Num.digs n) ∧ e = .returned (.string b)) ∧ w = w' := by
  have HX := Lib.hid (ten_cut n hn)
  have HE := Lib.hid (Num.digs_small n hn)
  go_enter Tryd.func24, Tryd.ntmps24
  go_wp2_with fail
  go_ret
  exact ⟨⟨_, by rw [HE.out]; exact HX.out, rfl⟩, rfl⟩
set_option maxHeartbeats 1000000 in
theorem ldigits_k : ∀ (k n : Nat) (w : World), n < 10 ^ (k + 1) → n < 10000 →
    Calls Tryd.prog 24 #[.int .i64 n] w fun e w' => (∃ b, Is b (Num.digs n) ∧ e = .returned (.string b)) ∧ w = w'
  | 0, n, w, h, _ => ldigits_small n w (by simpa using h)
  | k + 1, n, w, h, h4 => by
    by_cases h10 : n < 10
    · exact ldigits_small n w h10
    · have ih := ldigits_k k (n / 10) w (by rw [Nat.pow_succ] at h; omega) (by omega)
      have i2 := ldigits_small (n % 10) w (by omega)
      have HE := Lib.hid (Num.digs_rec n (by omega) h4)
      have IH := Lib.hid ih
      have I2 := Lib.hid i2
      have L1 := Lib.hid (Num.digs_len (n / 10))
      have L2 := Lib.hid (Num.digs_len (n % 10))
      clear ih i2 h
      go_enter Tryd.func24, Tryd.ntmps24
      go_wp2_with fail
      rw [show ((n : Int) / 10) = ((n / 10 : Nat) : Int) from by omega]
      refine IH.out.mono ?_
      rintro e w1 ⟨⟨a, ha, rfl⟩, rfl⟩
      have HA := Lib.hid ha
      have hz1 : a.size ≤ 4 := by rw [ha.size]; exact L1.out.2
      clear ha
      go_wp2_with fail
      rw [show ((n : Int) % 10) = ((n % 10 : Nat) : Int) from by omega]
      refine I2.out.mono ?_
      rintro e w1 ⟨⟨b, hb, rfl⟩, rfl⟩
      have HB := Lib.hid hb
      have hz2 : b.size ≤ 4 := by rw [hb.size]; exact L2.out.2
      clear hb
      go_wp2_with fail
      go_ret
      exact ⟨⟨_, by rw [HE.out]; exact HA.out.append HB.out, rfl⟩, rfl⟩
theorem ldigits_any (n : Nat) (w : World) (h : n < 10000) :
    Calls Tryd.prog 24 #[.int .i64 n] w fun e w' => (∃ b, Is b (Num.digs n) ∧ e = .returned (.string b)) ∧ w = w' :=
  ldigits_k 3 n w (by omega) h

/-- a slice of strings as it lies: nil and empty, or the head of a row of a block -/
def Lies (v : Value) (xs : List ByteArray) (w : World) : Prop := ∃ ao cap, v = .slice ao xs.length cap ∧ ∀ k, k < xs.length → ∃ g, ao = some ⟨g, 0, none⟩ ∧ w.cell? ⟨g, k, none⟩ = some (.string (xs.getD k ⟨#[]⟩))
theorem Strs.lies {B : Nat} {v : Value} {xs : List ByteArray} {w : World} (h : Strs B v xs w) : Lies v xs w := by
  by_cases h0 : xs = []
  · obtain ⟨ao, cap, rfl⟩ := h.frame
    exact ⟨ao, cap, rfl, fun k hk => by rw [h0] at hk; simp at hk⟩
  · obtain ⟨g, cap, rfl, _, _, _, hc, _⟩ := h.at h0
    refine ⟨_, cap, rfl, fun k hk => ⟨g, rfl, ?_⟩⟩
    refine hc k _ ?_
    rw [List.getD_eq_getElem?_getD, List.getElem?_eq_getElem hk]; rfl
theorem Lies.below {v : Value} {xs : List ByteArray} {w w' : World} {B : Nat} (h : Lies v xs w) (hb : Below B w w') (hB : w.heap.size ≤ B) : Lies v xs w' := by
  obtain ⟨ao, cap, rfl, h⟩ := h
  refine ⟨ao, cap, rfl, fun k hk => ?_⟩
  obtain ⟨g, hg, hc⟩ := h k hk
  exact ⟨g, hg, by rw [hb.cell (p := ⟨g, k, none⟩) (Nat.lt_of_lt_of_le (cell_lt hc) hB)]; exact hc⟩
set_option maxHeartbeats 1000000 in
theorem same_yes (va vb : Value) (xs : List ByteArray) (w : World) (ha : Lies va xs w) (hb : Lies vb xs w) (hl : xs.length ≤ 4611686018427387904) :
    Calls Tryd.prog 25 #[va, vb] w fun e w' => e = .returned (.bool true) ∧ Below w.heap.size w w' := by
  obtain ⟨ao, ca, rfl, ha⟩ := ha
  obtain ⟨bo, cb, rfl, hb⟩ := hb
  obtain ⟨n, hn⟩ : ∃ n, xs.length = n := ⟨_, rfl⟩
  rw [hn] at ha hb hl
  rw [hn]
  have HA := Lib.hid ha
  have HB := Lib.hid hb
  clear ha hb hn
  go_enter Tryd.func25, Tryd.ntmps25
  go_wp2_with fail
  go_loopw [13] (fun i wr => ∃ k : Nat, k ≤ n ∧ i = .int .i64 k ∧ ∃ q, wr = w.drewN q) (fun i _ => n - (intOf i).toNat)
  case atStart => exact ⟨0, by omega, rfl, 0, rfl⟩
  case round =>
    obtain ⟨k, hk, rfl, q, rfl⟩ := hrel
    by_cases hkn : k < n
    · obtain ⟨g, rfl, hg⟩ := HA.out k hkn
      obtain ⟨g2, rfl, hg2⟩ := HB.out k hkn
      obtain ⟨x, hx⟩ : ∃ x, xs.getD k ⟨#[]⟩ = x := ⟨_, rfl⟩
      rw [hx] at hg hg2
      clear hx
      go_wp2_with fail
      go_quiet (fail)
      go_wp2_with fail
      go_roundw
      case rel => exact ⟨k + 1, by omega, by go_num, _, rfl⟩
      case measure => simp [intOf]; omega
    · obtain rfl : k = n := by omega
      go_wp2_with fail
      go_ret
      exact ⟨rfl, below_drewN (Below.refl _ _) q⟩

theorem nStep_size (s : List UInt8) (c : UInt8) : (Num.nStep s c).length ≤ s.length + 1 := by unfold Num.nStep; split <;> simp
set_option maxHeartbeats 1000000 in
set_option maxRecDepth 100000 in
theorem number_any (ao : Option Addr) (n c : Nat) (bs : List UInt8) (w : World) (hn : bs.length = n) (hn48 : n ≤ 9223372036854775807)
    (hc : ∀ k, k < n → ∃ g o, ao = some ⟨g, o, none⟩ ∧ w.cell? ⟨g, o + k, none⟩ = some (.int .u8 ((bs.getD k 0).toNat : Int))) :
    Calls Tryd.prog 23 #[.slice ao n c, .int .i64 20] w fun e w' => (∃ b, Is b (Num.number bs) ∧ e = .returned (.string b)) ∧ Below w.heap.size w w' := by
  have HC := Lib.hid hc
  have HN := Lib.hid hn
  clear hc hn
  go_enter Tryd.func23, Tryd.ntmps23
  go_wp2_with fail
  go_loopw [5, 6] (fun sv i wr => ∃ (k : Nat) (t : ByteArray), k ≤ n ∧ k ≤ 20 ∧ i = .int .i64 k ∧ sv = .string t ∧ Is t (Num.nFold (bs.take k)) ∧ ∃ q, wr = w.drewN q) (fun _ i _ => 20 - (intOf i).toNat)
  case atStart => exact ⟨0, ⟨#[]⟩, by omega, by omega, rfl, rfl, Is.mk _, 0, rfl⟩
  case round =>
    obtain ⟨k, t, hk, hk20, rfl, rfl, ht, q, rfl⟩ := hrel
    have HT := Lib.hid ht
    have htz : t.size ≤ 20 := by rw [ht.size]; exact Nat.le_trans (Num.nFold_len bs k) hk20
    by_cases hlt : k < n ∧ k < 20
    · obtain ⟨h1, h2⟩ := hlt
      obtain ⟨g, o, rfl, hg⟩ := HC.out k h1
      obtain ⟨x, hx⟩ : ∃ x : UInt8, bs.getD k 0 = x := ⟨_, rfl⟩
      rw [hx] at hg
      have hx256 : (x.toNat : Int) < 256 := by have := x.toNat_lt; omega
      obtain ⟨d, hd⟩ : ∃ d : Nat, x.toNat % 10 = d := ⟨_, rfl⟩
      have hd10 : d < 10 := by omega
      have hdI : (x.toNat : Int) % 10 = (d : Int) := by omega
      have HS := Lib.hid (Num.nFold_snoc bs k x (by
        have hk2 : k < bs.length := by rw [HN.out]; exact h1
        rw [List.getElem?_eq_getElem hk2, ← hx, List.getD_eq_getElem?_getD, List.getElem?_eq_getElem hk2]; rfl))
      have HD := Lib.hid hd
      have HX := Lib.hid (ten_cut d hd10)
      have hxz : ((⟨#[48, 49, 50, 51, 52, 53, 54, 55, 56, 57]⟩ : ByteArray).extract d (d + 1)).size ≤ 1 := by rw [HX.out.size]; simp
      have HDI := Lib.hid hdI
      clear hx hd ht hdI
      by_cases h0 : Num.nFold (bs.take k) = [48]
      · have e0 : (t.toList == [48]) = true := by rw [HT.out.list, h0]; rfl
        have HR := Lib.hid (show Num.nFold (bs.take (k + 1)) = [UInt8.ofNat (48 + d)] by rw [HS.out, Num.nStep, if_pos h0, HD.out])
        clear h0
        go_wp2_with fail
        have hdI := HDI.out
        go_quiet (fail)
        go_wp2_with fail
        go_roundw
        case rel => exact ⟨k + 1, _, by omega, by omega, by go_num, rfl, by rw [HR.out]; exact HX.out, _, rfl⟩
        case measure => simp [intOf]; omega
      · have e0 : (t.toList == [48]) = false := by rw [HT.out.list, beq_eq_false_iff_ne]; exact h0
        have HR := Lib.hid (show Num.nFold (bs.take (k + 1)) = Num.nFold (bs.take k) ++ [UInt8.ofNat (48 + d)] by rw [HS.out, Num.nStep, if_neg h0, HD.out])
        clear h0
        go_wp2_with fail
        have hdI := HDI.out
        go_quiet (fail)
        go_wp2_with fail
        go_roundw
        case rel => exact ⟨k + 1, _, by omega, by omega, by go_num, rfl, by rw [HR.out]; exact HT.out.append HX.out, _, rfl⟩
        case measure => simp [intOf]; omega
    · have HF := Lib.hid (show Num.nFold (bs.take k) = Num.nFold (bs.take 20) by
        have hl := HN.out
        by_cases h20 : k = 20
        · rw [h20]
        · have : k = n := by omega
          rw [List.take_of_length_le (by omega), List.take_of_length_le (by omega)])
      have fin : ∀ P : Prop, (¬ (k : Int) < (n : Int) → P) → ((k : Int) < (n : Int) → ¬ (k : Int) < 20 → P) → P := by
        intro P a b
        by_cases h1 : (k : Int) < (n : Int)
        · exact b h1 (by omega)
        · exact a h1
      clear hlt
      by_cases h0 : Num.nFold (bs.take k) = []
      · have e0 : t.toList = [] := by rw [HT.out.list, h0]
        have e1 : t.toList.isEmpty = true := by rw [e0]; rfl
        have HR := Lib.hid (show Num.number bs = [48] by unfold Num.number; rw [← HF.out, h0, if_pos rfl])
        clear h0 ht e0
        refine fin _ (fun ha => ?_) (fun ha hb => ?_)
        all_goals
          clear fin
          go_wp2_with fail
          go_ret
          exact ⟨⟨_, by rw [HR.out]; exact Is.mk _, rfl⟩, below_drewN (Below.refl _ _) q⟩
      · have e1 : t.toList.isEmpty = false := by rw [HT.out.list]; cases e : Num.nFold (bs.take k) <;> simp_all
        have HR := Lib.hid (show Num.number bs = Num.nFold (bs.take k) by unfold Num.number; rw [← HF.out, if_neg h0])
        clear h0 ht
        refine fin _ (fun ha => ?_) (fun ha hb => ?_)
        all_goals
          clear fin
          go_wp2_with fail
          go_ret
          exact ⟨⟨_, by rw [HR.out]; exact HT.out, rfl⟩, below_drewN (Below.refl _ _) q⟩
end Go.Proofs.YtcgfcedlllmbhaaDoor
