/-
  henkanref04.Number, kanji by their contracts. No condition but the ranges named.
-/
import Derived.Test.YtnpkcobapckhdaaGreatDoorCalTools
import Derived.Lib.SlBytesRow
import Derived.Outline
namespace Go.Proofs.YtnpkcobapckhdaaGreatDoor
open Go.RowKit
namespace CF
open Num (Bs digs one)
def dv : Nat → Nat → Nat
  | 0, n => n
  | j + 1, n => dv j n / 10
def low : Nat → Nat → Bs
  | 0, _ => []
  | j + 1, n => UInt8.ofNat (48 + dv j n % 10) :: low j n
/-- as long as the loop went on, one more was wanted -/
def Want (least n j : Nat) : Prop := j = 0 ∨ 0 < dv (j - 1) n ∨ j - 1 < least
theorem low_zero (L n : Nat) (h : dv L n = 0) : ∀ i, dv (L + i) n = 0 ∧ low (L + i) n = List.replicate i 48 ++ low L n
  | 0 => ⟨h, rfl⟩
  | i + 1 => by
    obtain ⟨h1, h2⟩ := low_zero L n h i
    constructor
    · show dv (L + i) n / 10 = 0
      rw [h1]
    · show UInt8.ofNat (48 + dv (L + i) n % 10) :: low (L + i) n = _
      rw [h1, h2]; rfl
theorem low_digs (n : Nat) (h : n < 10000) : low (digs n).length n = digs n := by
  unfold digs
  by_cases h1 : n < 10
  · rw [if_pos h1]
    show [UInt8.ofNat (48 + n % 10)] = one n
    rw [Nat.mod_eq_of_lt h1]; rfl
  · rw [if_neg h1]
    by_cases h2 : n < 100
    · rw [if_pos h2]
      show [UInt8.ofNat (48 + n / 10 % 10), UInt8.ofNat (48 + n % 10)] = _
      rw [Nat.mod_eq_of_lt (show n / 10 < 10 by omega)]; rfl
    · rw [if_neg h2]
      by_cases h3 : n < 1000
      · rw [if_pos h3]
        show [UInt8.ofNat (48 + n / 10 / 10 % 10), UInt8.ofNat (48 + n / 10 % 10), UInt8.ofNat (48 + n % 10)] = _
        rw [Nat.mod_eq_of_lt (show n / 10 / 10 < 10 by omega)]; rfl
      · rw [if_neg h3]
        show [UInt8.ofNat (48 + n / 10 / 10 / 10 % 10), UInt8.ofNat (48 + n / 10 / 10 % 10), UInt8.ofNat (48 + n / 10 % 10), UInt8.ofNat (48 + n % 10)] = _
        rw [Nat.mod_eq_of_lt (show n / 10 / 10 / 10 < 10 by omega)]; rfl
theorem dv_len (n : Nat) (h1 : 1 ≤ n) (h : n < 10000) : dv (digs n).length n = 0 ∧ ∀ j, j < (digs n).length → 0 < dv j n := by
  unfold digs
  split
  · refine ⟨show n / 10 = 0 by omega, fun j hj => ?_⟩
    obtain rfl : j = 0 := by simp [one] at hj; exact hj
    exact h1
  · split
    · refine ⟨show n / 10 / 10 = 0 by omega, fun j hj => ?_⟩
      have : j < 2 := hj
      match j, this with
      | 0, _ => exact h1
      | 1, _ => show 0 < n / 10; omega
    · split
      · refine ⟨show n / 10 / 10 / 10 = 0 by omega, fun j hj => ?_⟩
        have : j < 3 := hj
        match j, this with
        | 0, _ => exact h1
        | 1, _ => show 0 < n / 10; omega
        | 2, _ => show 0 < n / 10 / 10; omega
      · refine ⟨show n / 10 / 10 / 10 / 10 = 0 by omega, fun j hj => ?_⟩
        have : j < 4 := hj
        match j, this with
        | 0, _ => exact h1
        | 1, _ => show 0 < n / 10; omega
        | 2, _ => show 0 < n / 10 / 10; omega
        | 3, _ => show 0 < n / 10 / 10 / 10; omega
theorem low_pad (least n j : Nat) (h1 : 1 ≤ n) (h : n < 10000) (hw : Want least n j) (h0 : dv j n = 0) (hl : least ≤ j) : low j n = pad least n := by
  obtain ⟨a, b⟩ := dv_len n h1 h
  have hL := (Num.digs_len n).1
  have hjL : (digs n).length ≤ j := by
    rcases Nat.lt_or_ge j (digs n).length with h' | h'
    · have := b j h'; omega
    · exact h'
  have he : j - (digs n).length = least - (digs n).length := by
    rcases hw with h' | h' | h'
    · omega
    · have : j - 1 < (digs n).length := by
        rcases Nat.lt_or_ge (j - 1) (digs n).length with h2 | h2
        · exact h2
        · have h3 := (low_zero _ n a (j - 1 - (digs n).length)).1
          rw [show (digs n).length + (j - 1 - (digs n).length) = j - 1 by omega] at h3
          omega
      omega
    · omega
  have h2 := (low_zero _ n a (j - (digs n).length)).2
  rw [show (digs n).length + (j - (digs n).length) = j by omega, low_digs n h, he] at h2
  exact h2
theorem low_len : ∀ j n, (low j n).length = j
  | 0, _ => rfl
  | j + 1, n => by show (low j n).length + 1 = _; rw [low_len j n]
theorem want_bd (least n j : Nat) (h : n < 10000) (hl : least ≤ 4) (hw : Want least n j) : j ≤ 4 := by
  rcases hw with h' | h' | h'
  · omega
  · rcases Nat.lt_or_ge (j - 1) 4 with h2 | h2
    · omega
    · have h4 : dv 4 n = 0 := by show n / 10 / 10 / 10 / 10 = 0; omega
      have h3 := (low_zero _ n h4 (j - 1 - 4)).1
      rw [show 4 + (j - 1 - 4) = j - 1 by omega] at h3
      omega
  · omega
theorem dv_lt : ∀ j n, dv j n ≤ n
  | 0, n => Nat.le_refl n
  | j + 1, n => Nat.le_trans (Nat.div_le_self _ _) (dv_lt j n)
end CF
theorem conv1 (w : World) (d : Nat) (h : d < 10) : (Go.convert 84 9 (.slice (some ⟨w.heap.size, 0, none⟩) 1 1)).run Tryz.prog (w.alloc (.cells #[.int .u8 (48 + (d : Int))] 5)) = .ok (.string ⟨#[UInt8.ofNat (48 + d)]⟩) (w.alloc (.cells #[.int .u8 (48 + (d : Int))] 5)) := by
  have e : (((UInt8.ofNat (48 + d)).toNat : Nat) : Int) = 48 + (d : Int) := by
    have : (UInt8.ofNat (48 + d)).toNat = (48 + d) % 256 := rfl
    omega
  have hb := (MapKept.heap_alloc w (.cells #[.int .u8 (48 + (d : Int))] 5)).1
  refine Lib.run_convert_whole (P := Tryz.prog) _ 84 5 9 Tryz.underlying84 Tryz.underlying5 Tryz.underlying9 w.heap.size 0 (⟨#[UInt8.ofNat (48 + d)]⟩ : ByteArray) (fun i hi => ?_) 1
  have h3 : i < 1 := hi
  obtain rfl : i = 0 := by omega
  rw [Lib.cell_of_heap hb, ← e]
  rfl

set_option maxHeartbeats 2000000 in
theorem rnumber_any (n least : Nat) (w : World) (h1 : 1 ≤ n) (hn : n < 10000) (hl : least ≤ 4) :
    Calls Tryz.prog 87 #[.int .i64 n, .int .i64 least] w (GivesS (CF.pad least n) w) := by
  go_enter Tryz.func87, Tryz.ntmps87
  go_wp2_with fail
  go_loopw [0, 5] (fun nv sv wr => ∃ (j : Nat) (t : ByteArray), nv = .int .i64 (CF.dv j n) ∧ sv = .string t ∧ Is t (CF.low j n) ∧ CF.Want least n j ∧ Below w.heap.size w wr) (fun _ sv _ => match sv with | .string t => 5 - t.size | _ => 0)
  case atStart => exact ⟨0, ⟨#[]⟩, rfl, rfl, Is.mk [], .inl rfl, Below.refl _ _⟩
  case round =>
    obtain ⟨j, t, rfl, rfl, hI, hw, hb⟩ := hrel
    have hj := CF.want_bd least n j hn hl hw
    have hz : t.size = j := by rw [hI.size, CF.low_len]
    have HW := Lib.hid hw
    have HB := Lib.hid hb
    have HI := Lib.hid hI
    have hsz := hb.size
    have hdl := CF.dv_lt j n
    obtain ⟨m, hm⟩ : ∃ m, CF.dv j n = m := ⟨_, rfl⟩
    have HM := Lib.hid hm
    obtain ⟨d, hd⟩ : ∃ d, m % 10 = d := ⟨_, rfl⟩
    have hd10 : d < 10 := by omega
    have HD := Lib.hid hd
    have hdI : (m : Int).tmod 10 = (d : Int) := by rw [← hd]; rfl
    have hqI : (m : Int).tdiv 10 = ((m / 10 : Nat) : Int) := rfl
    rw [hm] at hdl ⊢
    clear hI hw hb hm hd
    by_cases c : 0 < m ∨ j < least
    · have hcv := conv1 wr d hd10
      have HR := Lib.hid (show Is ((⟨#[UInt8.ofNat (48 + d)]⟩ : ByteArray) ++ t) (CF.low (j + 1) n) by
        have := (Is.mk [UInt8.ofNat (48 + d)]).append HI.out
        rw [show CF.low (j + 1) n = [UInt8.ofNat (48 + d)] ++ CF.low j n by rw [← HD.out, ← HM.out]; rfl]
        exact this)
      have HWN := Lib.hid (show CF.Want least n (j + 1) by
        unfold CF.Want
        rw [Nat.add_sub_cancel, HM.out]
        exact .inr c)
      have hsz1 : ((⟨#[UInt8.ofNat (48 + d)]⟩ : ByteArray) ++ t).size = j + 1 := by rw [HR.out.size, CF.low_len]
      obtain ⟨y, hy⟩ : ∃ y, (⟨#[UInt8.ofNat (48 + d)]⟩ : ByteArray) = y := ⟨_, rfl⟩
      rw [hy] at HR hsz1 hcv
      have hyz : y.size = 1 := by rw [← hy]; rfl
      clear hy
      have hj1 : j + 1 ≤ 4 := CF.want_bd least n (j + 1) hn hl HWN.out
      by_cases c0 : 0 < m
      · clear c
        go_wp2_with fail
        go_roundw
        case rel => exact ⟨j + 1, y ++ t, by rw [show CF.dv (j + 1) n = m / 10 by rw [← HM.out]; rfl]; go_num, rfl, HR.out, HWN.out, HB.out.alloc hsz _⟩
        case measure => simp; omega
      · have c1 : j < least := c.resolve_left c0
        clear c
        go_wp2_with fail
        go_roundw
        case rel => exact ⟨j + 1, y ++ t, by rw [show CF.dv (j + 1) n = m / 10 by rw [← HM.out]; rfl]; go_num, rfl, HR.out, HWN.out, HB.out.alloc hsz _⟩
        case measure => simp; omega
    · have c1 : ¬ 0 < m := fun h => c (.inl h)
      have c2 : ¬ j < least := fun h => c (.inr h)
      obtain rfl : m = 0 := by omega
      clear c
      go_wp2_with fail
      go_ret
      exact ⟨t, by rw [← CF.low_pad least n j h1 hn HW.out HM.out (by omega)]; exact HI.out, rfl, HB.out⟩

set_option maxHeartbeats 1000000 in
theorem rkanjiC_any (n : Nat) (w : World) (h1 : 1 ≤ n) (hn : n < 10000) :
    Calls Tryz.prog 89 #[.int .i64 n] w (GivesS (CF.kan n) w) := by
  have HV := Lib.hid (Num.digs_valid n hn)
  have HL := Lib.hid (Num.digs_len n)
  have HP := Lib.hid (show CF.pad 1 n = Num.digs n by unfold CF.pad; rw [show 1 - (Num.digs n).length = 0 by have := HL.out; omega]; rfl)
  go_enter Tryz.func89, Tryz.ntmps89
  go_wp2_with fail
  refine (rnumber_any n 1 _ h1 hn (by decide)).mono ?_
  rintro e w1 ⟨b, hb, rfl, hb1⟩
  rw [HP.out] at hb
  have HB := Lib.hid hb
  have HB1 := Lib.hid hb1
  have hbz : b.size ≤ 4 := by rw [hb.size]; exact HL.out.2
  clear hb hb1
  go_wp2_with fail
  refine (rkanji_any b (Num.digs n) _ HB.out (by omega)).mono ?_
  rintro e w2 ⟨c, hc, rfl, hb2⟩
  have HC := Lib.hid (show Is c (CF.kan n) by unfold wrt at hc; rwa [if_pos HV.out] at hc)
  have HB2 := Lib.hid (HB1.out.trans (hb2.mono HB1.out.size))
  clear hc hb2
  go_wp2_with fail
  go_ret
  exact ⟨c, HC.out, rfl, HB2.out⟩
end Go.Proofs.YtnpkcobapckhdaaGreatDoor
