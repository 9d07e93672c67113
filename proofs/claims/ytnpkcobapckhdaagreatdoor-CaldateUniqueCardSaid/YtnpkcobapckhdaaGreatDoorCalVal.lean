/-
  henkanref04.value, three by their contracts. No condition but the string's own bound.
-/
import Derived.Test.YtnpkcobapckhdaaGreatDoorCalRead
import Derived.Test.YtnpkcobapckhdaaGreatDoorCalCut
import Derived.Test.YtnpkcobapckhdaaGreatDoorNumRParse
import Derived.BigQuiet
import Derived.Below
namespace Go.Proofs.YtnpkcobapckhdaaGreatDoor
open Go.RowKit
theorem rgo_step {k acc : Nat} {t : List UInt8} {c : UInt8} (hc : t[k]? = some c) (hd : Num.isD c = true) (hk : k ≤ 4) : CF.rgo k acc (t.drop k) = CF.rgo (k + 1) (10 * acc + Num.val c) (t.drop (k + 1)) := by
  have hlt : k < t.length := by
    rcases Nat.lt_or_ge k t.length with h | h
    · exact h
    · rw [List.getElem?_eq_none h] at hc; cases hc
  rw [List.drop_eq_getElem_cons hlt]
  have e : t[k] = c := by rw [List.getElem?_eq_getElem hlt] at hc; exact Option.some.inj hc
  rw [e, CF.rgo, if_pos ⟨hd, hk⟩]
theorem rgo_stop {k acc : Nat} {t : List UInt8} {c : UInt8} (hc : t[k]? = some c) (hd : ¬ (Num.isD c = true ∧ k ≤ 4)) : CF.rgo k acc (t.drop k) = 0 := by
  have hlt : k < t.length := by
    rcases Nat.lt_or_ge k t.length with h | h
    · exact h
    · rw [List.getElem?_eq_none h] at hc; cases hc
  rw [List.drop_eq_getElem_cons hlt]
  have e : t[k] = c := by rw [List.getElem?_eq_getElem hlt] at hc; exact Option.some.inj hc
  rw [e, CF.rgo, if_neg hd]
theorem rgo_end {k acc : Nat} {t : List UInt8} (hk : t.length ≤ k) : CF.rgo k acc (t.drop k) = acc := by
  rw [List.drop_eq_nil_of_le hk, CF.rgo]
def rdig : List UInt8 → List UInt8
  | [] => []
  | c :: r => if Num.isD c = true then c :: r else (Num.refParse (c :: r)).1
theorem rnum_at (l : List UInt8) (hg : ¬ l = CF.gan) : CF.rnum l = CF.rgo 0 0 (rdig l) := by
  unfold CF.rnum; rw [if_neg hg]; cases l <;> rfl
theorem dig_v {c : UInt8} (h : Num.isD c = true) : (c.toNat : Int) = (Num.val c : Int) + 48 ∧ Num.val c < 10 := by
  have := (isD_iff c).1 h
  unfold Num.val
  omega
theorem ref_len (l : List UInt8) : (Num.refParse l).1.length ≤ 20 := by rw [← Num.parse_eq]; exact prog_len l
set_option maxRecDepth 100000 in
set_option maxHeartbeats 4000000 in
theorem value_any (s : ByteArray) (l : List UInt8) (w : World) (h : Is s l) (hs : s.size ≤ 140737488351232) :
    Calls Tryz.prog 99 #[.string s] w (GivesI (CF.rnum l) w) := by
  by_cases hg : l = CF.gan
  · have hsg : s = ⟨#[229, 133, 131]⟩ := by
      have := h.data
      rw [hg] at this
      exact ByteArray.ext (Array.toList_inj.1 this)
    subst hsg
    have HP := Lib.hid (show CF.rnum l = 1 by unfold CF.rnum; rw [if_pos hg])
    clear h hg hs
    go_enter Tryz.func99, Tryz.ntmps99
    go_wp2_with fail
    go_ret
    exact ⟨by rw [HP.out]; rfl, Below.refl _ _⟩
  have d2 : (s.toList == [229, 133, 131]) = false := by
    rw [h.list]
    exact beq_eq_false_iff_ne.2 hg
  have HI := Lib.hid h
  have hP := rnum_at l hg
  obtain ⟨R, hR⟩ : ∃ R, CF.rnum l = R := ⟨_, rfl⟩
  rw [hR] at hP ⊢
  have hz := h.size
  clear hg hR
  by_cases c0 : s.size = 0
  · have HT := Lib.hid (show CF.rgo 0 0 l = R by
      have : l = [] := List.eq_nil_of_length_eq_zero (by omega)
      rw [hP, this]; rfl)
    clear h hP hz
    go_enter Tryz.func99, Tryz.ntmps99
    go_wp2_with fail
    obtain ⟨x, hx⟩ : ∃ x, x = s := ⟨_, rfl⟩
    obtain ⟨t, ht⟩ : ∃ t, t = l := ⟨_, rfl⟩
    have HX := Lib.hid (show Is x t by rw [hx, ht]; exact HI.out)
    rw [← ht] at HT
    rw [← hx] at hs d2 ⊢
    have HW := Lib.hid (Below.refl w.heap.size w)
    clear hx ht
    go_loop [4, 5] (fun nv iv => ∃ k acc : Nat, nv = .int .i64 acc ∧ iv = .int .i64 k ∧ k ≤ 5 ∧ k ≤ x.size ∧ acc < 10 ^ k ∧ CF.rgo k acc (t.drop k) = R) (fun _ iv => 5 - (intOf iv).toNat)
    case atStart => exact ⟨0, 0, rfl, rfl, by omega, by omega, by decide, HT.out⟩
    case round =>
      obtain ⟨k, acc, rfl, rfl, hk5, hkx, hacc, hr⟩ := hrel
      have HR := Lib.hid hr
      have ha5 : acc < 100000 := Nat.lt_of_lt_of_le hacc (Nat.pow_le_pow_right (by decide) hk5)
      have HA := Lib.hid hacc
      clear hr hacc
      by_cases hlt : k < x.size
      · have HG := Lib.hid (HX.out.get k hlt)
        obtain ⟨v, hv⟩ : ∃ v : Nat, x[k].toNat = v := ⟨_, rfl⟩
        have hvI : (x[k].toNat : Int) = (v : Int) := by rw [hv]
        by_cases hd : Num.isD x[k] = true
        · obtain ⟨hn0, hn9⟩ := dig_v hd
          obtain ⟨n, hn⟩ : ∃ n, Num.val x[k] = n := ⟨_, rfl⟩
          rw [hn] at hn0 hn9
          by_cases hk4 : k ≤ 4
          · have HS := Lib.hid (rgo_step (acc := acc) HG.out hd hk4)
            have HN := Lib.hid hn
            have HA2 := Lib.hid (show 10 * acc + n < 10 ^ (k + 1) by rw [Nat.pow_succ]; have := HA.out; omega)
            clear hd hn
            go_wp2_with fail
            go_round
            case rel => exact ⟨k + 1, 10 * acc + n, by go_num, by go_num, by omega, by omega, HA2.out, by rw [← HN.out, ← HS.out]; exact HR.out⟩
            case measure => simp [intOf]; omega
          · have HS := Lib.hid (rgo_stop (acc := acc) HG.out (fun h => hk4 h.2))
            clear hd hn
            go_wp2_with fail
            go_ret
            exact ⟨by rw [← HR.out, HS.out]; rfl, HW.out⟩
        · have HS := Lib.hid (rgo_stop (acc := acc) HG.out (fun h => hd h.1))
          by_cases h48 : (x[k].toNat : Int) < 48
          · clear hd
            go_wp2_with fail
            go_ret
            exact ⟨by rw [← HR.out, HS.out]; rfl, HW.out⟩
          · have h57 : 57 < (x[k].toNat : Int) := by
              have := mt (isD_iff x[k]).2 hd
              omega
            clear hd
            go_wp2_with fail
            go_ret
            exact ⟨by rw [← HR.out, HS.out]; rfl, HW.out⟩
      · have HS := Lib.hid (rgo_end (k := k) (acc := acc) (t := t) (by rw [← HX.out.size]; omega))
        go_wp2_with fail
        go_ret
        exact ⟨by rw [← HR.out, HS.out]; rfl, HW.out⟩
  have hl0 : 0 < s.size := by omega
  have HG0 := Lib.hid (h.get 0 hl0)
  have hdr : l = s[0] :: l.drop 1 := by
    have := HG0.out
    cases l with
    | nil => cases this
    | cons a r => simp at this; rw [this]; rfl
  by_cases hd0 : Num.isD s[0] = true
  · have HT := Lib.hid (show CF.rgo 0 0 l = R by rw [hP, hdr, rdig, if_pos hd0])
    have hb := (isD_iff s[0]).1 hd0
    have hb1 := hb.1
    have hb2 := hb.2
    clear h hP hz hdr hb hd0
    go_enter Tryz.func99, Tryz.ntmps99
    go_wp2_with fail
    have HX := HI
    have HW := Lib.hid (Below.refl w.heap.size w)
    go_loop [4, 5] (fun nv iv => ∃ k acc : Nat, nv = .int .i64 acc ∧ iv = .int .i64 k ∧ k ≤ 5 ∧ k ≤ s.size ∧ acc < 10 ^ k ∧ CF.rgo k acc (l.drop k) = R) (fun _ iv => 5 - (intOf iv).toNat)
    case atStart => exact ⟨0, 0, rfl, rfl, by omega, by omega, by decide, HT.out⟩
    case round =>
      obtain ⟨k, acc, rfl, rfl, hk5, hkx, hacc, hr⟩ := hrel
      have HR := Lib.hid hr
      have ha5 : acc < 100000 := Nat.lt_of_lt_of_le hacc (Nat.pow_le_pow_right (by decide) hk5)
      have HA := Lib.hid hacc
      clear hr hacc
      by_cases hlt : k < s.size
      · have HG := Lib.hid (HX.out.get k hlt)
        obtain ⟨v, hv⟩ : ∃ v : Nat, s[k].toNat = v := ⟨_, rfl⟩
        have hvI : (s[k].toNat : Int) = (v : Int) := by rw [hv]
        by_cases hd : Num.isD s[k] = true
        · obtain ⟨hn0, hn9⟩ := dig_v hd
          obtain ⟨n, hn⟩ : ∃ n, Num.val s[k] = n := ⟨_, rfl⟩
          rw [hn] at hn0 hn9
          by_cases hk4 : k ≤ 4
          · have HS := Lib.hid (rgo_step (acc := acc) HG.out hd hk4)
            have HN := Lib.hid hn
            have HA2 := Lib.hid (show 10 * acc + n < 10 ^ (k + 1) by rw [Nat.pow_succ]; have := HA.out; omega)
            clear hd hn
            go_wp2_with fail
            go_round
            case rel => exact ⟨k + 1, 10 * acc + n, by go_num, by go_num, by omega, by omega, HA2.out, by rw [← HN.out, ← HS.out]; exact HR.out⟩
            case measure => simp [intOf]; omega
          · have HS := Lib.hid (rgo_stop (acc := acc) HG.out (fun h => hk4 h.2))
            clear hd hn
            go_wp2_with fail
            go_ret
            exact ⟨by rw [← HR.out, HS.out]; rfl, HW.out⟩
        · have HS := Lib.hid (rgo_stop (acc := acc) HG.out (fun h => hd h.1))
          by_cases h48 : (s[k].toNat : Int) < 48
          · clear hd
            go_wp2_with fail
            go_ret
            exact ⟨by rw [← HR.out, HS.out]; rfl, HW.out⟩
          · have h57 : 57 < (s[k].toNat : Int) := by
              have := mt (isD_iff s[k]).2 hd
              omega
            clear hd
            go_wp2_with fail
            go_ret
            exact ⟨by rw [← HR.out, HS.out]; rfl, HW.out⟩
      · have HS := Lib.hid (rgo_end (k := k) (acc := acc) (t := l) (by rw [← HX.out.size]; omega))
        go_wp2_with fail
        go_ret
        exact ⟨by rw [← HR.out, HS.out]; rfl, HW.out⟩
  have HRL := Lib.hid (ref_len l)
  have HT := Lib.hid (show CF.rgo 0 0 (Num.refParse l).1 = R by rw [hP, hdr, rdig, if_neg hd0])
  by_cases h48 : (s[0].toNat : Int) < 48
  · skip
    clear h hP hz hdr hd0
    go_enter Tryz.func99, Tryz.ntmps99
    go_wp2_with fail
    refine (rparse_any s l _ HI.out hs).mono ?_
    rintro e w2 ⟨x, hx, rfl, hb⟩
    have HX := Lib.hid hx
    have HW := Lib.hid hb
    have hxz : x.size ≤ 20 := by rw [hx.size]; exact HRL.out
    obtain ⟨t, ht⟩ : ∃ t, (Num.refParse l).1 = t := ⟨_, rfl⟩
    rw [ht] at HX HT
    clear hx hb ht
    go_wp2_with fail
    go_loop [4, 5] (fun nv iv => ∃ k acc : Nat, nv = .int .i64 acc ∧ iv = .int .i64 k ∧ k ≤ 5 ∧ k ≤ x.size ∧ acc < 10 ^ k ∧ CF.rgo k acc (t.drop k) = R) (fun _ iv => 5 - (intOf iv).toNat)
    case atStart => exact ⟨0, 0, rfl, rfl, by omega, by omega, by decide, HT.out⟩
    case round =>
      obtain ⟨k, acc, rfl, rfl, hk5, hkx, hacc, hr⟩ := hrel
      have HR := Lib.hid hr
      have ha5 : acc < 100000 := Nat.lt_of_lt_of_le hacc (Nat.pow_le_pow_right (by decide) hk5)
      have HA := Lib.hid hacc
      clear hr hacc
      by_cases hlt : k < x.size
      · have HG := Lib.hid (HX.out.get k hlt)
        obtain ⟨v, hv⟩ : ∃ v : Nat, x[k].toNat = v := ⟨_, rfl⟩
        have hvI : (x[k].toNat : Int) = (v : Int) := by rw [hv]
        by_cases hd : Num.isD x[k] = true
        · obtain ⟨hn0, hn9⟩ := dig_v hd
          obtain ⟨n, hn⟩ : ∃ n, Num.val x[k] = n := ⟨_, rfl⟩
          rw [hn] at hn0 hn9
          by_cases hk4 : k ≤ 4
          · have HS := Lib.hid (rgo_step (acc := acc) HG.out hd hk4)
            have HN := Lib.hid hn
            have HA2 := Lib.hid (show 10 * acc + n < 10 ^ (k + 1) by rw [Nat.pow_succ]; have := HA.out; omega)
            clear hd hn
            go_wp2_with fail
            go_round
            case rel => exact ⟨k + 1, 10 * acc + n, by go_num, by go_num, by omega, by omega, HA2.out, by rw [← HN.out, ← HS.out]; exact HR.out⟩
            case measure => simp [intOf]; omega
          · have HS := Lib.hid (rgo_stop (acc := acc) HG.out (fun h => hk4 h.2))
            clear hd hn
            go_wp2_with fail
            go_ret
            exact ⟨by rw [← HR.out, HS.out]; rfl, HW.out⟩
        · have HS := Lib.hid (rgo_stop (acc := acc) HG.out (fun h => hd h.1))
          by_cases h48 : (x[k].toNat : Int) < 48
          · clear hd
            go_wp2_with fail
            go_ret
            exact ⟨by rw [← HR.out, HS.out]; rfl, HW.out⟩
          · have h57 : 57 < (x[k].toNat : Int) := by
              have := mt (isD_iff x[k]).2 hd
              omega
            clear hd
            go_wp2_with fail
            go_ret
            exact ⟨by rw [← HR.out, HS.out]; rfl, HW.out⟩
      · have HS := Lib.hid (rgo_end (k := k) (acc := acc) (t := t) (by rw [← HX.out.size]; omega))
        go_wp2_with fail
        go_ret
        exact ⟨by rw [← HR.out, HS.out]; rfl, HW.out⟩
  · have h57 : 57 < (s[0].toNat : Int) := by have := mt (isD_iff s[0]).2 hd0; omega
    clear h hP hz hdr hd0
    go_enter Tryz.func99, Tryz.ntmps99
    go_wp2_with fail
    refine (rparse_any s l _ HI.out hs).mono ?_
    rintro e w2 ⟨x, hx, rfl, hb⟩
    have HX := Lib.hid hx
    have HW := Lib.hid hb
    have hxz : x.size ≤ 20 := by rw [hx.size]; exact HRL.out
    obtain ⟨t, ht⟩ : ∃ t, (Num.refParse l).1 = t := ⟨_, rfl⟩
    rw [ht] at HX HT
    clear hx hb ht
    go_wp2_with fail
    go_loop [4, 5] (fun nv iv => ∃ k acc : Nat, nv = .int .i64 acc ∧ iv = .int .i64 k ∧ k ≤ 5 ∧ k ≤ x.size ∧ acc < 10 ^ k ∧ CF.rgo k acc (t.drop k) = R) (fun _ iv => 5 - (intOf iv).toNat)
    case atStart => exact ⟨0, 0, rfl, rfl, by omega, by omega, by decide, HT.out⟩
    case round =>
      obtain ⟨k, acc, rfl, rfl, hk5, hkx, hacc, hr⟩ := hrel
      have HR := Lib.hid hr
      have ha5 : acc < 100000 := Nat.lt_of_lt_of_le hacc (Nat.pow_le_pow_right (by decide) hk5)
      have HA := Lib.hid hacc
      clear hr hacc
      by_cases hlt : k < x.size
      · have HG := Lib.hid (HX.out.get k hlt)
        obtain ⟨v, hv⟩ : ∃ v : Nat, x[k].toNat = v := ⟨_, rfl⟩
        have hvI : (x[k].toNat : Int) = (v : Int) := by rw [hv]
        by_cases hd : Num.isD x[k] = true
        · obtain ⟨hn0, hn9⟩ := dig_v hd
          obtain ⟨n, hn⟩ : ∃ n, Num.val x[k] = n := ⟨_, rfl⟩
          rw [hn] at hn0 hn9
          by_cases hk4 : k ≤ 4
          · have HS := Lib.hid (rgo_step (acc := acc) HG.out hd hk4)
            have HN := Lib.hid hn
            have HA2 := Lib.hid (show 10 * acc + n < 10 ^ (k + 1) by rw [Nat.pow_succ]; have := HA.out; omega)
            clear hd hn
            go_wp2_with fail
            go_round
            case rel => exact ⟨k + 1, 10 * acc + n, by go_num, by go_num, by omega, by omega, HA2.out, by rw [← HN.out, ← HS.out]; exact HR.out⟩
            case measure => simp [intOf]; omega
          · have HS := Lib.hid (rgo_stop (acc := acc) HG.out (fun h => hk4 h.2))
            clear hd hn
            go_wp2_with fail
            go_ret
            exact ⟨by rw [← HR.out, HS.out]; rfl, HW.out⟩
        · have HS := Lib.hid (rgo_stop (acc := acc) HG.out (fun h => hd h.1))
          by_cases h48 : (x[k].toNat : Int) < 48
          · clear hd
            go_wp2_with fail
            go_ret
            exact ⟨by rw [← HR.out, HS.out]; rfl, HW.out⟩
          · have h57 : 57 < (x[k].toNat : Int) := by
              have := mt (isD_iff x[k]).2 hd
              omega
            clear hd
            go_wp2_with fail
            go_ret
            exact ⟨by rw [← HR.out, HS.out]; rfl, HW.out⟩
      · have HS := Lib.hid (rgo_end (k := k) (acc := acc) (t := t) (by rw [← HX.out.size]; omega))
        go_wp2_with fail
        go_ret
        exact ⟨by rw [← HR.out, HS.out]; rfl, HW.out⟩
end Go.Proofs.YtnpkcobapckhdaaGreatDoor
