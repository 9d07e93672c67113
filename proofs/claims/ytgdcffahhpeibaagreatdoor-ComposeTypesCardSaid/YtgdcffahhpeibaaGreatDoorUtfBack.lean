/-
  Characters written and read again: the bytes of characters decode to them. No condition.
-/
import Derived.Test.YtgdcffahhpeibaaGreatDoorUtfMath
namespace Go.Proofs.YtgdcffahhpeibaaGreatDoor
namespace UT
def enc (xs : List Nat) : List UInt8 := xs.flatMap fun (c : Nat) => Lib.encodeRune ((c : Nat) : Int)
theorem ofNat_toNat {n : Nat} (h : n < 256) : (UInt8.ofNat n).toNat = n := by simp; omega
theorem bk_byteZ (z : Int) (n : Nat) (h : z = (n : Int)) : z.toNat.toUInt8 = UInt8.ofNat n := by subst h; rfl
theorem bk_one {c : Nat} (h : c < 128) : Lib.encodeRune (c : Int) = [UInt8.ofNat c] := by
  unfold Lib.encodeRune
  rw [Lib.encodeRuneZ_one (by omega) (by omega)]; rfl
theorem bk_two {c : Nat} (h1 : 128 ≤ c) (h2 : c < 2048) : Lib.encodeRune (c : Int) = [UInt8.ofNat (192 + c / 64), UInt8.ofNat (128 + c % 64)] := by
  unfold Lib.encodeRune
  rw [Lib.encodeRuneZ_two (by omega) (by omega)]
  simp only [List.map_cons, List.map_nil]
  rw [bk_byteZ (192 + (c : Int) / 64) (192 + c / 64) (by omega), bk_byteZ (128 + (c : Int) % 64) (128 + c % 64) (by omega)]
theorem bk_three {c : Nat} (h : (2048 ≤ c ∧ c < 55296) ∨ (57343 < c ∧ c ≤ 65535)) : Lib.encodeRune (c : Int) = [UInt8.ofNat (224 + c / 4096), UInt8.ofNat (128 + c / 64 % 64), UInt8.ofNat (128 + c % 64)] := by
  unfold Lib.encodeRune
  rw [Lib.encodeRuneZ_three (by omega)]
  simp only [List.map_cons, List.map_nil]
  rw [bk_byteZ (224 + (c : Int) / 4096) (224 + c / 4096) (by omega), bk_byteZ (128 + (c : Int) / 64 % 64) (128 + c / 64 % 64) (by omega), bk_byteZ (128 + (c : Int) % 64) (128 + c % 64) (by omega)]
theorem bk_four {c : Nat} (h1 : 65536 ≤ c) (h2 : c ≤ 1114111) : Lib.encodeRune (c : Int) = [UInt8.ofNat (240 + c / 262144), UInt8.ofNat (128 + c / 4096 % 64), UInt8.ofNat (128 + c / 64 % 64), UInt8.ofNat (128 + c % 64)] := by
  have e : Lib.encodeRuneZ (c : Int) = [240 + (c : Int) / 262144, 128 + (c : Int) / 4096 % 64, 128 + (c : Int) / 64 % 64, 128 + (c : Int) % 64] := by
    unfold Lib.encodeRuneZ
    rw [if_neg (by omega), if_neg (by omega), if_neg (by omega), if_pos (by omega)]
  unfold Lib.encodeRune
  rw [e]
  simp only [List.map_cons, List.map_nil]
  rw [bk_byteZ (240 + (c : Int) / 262144) (240 + c / 262144) (by omega), bk_byteZ (128 + (c : Int) / 4096 % 64) (128 + c / 4096 % 64) (by omega), bk_byteZ (128 + (c : Int) / 64 % 64) (128 + c / 64 % 64) (by omega), bk_byteZ (128 + (c : Int) % 64) (128 + c % 64) (by omega)]
theorem dec_enc {c : Nat} (hc : isCh c = true) (t : Bs) : Lib.decodeL (Lib.encodeRune (c : Int) ++ t) = (c, (Lib.encodeRune (c : Int)).length) := by
  have h := of_decide_eq_true hc
  rw [Lib.decodeL_N]
  by_cases h1 : c < 128
  · rw [bk_one h1]
    unfold Lib.decodeN
    rw [if_pos (by show (UInt8.ofNat c).toNat < 128; rw [ofNat_toNat (by omega)]; exact h1)]
    show ((UInt8.ofNat c).toNat, 1) = _
    rw [ofNat_toNat (by omega)]; rfl
  by_cases h2 : c < 2048
  · rw [bk_two (by omega) h2]
    have e0 : (UInt8.ofNat (192 + c / 64)).toNat = 192 + c / 64 := ofNat_toNat (by omega)
    have e1 : (UInt8.ofNat (128 + c % 64)).toNat = 128 + c % 64 := ofNat_toNat (by omega)
    unfold Lib.decodeN
    simp only [List.cons_append, List.nil_append, List.getD_cons_zero, List.getD_cons_succ, List.length_cons, e0, e1, List.length_nil]
    rw [if_neg (by omega), if_pos (by omega), if_pos (by omega)]
    congr 1
    omega
  by_cases h3 : c < 65536
  · rw [bk_three (by omega)]
    have e0 : (UInt8.ofNat (224 + c / 4096)).toNat = 224 + c / 4096 := ofNat_toNat (by omega)
    have e1 : (UInt8.ofNat (128 + c / 64 % 64)).toNat = 128 + c / 64 % 64 := ofNat_toNat (by omega)
    have e2 : (UInt8.ofNat (128 + c % 64)).toNat = 128 + c % 64 := ofNat_toNat (by omega)
    unfold Lib.decodeN
    simp only [List.cons_append, List.nil_append, List.getD_cons_zero, List.getD_cons_succ, List.length_cons, e0, e1, e2, List.length_nil]
    rw [if_neg (by omega), if_neg (by omega), if_pos (by omega), if_pos (by omega)]
    congr 1
    omega
  · rw [bk_four (by omega) (by omega)]
    have e0 : (UInt8.ofNat (240 + c / 262144)).toNat = 240 + c / 262144 := ofNat_toNat (by omega)
    have e1 : (UInt8.ofNat (128 + c / 4096 % 64)).toNat = 128 + c / 4096 % 64 := ofNat_toNat (by omega)
    have e2 : (UInt8.ofNat (128 + c / 64 % 64)).toNat = 128 + c / 64 % 64 := ofNat_toNat (by omega)
    have e3 : (UInt8.ofNat (128 + c % 64)).toNat = 128 + c % 64 := ofNat_toNat (by omega)
    unfold Lib.decodeN
    simp only [List.cons_append, List.nil_append, List.getD_cons_zero, List.getD_cons_succ, List.length_cons, e0, e1, e2, e3, List.length_nil]
    rw [if_neg (by omega), if_neg (by omega), if_neg (by omega), if_pos (by omega), if_pos (by omega)]
    congr 1
    omega
theorem enc_cons (c : Nat) (xs : List Nat) : enc (c :: xs) = Lib.encodeRune (c : Int) ++ enc xs := rfl
theorem enc_app (xs ys : List Nat) : enc (xs ++ ys) = enc xs ++ enc ys := by unfold enc; rw [List.flatMap_append]
theorem encodeRune_len (c : Nat) : 1 ≤ (Lib.encodeRune (c : Int)).length ∧ (Lib.encodeRune (c : Int)).length ≤ 4 := by
  have := Lib.runeCells_le (c : Int)
  rw [Lib.runeCells_length] at this
  exact this
theorem enc_ne (c : Nat) (t : Bs) : Lib.encodeRune (c : Int) ++ t ≠ [] := by
  intro e
  have h := congrArg List.length e
  have := encodeRune_len c
  rw [List.length_append, List.length_nil] at h
  omega
theorem dropLen (a t : Bs) : (a ++ t).drop a.length = t := by simp
theorem enc_bad {c : Nat} : ¬ (c = 65533 ∧ (Lib.encodeRune (c : Int)).length = 1) := by
  rintro ⟨rfl, h⟩
  revert h
  decide
theorem runes_enc : ∀ xs : List Nat, (∀ c ∈ xs, isCh c = true) → runes (enc xs) = xs ∧ Lib.validD (enc xs) = true
  | [], _ => ⟨rfl, rfl⟩
  | c :: xs, h => by
    have ih := runes_enc xs (fun d hd => h d (List.mem_cons_of_mem _ hd))
    have hd := dec_enc (h c (List.mem_cons_self ..)) (enc xs)
    rw [enc_cons]
    rw [runes_step (enc_ne c _), valid_step (enc_ne c _), hd]
    dsimp only
    rw [dropLen, if_neg enc_bad, ih.1]
    exact ⟨rfl, ih.2⟩
theorem enc_runes : ∀ (n : Nat) (l : Bs), l.length ≤ n → Lib.validD l = true → enc (runes l) = l
  | 0, l, h, _ => by
    have : l = [] := List.eq_nil_of_length_eq_zero (by omega)
    subst this; rfl
  | n + 1, l, h, hv => by
    by_cases e : l = []
    · subst e; rfl
    · have hw := Lib.decodeL_width l
      have hp : 0 < l.length := List.length_pos_iff.2 e
      rw [valid_step e] at hv
      by_cases hb : (Lib.decodeL l).1 = 65533 ∧ (Lib.decodeL l).2 = 1
      · rw [if_pos hb] at hv; cases hv
      · rw [if_neg hb] at hv
        rw [runes_step e, enc_cons, Lib.encode_decode l e hb, enc_runes n _ (by rw [List.length_drop]; omega) hv, List.take_append_drop]
theorem bk_len : ∀ xs : List Nat, (enc xs).length ≤ 4 * xs.length
  | [] => by simp [enc]
  | c :: xs => by
    have := bk_len xs
    have := encodeRune_len c
    rw [enc_cons, List.length_append, List.length_cons]
    omega
/-- a character beyond ASCII has no ASCII byte -/
theorem enc_big {c : Nat} (hc : isCh c = true) (h : 128 ≤ c) : ∀ x ∈ Lib.encodeRune (c : Int), 128 ≤ x.toNat := by
  have hb := of_decide_eq_true hc
  intro x hx
  by_cases h2 : c < 2048
  · rw [bk_two h h2] at hx
    simp only [List.mem_cons, List.not_mem_nil, or_false] at hx
    rcases hx with rfl | rfl <;> rw [ofNat_toNat (by omega)] <;> omega
  by_cases h3 : c < 65536
  · rw [bk_three (by omega)] at hx
    simp only [List.mem_cons, List.not_mem_nil, or_false] at hx
    rcases hx with rfl | rfl | rfl <;> rw [ofNat_toNat (by omega)] <;> omega
  · rw [bk_four (by omega) (by omega)] at hx
    simp only [List.mem_cons, List.not_mem_nil, or_false] at hx
    rcases hx with rfl | rfl | rfl | rfl <;> rw [ofNat_toNat (by omega)] <;> omega
theorem bk_decode_ch (l : Bs) : isCh (Lib.decodeL l).1 = true := by
  rw [Lib.decodeL_N]
  unfold Lib.decodeN
  have k0 : (l.getD 0 0).toNat < 256 := (l.getD 0 0).toNat_lt
  repeat' split
  all_goals (refine decide_eq_true ?_; dsimp only; omega)
theorem bk_runes_ch : ∀ (n : Nat) (l : Bs), l.length ≤ n → ∀ c ∈ runes l, isCh c = true
  | 0, l, h, c, hc => by
    have : l = [] := List.eq_nil_of_length_eq_zero (by omega)
    subst this; simp [runes_nil] at hc
  | n + 1, l, h, c, hc => by
    by_cases e : l = []
    · subst e; simp [runes_nil] at hc
    · have hw := Lib.decodeL_width l
      have hp : 0 < l.length := List.length_pos_iff.2 e
      rw [runes_step e] at hc
      rcases List.mem_cons.1 hc with rfl | hc
      · exact bk_decode_ch l
      · exact bk_runes_ch n _ (by rw [List.length_drop]; omega) c hc
/-- a valid string of characters beyond ASCII has no ASCII byte -/
theorem big_bytes {l : Bs} (hv : Lib.validD l = true) (h : ∀ c ∈ runes l, 128 ≤ c) : ∀ x ∈ l, 128 ≤ x.toNat := by
  have hch := bk_runes_ch l.length l (Nat.le_refl _)
  have e := enc_runes l.length l (Nat.le_refl _) hv
  intro x hx
  rw [← e] at hx
  obtain ⟨c, hc, hx⟩ := List.mem_flatMap.1 hx
  exact enc_big (hch c hc) (h c hc) x hx
theorem valid_app {a b : Bs} (ha : Lib.validD a = true) (hb : Lib.validD b = true) : Lib.validD (a ++ b) = true ∧ runes (a ++ b) = runes a ++ runes b := by
  have e1 := enc_runes a.length a (Nat.le_refl _) ha
  have e2 := enc_runes b.length b (Nat.le_refl _) hb
  have c1 := bk_runes_ch a.length a (Nat.le_refl _)
  have c2 := bk_runes_ch b.length b (Nat.le_refl _)
  have := runes_enc (runes a ++ runes b) (fun c hc => by
    rcases List.mem_append.1 hc with h | h
    · exact c1 c h
    · exact c2 c h)
  rw [enc_app, e1, e2] at this
  exact ⟨this.2, this.1⟩
end UT
end Go.Proofs.YtgdcffahhpeibaaGreatDoor
