/-
  henkanref02.Class, kata, Kata, Wide by their contracts, and what Of says of such strings. No condition but the string's own bound.
-/
import Derived.Test.YtnpkcobapckhdaaGreatDoorSpecAll
namespace Go.Proofs.YtnpkcobapckhdaaGreatDoor
open Go.RowKit
namespace UT
/-- the katakana of a hiragana -/
def kf (c : Nat) : Nat := if 12353 ≤ c ∧ c ≤ 12438 then c + 96 else c
/-- what Kata returns -/
def kata (l : Bs) : Bs := if Lib.validD l = true then enc ((runes l).map kf) else l
theorem kf_ch {c : Nat} (h : isCh c = true) : isCh (kf c) = true := by
  have := of_decide_eq_true h
  unfold kf
  refine decide_eq_true ?_
  split <;> omega
theorem hf_kf (c : Nat) : hf (kf c) = hf (hf c) := by
  unfold hf kf
  repeat' split
  all_goals omega
theorem ofNat_toNat {n : Nat} (h : n < 256) : (UInt8.ofNat n).toNat = n := by simp; omega
theorem dec_enc {c : Nat} (hc : isCh c = true) (t : Bs) : Lib.decodeL (Lib.encodeRune (c : Int) ++ t) = (c, (Lib.encodeRune (c : Int)).length) := by
  have h := of_decide_eq_true hc
  rw [Lib.decodeL_N]
  have hcc := cl_cases c
  by_cases h1 : c < 128
  · rw [enc_one h1]
    unfold Lib.decodeN
    rw [if_pos (by show (UInt8.ofNat c).toNat < 128; rw [ofNat_toNat (by omega)]; exact h1)]
    show ((UInt8.ofNat c).toNat, 1) = _
    rw [ofNat_toNat (by omega)]; rfl
  by_cases h2 : c < 2048
  · rw [enc_tl hc (n := 2) (by omega) (by omega)]
    have e0 : (UInt8.ofNat (fst 2 + c / 64 ^ (2 - 1))).toNat = 192 + c / 64 := ofNat_toNat (by show 192 + c / 64 < 256; omega)
    have e1 : (UInt8.ofNat (128 + c % 64)).toNat = 128 + c % 64 := ofNat_toNat (by omega)
    have et : tl c (2 - 1) = [UInt8.ofNat (128 + c % 64)] := by simp [tl]
    rw [et]
    unfold Lib.decodeN
    simp only [List.cons_append, List.nil_append, List.getD_cons_zero, List.getD_cons_succ, List.length_cons, e0, e1, List.length_nil]
    rw [if_neg (by omega), if_pos (by omega), if_pos (by omega)]
    congr 1
    omega
  by_cases h3 : c < 65536
  · rw [enc_tl hc (n := 3) (by omega) (by omega)]
    have e0 : (UInt8.ofNat (fst 3 + c / 64 ^ (3 - 1))).toNat = 224 + c / 4096 := ofNat_toNat (by show 224 + c / 4096 < 256; omega)
    have e1 : (UInt8.ofNat (128 + c / 64 % 64)).toNat = 128 + c / 64 % 64 := ofNat_toNat (by omega)
    have e2 : (UInt8.ofNat (128 + c % 64)).toNat = 128 + c % 64 := ofNat_toNat (by omega)
    have et : tl c (3 - 1) = [UInt8.ofNat (128 + c / 64 % 64), UInt8.ofNat (128 + c % 64)] := by simp [tl]
    rw [et]
    unfold Lib.decodeN
    simp only [List.cons_append, List.nil_append, List.getD_cons_zero, List.getD_cons_succ, List.length_cons, e0, e1, e2, List.length_nil]
    rw [if_neg (by omega), if_neg (by omega), if_pos (by omega), if_pos (by omega)]
    congr 1
    omega
  · rw [enc_tl hc (n := 4) (by omega) (by omega)]
    have e0 : (UInt8.ofNat (fst 4 + c / 64 ^ (4 - 1))).toNat = 240 + c / 262144 := ofNat_toNat (by show 240 + c / 262144 < 256; omega)
    have e1 : (UInt8.ofNat (128 + c / 4096 % 64)).toNat = 128 + c / 4096 % 64 := ofNat_toNat (by omega)
    have e2 : (UInt8.ofNat (128 + c / 64 % 64)).toNat = 128 + c / 64 % 64 := ofNat_toNat (by omega)
    have e3 : (UInt8.ofNat (128 + c % 64)).toNat = 128 + c % 64 := ofNat_toNat (by omega)
    have et : tl c (4 - 1) = [UInt8.ofNat (128 + c / 4096 % 64), UInt8.ofNat (128 + c / 64 % 64), UInt8.ofNat (128 + c % 64)] := by simp [tl]
    rw [et]
    unfold Lib.decodeN
    simp only [List.cons_append, List.nil_append, List.getD_cons_zero, List.getD_cons_succ, List.length_cons, e0, e1, e2, e3, List.length_nil]
    rw [if_neg (by omega), if_neg (by omega), if_neg (by omega), if_pos (by omega), if_pos (by omega)]
    congr 1
    omega
theorem enc_cons (c : Nat) (xs : List Nat) : enc (c :: xs) = Lib.encodeRune (c : Int) ++ enc xs := rfl
theorem enc_ne (c : Nat) (t : Bs) : Lib.encodeRune (c : Int) ++ t ≠ [] := by
  intro e
  have h := congrArg List.length e
  have := Lib.runeCells_le (c : Int)
  rw [Lib.runeCells_length] at this
  rw [List.length_append, List.length_nil] at h
  omega
theorem dropLen (a t : Bs) : (a ++ t).drop a.length = t := by simp
theorem enc_bad {c : Nat} : ¬ (c = 65533 ∧ (Lib.encodeRune (c : Int)).length = 1) := by
  rintro ⟨rfl, h⟩
  revert h
  decide
theorem runes_enc : ∀ xs : List Nat, (∀ c ∈ xs, isCh c = true) → runes (enc xs) = xs ∧ Lib.validD (enc xs) = true
  | [], _ => ⟨rfl, rfl⟩
  | c :: xs, h => by
    have ih := runes_enc xs (fun d hd => h d (List.mem_cons_of_mem _ hd))
    have hd := dec_enc (h c (List.mem_cons_self ..)) (enc xs)
    rw [enc_cons]
    rw [runes_step (enc_ne c _), valid_step (enc_ne c _), hd]
    dsimp only
    rw [dropLen, if_neg (enc_bad), ih.1]
    exact ⟨rfl, ih.2⟩
theorem enc_runes : ∀ (n : Nat) (l : Bs), l.length ≤ n → Lib.validD l = true → enc (runes l) = l
  | 0, l, h, _ => by
    have : l = [] := List.eq_nil_of_length_eq_zero (by omega)
    subst this; rfl
  | n + 1, l, h, hv => by
    by_cases e : l = []
    · subst e; rfl
    · have hw := Lib.decodeL_width l
      have hp : 0 < l.length := List.length_pos_iff.2 e
      rw [valid_step e] at hv
      by_cases hb : (Lib.decodeL l).1 = 65533 ∧ (Lib.decodeL l).2 = 1
      · rw [if_pos hb] at hv; cases hv
      · rw [if_neg hb] at hv
        rw [runes_step e, enc_cons, Lib.encode_decode l e hb, enc_runes n _ (by rw [List.length_drop]; omega) hv, List.take_append_drop]
theorem hira_kata (l : Bs) : hira (kata l) = hira (hira l) := by
  have hch := runes_ch l.length l (Nat.le_refl _)
  by_cases hv : Lib.validD l = true
  · have hk := runes_enc ((runes l).map kf) (fun c hc => by obtain ⟨d, hd, rfl⟩ := List.mem_map.1 hc; exact kf_ch (hch d hd))
    have hh := runes_enc ((runes l).map hf) (fun c hc => by obtain ⟨d, hd, rfl⟩ := List.mem_map.1 hc; exact hf_ch (hch d hd))
    have e1 : kata l = enc ((runes l).map kf) := by unfold kata; rw [if_pos hv]
    have e2 : hira l = enc ((runes l).map hf) := by unfold hira; rw [if_pos hv]
    rw [e1, e2]
    unfold hira
    rw [if_pos hk.2, if_pos hh.2, hk.1, hh.1, List.map_map, List.map_map]
    congr 1
    exact List.map_congr_left (fun c _ => hf_kf c)
  · have e1 : kata l = l := by unfold kata; rw [if_neg hv]
    have e2 : hira l = l := by unfold hira; rw [if_neg hv]
    rw [e1, e2, e2]
theorem kata_len (l : Bs) : (kata l).length ≤ 4 * l.length := by
  unfold kata
  split
  · refine Nat.le_trans (enc_len _) ?_
    rw [List.length_map]
    have := runes_len l.length l (Nat.le_refl _)
    omega
  · omega
theorem hira_len (l : Bs) : (hira l).length ≤ 4 * l.length := by
  unfold hira
  split
  · refine Nat.le_trans (enc_len _) ?_
    rw [List.length_map]
    have := runes_len l.length l (Nat.le_refl _)
    omega
  · omega
end UT
namespace Num
/-- a digit of either width, as a character -/
def ndc (c : Nat) : Option Nat := if 48 ≤ c ∧ c ≤ 57 then some (c - 48) else if 65296 ≤ c ∧ c ≤ 65305 then some (c - 65296) else none
theorem nd_enc {c : Nat} (hc : UT.isCh c = true) (t : Bs) : (nd (Lib.encodeRune (c : Int) ++ t)).map (·.1) = ndc c ∧ ∀ d k, nd (Lib.encodeRune (c : Int) ++ t) = some (d, k) → k = (Lib.encodeRune (c : Int)).length := by
  have hd := UT.dec_enc hc t
  have hne := UT.enc_ne c t
  cases hn : nd (Lib.encodeRune (c : Int) ++ t) with
  | none =>
    have := nd_none hn hne
    rw [hd] at this
    dsimp only at this
    refine ⟨?_, fun d k h => by cases h⟩
    unfold ndc
    rw [if_neg this.1, if_neg this.2]; rfl
  | some p =>
    obtain ⟨d, k⟩ := p
    have h1 := nd_rune hn
    have h2 := nd_some hn
    rw [hd] at h1
    dsimp only at h1
    refine ⟨?_, fun d' k' h => by injection h with h; injection h with h3 h4; rw [← h4]; exact h1.1.symm⟩
    show some d = ndc c
    unfold ndc
    rcases h2.2.1 with rfl | rfl
    · rw [if_pos rfl] at h1
      rw [if_pos (by omega)]
      exact congrArg some (by omega)
    · rw [if_neg (by omega)] at h1
      rw [if_neg (by omega), if_pos (by omega)]
      exact congrArg some (by omega)
def narC : List Nat → Option Bs
  | [] => some []
  | c :: xs => match ndc c with
    | none => none
    | some d => (narC xs).map (UInt8.ofNat (48 + d) :: ·)
theorem narF_enc : ∀ (xs : List Nat) (n : Nat), (∀ c ∈ xs, UT.isCh c = true) → (UT.enc xs).length ≤ n → narF n (UT.enc xs) = narC xs
  | [], 0, _, _ => rfl
  | [], n + 1, _, _ => by show narF (n + 1) [] = _; rw [narF, if_pos rfl]; rfl
  | c :: xs, 0, _, h => by
    rw [UT.enc_cons] at h
    have := UT.enc_ne c (UT.enc xs)
    exact absurd (List.eq_nil_of_length_eq_zero (Nat.le_zero.1 h)) this
  | c :: xs, n + 1, hc, h => by
    rw [UT.enc_cons] at h ⊢
    obtain ⟨h1, h2⟩ := nd_enc (hc c (List.mem_cons_self ..)) (UT.enc xs)
    rw [narF, if_neg (UT.enc_ne c _), narC, ← h1]
    cases hn : nd (Lib.encodeRune (c : Int) ++ UT.enc xs) with
    | none => rfl
    | some p =>
      obtain ⟨d, k⟩ := p
      obtain rfl := h2 d k hn
      have hs := nd_some hn
      dsimp only [Option.map]
      rw [UT.dropLen, narF_enc xs n (fun d hd => hc d (List.mem_cons_of_mem _ hd)) (by rw [List.length_append] at h; omega)]
theorem nar_enc (xs : List Nat) (h : ∀ c ∈ xs, UT.isCh c = true) : nar (UT.enc xs) = narC xs := narF_enc xs _ h (Nat.le_refl _)
theorem ndc_kf (c : Nat) : ndc (UT.kf c) = ndc (UT.hf c) := by
  unfold ndc UT.kf UT.hf
  repeat' split
  all_goals first | (exfalso; omega) | exact congrArg some (by omega) | rfl
theorem narC_congr (f g : Nat → Nat) (h : ∀ c, ndc (f c) = ndc (g c)) : ∀ xs : List Nat, narC (xs.map f) = narC (xs.map g)
  | [] => rfl
  | c :: xs => by
    rw [List.map_cons, List.map_cons, narC, narC, h c, narC_congr f g h xs]
theorem forms_kana (l : Bs) : forms (UT.kata l) = forms (UT.hira l) := by
  have hch := UT.runes_ch l.length l (Nat.le_refl _)
  by_cases hv : Lib.validD l = true
  · have e1 : UT.kata l = UT.enc ((UT.runes l).map UT.kf) := by unfold UT.kata; rw [if_pos hv]
    have e2 : UT.hira l = UT.enc ((UT.runes l).map UT.hf) := by unfold UT.hira; rw [if_pos hv]
    unfold forms
    rw [e1, e2, nar_enc _ (fun c hc => by obtain ⟨d, hd, rfl⟩ := List.mem_map.1 hc; exact UT.kf_ch (hch d hd)), nar_enc _ (fun c hc => by obtain ⟨d, hd, rfl⟩ := List.mem_map.1 hc; exact UT.hf_ch (hch d hd)), narC_congr _ _ ndc_kf]
  · have e1 : UT.kata l = l := by unfold UT.kata; rw [if_neg hv]
    have e2 : UT.hira l = l := by unfold UT.hira; rw [if_neg hv]
    rw [e1, e2]
end Num
theorem ofL_kana (l : List UInt8) (day : Int) : ofL (UT.kata l) day = ofL (UT.hira l) day := by
  unfold ofL
  rw [Num.forms_kana, UT.hira_kata]
/-- between, whatever it answers -/
theorem bt_any (c lo hi : Int) (w : World) :
    Calls Tryz.prog 41 #[.int .i32 c, .int .i32 lo, .int .i32 hi] w fun e w' => (∃ b, e = .returned (.bool b)) ∧ w = w' := by
  by_cases h : lo ≤ c ∧ c ≤ hi
  · exact (bt_yes c lo hi w h.1 h.2).mono fun e w' ⟨he, hw⟩ => ⟨⟨_, he⟩, hw⟩
  · exact (bt_no c lo hi w (by omega)).mono fun e w' ⟨he, hw⟩ => ⟨⟨_, he⟩, hw⟩
def Not1 (e : Ending) : Prop := ∃ k : Int, e = .returned (.int .i64 k) ∧ (k == 1) = false
set_option maxRecDepth 100000 in
set_option maxHeartbeats 2000000 in
theorem rclass_one (c : Int) (w : World) (h1 : 12353 ≤ c) (h2 : c ≤ 12438) :
    Calls Tryz.prog 93 #[.int .i32 c] w fun e w' => e = .returned (.int .i64 1) ∧ w = w' := by
  go_enter Tryz.func93, Tryz.ntmps93
  go_wp2_with fail
  with_reducible refine (bt_yes c 12353 12438 _ h1 h2).mono ?_
  rintro e w2 ⟨rfl, rfl⟩
  go_wp2_with fail
  go_ret
  exact ⟨rfl, rfl⟩
set_option maxRecDepth 100000 in
set_option maxHeartbeats 4000000 in
theorem rclass_not (c : Int) (w : World) (h : c < 12353 ∨ 12438 < c) :
    Calls Tryz.prog 93 #[.int .i32 c] w fun e w' => Not1 e ∧ w = w' := by
  have HC := Lib.hid h
  clear h
  go_enter Tryz.func93, Tryz.ntmps93
  go_wp2_with fail
  with_reducible refine (bt_no c 12353 12438 _ HC.out).mono ?_
  rintro e w2 ⟨rfl, rfl⟩
  go_wp2_with (go_at_call 41; (with_reducible refine (bt_any c _ _ _).mono ?_); rintro e w2 ⟨⟨b, rfl⟩, rfl⟩; cases b)
  all_goals
    go_ret
    exact ⟨⟨_, rfl, rfl⟩, rfl⟩
set_option maxRecDepth 100000 in
set_option maxHeartbeats 2000000 in
theorem rkata1_any (c : Nat) (w : World) (hc : c ≤ 1114111) :
    Calls Tryz.prog 43 #[.int .i32 c] w fun e w' => e = .returned (.int .i32 (UT.kf c)) ∧ w = w' := by
  by_cases h : 12353 ≤ c ∧ c ≤ 12438
  · obtain ⟨h1, h2⟩ := h
    have HR := Eqv2.mk (show ((UT.kf c : Nat) : Int) = (c : Int) + 96 by unfold UT.kf; rw [if_pos ⟨h1, h2⟩]; omega)
    go_enter Tryz.func43, Tryz.ntmps43
    go_wp2_with fail
    with_reducible refine (rclass_one c _ (by omega) (by omega)).mono ?_
    rintro e w2 ⟨rfl, rfl⟩
    go_wp2_with fail
    go_ret
    exact ⟨by rw [HR.out]; rfl, rfl⟩
  · have HR := Eqv2.mk (show ((UT.kf c : Nat) : Int) = (c : Int) by unfold UT.kf; rw [if_neg h])
    have HC := Lib.hid (show (c : Int) < 12353 ∨ 12438 < (c : Int) by omega)
    clear h
    go_enter Tryz.func43, Tryz.ntmps43
    go_wp2_with fail
    with_reducible refine (rclass_not c _ HC.out).mono ?_
    rintro e w2 ⟨⟨k, rfl, hk⟩, rfl⟩
    go_wp2_with fail
    go_ret
    exact ⟨by rw [HR.out]; rfl, rfl⟩
set_option maxRecDepth 100000 in
set_option maxHeartbeats 2000000 in
theorem rkata_any (s : ByteArray) (l : List UInt8) (w : World) (h : Is s l) (hs : s.size ≤ 17592186044416) :
    Calls Tryz.prog 20 #[.string s] w fun e w' => (∃ b, Is b (UT.kata l) ∧ e = .returned (.string b)) ∧ Below w.heap.size w w' := by
  have HI := Lib.hid h
  have hz := h.size
  clear h
  go_enter Tryz.func20, Tryz.ntmps20
  go_wp2_with fail
  with_reducible refine (runes_any s l _ HI.out hs).mono ?_
  rintro e w1 ⟨hb, ⟨hv, rfl⟩ | ⟨hv, v, hx, rfl⟩⟩
  · have HE := Eqv2.mk (show UT.kata l = l by unfold UT.kata; rw [hv]; rfl)
    have HB := Lib.hid hb
    clear hv hb
    go_wp2_with fail
    go_ret
    exact ⟨⟨s, by rw [HE.out]; exact HI.out, rfl⟩, HB.out⟩
  · have HE := Eqv2.mk (show UT.kata l = UT.enc ((UT.runes l).map UT.kf) by unfold UT.kata; rw [if_pos hv])
    have HCH := Lib.hid (UT.runes_ch l.length l (Nat.le_refl _))
    have hrl := UT.runes_len l.length l (Nat.le_refl _)
    obtain ⟨xs, hxs⟩ : ∃ xs, UT.runes l = xs := ⟨_, rfl⟩
    rw [hxs] at hx hrl HE HCH
    have hl : (runeC xs).length = xs.length := by unfold runeC; rw [List.length_map]
    obtain ⟨ao, cap, rfl⟩ := hx.frame
    rw [hl]
    rw [hl] at hx
    obtain ⟨N, hN⟩ : ∃ N, xs.length = N := ⟨_, rfl⟩
    have HN := Eqv2.mk hN
    rw [hN] at hx hrl ⊢
    have HB := Lib.hid hb
    have HX := Lib.hid hx
    clear hv hb hx hl hN hxs
    go_wp2_with fail
    go_loopw [5] (fun iv wr => ∃ i : Nat, i ≤ N ∧ iv = .int .i64 i ∧ RunesAt w.heap.size (.slice ao N cap) (UT.mapTo UT.kf xs i) wr ∧ Below w.heap.size w wr) (fun iv _ => N - (intOf iv).toNat)
    case atStart => exact ⟨0, Nat.zero_le _, rfl, by rw [UT.mapTo_zero]; exact HX.out, HB.out⟩
    case round =>
      obtain ⟨i, hi, rfl, hx, hb⟩ := hrel
      have HBr := Lib.hid hb
      by_cases hlt : i < N
      · have hil : i < xs.length := by rw [HN.out]; exact hlt
        have hml := UT.mapTo_len UT.kf xs i
        have hrc : (runeC (UT.mapTo UT.kf xs i)).length = N := by unfold runeC; rw [List.length_map, hml, HN.out]
        obtain ⟨g, cap', hv, hgB, hgl, hcap, hcell, hfr, _⟩ := hx.at (by intro e; rw [e] at hrc; simp at hrc; omega)
        injection hv with hv1 hv2 hv3
        subst hv1 hv3
        have hc0 : wr.cell? ⟨g, i, none⟩ = some (.int .i32 (xs[i] : Int)) := hcell i _ (by unfold runeC; rw [List.getElem?_map, UT.mapTo_get _ _ hil]; rfl)
        have hfz := hfr i
        obtain ⟨c, hc⟩ : ∃ c, xs[i] = c := ⟨_, rfl⟩
        have HC := Eqv2.mk hc
        have hch := of_decide_eq_true (HCH.out c (by rw [← hc]; exact List.getElem_mem hil))
        have hcb : c ≤ 1114111 := hch.1
        rw [hc] at hc0
        have HX2 := Lib.hid hx
        have HS := Lib.hid (RunesAt.set (i := i) (c := UT.kf c) HX2.out (by rw [UT.mapTo_len]; exact HN.out))
        rw [← HC.out, UT.mapTo_set UT.kf xs hil, HC.out] at HS
        clear hb hx hcell hfr hv2 hrc hml hc hch
        go_wp2_with fail
        with_reducible refine (rkata1_any c _ hcb).mono ?_
        rintro e w2 ⟨rfl, rfl⟩
        go_wp2_with fail
        go_roundw
        case rel => exact ⟨i + 1, by omega, by go_num, HS.out, HBr.out.setCell hgB _⟩
        case measure => simp [intOf]; omega
      · obtain rfl : i = N := by omega
        have hx2 : RunesLie (.slice ao i cap) (xs.map UT.kf) wr := by rw [UT.mapTo_end UT.kf xs (by rw [HN.out]; exact Nat.le_refl _)] at hx; exact hx.lie
        have HX2 := Lib.hid hx2
        clear hb hx hx2
        go_wp2_with fail
        with_reducible refine (utext_any _ (xs.map UT.kf) _ HX2.out (fun c hc => by obtain ⟨d, hd, rfl⟩ := List.mem_map.1 hc; exact UT.kf_ch (HCH.out d hd)) (by rw [List.length_map, HN.out]; omega)).mono ?_
        rintro e w3 ⟨⟨t, ht, rfl⟩, hb3⟩
        have HT := Lib.hid ht
        have HB3 := Lib.hid (HBr.out.trans (hb3.mono HBr.out.size))
        clear ht hb3
        go_wp2_with fail
        go_ret
        exact ⟨⟨t, by rw [HE.out]; exact HT.out, rfl⟩, HB3.out⟩
namespace UT
/-- the wide form of a character -/
def wf (c : Nat) : Nat := if c = 32 then 12288 else if 33 ≤ c ∧ c ≤ 126 then c + 65248 else c
/-- what Wide returns -/
def wideL (l : Bs) : Bs := if Lib.validD l = true then enc ((runes l).map wf) else l
theorem wf_ch {c : Nat} (h : isCh c = true) : isCh (wf c) = true := by
  have := of_decide_eq_true h
  unfold wf
  refine decide_eq_true ?_
  repeat' split
  all_goals omega
end UT
set_option maxRecDepth 100000 in
set_option maxHeartbeats 4000000 in
theorem rwide_any (s : ByteArray) (l : List UInt8) (w : World) (h : Is s l) (hs : s.size ≤ 17592186044416) :
    Calls Tryz.prog 19 #[.string s] w fun e w' => (∃ b, Is b (UT.wideL l) ∧ e = .returned (.string b)) ∧ Below w.heap.size w w' := by
  have HI := Lib.hid h
  have hz := h.size
  clear h
  go_enter Tryz.func19, Tryz.ntmps19
  go_wp2_with fail
  with_reducible refine (runes_any s l _ HI.out hs).mono ?_
  rintro e w1 ⟨hb, ⟨hv, rfl⟩ | ⟨hv, v, hx, rfl⟩⟩
  · have HE := Eqv2.mk (show UT.wideL l = l by unfold UT.wideL; rw [hv]; rfl)
    have HB := Lib.hid hb
    clear hv hb
    go_wp2_with fail
    go_ret
    exact ⟨⟨s, by rw [HE.out]; exact HI.out, rfl⟩, HB.out⟩
  · have HE := Eqv2.mk (show UT.wideL l = UT.enc ((UT.runes l).map UT.wf) by unfold UT.wideL; rw [if_pos hv])
    have HCH := Lib.hid (UT.runes_ch l.length l (Nat.le_refl _))
    have hrl := UT.runes_len l.length l (Nat.le_refl _)
    obtain ⟨xs, hxs⟩ : ∃ xs, UT.runes l = xs := ⟨_, rfl⟩
    rw [hxs] at hx hrl HE HCH
    have hl : (runeC xs).length = xs.length := by unfold runeC; rw [List.length_map]
    obtain ⟨ao, cap, rfl⟩ := hx.frame
    rw [hl]
    rw [hl] at hx
    obtain ⟨N, hN⟩ : ∃ N, xs.length = N := ⟨_, rfl⟩
    have HN := Eqv2.mk hN
    rw [hN] at hx hrl ⊢
    have HB := Lib.hid hb
    have HX := Lib.hid hx
    clear hv hb hx hl hN hxs
    go_wp2_with fail
    go_loopw [5] (fun iv wr => ∃ i : Nat, i ≤ N ∧ iv = .int .i64 i ∧ RunesAt w.heap.size (.slice ao N cap) (UT.mapTo UT.wf xs i) wr ∧ Below w.heap.size w wr) (fun iv _ => N - (intOf iv).toNat)
    case atStart => exact ⟨0, Nat.zero_le _, rfl, by rw [UT.mapTo_zero]; exact HX.out, HB.out⟩
    case round =>
      obtain ⟨i, hi, rfl, hx, hb⟩ := hrel
      have HBr := Lib.hid hb
      by_cases hlt : i < N
      · have hil : i < xs.length := by rw [HN.out]; exact hlt
        have hml := UT.mapTo_len UT.wf xs i
        have hrc : (runeC (UT.mapTo UT.wf xs i)).length = N := by unfold runeC; rw [List.length_map, hml, HN.out]
        obtain ⟨g, cap', hv, hgB, hgl, hcap, hcell, hfr, _⟩ := hx.at (by intro e; rw [e] at hrc; simp at hrc; omega)
        injection hv with hv1 hv2 hv3
        subst hv1 hv3
        have hc0 : wr.cell? ⟨g, i, none⟩ = some (.int .i32 (xs[i] : Int)) := hcell i _ (by unfold runeC; rw [List.getElem?_map, UT.mapTo_get _ _ hil]; rfl)
        have hfz := hfr i
        obtain ⟨c, hc⟩ : ∃ c, xs[i] = c := ⟨_, rfl⟩
        have HC := Eqv2.mk hc
        have hch := of_decide_eq_true (HCH.out c (by rw [← hc]; exact List.getElem_mem hil))
        have hcb : c ≤ 1114111 := hch.1
        rw [hc] at hc0
        have HX2 := Lib.hid hx
        have HS := Lib.hid (RunesAt.set (i := i) (c := UT.wf c) HX2.out (by rw [UT.mapTo_len]; exact HN.out))
        rw [← HC.out, UT.mapTo_set UT.wf xs hil, HC.out] at HS
        clear hb hx hcell hfr hv2 hrc hml hc hch
        by_cases h32 : c = 32
        · have e32 : ((c : Int) == 32) = true := by rw [h32]; rfl
          have hw : UT.wf c = 12288 := by unfold UT.wf; rw [if_pos h32]
          rw [hw] at HS
          clear h32 hw
          go_wp2_with fail
          go_roundw
          case rel => exact ⟨i + 1, by omega, by go_num, HS.out, HBr.out.setCell hgB _⟩
          case measure => simp [intOf]; omega
        · have e32 : ((c : Int) == 32) = false := by rw [beq_eq_false_iff_ne]; omega
          by_cases hin : 33 ≤ c ∧ c ≤ 126
          · obtain ⟨h1, h2⟩ := hin
            have hw : UT.wf c = c + 65248 := by unfold UT.wf; rw [if_neg h32, if_pos ⟨h1, h2⟩]
            have hadd : ((c + 65248 : Nat) : Int) = (c : Int) + 65248 := by omega
            rw [hw, hadd] at HS
            clear h32 hw hadd
            go_wp2_with fail
            with_reducible refine (bt_yes c 33 126 _ (by omega) (by omega)).mono ?_
            rintro e w2 ⟨rfl, rfl⟩
            go_wp2_with fail
            go_roundw
            case rel => exact ⟨i + 1, by omega, by go_num, HS.out, HBr.out.setCell hgB _⟩
            case measure => simp [intOf]; omega
          · have hfc : UT.wf xs[i] = xs[i] := by rw [HC.out]; unfold UT.wf; rw [if_neg h32, if_neg hin]
            have HSS := Eqv2.mk (UT.mapTo_same UT.wf xs hil hfc)
            have hin2 : c < 33 ∨ 126 < c := by omega
            have HIN := Lib.hid hin2
            clear hin hin2 hfc h32
            go_wp2_with fail
            with_reducible refine (bt_no c 33 126 _ (by have := HIN.out; omega)).mono ?_
            rintro e w2 ⟨rfl, rfl⟩
            go_wp2_with fail
            go_roundw
            case rel => exact ⟨i + 1, by omega, by go_num, by rw [← HSS.out]; exact HX2.out, HBr.out⟩
            case measure => simp [intOf]; omega
      · obtain rfl : i = N := by omega
        have hx2 : RunesLie (.slice ao i cap) (xs.map UT.wf) wr := by rw [UT.mapTo_end UT.wf xs (by rw [HN.out]; exact Nat.le_refl _)] at hx; exact hx.lie
        have HX2 := Lib.hid hx2
        clear hb hx hx2
        go_wp2_with fail
        with_reducible refine (utext_any _ (xs.map UT.wf) _ HX2.out (fun c hc => by obtain ⟨d, hd, rfl⟩ := List.mem_map.1 hc; exact UT.wf_ch (HCH.out d hd)) (by rw [List.length_map, HN.out]; omega)).mono ?_
        rintro e w3 ⟨⟨t, ht, rfl⟩, hb3⟩
        have HT := Lib.hid ht
        have HB3 := Lib.hid (HBr.out.trans (hb3.mono HBr.out.size))
        clear ht hb3
        go_wp2_with fail
        go_ret
        exact ⟨⟨t, by rw [HE.out]; exact HT.out, rfl⟩, HB3.out⟩
end Go.Proofs.YtnpkcobapckhdaaGreatDoor
