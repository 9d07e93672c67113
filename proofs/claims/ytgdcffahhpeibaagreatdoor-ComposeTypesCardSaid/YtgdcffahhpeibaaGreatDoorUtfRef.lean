/-
  henkanref01.length, Character, Next, Runes, Count by their contracts. No condition but the string's own bound.
-/
import Derived.Test.YtgdcffahhpeibaaGreatDoorUtfMath
import Derived.Test.YtgdcffahhpeibaaGreatDoorRBase
import Derived.Below
import Derived.BigQuiet
import Derived.Deep.QuietTactic
namespace Go.Proofs.YtgdcffahhpeibaaGreatDoor
open Go.RowKit
set_option maxRecDepth 100000 in
set_option maxHeartbeats 1000000 in
theorem lead_any (v : Nat) (w : World) (hv : v < 256) :
    Calls Tryz.prog 95 #[.int .u8 v] w fun e w' => e = .returned (.tuple #[.int .i64 (UT.lead v).1, .int .i32 (UT.lead v).2]) ∧ w = w' := by
  by_cases h1 : v < 128
  · have HR := Lib.hid (show UT.lead v = (1, v) by unfold UT.lead; rw [if_pos h1])
    go_enter Tryz.func95, Tryz.ntmps95
    go_wp2_with fail
    go_ret2
    exact ⟨by rw [HR.out]; rfl, rfl⟩
  by_cases h2 : v < 192
  · have HR := Lib.hid (show UT.lead v = (0, 0) by unfold UT.lead; rw [if_neg h1, if_neg (by omega), if_neg (by omega), if_neg (by omega)])
    go_enter Tryz.func95, Tryz.ntmps95
    go_wp2_with fail
    go_ret2
    exact ⟨by rw [HR.out]; rfl, rfl⟩
  by_cases h3 : v < 224
  · have HR := Lib.hid (show UT.lead v = (2, v - 192) by unfold UT.lead; rw [if_neg h1, if_pos (by omega)])
    have he : ((v - 192 : Nat) : Int) = (v : Int) - 192 := by omega
    have HE := Lib.hid he
    clear he
    go_enter Tryz.func95, Tryz.ntmps95
    go_wp2_with fail
    go_ret2
    exact ⟨by rw [HR.out]; dsimp only; rw [HE.out]; rfl, rfl⟩
  by_cases h4 : v < 240
  · have HR := Lib.hid (show UT.lead v = (3, v - 224) by unfold UT.lead; rw [if_neg h1, if_neg (by omega), if_pos (by omega)])
    have he : ((v - 224 : Nat) : Int) = (v : Int) - 224 := by omega
    have HE := Lib.hid he
    clear he
    go_enter Tryz.func95, Tryz.ntmps95
    go_wp2_with fail
    go_ret2
    exact ⟨by rw [HR.out]; dsimp only; rw [HE.out]; rfl, rfl⟩
  by_cases h5 : v < 248
  · have HR := Lib.hid (show UT.lead v = (4, v - 240) by unfold UT.lead; rw [if_neg h1, if_neg (by omega), if_neg (by omega), if_pos (by omega)])
    have he : ((v - 240 : Nat) : Int) = (v : Int) - 240 := by omega
    have HE := Lib.hid he
    clear he
    go_enter Tryz.func95, Tryz.ntmps95
    go_wp2_with fail
    go_ret2
    exact ⟨by rw [HR.out]; dsimp only; rw [HE.out]; rfl, rfl⟩
  · have HR := Lib.hid (show UT.lead v = (0, 0) by unfold UT.lead; rw [if_neg h1, if_neg (by omega), if_neg (by omega), if_neg (by omega)])
    go_enter Tryz.func95, Tryz.ntmps95
    go_wp2_with fail
    go_ret2
    exact ⟨by rw [HR.out]; rfl, rfl⟩
set_option maxRecDepth 100000 in
set_option maxHeartbeats 1000000 in
theorem char_any (c : Nat) (w : World) :
    Calls Tryz.prog 96 #[.int .i32 c] w fun e w' => e = .returned (.bool (UT.isCh c)) ∧ w = w' := by
  by_cases h1 : (c : Int) ≤ 1114111
  · by_cases h2 : (c : Int) < 55296
    · have HR := Lib.hid (show UT.isCh c = true from decide_eq_true ⟨by omega, by omega⟩)
      go_enter Tryz.func96, Tryz.ntmps96
      go_wp2_with fail
      go_ret
      exact ⟨by rw [HR.out]; rfl, rfl⟩
    · by_cases h3 : 57343 < (c : Int)
      · have HR := Lib.hid (show UT.isCh c = true from decide_eq_true ⟨by omega, by omega⟩)
        go_enter Tryz.func96, Tryz.ntmps96
        go_wp2_with fail
        go_ret
        exact ⟨by rw [HR.out]; rfl, rfl⟩
      · have HR := Lib.hid (show UT.isCh c = false from decide_eq_false (by omega))
        go_enter Tryz.func96, Tryz.ntmps96
        go_wp2_with fail
        go_ret
        exact ⟨by rw [HR.out]; rfl, rfl⟩
  · have HR := Lib.hid (show UT.isCh c = false from decide_eq_false (by omega))
    go_enter Tryz.func96, Tryz.ntmps96
    go_wp2_with fail
    go_ret
    exact ⟨by rw [HR.out]; rfl, rfl⟩
theorem b_drop {s : ByteArray} {l : List UInt8} (h : Is s l) (pos k : Nat) (hk : pos + k < s.size) : UT.b (l.drop pos) k = (s[pos + k]'hk).toNat := by
  unfold UT.b
  rw [List.getD_eq_getElem?_getD, List.getElem?_drop, h.get _ hk]; rfl
theorem least_cell (w : World) (n : Nat) (hn : n ≤ 4) : (w.alloc (.cells #[.int .i32 0, .int .i32 0, .int .i32 128, .int .i32 2048, .int .i32 65536] 21)).cell? ⟨w.heap.size, n, none⟩ = some (.int .i32 (UT.least n)) := by
  obtain rfl | rfl | rfl | rfl | rfl : n = 0 ∨ n = 1 ∨ n = 2 ∨ n = 3 ∨ n = 4 := by omega
  all_goals (go_simp; try rfl)
theorem next_all {x : List UInt8} {n c : Nat} (h : 0 < x.length) (hl : UT.lead (UT.b x 0) = (n, c)) (hn : 1 ≤ n) (hs : n ≤ x.length) (hc : ∀ k, 1 ≤ k → k < n → 128 ≤ UT.b x k ∧ UT.b x k ≤ 191) :
    UT.nextL x = if UT.accN x c (n - 1) < UT.least n ∨ UT.isCh (UT.accN x c (n - 1)) = false then (0, 0) else (UT.accN x c (n - 1), n) := by
  rcases Nat.lt_or_ge n 2 with h2 | h2
  · obtain rfl : n = 1 := by omega
    obtain ⟨a, rfl⟩ := UT.lead_one hl
    have hch : UT.isCh (UT.b x 0) = true := decide_eq_true ⟨by omega, by omega⟩
    rw [UT.next_one h a]
    show _ = if UT.b x 0 < 0 ∨ UT.isCh (UT.b x 0) = false then (0, 0) else (UT.b x 0, 1)
    rw [if_neg (by rw [hch]; simp)]
  · exact UT.next_end h hl h2 hs hc
theorem lead_bd {v n c : Nat} (h : UT.lead v = (n, c)) : n ≤ 4 ∧ c < 256 := by
  unfold UT.lead at h
  repeat' split at h
  all_goals (injection h with h1 h2; omega)
theorem accN_bd1 {x : List UInt8} {v n c : Nat} (hl : UT.lead v = (n, c)) (hn : 1 ≤ n) (i : Nat) (hi : i < n) : UT.accN x c i < 2097152 := by
  rcases Nat.lt_or_ge n 2 with h2 | h2
  · obtain rfl : i = 0 := by omega
    have := lead_bd hl
    show c < _; omega
  · exact UT.accN_bd hl h2 i hi
set_option maxRecDepth 100000 in
set_option maxHeartbeats 2000000 in
theorem next_any (s : ByteArray) (l : List UInt8) (pos : Nat) (w : World) (h : Is s l) (hp : pos < s.size) (hs : s.size ≤ 140737488351232) :
    Calls Tryz.prog 73 #[.string s, .int .i64 pos] w fun e w' => e = .returned (.tuple #[.int .i32 (UT.nextL (l.drop pos)).1, .int .i64 (UT.nextL (l.drop pos)).2]) ∧ Below w.heap.size w w' := by
  have hb0 := b_drop h pos 0 hp
  have HB := Lib.hid (fun k (hk : pos + k < s.size) => b_drop h pos k hk)
  obtain ⟨x, hx⟩ : ∃ x, l.drop pos = x := ⟨_, rfl⟩
  have hxl : x.length = s.size - pos := by rw [← hx, List.length_drop, h.size]
  rw [hx] at hb0 HB ⊢
  clear hx h
  obtain ⟨n, c, hl⟩ : ∃ n c, UT.lead (UT.b x 0) = (n, c) := ⟨_, _, rfl⟩
  obtain ⟨hn4, hc256⟩ := lead_bd hl
  have HL := Eqq.mk hl
  obtain ⟨v, hv⟩ : ∃ v, UT.b x 0 = v := ⟨_, rfl⟩
  have hv256 : v < 256 := by rw [← hv]; exact (x.getD 0 0).toNat_lt
  have hvI : (s[pos].toNat : Int) = (v : Int) := by rw [← hv, hb0]; rfl
  have HLV := Eqq.mk (show UT.lead v = (n, c) by rw [← hv]; exact hl)
  obtain ⟨r, m, hr⟩ : ∃ r m, UT.nextL x = (r, m) := ⟨_, _, rfl⟩
  have HR := Eqq.mk hr
  rw [hr]
  have hx0 : 0 < x.length := by omega
  have hp0 : (0 : Int) ≤ (pos : Int) := by omega
  clear hl hb0 hv hr
  go_enter Tryz.func73, Tryz.ntmps73
  go_wp2_with fail
  with_reducible refine (lead_any v _ hv256).mono ?_
  rw [HLV.out]
  rintro e w1 ⟨rfl, rfl⟩
  dsimp only
  by_cases hn0 : n = 0
  · have HF := Eqq.mk (UT.next_bad hx0 (by rw [HL.out]; exact hn0))
    have d0 : ((n : Int) == 0) = true := by rw [hn0]; rfl
    clear hn0
    go_wp2_with fail
    go_ret2
    exact ⟨by have := HR.out.symm.trans HF.out; injection this with e1 e2; rw [e1, e2]; rfl, Below.refl _ _⟩
  have d0 : ((n : Int) == 0) = false := by simpa using hn0
  have hn1 : 1 ≤ n := by omega
  clear hn0
  by_cases hns : x.length < n
  · have HF := Eqq.mk (show UT.nextL x = (0, 0) by
      rcases Nat.lt_or_ge n 2 with h2 | h2
      · omega
      · exact UT.next_short hx0 HL.out h2 hns)
    have d1 : (s.size : Int) - (pos : Int) < (n : Int) := by omega
    go_wp2_with fail
    go_ret2
    exact ⟨by have := HR.out.symm.trans HF.out; injection this with e1 e2; rw [e1, e2]; rfl, Below.refl _ _⟩
  have d1 : ¬ (s.size : Int) - (pos : Int) < (n : Int) := by omega
  go_wp2_with fail
  go_loop [7, 8] (fun cv iv => ∃ i A : Nat, 1 ≤ i ∧ i ≤ n ∧ iv = .int .i64 i ∧ cv = .int .i32 A ∧ Eqq A (UT.accN x c (i - 1)) ∧ (∀ k, 1 ≤ k → k < i → 128 ≤ UT.b x k ∧ UT.b x k ≤ 191)) (fun _ iv => n - (intOf iv).toNat)
  case atStart => exact ⟨1, c, by omega, by omega, rfl, rfl, ⟨rfl⟩, fun k h1 h2 => by omega⟩
  case round =>
    obtain ⟨i, A, hi1, hin, rfl, rfl, hA, hc⟩ := hrel
    have hAb : A < 2097152 := by rw [hA.out]; exact accN_bd1 HL.out hn1 _ (by omega)
    have HC := Lib.hid hc
    clear hc
    by_cases hlt : i < n
    · have hpi : pos + i < s.size := by omega
      obtain ⟨u, hu⟩ : ∃ u, UT.b x i = u := ⟨_, rfl⟩
      have hu256 : u < 256 := by rw [← hu]; exact (x.getD i 0).toNat_lt
      have huI : (s[pos + i].toNat : Int) = (u : Int) := by rw [← hu, HB.out i hpi]
      have HU := Eqq.mk hu
      clear hu
      by_cases h1 : u < 128
      · have HF := Eqq.mk (UT.next_cont hx0 HL.out (by omega) hi1 hlt (.inl (by rw [HU.out]; exact h1)))
        go_wp2_with fail
        go_ret2
        exact ⟨by have := HR.out.symm.trans HF.out; injection this with e1 e2; rw [e1, e2]; rfl, Below.refl _ _⟩
      by_cases h2 : 191 < u
      · have HF := Eqq.mk (UT.next_cont hx0 HL.out (by omega) hi1 hlt (.inr (by rw [HU.out]; exact h2)))
        go_wp2_with fail
        go_ret2
        exact ⟨by have := HR.out.symm.trans HF.out; injection this with e1 e2; rw [e1, e2]; rfl, Below.refl _ _⟩
      have HN := Eqq.mk (show 64 * A + u - 128 = UT.accN x c (i + 1 - 1) by
        obtain ⟨j, rfl⟩ : ∃ j, i = j + 1 := ⟨i - 1, by omega⟩
        rw [hA.out, Nat.add_sub_cancel, Nat.add_sub_cancel, UT.accN_s, HU.out]; omega)
      go_wp2_with fail
      go_round
      case rel =>
        refine ⟨i + 1, 64 * A + u - 128, by omega, by omega, by go_num, ?_, HN, fun k k1 k2 => ?_⟩
        · congr 1; omega
        · rcases Nat.lt_or_ge k i with h3 | h3
          · exact HC.out k k1 h3
          · obtain rfl : k = i := by omega
            rw [HU.out]; omega
      case measure => simp [intOf]; omega
    · obtain rfl : i = n := by omega
      have hE := next_all hx0 HL.out hn1 (by omega) HC.out
      rw [← hA.out, HR.out] at hE
      have HE := Eqq.mk hE
      have hle := least_cell w i hn4
      clear hE
      obtain ⟨q, hq⟩ : ∃ q, UT.least i = q := ⟨_, rfl⟩
      have HQ := Eqq.mk hq
      rw [hq] at hle HE
      clear hq
      by_cases g : A < q
      · have gI : (A : Int) < (q : Int) := by omega
        go_wp2_with fail
        go_ret2
        exact ⟨by have := HE.out; rw [if_pos (.inl g)] at this; injection this with e1 e2; rw [e1, e2]; rfl, (Below.refl _ _).alloc (Nat.le_refl _) _⟩
      · have gI : ¬ (A : Int) < (q : Int) := by omega
        cases hch : UT.isCh A
        · have HCH := Eqq.mk hch
          clear hch
          go_wp2_with fail
          with_reducible refine (char_any A _).mono ?_
          rw [HCH.out]
          rintro e w2 ⟨rfl, rfl⟩
          go_wp2_with fail
          go_ret2
          exact ⟨by have := HE.out; rw [if_pos (.inr HCH.out)] at this; injection this with e1 e2; rw [e1, e2]; rfl, (Below.refl _ _).alloc (Nat.le_refl _) _⟩
        · have HCH := Eqq.mk hch
          clear hch
          go_wp2_with fail
          with_reducible refine (char_any A _).mono ?_
          rw [HCH.out]
          rintro e w2 ⟨rfl, rfl⟩
          go_wp2_with fail
          go_ret2
          exact ⟨by have := HE.out; rw [if_neg (by rw [HCH.out]; simp; omega)] at this; injection this with e1 e2; rw [e1, e2]; rfl, (Below.refl _ _).alloc (Nat.le_refl _) _⟩
end Go.Proofs.YtgdcffahhpeibaaGreatDoor
