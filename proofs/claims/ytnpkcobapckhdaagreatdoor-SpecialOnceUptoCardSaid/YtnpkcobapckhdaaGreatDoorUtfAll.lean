/-
  Texts merged: UtfMath, UtfRef, UtfRunes, UtfCode, UtfText, UtfHira, UtfKana.
-/
import Derived.Lib.MapLaws
import Derived.Lib.ValidU
import Derived.Lib.TrimUEq
import Derived.Test.YtnpkcobapckhdaaGreatDoorNumRef
import Derived.Below
import Derived.BigQuiet
import Derived.Deep.QuietTactic
import Derived.Test.YtnpkcobapckhdaaGreatDoorStrs
import Derived.Laws.IdiomStrings
import Derived.Laws.AppendOwnNone
import Derived.Deep.CutBlock
import Derived.Lib.AppendStr
import Derived.Laws.OwnMore
import Derived.Test.YtnpkcobapckhdaaGreatDoorShelf2
import Derived.Test.YtnpkcobapckhdaaGreatDoorNumTabs
namespace Go.Proofs.YtnpkcobapckhdaaGreatDoor
structure Eqv2 {α : Type} (a b : α) : Prop where
  out : a = b
end Go.Proofs.YtnpkcobapckhdaaGreatDoor
namespace Go.Proofs.YtnpkcobapckhdaaGreatDoor
namespace UT
abbrev Bs := List UInt8
def b (x : Bs) (k : Nat) : Nat := (x.getD k 0).toNat
/-- how many bytes a code has that begins so, and the bits of the first byte -/
def lead (v : Nat) : Nat × Nat := if v < 128 then (1, v) else if 192 ≤ v ∧ v < 224 then (2, v - 192) else if 224 ≤ v ∧ v < 240 then (3, v - 224) else if 240 ≤ v ∧ v < 248 then (4, v - 240) else (0, 0)
/-- the bits of a code's first bytes -/
def accN (x : Bs) (c : Nat) : Nat → Nat
  | 0 => c
  | i + 1 => 64 * accN x c i + b x (i + 1) % 64
def least (n : Nat) : Nat := if n = 2 then 128 else if n = 3 then 2048 else if n = 4 then 65536 else 0
def isCh (c : Nat) : Bool := decide (c ≤ 1114111 ∧ (c < 55296 ∨ 57343 < c))
/-- the first character of a text and its length; 0, 0: there is none -/
def nextL (x : Bs) : Nat × Nat := if x = [] then (0, 0) else if Lib.decodeL x = (65533, 1) then (0, 0) else Lib.decodeL x
theorem nextL_nil : nextL [] = (0, 0) := rfl
theorem nextL_ne {x : Bs} (h : x ≠ []) : nextL x = if Lib.decodeN x.length (b x 0) (b x 1) (b x 2) (b x 3) = (65533, 1) then (0, 0) else Lib.decodeN x.length (b x 0) (b x 1) (b x 2) (b x 3) := by
  unfold nextL b
  rw [if_neg h, Lib.decodeL_N]
theorem ne_of {x : Bs} (h : 0 < x.length) : x ≠ [] := by intro e; rw [e] at h; simp at h
theorem nx_bad {x : Bs} (h : x ≠ []) (e : Lib.decodeN x.length (b x 0) (b x 1) (b x 2) (b x 3) = (65533, 1)) : nextL x = (0, 0) := by rw [nextL_ne h, if_pos e]
theorem nx_ok {x : Bs} {c n : Nat} (h : x ≠ []) (e : Lib.decodeN x.length (b x 0) (b x 1) (b x 2) (b x 3) = (c, n)) (hn : 2 ≤ n) : nextL x = (c, n) := by
  rw [nextL_ne h, e, if_neg (by intro e2; injection e2 with e2 e3; omega)]
theorem next_one {x : Bs} (h : 0 < x.length) (h0 : b x 0 < 128) : nextL x = (b x 0, 1) := by
  rw [nextL_ne (ne_of h)]
  unfold Lib.decodeN
  rw [if_pos h0, if_neg (by intro e; injection e with e; omega)]
theorem next_bad {x : Bs} (h : 0 < x.length) (h0 : (lead (b x 0)).1 = 0) : nextL x = (0, 0) := by
  have k0 : b x 0 < 256 := (x.getD 0 0).toNat_lt
  have hb : ¬ b x 0 < 128 ∧ ¬ (192 ≤ b x 0 ∧ b x 0 < 248) := by
    unfold lead at h0
    refine ⟨fun h => ?_, fun h => ?_⟩
    · rw [if_pos h] at h0; cases h0
    · rw [if_neg (by omega)] at h0
      split at h0
      · cases h0
      · split at h0
        · cases h0
        · rw [if_pos (by omega)] at h0; cases h0
  have e : Lib.decodeN x.length (b x 0) (b x 1) (b x 2) (b x 3) = (65533, 1) := by
    unfold Lib.decodeN
    rw [if_neg hb.1, if_neg (by omega), if_neg (by omega), if_neg (by omega)]
  rw [nextL_ne (ne_of h), e]
  rfl
theorem lead_cases {v n c : Nat} (h : lead v = (n, c)) (hn : 2 ≤ n) : (n = 2 ∧ 192 ≤ v ∧ v < 224 ∧ c = v - 192) ∨ (n = 3 ∧ 224 ≤ v ∧ v < 240 ∧ c = v - 224) ∨ (n = 4 ∧ 240 ≤ v ∧ v < 248 ∧ c = v - 240) := by
  unfold lead at h
  repeat' split at h
  all_goals (injection h with h1 h2; omega)
theorem lead_one {v c : Nat} (h : lead v = (1, c)) : v < 128 ∧ c = v := by
  unfold lead at h
  repeat' split at h
  all_goals (injection h with h1 h2; omega)
theorem next_short {x : Bs} {n c : Nat} (h : 0 < x.length) (hl : lead (b x 0) = (n, c)) (hn : 2 ≤ n) (hs : x.length < n) : nextL x = (0, 0) := by
  have e : Lib.decodeN x.length (b x 0) (b x 1) (b x 2) (b x 3) = (65533, 1) := by
    unfold Lib.decodeN
    rcases lead_cases hl hn with ⟨rfl, h1, h2, _⟩ | ⟨rfl, h1, h2, _⟩ | ⟨rfl, h1, h2, _⟩
    all_goals rw [if_neg (by omega), if_neg (by omega), if_neg (by omega), if_neg (by omega)]
  rw [nextL_ne (ne_of h), e]
  rfl
theorem next_cont {x : Bs} {n c k : Nat} (h : 0 < x.length) (hl : lead (b x 0) = (n, c)) (hn : 2 ≤ n) (h1 : 1 ≤ k) (h2 : k < n) (hb : b x k < 128 ∨ 191 < b x k) : nextL x = (0, 0) := by
  have k1 : b x 1 < 256 := (x.getD 1 0).toNat_lt
  have k2 : b x 2 < 256 := (x.getD 2 0).toNat_lt
  have k3 : b x 3 < 256 := (x.getD 3 0).toNat_lt
  have hk : k = 1 ∨ k = 2 ∨ k = 3 := by rcases lead_cases hl hn with ⟨rfl, _⟩ | ⟨rfl, _⟩ | ⟨rfl, _⟩ <;> omega
  have e : Lib.decodeN x.length (b x 0) (b x 1) (b x 2) (b x 3) = (65533, 1) := by
    unfold Lib.decodeN
    rcases lead_cases hl hn with ⟨rfl, h1, h2, _⟩ | ⟨rfl, h1, h2, _⟩ | ⟨rfl, h1, h2, _⟩ <;> rcases hk with rfl | rfl | rfl
    all_goals first
    | (exfalso; omega)
    | rw [if_neg (by omega), if_neg (by omega), if_neg (by omega), if_neg (by omega)]
  rw [nextL_ne (ne_of h), e]
  rfl
theorem accN_0 (x : Bs) (c : Nat) : accN x c 0 = c := rfl
theorem accN_s (x : Bs) (c i : Nat) : accN x c (i + 1) = 64 * accN x c i + b x (i + 1) % 64 := rfl
set_option maxRecDepth 100000 in
theorem next_end {x : Bs} {n c : Nat} (h : 0 < x.length) (hl : lead (b x 0) = (n, c)) (hn : 2 ≤ n) (hs : n ≤ x.length) (hc : ∀ k, 1 ≤ k → k < n → 128 ≤ b x k ∧ b x k ≤ 191) :
    nextL x = if accN x c (n - 1) < least n ∨ isCh (accN x c (n - 1)) = false then (0, 0) else (accN x c (n - 1), n) := by
  rcases lead_cases hl hn with ⟨rfl, h1, h2, rfl⟩ | ⟨rfl, h1, h2, rfl⟩ | ⟨rfl, h1, h2, rfl⟩
  · have c1 := hc 1 (by omega) (by omega)
    have ea : accN x (b x 0 - 192) (2 - 1) = b x 0 % 32 * 64 + b x 1 % 64 := by show 64 * (b x 0 - 192) + b x 1 % 64 = _; omega
    have ed : Lib.decodeN x.length (b x 0) (b x 1) (b x 2) (b x 3) = if b x 0 % 32 * 64 + b x 1 % 64 ≥ 128 then (b x 0 % 32 * 64 + b x 1 % 64, 2) else (65533, 1) := by
      unfold Lib.decodeN
      rw [if_neg (by omega), if_pos ⟨by omega, by omega, by omega⟩]
    rw [ea]
    have e2 : least 2 = 128 := rfl
    rw [e2]
    by_cases g : b x 0 % 32 * 64 + b x 1 % 64 < 128
    · rw [nx_bad (ne_of h) (by rw [ed, if_neg (by omega)]), if_pos (.inl g)]
    · have hch : isCh (b x 0 % 32 * 64 + b x 1 % 64) = true := decide_eq_true ⟨by omega, by omega⟩
      rw [nx_ok (ne_of h) (by rw [ed, if_pos (by omega)]) (by omega), if_neg (by rw [hch]; simp; omega)]
  · have c1 := hc 1 (by omega) (by omega)
    have c2 := hc 2 (by omega) (by omega)
    have ea : accN x (b x 0 - 224) (3 - 1) = b x 0 % 16 * 4096 + b x 1 % 64 * 64 + b x 2 % 64 := by show 64 * (64 * (b x 0 - 224) + b x 1 % 64) + b x 2 % 64 = _; omega
    have ed : Lib.decodeN x.length (b x 0) (b x 1) (b x 2) (b x 3) = if b x 0 % 16 * 4096 + b x 1 % 64 * 64 + b x 2 % 64 ≥ 2048 ∧ (b x 0 % 16 * 4096 + b x 1 % 64 * 64 + b x 2 % 64 < 55296 ∨ (57344 ≤ b x 0 % 16 * 4096 + b x 1 % 64 * 64 + b x 2 % 64 ∧ b x 0 % 16 * 4096 + b x 1 % 64 * 64 + b x 2 % 64 ≤ 1114111)) then (b x 0 % 16 * 4096 + b x 1 % 64 * 64 + b x 2 % 64, 3) else (65533, 1) := by
      unfold Lib.decodeN
      rw [if_neg (by omega), if_neg (by omega), if_pos ⟨by omega, ⟨by omega, by omega⟩, by omega, by omega⟩]
    rw [ea]
    have e2 : least 3 = 2048 := rfl
    rw [e2]
    generalize b x 0 % 16 * 4096 + b x 1 % 64 * 64 + b x 2 % 64 = a at ed ⊢
    by_cases g : a < 2048
    · rw [nx_bad (ne_of h) (by rw [ed, if_neg (by omega)]), if_pos (.inl g)]
    · by_cases g2 : a ≤ 1114111 ∧ (a < 55296 ∨ 57343 < a)
      · have hch : isCh a = true := decide_eq_true g2
        rw [nx_ok (ne_of h) (by rw [ed, if_pos (by omega)]) (by omega), if_neg (by rw [hch]; simp; omega)]
      · have hch : isCh a = false := decide_eq_false g2
        rw [nx_bad (ne_of h) (by rw [ed, if_neg (by omega)]), if_pos (.inr hch)]
  · have c1 := hc 1 (by omega) (by omega)
    have c2 := hc 2 (by omega) (by omega)
    have c3 := hc 3 (by omega) (by omega)
    have ea : accN x (b x 0 - 240) (4 - 1) = b x 0 % 8 * 262144 + b x 1 % 64 * 4096 + b x 2 % 64 * 64 + b x 3 % 64 := by show 64 * (64 * (64 * (b x 0 - 240) + b x 1 % 64) + b x 2 % 64) + b x 3 % 64 = _; omega
    have ed : Lib.decodeN x.length (b x 0) (b x 1) (b x 2) (b x 3) = if b x 0 % 8 * 262144 + b x 1 % 64 * 4096 + b x 2 % 64 * 64 + b x 3 % 64 ≥ 65536 ∧ (b x 0 % 8 * 262144 + b x 1 % 64 * 4096 + b x 2 % 64 * 64 + b x 3 % 64 < 55296 ∨ (57344 ≤ b x 0 % 8 * 262144 + b x 1 % 64 * 4096 + b x 2 % 64 * 64 + b x 3 % 64 ∧ b x 0 % 8 * 262144 + b x 1 % 64 * 4096 + b x 2 % 64 * 64 + b x 3 % 64 ≤ 1114111)) then (b x 0 % 8 * 262144 + b x 1 % 64 * 4096 + b x 2 % 64 * 64 + b x 3 % 64, 4) else (65533, 1) := by
      unfold Lib.decodeN
      rw [if_neg (by omega), if_neg (by omega), if_neg (by omega), if_pos ⟨by omega, ⟨by omega, by omega⟩, ⟨by omega, by omega⟩, by omega, by omega⟩]
    rw [ea]
    have e2 : least 4 = 65536 := rfl
    rw [e2]
    generalize b x 0 % 8 * 262144 + b x 1 % 64 * 4096 + b x 2 % 64 * 64 + b x 3 % 64 = a at ed ⊢
    by_cases g : a < 65536
    · rw [nx_bad (ne_of h) (by rw [ed, if_neg (by omega)]), if_pos (.inl g)]
    · by_cases g2 : a ≤ 1114111 ∧ (a < 55296 ∨ 57343 < a)
      · have hch : isCh a = true := decide_eq_true g2
        rw [nx_ok (ne_of h) (by rw [ed, if_pos (by omega)]) (by omega), if_neg (by rw [hch]; simp; omega)]
      · have hch : isCh a = false := decide_eq_false g2
        rw [nx_bad (ne_of h) (by rw [ed, if_neg (by omega)]), if_pos (.inr hch)]
set_option maxRecDepth 100000 in
theorem accN_bd {x : Bs} {v n c : Nat} (hl : lead v = (n, c)) (hn : 2 ≤ n) (i : Nat) (hi : i < n) : accN x c i < 2097152 := by
  have m (k : Nat) : b x k % 64 < 64 := Nat.mod_lt _ (by decide)
  rcases lead_cases hl hn with ⟨rfl, h1, h2, rfl⟩ | ⟨rfl, h1, h2, rfl⟩ | ⟨rfl, h1, h2, rfl⟩
  · obtain rfl | rfl : i = 0 ∨ i = 1 := by omega
    · show v - 192 < _; omega
    · have := m 1; show 64 * (v - 192) + b x 1 % 64 < _; omega
  · obtain rfl | rfl | rfl : i = 0 ∨ i = 1 ∨ i = 2 := by omega
    · show v - 224 < _; omega
    · have := m 1; show 64 * (v - 224) + b x 1 % 64 < _; omega
    · have := m 1; have := m 2; show 64 * (64 * (v - 224) + b x 1 % 64) + b x 2 % 64 < _; omega
  · obtain rfl | rfl | rfl | rfl : i = 0 ∨ i = 1 ∨ i = 2 ∨ i = 3 := by omega
    · show v - 240 < _; omega
    · have := m 1; show 64 * (v - 240) + b x 1 % 64 < _; omega
    · have := m 1; have := m 2; show 64 * (64 * (v - 240) + b x 1 % 64) + b x 2 % 64 < _; omega
    · have := m 1; have := m 2; have := m 3; show 64 * (64 * (64 * (v - 240) + b x 1 % 64) + b x 2 % 64) + b x 3 % 64 < _; omega

/-! ### texts as lists of characters -/
def runesGo : Nat → Bs → List Nat
  | 0, _ => []
  | n + 1, l => if l = [] then [] else (Lib.decodeL l).1 :: runesGo n (l.drop (Lib.decodeL l).2)
/-- the characters of a text -/
def runes (l : Bs) : List Nat := runesGo l.length l
theorem runesGo_fuel : ∀ (n m : Nat) (l : Bs), l.length ≤ n → l.length ≤ m → runesGo n l = runesGo m l
  | 0, m, l, hn, _ => by
    have : l = [] := List.eq_nil_of_length_eq_zero (by omega)
    subst this
    cases m <;> simp [runesGo]
  | n + 1, 0, l, _, hm => by
    have : l = [] := List.eq_nil_of_length_eq_zero (by omega)
    subst this; simp [runesGo]
  | n + 1, m + 1, l, hn, hm => by
    rw [runesGo, runesGo]
    split
    · rfl
    · rename_i h
      have hw := Lib.decodeL_width l
      have hp : 0 < l.length := List.length_pos_iff.2 h
      rw [runesGo_fuel n m _ (by rw [List.length_drop]; omega) (by rw [List.length_drop]; omega)]
theorem runes_nil : runes [] = [] := rfl
theorem runes_step {l : Bs} (h : l ≠ []) : runes l = (Lib.decodeL l).1 :: runes (l.drop (Lib.decodeL l).2) := by
  have hw := Lib.decodeL_width l
  cases l with
  | nil => exact absurd rfl h
  | cons c r =>
    show runesGo (r.length + 1) (c :: r) = _
    rw [runesGo, if_neg h]
    congr 1
    exact runesGo_fuel _ _ _ (by rw [List.length_drop, List.length_cons]; omega) (Nat.le_refl _)
theorem validGo_fuel : ∀ (n m : Nat) (l : Bs), l.length ≤ n → l.length ≤ m → Lib.validGoD n l = Lib.validGoD m l
  | 0, m, l, hn, _ => by
    have : l = [] := List.eq_nil_of_length_eq_zero (by omega)
    subst this
    cases m <;> simp [Lib.validGoD]
  | n + 1, 0, l, _, hm => by
    have : l = [] := List.eq_nil_of_length_eq_zero (by omega)
    subst this; simp [Lib.validGoD]
  | n + 1, m + 1, l, hn, hm => by
    rw [Lib.validGoD, Lib.validGoD]
    split
    · rfl
    · rename_i h
      have hw := Lib.decodeL_width l
      have hp : 0 < l.length := List.length_pos_iff.2 h
      rw [validGo_fuel n m _ (by rw [List.length_drop]; omega) (by rw [List.length_drop]; omega)]
theorem valid_nil : Lib.validD [] = true := rfl
theorem valid_step {l : Bs} (h : l ≠ []) : Lib.validD l = if (Lib.decodeL l).1 = 65533 ∧ (Lib.decodeL l).2 = 1 then false else Lib.validD (l.drop (Lib.decodeL l).2) := by
  have hw := Lib.decodeL_width l
  cases l with
  | nil => exact absurd rfl h
  | cons c r =>
    show Lib.validGoD (r.length + 1) (c :: r) = _
    rw [Lib.validGoD, if_neg h]
    rw [validGo_fuel r.length _ (List.drop (Lib.decodeL (c :: r)).2 (c :: r)) (by rw [List.length_drop, List.length_cons]; omega) (Nat.le_refl _)]
    rfl
theorem runes_len : ∀ (n : Nat) (l : Bs), l.length ≤ n → (runes l).length ≤ l.length
  | 0, l, h => by
    have : l = [] := List.eq_nil_of_length_eq_zero (by omega)
    subst this; simp [runes_nil]
  | n + 1, l, h => by
    by_cases e : l = []
    · subst e; simp [runes_nil]
    · have hw := Lib.decodeL_width l
      have hp : 0 < l.length := List.length_pos_iff.2 e
      rw [runes_step e, List.length_cons]
      have := runes_len n (l.drop (Lib.decodeL l).2) (by rw [List.length_drop]; omega)
      rw [List.length_drop] at this
      omega
/-- what the decoder says of a text at a place -/
theorem next_valid {l : Bs} (h : l ≠ []) (hv : Lib.validD l = true) : nextL l = Lib.decodeL l ∧ Lib.validD (l.drop (Lib.decodeL l).2) = true := by
  rw [valid_step h] at hv
  split at hv
  · cases hv
  · rename_i hn
    refine ⟨?_, hv⟩
    unfold nextL
    rw [if_neg h, if_neg (fun e => hn (by rw [e]; exact ⟨rfl, rfl⟩))]
theorem next_pos {l : Bs} (h : l ≠ []) (h0 : (nextL l).2 ≠ 0) : nextL l = Lib.decodeL l ∧ ¬ ((Lib.decodeL l).1 = 65533 ∧ (Lib.decodeL l).2 = 1) := by
  unfold nextL at h0 ⊢
  rw [if_neg h] at h0 ⊢
  split at h0
  · exact absurd rfl h0
  · rename_i hn
    rw [if_neg hn]
    refine ⟨rfl, fun e => hn ?_⟩
    obtain ⟨e1, e2⟩ := e
    exact Prod.ext e1 e2
theorem next_zero {l : Bs} (h : l ≠ []) (h0 : (nextL l).2 = 0) : Lib.validD l = false := by
  unfold nextL at h0
  rw [if_neg h] at h0
  split at h0
  · rename_i e
    rw [valid_step h, if_pos (by rw [e]; exact ⟨rfl, rfl⟩)]
  · have := Lib.decodeL_width l; omega
end UT
end Go.Proofs.YtnpkcobapckhdaaGreatDoor
namespace Go.Proofs.YtnpkcobapckhdaaGreatDoor
open Go.RowKit
set_option maxRecDepth 100000 in
set_option maxHeartbeats 1000000 in
theorem lead_any (v : Nat) (w : World) (hv : v < 256) :
    Calls Tryz.prog 122 #[.int .u8 v] w fun e w' => e = .returned (.tuple #[.int .i64 (UT.lead v).1, .int .i32 (UT.lead v).2]) ∧ w = w' := by
  by_cases h1 : v < 128
  · have HR := Lib.hid (show UT.lead v = (1, v) by unfold UT.lead; rw [if_pos h1])
    go_enter Tryz.func122, Tryz.ntmps122
    go_wp2_with fail
    go_ret2
    exact ⟨by rw [HR.out]; rfl, rfl⟩
  by_cases h2 : v < 192
  · have HR := Lib.hid (show UT.lead v = (0, 0) by unfold UT.lead; rw [if_neg h1, if_neg (by omega), if_neg (by omega), if_neg (by omega)])
    go_enter Tryz.func122, Tryz.ntmps122
    go_wp2_with fail
    go_ret2
    exact ⟨by rw [HR.out]; rfl, rfl⟩
  by_cases h3 : v < 224
  · have HR := Lib.hid (show UT.lead v = (2, v - 192) by unfold UT.lead; rw [if_neg h1, if_pos (by omega)])
    have he : ((v - 192 : Nat) : Int) = (v : Int) - 192 := by omega
    have HE := Lib.hid he
    clear he
    go_enter Tryz.func122, Tryz.ntmps122
    go_wp2_with fail
    go_ret2
    exact ⟨by rw [HR.out]; dsimp only; rw [HE.out]; rfl, rfl⟩
  by_cases h4 : v < 240
  · have HR := Lib.hid (show UT.lead v = (3, v - 224) by unfold UT.lead; rw [if_neg h1, if_neg (by omega), if_pos (by omega)])
    have he : ((v - 224 : Nat) : Int) = (v : Int) - 224 := by omega
    have HE := Lib.hid he
    clear he
    go_enter Tryz.func122, Tryz.ntmps122
    go_wp2_with fail
    go_ret2
    exact ⟨by rw [HR.out]; dsimp only; rw [HE.out]; rfl, rfl⟩
  by_cases h5 : v < 248
  · have HR := Lib.hid (show UT.lead v = (4, v - 240) by unfold UT.lead; rw [if_neg h1, if_neg (by omega), if_neg (by omega), if_pos (by omega)])
    have he : ((v - 240 : Nat) : Int) = (v : Int) - 240 := by omega
    have HE := Lib.hid he
    clear he
    go_enter Tryz.func122, Tryz.ntmps122
    go_wp2_with fail
    go_ret2
    exact ⟨by rw [HR.out]; dsimp only; rw [HE.out]; rfl, rfl⟩
  · have HR := Lib.hid (show UT.lead v = (0, 0) by unfold UT.lead; rw [if_neg h1, if_neg (by omega), if_neg (by omega), if_neg (by omega)])
    go_enter Tryz.func122, Tryz.ntmps122
    go_wp2_with fail
    go_ret2
    exact ⟨by rw [HR.out]; rfl, rfl⟩
set_option maxRecDepth 100000 in
set_option maxHeartbeats 1000000 in
theorem char_any (c : Nat) (w : World) :
    Calls Tryz.prog 91 #[.int .i32 c] w fun e w' => e = .returned (.bool (UT.isCh c)) ∧ w = w' := by
  by_cases h1 : (c : Int) ≤ 1114111
  · by_cases h2 : (c : Int) < 55296
    · have HR := Lib.hid (show UT.isCh c = true from decide_eq_true ⟨by omega, by omega⟩)
      go_enter Tryz.func91, Tryz.ntmps91
      go_wp2_with fail
      go_ret
      exact ⟨by rw [HR.out]; rfl, rfl⟩
    · by_cases h3 : 57343 < (c : Int)
      · have HR := Lib.hid (show UT.isCh c = true from decide_eq_true ⟨by omega, by omega⟩)
        go_enter Tryz.func91, Tryz.ntmps91
        go_wp2_with fail
        go_ret
        exact ⟨by rw [HR.out]; rfl, rfl⟩
      · have HR := Lib.hid (show UT.isCh c = false from decide_eq_false (by omega))
        go_enter Tryz.func91, Tryz.ntmps91
        go_wp2_with fail
        go_ret
        exact ⟨by rw [HR.out]; rfl, rfl⟩
  · have HR := Lib.hid (show UT.isCh c = false from decide_eq_false (by omega))
    go_enter Tryz.func91, Tryz.ntmps91
    go_wp2_with fail
    go_ret
    exact ⟨by rw [HR.out]; rfl, rfl⟩
theorem b_drop {s : ByteArray} {l : List UInt8} (h : Is s l) (pos k : Nat) (hk : pos + k < s.size) : UT.b (l.drop pos) k = (s[pos + k]'hk).toNat := by
  unfold UT.b
  rw [List.getD_eq_getElem?_getD, List.getElem?_drop, h.get _ hk]; rfl
theorem least_cell (w : World) (n : Nat) (hn : n ≤ 4) : (w.alloc (.cells #[.int .i32 0, .int .i32 0, .int .i32 128, .int .i32 2048, .int .i32 65536] 21)).cell? ⟨w.heap.size, n, none⟩ = some (.int .i32 (UT.least n)) := by
  obtain rfl | rfl | rfl | rfl | rfl : n = 0 ∨ n = 1 ∨ n = 2 ∨ n = 3 ∨ n = 4 := by omega
  all_goals (go_simp; try rfl)
theorem next_all {x : List UInt8} {n c : Nat} (h : 0 < x.length) (hl : UT.lead (UT.b x 0) = (n, c)) (hn : 1 ≤ n) (hs : n ≤ x.length) (hc : ∀ k, 1 ≤ k → k < n → 128 ≤ UT.b x k ∧ UT.b x k ≤ 191) :
    UT.nextL x = if UT.accN x c (n - 1) < UT.least n ∨ UT.isCh (UT.accN x c (n - 1)) = false then (0, 0) else (UT.accN x c (n - 1), n) := by
  rcases Nat.lt_or_ge n 2 with h2 | h2
  · obtain rfl : n = 1 := by omega
    obtain ⟨a, rfl⟩ := UT.lead_one hl
    have hch : UT.isCh (UT.b x 0) = true := decide_eq_true ⟨by omega, by omega⟩
    rw [UT.next_one h a]
    show _ = if UT.b x 0 < 0 ∨ UT.isCh (UT.b x 0) = false then (0, 0) else (UT.b x 0, 1)
    rw [if_neg (by rw [hch]; simp)]
  · exact UT.next_end h hl h2 hs hc
theorem lead_bd {v n c : Nat} (h : UT.lead v = (n, c)) : n ≤ 4 ∧ c < 256 := by
  unfold UT.lead at h
  repeat' split at h
  all_goals (injection h with h1 h2; omega)
theorem accN_bd1 {x : List UInt8} {v n c : Nat} (hl : UT.lead v = (n, c)) (hn : 1 ≤ n) (i : Nat) (hi : i < n) : UT.accN x c i < 2097152 := by
  rcases Nat.lt_or_ge n 2 with h2 | h2
  · obtain rfl : i = 0 := by omega
    have := lead_bd hl
    show c < _; omega
  · exact UT.accN_bd hl h2 i hi
set_option maxRecDepth 100000 in
set_option maxHeartbeats 2000000 in
theorem next_any (s : ByteArray) (l : List UInt8) (pos : Nat) (w : World) (h : Is s l) (hp : pos < s.size) (hs : s.size ≤ 140737488351232) :
    Calls Tryz.prog 90 #[.string s, .int .i64 pos] w fun e w' => e = .returned (.tuple #[.int .i32 (UT.nextL (l.drop pos)).1, .int .i64 (UT.nextL (l.drop pos)).2]) ∧ Below w.heap.size w w' := by
  have hb0 := b_drop h pos 0 hp
  have HB := Lib.hid (fun k (hk : pos + k < s.size) => b_drop h pos k hk)
  obtain ⟨x, hx⟩ : ∃ x, l.drop pos = x := ⟨_, rfl⟩
  have hxl : x.length = s.size - pos := by rw [← hx, List.length_drop, h.size]
  rw [hx] at hb0 HB ⊢
  clear hx h
  obtain ⟨n, c, hl⟩ : ∃ n c, UT.lead (UT.b x 0) = (n, c) := ⟨_, _, rfl⟩
  obtain ⟨hn4, hc256⟩ := lead_bd hl
  have HL := Eqv2.mk hl
  obtain ⟨v, hv⟩ : ∃ v, UT.b x 0 = v := ⟨_, rfl⟩
  have hv256 : v < 256 := by rw [← hv]; exact (x.getD 0 0).toNat_lt
  have hvI : (s[pos].toNat : Int) = (v : Int) := by rw [← hv, hb0]; rfl
  have HLV := Eqv2.mk (show UT.lead v = (n, c) by rw [← hv]; exact hl)
  obtain ⟨r, m, hr⟩ : ∃ r m, UT.nextL x = (r, m) := ⟨_, _, rfl⟩
  have HR := Eqv2.mk hr
  rw [hr]
  have hx0 : 0 < x.length := by omega
  have hp0 : (0 : Int) ≤ (pos : Int) := by omega
  clear hl hb0 hv hr
  go_enter Tryz.func90, Tryz.ntmps90
  go_wp2_with fail
  with_reducible refine (lead_any v _ hv256).mono ?_
  rw [HLV.out]
  rintro e w1 ⟨rfl, rfl⟩
  dsimp only
  by_cases hn0 : n = 0
  · have HF := Eqv2.mk (UT.next_bad hx0 (by rw [HL.out]; exact hn0))
    have d0 : ((n : Int) == 0) = true := by rw [hn0]; rfl
    clear hn0
    go_wp2_with fail
    go_ret2
    exact ⟨by have := HR.out.symm.trans HF.out; injection this with e1 e2; rw [e1, e2]; rfl, Below.refl _ _⟩
  have d0 : ((n : Int) == 0) = false := by simpa using hn0
  have hn1 : 1 ≤ n := by omega
  clear hn0
  by_cases hns : x.length < n
  · have HF := Eqv2.mk (show UT.nextL x = (0, 0) by
      rcases Nat.lt_or_ge n 2 with h2 | h2
      · omega
      · exact UT.next_short hx0 HL.out h2 hns)
    have d1 : (s.size : Int) - (pos : Int) < (n : Int) := by omega
    go_wp2_with fail
    go_ret2
    exact ⟨by have := HR.out.symm.trans HF.out; injection this with e1 e2; rw [e1, e2]; rfl, Below.refl _ _⟩
  have d1 : ¬ (s.size : Int) - (pos : Int) < (n : Int) := by omega
  go_wp2_with fail
  go_loop [7, 8] (fun cv iv => ∃ i A : Nat, 1 ≤ i ∧ i ≤ n ∧ iv = .int .i64 i ∧ cv = .int .i32 A ∧ Eqv2 A (UT.accN x c (i - 1)) ∧ (∀ k, 1 ≤ k → k < i → 128 ≤ UT.b x k ∧ UT.b x k ≤ 191)) (fun _ iv => n - (intOf iv).toNat)
  case atStart => exact ⟨1, c, by omega, by omega, rfl, rfl, ⟨rfl⟩, fun k h1 h2 => by omega⟩
  case round =>
    obtain ⟨i, A, hi1, hin, rfl, rfl, hA, hc⟩ := hrel
    have hAb : A < 2097152 := by rw [hA.out]; exact accN_bd1 HL.out hn1 _ (by omega)
    have HC := Lib.hid hc
    clear hc
    by_cases hlt : i < n
    · have hpi : pos + i < s.size := by omega
      obtain ⟨u, hu⟩ : ∃ u, UT.b x i = u := ⟨_, rfl⟩
      have hu256 : u < 256 := by rw [← hu]; exact (x.getD i 0).toNat_lt
      have huI : (s[pos + i].toNat : Int) = (u : Int) := by rw [← hu, HB.out i hpi]
      have HU := Eqv2.mk hu
      clear hu
      by_cases h1 : u < 128
      · have HF := Eqv2.mk (UT.next_cont hx0 HL.out (by omega) hi1 hlt (.inl (by rw [HU.out]; exact h1)))
        go_wp2_with fail
        go_ret2
        exact ⟨by have := HR.out.symm.trans HF.out; injection this with e1 e2; rw [e1, e2]; rfl, Below.refl _ _⟩
      by_cases h2 : 191 < u
      · have HF := Eqv2.mk (UT.next_cont hx0 HL.out (by omega) hi1 hlt (.inr (by rw [HU.out]; exact h2)))
        go_wp2_with fail
        go_ret2
        exact ⟨by have := HR.out.symm.trans HF.out; injection this with e1 e2; rw [e1, e2]; rfl, Below.refl _ _⟩
      have HN := Eqv2.mk (show 64 * A + u - 128 = UT.accN x c (i + 1 - 1) by
        obtain ⟨j, rfl⟩ : ∃ j, i = j + 1 := ⟨i - 1, by omega⟩
        rw [hA.out, Nat.add_sub_cancel, Nat.add_sub_cancel, UT.accN_s, HU.out]; omega)
      go_wp2_with fail
      go_round
      case rel =>
        refine ⟨i + 1, 64 * A + u - 128, by omega, by omega, by go_num, ?_, HN, fun k k1 k2 => ?_⟩
        · congr 1; omega
        · rcases Nat.lt_or_ge k i with h3 | h3
          · exact HC.out k k1 h3
          · obtain rfl : k = i := by omega
            rw [HU.out]; omega
      case measure => simp [intOf]; omega
    · obtain rfl : i = n := by omega
      have hE := next_all hx0 HL.out hn1 (by omega) HC.out
      rw [← hA.out, HR.out] at hE
      have HE := Eqv2.mk hE
      have hle := least_cell w i hn4
      clear hE
      obtain ⟨q, hq⟩ : ∃ q, UT.least i = q := ⟨_, rfl⟩
      have HQ := Eqv2.mk hq
      rw [hq] at hle HE
      clear hq
      by_cases g : A < q
      · have gI : (A : Int) < (q : Int) := by omega
        go_wp2_with fail
        go_ret2
        exact ⟨by have := HE.out; rw [if_pos (.inl g)] at this; injection this with e1 e2; rw [e1, e2]; rfl, (Below.refl _ _).alloc (Nat.le_refl _) _⟩
      · have gI : ¬ (A : Int) < (q : Int) := by omega
        cases hch : UT.isCh A
        · have HCH := Eqv2.mk hch
          clear hch
          go_wp2_with fail
          with_reducible refine (char_any A _).mono ?_
          rw [HCH.out]
          rintro e w2 ⟨rfl, rfl⟩
          go_wp2_with fail
          go_ret2
          exact ⟨by have := HE.out; rw [if_pos (.inr HCH.out)] at this; injection this with e1 e2; rw [e1, e2]; rfl, (Below.refl _ _).alloc (Nat.le_refl _) _⟩
        · have HCH := Eqv2.mk hch
          clear hch
          go_wp2_with fail
          with_reducible refine (char_any A _).mono ?_
          rw [HCH.out]
          rintro e w2 ⟨rfl, rfl⟩
          go_wp2_with fail
          go_ret2
          exact ⟨by have := HE.out; rw [if_neg (by rw [HCH.out]; simp; omega)] at this; injection this with e1 e2; rw [e1, e2]; rfl, (Below.refl _ _).alloc (Nat.le_refl _) _⟩
end Go.Proofs.YtnpkcobapckhdaaGreatDoor
namespace Go.Proofs.YtnpkcobapckhdaaGreatDoor
open Go.RowKit
/-- the slice value v holds the cells cs of type T, in a block of the call's own (from B on), or is nil and holds none -/
def Own1 (T : TypeId) (B : Nat) (v : Value) (cs : List Value) (w : World) : Prop := w.ownsRow B T 1 v cs.length cs
theorem Own1.nil (T : TypeId) (B : Nat) (w : World) : Own1 T B (.slice none 0 0) [] w := World.ownsRow_nil _ _ _ _
theorem Own1.at {T : TypeId} {B : Nat} {v : Value} {cs : List Value} {w : World} (h : Own1 T B v cs w) (h0 : cs ≠ []) :
    ∃ g cap, v = .slice (some ⟨g, 0, none⟩) cs.length cap ∧ B ≤ g ∧ g < w.heap.size ∧ cs.length ≤ cap ∧ (∀ j x, cs[j]? = some x → w.cell? ⟨g, j, none⟩ = some x) ∧ (∀ j, w.frozen? ⟨g, j, none⟩ = false) ∧ ∃ cur, w.heap[g]? = some (.cells cur T (0, 0)) := by
  obtain ⟨h1, ⟨rfl, hn⟩ | ⟨g, cap, cur, rfl, hB, hg, hc, hm, hs, ht⟩⟩ := h
  · exact absurd (List.eq_nil_of_length_eq_zero hn) h0
  · refine ⟨g, cap, rfl, hB, heap_lt hg, hc, fun j x hx => ?_, fun j => Lib.frozen_of_heap hg j, cur, hg⟩
    rw [Lib.cell_of_heap hg]
    have h2 : (cur.toList.take (cs.length * 1))[j]? = some x := by rw [ht, hx]
    have hj : j < cs.length := by
      rcases Nat.lt_or_ge j cs.length with h' | h'
      · exact h'
      · rw [List.getElem?_eq_none h'] at hx; cases hx
    rw [List.getElem?_take, if_pos (by omega)] at h2
    rw [← h2, Array.getElem?_toList]
theorem Own1.frame {T : TypeId} {B : Nat} {v : Value} {cs : List Value} {w : World} (h : Own1 T B v cs w) : ∃ ao cap, v = .slice ao cs.length cap := by
  obtain ⟨_, ⟨hv, hn⟩ | ⟨g, cap, cur, hv, _⟩⟩ := h
  · exact ⟨none, 0, by rw [hv, hn]⟩
  · exact ⟨_, _, hv⟩
theorem Own1.drewN {T : TypeId} {B : Nat} {v : Value} {cs : List Value} {w : World} (h : Own1 T B v cs w) (q : Nat) : Own1 T B v cs (w.drewN q) := h
theorem Own1.alloc {T : TypeId} {B : Nat} {v : Value} {cs : List Value} {w : World} (h : Own1 T B v cs w) (o : Obj) : Own1 T B v cs (w.alloc o) := World.ownsRow.alloc h o
theorem Own1.below {T : TypeId} {B B2 : Nat} {v : Value} {cs : List Value} {w w' : World} (h : Own1 T B v cs w) (hb : Below B2 w w') (hB : w.heap.size ≤ B2) : Own1 T B v cs w' := by
  obtain ⟨h1, h2 | ⟨g, cap, cur, hv, hB', hg, r⟩⟩ := h
  · exact ⟨h1, .inl h2⟩
  · exact ⟨h1, .inr ⟨g, cap, cur, hv, hB', by rw [hb.block g (Nat.lt_of_lt_of_le (heap_lt hg) hB)]; exact hg, r⟩⟩
theorem Own1.snoc {T : TypeId} {B : Nat} {v x : Value} {cs : List Value} {w : World} (h : w.ownsRow B T 1 v (cs.length + 1) (cs ++ [x])) : Own1 T B v (cs ++ [x]) w := by
  unfold Own1
  rw [List.length_append]
  exact h
theorem infoRune : (Tryz.prog.info? 21).map (fun i => (i.zero, i.size, i.bytes)) = some (some (.int .i32 0), 1, 4) := by kernel_rfl
def runeC (xs : List Nat) : List Value := xs.map fun (c : Nat) => Value.int .i32 (c : Int)
def RunesAt (B : Nat) (v : Value) (xs : List Nat) (w : World) : Prop := Own1 21 B v (runeC xs) w
/-- what Runes hands back -/
def RunesOf (l : List UInt8) (w : World) (e : Ending) (w' : World) : Prop :=
  Below w.heap.size w w' ∧ ((Lib.validD l = false ∧ e = .returned (.tuple #[.slice none 0 0, .bool false])) ∨ (Lib.validD l = true ∧ ∃ v, RunesAt w.heap.size v (UT.runes l) w' ∧ e = .returned (.tuple #[v, .bool true])))
set_option maxRecDepth 100000 in
set_option maxHeartbeats 2000000 in
theorem runes_any (s : ByteArray) (l : List UInt8) (w : World) (h : Is s l) (hs : s.size ≤ 17592186044416) :
    Calls Tryz.prog 40 #[.string s] w (RunesOf l w) := by
  have HI := Lib.hid h
  have hz := h.size
  clear h
  obtain ⟨i0, hi, hz0, hz1, hz2⟩ := info_parts infoRune
  go_enter Tryz.func40, Tryz.ntmps40
  go_wp2_with fail
  go_loopw [4, 5] (fun v av wr => ∃ (xs : List Nat) (pos : Nat), pos ≤ s.size ∧ av = .int .i64 pos ∧ RunesAt w.heap.size v xs wr ∧ xs.length ≤ pos ∧ Eqv2 (UT.runes l) (xs ++ UT.runes (l.drop pos)) ∧ Eqv2 (Lib.validD l) (Lib.validD (l.drop pos)) ∧ Below w.heap.size w wr) (fun _ av _ => s.size - (intOf av).toNat)
  case atStart => exact ⟨[], 0, Nat.zero_le _, rfl, Own1.nil _ _ _, Nat.le_refl _, ⟨rfl⟩, ⟨rfl⟩, Below.refl _ _⟩
  case round =>
    obtain ⟨xs, pos, hp, rfl, hx, hxp, HRU, HVA, hb⟩ := hrel
    have HB := Lib.hid hb
    have hsw := hb.size
    have hcl : (runeC xs).length = xs.length := by unfold runeC; rw [List.length_map]
    obtain ⟨ao, cap, rfl⟩ := hx.frame
    have hown : wr.ownsRow w.heap.size 21 1 _ (runeC xs).length (runeC xs) := hx
    have HX := Lib.hid hx
    clear hb hx
    by_cases hlt : pos < s.size
    · have hne : l.drop pos ≠ [] := by intro e; have := congrArg List.length e; rw [List.length_drop] at this; simp at this; omega
      have HNE := Lib.hid hne
      obtain ⟨r, n, hr⟩ : ∃ r n, UT.nextL (l.drop pos) = (r, n) := ⟨_, _, rfl⟩
      have HR := Eqv2.mk hr
      clear hne hr
      go_wp2_with fail
      with_reducible refine (next_any s l pos _ HI.out hlt (by omega)).mono ?_
      rw [HR.out]
      rintro e w2 ⟨rfl, hb2⟩
      have HB2 := Lib.hid (HB.out.trans (hb2.mono HB.out.size))
      have hown2 := (Own1.below HX.out hb2 (Nat.le_refl _) : Own1 _ _ _ _ _)
      have HX2 := Lib.hid hown2
      have hs2 := hb2.size
      clear hb2 hown hown2
      dsimp only
      by_cases h0 : n = 0
      · have HF := Eqv2.mk (UT.next_zero HNE.out (by rw [HR.out]; exact h0))
        have d0 : ((n : Int) == 0) = true := by rw [h0]; rfl
        clear h0
        go_wp2_with fail
        go_ret2
        exact ⟨HB2.out, .inl ⟨by rw [HVA.out, HF.out], rfl⟩⟩
      · obtain ⟨e1, e2⟩ := UT.next_pos HNE.out (by rw [HR.out]; exact h0)
        rw [HR.out] at e1
        have hw := Lib.decodeL_le (l.drop pos) HNE.out
        rw [← e1, List.length_drop] at hw
        dsimp only at hw
        have HRU2 : Eqv2 (UT.runes l) ((xs ++ [r]) ++ UT.runes (l.drop (pos + n))) := ⟨by
          rw [HRU.out, UT.runes_step HNE.out, ← e1, List.drop_drop, List.append_assoc]; rfl⟩
        have HVA2 : Eqv2 (Lib.validD l) (Lib.validD (l.drop (pos + n))) := ⟨by
          rw [HVA.out, UT.valid_step HNE.out, if_neg e2, ← e1, List.drop_drop]⟩
        have d0 : ((n : Int) == 0) = false := by simpa using h0
        have hpn : pos + n ≤ s.size := by omega
        have hn1 : 1 ≤ n := by omega
        clear h0 e1 e2 hw
        have hownA : (w2.alloc (.cells #[.int .i32 r] 21)).ownsRow w.heap.size 21 1 (.slice ao (runeC xs).length cap) (runeC xs).length (runeC xs) := HX2.out.alloc _
        go_wp2_with (at_builtin; refine wpList_append_own _ rfl _ _ 54 rfl w.heap.size 21 i0 (.int .i32 0) 1 4 Tryz.underlying54 hi hz0 hz1 hz2 rfl (by decide) _ _ _ rfl hownA ⟨w2.heap.size, 0, none⟩ 1 1 [.int .i32 r] rfl rfl ?c1 ?c2 ?c3 ?c4 ?c5 ?_)
        case c1 => exact cell_one_new _ _ _
        case c2 => intro u hu; simp at hu; subst hu; rfl
        case c3 => unfold maxLen; omega
        case c4 => omega
        case c5 => simp; omega
        intro v' w3 hown' hgrow _
        have hx3 : RunesAt w.heap.size v' (xs ++ [r]) w3 := by unfold RunesAt; have := Own1.snoc (cs := runeC xs) (by rw [hcl]; exact hown'); unfold runeC at this ⊢; rw [List.map_append]; exact this
        have hb3 : Below w.heap.size w w3 := (HB2.out.alloc HB2.out.size _).grown hgrow (by simp; omega) (fun k hk => (World.ownsRow.lt HX2.out k (by rw [hcl]; exact hk)).1)
        have HX3 := Lib.hid hx3
        have HB3 := Lib.hid hb3
        clear hx3 hb3 hown' hgrow hownA
        go_wp2_with fail
        go_roundw
        case rel => exact ⟨xs ++ [r], pos + n, hpn, by go_num, HX3.out, by rw [List.length_append]; show xs.length + 1 ≤ _; omega, HRU2, HVA2, HB3.out⟩
        case measure => simp [intOf]; omega
    · have hnil : l.drop pos = [] := List.drop_eq_nil_of_le (by omega)
      have HRU2 : Eqv2 xs (UT.runes l) := ⟨by rw [HRU.out, hnil, UT.runes_nil, List.append_nil]⟩
      have HVA2 : Eqv2 (Lib.validD l) true := ⟨by rw [HVA.out, hnil]; rfl⟩
      clear hnil
      go_wp2_with fail
      go_ret2
      exact ⟨HB.out, .inr ⟨HVA2.out, _, by rw [← HRU2.out]; exact HX.out, rfl⟩⟩
theorem count_any (s : ByteArray) (l : List UInt8) (w : World) (h : Is s l) (hs : s.size ≤ 17592186044416) :
    Calls Tryz.prog 17 #[.string s] w fun e w' => e = .returned (.int .i64 (if Lib.validD l = true then ((UT.runes l).length : Int) else -1)) ∧ Below w.heap.size w w' := by
  have HI := Lib.hid h
  clear h
  obtain ⟨R, hR⟩ : ∃ R, (if Lib.validD l = true then ((UT.runes l).length : Int) else -1) = R := ⟨_, rfl⟩
  have HR := Eqv2.mk hR
  rw [hR]
  clear hR
  go_enter Tryz.func17, Tryz.ntmps17
  go_wp2_with fail
  with_reducible refine (runes_any s l _ HI.out hs).mono ?_
  rintro e w1 ⟨hb, ⟨hv, rfl⟩ | ⟨hv, v, hx, rfl⟩⟩
  · have HV := Eqv2.mk hv
    have HB := Lib.hid hb
    clear hv hb
    go_wp2_with fail
    go_ret
    exact ⟨by rw [← HR.out, if_neg (by rw [HV.out]; simp)]; rfl, HB.out⟩
  · obtain ⟨ao, cap, rfl⟩ := hx.frame
    have hl : (runeC (UT.runes l)).length = (UT.runes l).length := by unfold runeC; rw [List.length_map]
    rw [hl]
    have HV := Eqv2.mk hv
    have HB := Lib.hid hb
    clear hv hb hx hl
    go_wp2_with fail
    go_ret
    exact ⟨by rw [← HR.out, if_pos HV.out]; rfl, HB.out⟩
end Go.Proofs.YtnpkcobapckhdaaGreatDoor
namespace Go.Proofs.YtnpkcobapckhdaaGreatDoor
open Go.RowKit
namespace UT
def cl (c : Nat) : Nat := if c < 128 then 1 else if c < 2048 then 2 else if c < 65536 then 3 else 4
def thr (n : Nat) : Nat := if n = 0 then 0 else if n = 1 then 128 else if n = 2 then 2048 else 65536
def fst (n : Nat) : Nat := if n = 2 then 192 else if n = 3 then 224 else if n = 4 then 240 else 0
/-- the last j bytes of a code -/
def tl (c : Nat) : Nat → Bs
  | 0 => []
  | j + 1 => UInt8.ofNat (128 + c / 64 ^ j % 64) :: tl c j
theorem tl_len (c : Nat) : ∀ j, (tl c j).length = j
  | 0 => rfl
  | j + 1 => by rw [tl, List.length_cons, tl_len c j]
theorem cl_cases (c : Nat) : (c < 128 ∧ cl c = 1) ∨ (128 ≤ c ∧ c < 2048 ∧ cl c = 2) ∨ (2048 ≤ c ∧ c < 65536 ∧ cl c = 3) ∨ (65536 ≤ c ∧ cl c = 4) := by
  unfold cl
  repeat' split
  all_goals omega
theorem thr_cases {n : Nat} (h1 : 1 ≤ n) (h4 : n ≤ 3) : (n = 1 ∧ thr n = 128) ∨ (n = 2 ∧ thr n = 2048) ∨ (n = 3 ∧ thr n = 65536) := by
  obtain rfl | rfl | rfl : n = 1 ∨ n = 2 ∨ n = 3 := by omega
  · exact .inl ⟨rfl, rfl⟩
  · exact .inr (.inl ⟨rfl, rfl⟩)
  · exact .inr (.inr ⟨rfl, rfl⟩)
theorem cl_bd (c : Nat) : 1 ≤ cl c ∧ cl c ≤ 4 := by have := cl_cases c; omega
theorem thr_ge {c n : Nat} (h1 : 1 ≤ n) (h : n ≤ cl c) (h4 : n = 4 ∨ (n ≤ 3 ∧ c < thr n)) : n = cl c := by
  have := cl_cases c
  rcases h4 with h4 | ⟨h3, h4⟩
  · omega
  · have := thr_cases h1 h3; omega
theorem thr_step {c n : Nat} (h1 : 1 ≤ n) (h : n ≤ cl c) (h4 : n < 4) (hc : thr n ≤ c) : n + 1 ≤ cl c := by
  have := cl_cases c
  have := thr_cases h1 (by omega)
  omega
theorem fst_bd {c n : Nat} (hn : n = cl c) (h2 : 2 ≤ n) (hc : c ≤ 1114111) : fst n + c / 64 ^ (n - 1) < 256 := by
  have := cl_cases c
  obtain rfl | rfl | rfl : n = 2 ∨ n = 3 ∨ n = 4 := by omega
  · show 192 + c / 64 < 256; omega
  · show 224 + c / 4096 < 256; omega
  · show 240 + c / 262144 < 256; omega
theorem byteZ (z : Int) (n : Nat) (h : z = (n : Int)) : z.toNat.toUInt8 = UInt8.ofNat n := by subst h; rfl
theorem enc_one {c : Nat} (h : c < 128) : Lib.encodeRune (c : Int) = [UInt8.ofNat c] := by
  unfold Lib.encodeRune
  rw [Lib.encodeRuneZ_one (by omega) (by omega)]; rfl
theorem enc_tl {c n : Nat} (hc : isCh c = true) (hn : n = cl c) (h2 : 2 ≤ n) : Lib.encodeRune (c : Int) = UInt8.ofNat (fst n + c / 64 ^ (n - 1)) :: tl c (n - 1) := by
  have h := of_decide_eq_true hc
  unfold Lib.encodeRune
  have hcc := cl_cases c
  obtain rfl | rfl | rfl : n = 2 ∨ n = 3 ∨ n = 4 := by omega
  · rw [Lib.encodeRuneZ_two (by omega) (by omega)]
    simp only [List.map_cons, List.map_nil]
    rw [byteZ (192 + (c : Int) / 64) (192 + c / 64) (by omega), byteZ (128 + (c : Int) % 64) (128 + c % 64) (by omega)]
    simp [fst, tl]
  · rw [Lib.encodeRuneZ_three (by omega)]
    simp only [List.map_cons, List.map_nil]
    rw [byteZ (224 + (c : Int) / 4096) (224 + c / 4096) (by omega), byteZ (128 + (c : Int) / 64 % 64) (128 + c / 64 % 64) (by omega), byteZ (128 + (c : Int) % 64) (128 + c % 64) (by omega)]
    simp [fst, tl]
  · have e : Lib.encodeRuneZ (c : Int) = [240 + (c : Int) / 262144, 128 + (c : Int) / 4096 % 64, 128 + (c : Int) / 64 % 64, 128 + (c : Int) % 64] := by
      unfold Lib.encodeRuneZ
      rw [if_neg (by omega), if_neg (by omega), if_neg (by omega), if_pos (by omega)]
    rw [e]
    simp only [List.map_cons, List.map_nil]
    rw [byteZ (240 + (c : Int) / 262144) (240 + c / 262144) (by omega), byteZ (128 + (c : Int) / 4096 % 64) (128 + c / 4096 % 64) (by omega), byteZ (128 + (c : Int) / 64 % 64) (128 + c / 64 % 64) (by omega), byteZ (128 + (c : Int) % 64) (128 + c % 64) (by omega)]
    simp [fst, tl]
end UT
def byteC (l : List UInt8) : List Value := l.map fun (c : UInt8) => Value.int .u8 (c.toNat : Int)
def BytesAt (B : Nat) (v : Value) (l : List UInt8) (w : World) : Prop := Own1 5 B v (byteC l) w
theorem byteC_len (l : List UInt8) : (byteC l).length = l.length := by unfold byteC; rw [List.length_map]
/-- string(b) of bytes of the call's own -/
theorem conv_own {B : Nat} {v : Value} {l : List UInt8} {w : World} (h : BytesAt B v l w) : (Go.convert 84 9 v).run Tryz.prog w = .ok (.string ⟨l.toArray⟩) w := by
  cases l with
  | nil =>
    obtain ⟨_, ⟨rfl, _⟩ | ⟨g, cap, cur, rfl, hB, hg, hc, hm, hs, ht⟩⟩ := h
    · exact run_convert_bytes_nil (P := Tryz.prog) w 84 5 Tryz.underlying84 Tryz.underlying5 0 0 9 Tryz.underlying9
    · exact run_convert_bytes_back w 84 9 5 ⟨g, 0, none⟩ cap [] Tryz.underlying84 Tryz.underlying5 Tryz.underlying9 (fun j hj => by simp at hj)
  | cons x r =>
    obtain ⟨g, cap, rfl, hB, hg, hc, hcell, _⟩ := h.at (by unfold byteC; simp)
    rw [byteC_len]
    refine run_convert_bytes_back w 84 9 5 ⟨g, 0, none⟩ cap (x :: r) Tryz.underlying84 Tryz.underlying5 Tryz.underlying9 (fun j hj => ?_)
    have := hcell j (.int .u8 ((x :: r)[j].toNat : Int)) (by unfold byteC; rw [List.getElem?_map, List.getElem?_eq_getElem hj]; rfl)
    rw [Addr.add_lit, Nat.zero_add]; exact this
/-- a literal of one byte is the call's own -/
theorem lit_own (B : Nat) (w : World) (u : UInt8) (z : Int) (hz : z = (u.toNat : Int)) (hB : B ≤ w.heap.size) : BytesAt B (.slice (some ⟨w.heap.size, 0, none⟩) 1 1) [u] (w.alloc (.cells #[.int .u8 z] 5)) := by
  subst hz
  exact ⟨rfl, .inr ⟨w.heap.size, 1, #[.int .u8 (u.toNat : Int)], rfl, hB, (MapKept.heap_alloc w _).1, Nat.le_refl _, by unfold maxLen; omega, rfl, rfl⟩⟩
theorem thr_cell (w : World) (n : Nat) (hn : n ≤ 3) : (w.alloc (.cells #[.int .i32 0, .int .i32 128, .int .i32 2048, .int .i32 65536] 21)).cell? ⟨w.heap.size, n, none⟩ = some (.int .i32 (UT.thr n)) := by
  obtain rfl | rfl | rfl | rfl : n = 0 ∨ n = 1 ∨ n = 2 ∨ n = 3 := by omega
  all_goals (go_simp; try rfl)
theorem fst_cell (w : World) (n : Nat) (hn : n ≤ 4) : (w.alloc (.cells #[.int .i32 0, .int .i32 0, .int .i32 192, .int .i32 224, .int .i32 240] 21)).cell? ⟨w.heap.size, n, none⟩ = some (.int .i32 (UT.fst n)) := by
  obtain rfl | rfl | rfl | rfl | rfl : n = 0 ∨ n = 1 ∨ n = 2 ∨ n = 3 ∨ n = 4 := by omega
  all_goals (go_simp; try rfl)
theorem u8n (z : Int) (n : Nat) (h : z = (n : Int)) (h2 : n < 256) : z = ((UInt8.ofNat n).toNat : Int) := by
  subst h
  have : (UInt8.ofNat n).toNat = n % 256 := rfl
  omega
/-- the last bytes of a code, as they lie -/
def TailAt (B c j : Nat) (v : Value) (w : World) : Prop :=
  (j = 0 ∧ v = .slice none 0 0) ∨ (1 ≤ j ∧ ∃ g cap, v = .slice (some ⟨g, 0, none⟩) j cap ∧ B ≤ g ∧ g < w.heap.size ∧ j ≤ cap ∧ ∀ k u, (byteC (UT.tl c j))[k]? = some u → w.cell? ⟨g, k, none⟩ = some u)
theorem tailAt_mk {B c j : Nat} {v : Value} {w : World} (h : BytesAt B v (UT.tl c (j + 1)) w) : TailAt B c (j + 1) v w := by
  obtain ⟨g, cap, rfl, hB, hg, hc, hcell, _⟩ := h.at (by unfold byteC; rw [UT.tl]; simp)
  have hl : (byteC (UT.tl c (j + 1))).length = j + 1 := by rw [byteC_len, UT.tl_len]
  rw [hl] at hc ⊢
  exact .inr ⟨by omega, g, cap, rfl, hB, hg, hc, hcell⟩
set_option maxRecDepth 100000 in
set_option maxHeartbeats 2000000 in
theorem code_any (c : Nat) (w : World) (hc : UT.isCh c = true) :
    Calls Tryz.prog 92 #[.int .i32 c] w fun e w' => (∃ b, Is b (Lib.encodeRune (c : Int)) ∧ e = .returned (.string b)) ∧ Below w.heap.size w w' := by
  have HC := Lib.hid hc
  have hcb : c ≤ 1114111 := (of_decide_eq_true hc).1
  have hcl := UT.cl_bd c
  obtain ⟨N, hN⟩ : ∃ N, N = UT.cl c := ⟨_, rfl⟩
  have HN := Eqv2.mk hN
  rw [← hN] at hcl
  obtain ⟨hN1, hN4⟩ := hcl
  obtain ⟨i0, hi, hz0, hz1, hz2⟩ := info_parts infoByte
  clear hc hN
  go_enter Tryz.func92, Tryz.ntmps92
  go_upto_block 0 with fail
  go_cut [3] from 6 to 17 (fun nv wx => nv = .int .i64 N ∧ Below w.heap.size w wx)
  case first =>
    go_wp2_with fail
    go_loopw [3] (fun nv wr => ∃ n : Nat, 1 ≤ n ∧ n ≤ N ∧ nv = .int .i64 n ∧ Below w.heap.size w wr) (fun nv _ => 4 - (intOf nv).toNat)
    case atStart => exact ⟨1, by omega, hN1, rfl, Below.refl _ _⟩
    case round =>
      obtain ⟨n, h1, hn, rfl, hb⟩ := hrel
      have HB := Lib.hid hb
      clear hb
      by_cases h4 : n < 4
      · have hcell := thr_cell wr n (by omega)
        obtain ⟨q, hq⟩ : ∃ q, UT.thr n = q := ⟨_, rfl⟩
        have HQ := Eqv2.mk hq
        rw [hq] at hcell
        clear hq
        by_cases hcq : q ≤ c
        · have hqI : (q : Int) ≤ (c : Int) := by omega
          have hst : n + 1 ≤ N := by rw [HN.out]; exact UT.thr_step h1 (by rw [← HN.out]; exact hn) h4 (by rw [HQ.out]; exact hcq)
          go_wp2_with fail
          go_roundw
          case rel => exact ⟨n + 1, by omega, hst, by go_num, HB.out.alloc HB.out.size _⟩
          case measure => simp [intOf]; omega
        · have hqI : ¬ (q : Int) ≤ (c : Int) := by omega
          have hst : n = N := by rw [HN.out]; exact UT.thr_ge h1 (by rw [← HN.out]; exact hn) (.inr ⟨by omega, by rw [HQ.out]; omega⟩)
          subst hst
          go_wp2_with fail
          go_meet
          case rel => exact ⟨rfl, HB.out.alloc HB.out.size _⟩
      · have hst : n = N := by omega
        subst hst
        go_wp2_with fail
        go_meet
        case rel => exact ⟨rfl, HB.out⟩
  case rest =>
    obtain ⟨rfl, hb⟩ := hcut
    have HB := Lib.hid hb
    have hsz := hb.size
    clear hb
    by_cases h1 : N = 1
    · have hc7 : c < 128 := by have := UT.cl_cases c; have := HN.out; omega
      have d1 : ((N : Int) == 1) = true := by rw [h1]; rfl
      have hcv := conv_own (lit_own 0 wc (UInt8.ofNat c) (c : Int) (u8n _ c rfl (by omega)) (Nat.zero_le _))
      have HE := Eqv2.mk (UT.enc_one hc7)
      clear h1
      go_wp2_with fail
      go_ret
      exact ⟨⟨_, by rw [HE.out]; exact Is.mk _, rfl⟩, HB.out.alloc HB.out.size _⟩
    · have d1 : ((N : Int) == 1) = false := by rw [beq_eq_false_iff_ne]; omega
      have hN2 : 2 ≤ N := by omega
      have HE := Eqv2.mk (UT.enc_tl HC.out HN.out hN2)
      have hfb := UT.fst_bd HN.out hN2 hcb
      clear h1
      go_wp2_with fail
      go_loopw [0, 4] (fun cv v wr => ∃ (j d : Nat), j ≤ N - 1 ∧ cv = .int .i32 d ∧ Eqv2 d (c / 64 ^ j) ∧ d ≤ c ∧ TailAt w.heap.size c j v wr ∧ Below w.heap.size w wr) (fun _ v _ => match v with | .slice _ n _ => 4 - n | _ => 0)
      case atStart => exact ⟨0, c, Nat.zero_le _, rfl, ⟨by simp⟩, Nat.le_refl _, .inl ⟨rfl, rfl⟩, HB.out⟩
      case round =>
        obtain ⟨j, d, hj, rfl, HD, hdc, hx, hb⟩ := hrel
        have HBr := Lib.hid hb
        have hbs := hb.size
        have hs64 : d / 64 = c / 64 ^ (j + 1) := by rw [HD.out, Nat.pow_succ, Nat.div_div_eq_div_mul]
        have HS := Eqv2.mk hs64
        have hU0 : (128 + (d : Int) % 64) = ((UInt8.ofNat (128 + d % 64)).toNat : Int) := u8n _ (128 + d % 64) (by omega) (by omega)
        obtain ⟨U, hU⟩ : ∃ U, UInt8.ofNat (128 + d % 64) = U := ⟨_, rfl⟩
        have HTL := Eqv2.mk (show UT.tl c (j + 1) = U :: UT.tl c j by rw [UT.tl, ← hU, HD.out])
        rw [hU] at hU0
        have hlit := lit_own w.heap.size wr U (128 + (d : Int) % 64) hU0 hbs
        have hown : (wr.alloc (.cells #[.int .u8 (128 + (d : Int) % 64)] 5)).ownsRow w.heap.size 5 1 (.slice (some ⟨wr.heap.size, 0, none⟩) 1 1) 1 (byteC [U]) := hlit
        have HLIT := Lib.hid hlit
        have HBA := Lib.hid (HBr.out.alloc HBr.out.size (.cells #[.int .u8 (128 + (d : Int) % 64)] 5))
        clear hU0 hU
        clear hs64 hb hlit
        by_cases hlt : j < N - 1
        · have hltI : (j : Int) < (N : Int) - 1 := by omega
          rcases hx with ⟨rfl, rfl⟩ | ⟨hj1, g, cap, rfl, hgB, hgl, hcap, hcell⟩
          · go_wp2_with fail
            go_roundw
            case rel => exact ⟨0 + 1, d / 64, by omega, by go_num, HS, by omega, tailAt_mk (by rw [HTL.out]; exact HLIT.out), HBA.out⟩
            case measure => simp
          · have hnews : ∀ k u, (byteC (UT.tl c j))[k]? = some u → (wr.alloc (.cells #[.int .u8 (128 + (d : Int) % 64)] 5)).cell? ((⟨g, 0, none⟩ : Addr).add k) = some u := fun k u hk => by
              rw [Addr.add_lit, Nat.zero_add]
              exact (World.cell?_alloc_lt _ _ _ hgl).trans (hcell k u hk)
            have HNEW := Lib.hid hnews
            have hl : (byteC (UT.tl c j)).length = j * 1 := by rw [byteC_len, UT.tl_len, Nat.mul_one]
            clear hnews hcell
            go_wp2_with (at_builtin; refine wpList_append_own _ rfl _ _ 84 rfl w.heap.size 5 i0 (.int .u8 0) 1 1 Tryz.underlying84 hi hz0 hz1 hz2 rfl (by decide) _ _ _ rfl hown ⟨g, 0, none⟩ j cap (byteC (UT.tl c j)) rfl hl HNEW.out ?c2 ?c3 ?c4 ?c5 ?_)
            case c2 => intro u hu; unfold byteC at hu; obtain ⟨x, _, rfl⟩ := List.mem_map.1 hu; rfl
            case c3 => unfold maxLen; omega
            case c4 => omega
            case c5 => simp; omega
            intro v' w3 hown' hgrow _
            have hB3 : Below w.heap.size w w3 := HBA.out.grown hgrow (by simp; omega) (fun k hk => (World.ownsRow.lt hown k hk).1)
            have hx3 : BytesAt w.heap.size v' (UT.tl c (j + 1)) w3 := by
              rw [HTL.out]
              unfold BytesAt Own1
              have e : byteC (U :: UT.tl c j) = byteC [U] ++ byteC (UT.tl c j) := rfl
              rw [e, List.length_append, byteC_len, byteC_len, UT.tl_len]
              exact hown'
            obtain hx4 := tailAt_mk hx3
            have hx5 := hx4
            rcases hx5 with ⟨h0, _⟩ | ⟨_, g', cap', rfl, _⟩
            · omega
            have HX4 := Lib.hid hx4
            have HB3 := Lib.hid hB3
            clear hown' hgrow hB3 hx3 hx4 hown hl
            go_wp2_with fail
            go_roundw
            case rel => exact ⟨j + 1, d / 64, by omega, by go_num, HS, by omega, HX4.out, HB3.out⟩
            case measure => simp; omega
        · obtain rfl : j = N - 1 := by omega
          rcases hx with ⟨h0, _⟩ | ⟨hj1, g, cap, rfl, hgB, hgl, hcap, hcell⟩
          · omega
          have hd : d = c / 64 ^ (N - 1) := HD.out
          have hEE := HE.out
          rw [← hd] at hfb hEE
          obtain ⟨f, hf⟩ : ∃ f, UT.fst N = f := ⟨_, rfl⟩
          have hfc := fst_cell wr N hN4
          rw [hf] at hfc hfb hEE
          obtain ⟨V, hV⟩ : ∃ V, UInt8.ofNat (f + d) = V := ⟨_, rfl⟩
          have hV0 : ((f : Int) + (d : Int)) = (V.toNat : Int) := by rw [← hV]; exact u8n _ (f + d) (by omega) hfb
          rw [hV] at hEE
          have HEE := Eqv2.mk hEE
          have hw2 : ∀ o : Obj, Below w.heap.size w (wr.alloc o) := fun o => HBr.out.alloc HBr.out.size o
          obtain ⟨wf, hwf⟩ : ∃ wf, wr.alloc (.cells #[.int .i32 0, .int .i32 0, .int .i32 192, .int .i32 224, .int .i32 240] 21) = wf := ⟨_, rfl⟩
          have hBf : Below w.heap.size w wf := by rw [← hwf]; exact hw2 _
          have hgf : g < wf.heap.size := by rw [← hwf]; simp; omega
          have hcf : ∀ k u, (byteC (UT.tl c (N - 1)))[k]? = some u → wf.cell? ⟨g, k, none⟩ = some u := fun k u hk => by
            rw [← hwf]; exact (World.cell?_alloc_lt _ _ _ hgl).trans (hcell k u hk)
          have hlit2 := lit_own w.heap.size wf V (V.toNat : Int) rfl hBf.size
          have hown2 : (wf.alloc (.cells #[.int .u8 (V.toNat : Int)] 5)).ownsRow w.heap.size 5 1 (.slice (some ⟨wf.heap.size, 0, none⟩) 1 1) 1 (byteC [V]) := hlit2
          have hnews : ∀ k u, (byteC (UT.tl c (N - 1)))[k]? = some u → (wf.alloc (.cells #[.int .u8 (V.toNat : Int)] 5)).cell? ((⟨g, 0, none⟩ : Addr).add k) = some u := fun k u hk => by
            rw [Addr.add_lit, Nat.zero_add]
            exact (World.cell?_alloc_lt _ _ _ hgf).trans (hcf k u hk)
          have HNEW := Lib.hid hnews
          have hl : (byteC (UT.tl c (N - 1))).length = (N - 1) * 1 := by rw [byteC_len, UT.tl_len, Nat.mul_one]
          have hj1 : (N : Int) - 1 = ((N - 1 : Nat) : Int) := by omega
          rw [hwf] at hfc
          have HOWN2 := Lib.hid hown2
          clear hnews hcf hcell hlit2 hf hd hV
          go_wp2_with (at_builtin; refine wpList_append_own _ rfl _ _ 84 rfl w.heap.size 5 i0 (.int .u8 0) 1 1 Tryz.underlying84 hi hz0 hz1 hz2 rfl (by decide) _ _ _ rfl hown2 ⟨g, 0, none⟩ (N - 1) cap (byteC (UT.tl c (N - 1))) rfl hl HNEW.out ?c2 ?c3 ?c4 ?c5 ?_)
          case c2 => intro u hu; unfold byteC at hu; obtain ⟨x, _, rfl⟩ := List.mem_map.1 hu; rfl
          case c3 => unfold maxLen; omega
          case c4 => omega
          case c5 => have := hBf.size; simp; omega
          intro v' w3 hown' hgrow _
          have hB3 : Below w.heap.size w w3 := (hBf.alloc hBf.size _).grown hgrow (by have := hBf.size; simp; omega) (fun k hk => (World.ownsRow.lt HOWN2.out k hk).1)
          have hx3 : BytesAt w.heap.size v' (V :: UT.tl c (N - 1)) w3 := by
            unfold BytesAt Own1
            have e : byteC (V :: UT.tl c (N - 1)) = byteC [V] ++ byteC (UT.tl c (N - 1)) := rfl
            rw [e, List.length_append, byteC_len, byteC_len, UT.tl_len]
            have e2 : ([V] : List UInt8).length + (N - 1) = N := by show 1 + (N - 1) = N; omega
            rw [e2]
            exact hown'
          have hcv := conv_own hx3
          have HB3 := Lib.hid hB3
          clear hown' hgrow hB3 hx3
          go_wp2_with fail
          go_ret
          exact ⟨⟨_, by rw [HEE.out]; exact Is.mk _, rfl⟩, HB3.out⟩
end Go.Proofs.YtnpkcobapckhdaaGreatDoor
namespace Go.Proofs.YtnpkcobapckhdaaGreatDoor
open Go.RowKit
/-- the code of a list of characters -/
def UT.enc (xs : List Nat) : List UInt8 := xs.flatMap fun (c : Nat) => Lib.encodeRune ((c : Nat) : Int)
theorem UT.enc_len (xs : List Nat) : (UT.enc xs).length ≤ 4 * xs.length := by
  unfold UT.enc
  induction xs with
  | nil => simp
  | cons c r ih =>
    have : (Lib.encodeRune (c : Int)).length ≤ 4 := by
      unfold Lib.encodeRune Lib.encodeRuneZ
      rw [List.length_map]
      repeat' split
      all_goals simp
    rw [List.flatMap_cons, List.length_append, List.length_cons]; omega
theorem below_cellU {B : Nat} {w w' : World} {p : Addr} {v : Value} (h : w.cell? p = some v) (hb : Below B w w') (hB : w.heap.size ≤ B) : w'.cell? p = some v := by
  rw [hb.cell (Nat.lt_of_lt_of_le (World.block_lt_of_cell? w p h) hB)]; exact h
/-- a list of characters as it lies -/
def RunesLie (v : Value) (xs : List Nat) (w : World) : Prop := ∃ ao cap, v = .slice ao xs.length cap ∧ ∀ k, k < xs.length → ∃ g, ao = some ⟨g, 0, none⟩ ∧ w.cell? ⟨g, k, none⟩ = some (.int .i32 (xs.getD k 0))
theorem RunesAt.lie {B : Nat} {v : Value} {xs : List Nat} {w : World} (h : RunesAt B v xs w) : RunesLie v xs w := by
  have hl : (runeC xs).length = xs.length := by unfold runeC; rw [List.length_map]
  by_cases h0 : xs = []
  · subst h0
    obtain ⟨ao, cap, rfl⟩ := h.frame
    exact ⟨ao, cap, rfl, fun k hk => by simp at hk⟩
  · obtain ⟨g, cap, rfl, hB, hg, hc, hcell, _⟩ := h.at (by intro e; rw [e] at hl; exact h0 (List.eq_nil_of_length_eq_zero hl.symm))
    rw [hl]
    refine ⟨_, _, rfl, fun k hk => ⟨g, rfl, hcell k _ ?_⟩⟩
    unfold runeC
    rw [List.getElem?_map, List.getD_eq_getElem?_getD, List.getElem?_eq_getElem hk]; rfl
theorem RunesLie.below {v : Value} {xs : List Nat} {w w' : World} {B : Nat} (h : RunesLie v xs w) (hb : Below B w w') (hB : w.heap.size ≤ B) : RunesLie v xs w' := by
  obtain ⟨ao, cap, rfl, hc⟩ := h
  exact ⟨ao, cap, rfl, fun k hk => let ⟨g, e, c⟩ := hc k hk; ⟨g, e, below_cellU c hb hB⟩⟩
theorem byteC_str (s : ByteArray) (l : List UInt8) (h : Is s l) : Lib.strCells s = byteC l := by
  rw [← h.data]; rfl
set_option maxRecDepth 100000 in
set_option maxHeartbeats 2000000 in
theorem utext_any (v : Value) (xs : List Nat) (w : World) (h : RunesLie v xs w) (hc : ∀ c ∈ xs, UT.isCh c = true) (hn : xs.length ≤ 17592186044416) :
    Calls Tryz.prog 42 #[v] w fun e w' => (∃ b, Is b (UT.enc xs) ∧ e = .returned (.string b)) ∧ Below w.heap.size w w' := by
  obtain ⟨ao, cap, rfl, hcell⟩ := h
  have HCELL := Lib.hid hcell
  have HC := Lib.hid hc
  obtain ⟨N, hN⟩ : ∃ N, xs.length = N := ⟨_, rfl⟩
  have HN := Eqv2.mk hN
  rw [hN] at hn ⊢
  obtain ⟨i0, hi, hz0, hz1, hz2⟩ := info_parts infoByte
  clear hcell hc hN
  go_enter Tryz.func42, Tryz.ntmps42
  go_wp2_with fail
  go_loopw [3, 4] (fun bv iv wr => ∃ i : Nat, i ≤ N ∧ iv = .int .i64 i ∧ BytesAt w.heap.size bv (UT.enc (xs.take i)) wr ∧ Below w.heap.size w wr) (fun _ iv _ => N - (intOf iv).toNat)
  case atStart => exact ⟨0, Nat.zero_le _, rfl, Own1.nil _ _ _, Below.refl _ _⟩
  case round =>
    obtain ⟨i, hiN, rfl, hx, hb⟩ := hrel
    have HB := Lib.hid hb
    have hbs := hb.size
    obtain ⟨bo, bc, rfl⟩ := hx.frame
    have HX := Lib.hid hx
    have hel := UT.enc_len (xs.take i)
    have htl : (xs.take i).length ≤ i := List.length_take_le _ _
    clear hb hx
    by_cases hlt : i < N
    · have hil : i < xs.length := by rw [HN.out]; exact hlt
      obtain ⟨g, rfl, hcg⟩ := HCELL.out i hil
      obtain ⟨c, hcc⟩ : ∃ c, xs.getD i 0 = c := ⟨_, rfl⟩
      have hxi : xs[i]? = some c := by rw [← hcc, List.getD_eq_getElem?_getD, List.getElem?_eq_getElem hil]; rfl
      have HCH := Eqv2.mk (HC.out c (List.mem_of_getElem? hxi))
      have HTK := Eqv2.mk (show UT.enc (xs.take (i + 1)) = UT.enc (xs.take i) ++ Lib.encodeRune (c : Int) by
        have e1 : xs[i] = c := by rw [List.getElem?_eq_getElem hil] at hxi; exact Option.some.inj hxi
        unfold UT.enc
        rw [List.take_succ_eq_append_getElem hil, List.flatMap_append, e1]; simp)
      rw [hcc] at hcg
      have hcr : wr.cell? ⟨g, i, none⟩ = some (.int .i32 c) := below_cellU hcg HB.out (Nat.le_refl _)
      clear hcc hxi hcg
      go_wp2_with fail
      with_reducible refine (char_any c _).mono ?_
      rw [HCH.out]
      rintro e w2 ⟨rfl, rfl⟩
      go_wp2_with fail
      with_reducible refine (code_any c _ HCH.out).mono ?_
      rintro e w3 ⟨⟨t, ht, rfl⟩, hb3⟩
      have htz : t.size ≤ 4 := by
        rw [ht.size]
        have := UT.enc_len [c]
        unfold UT.enc at this
        simpa using this
      have HT := Lib.hid ht
      have hx3 := HX.out.below hb3 (Nat.le_refl _)
      have HB3 := Lib.hid (HB.out.trans (hb3.mono HB.out.size))
      have HX3 := Lib.hid hx3
      have hown : w3.ownsRow w.heap.size 5 1 (.slice bo (byteC (UT.enc (xs.take i))).length bc) (byteC (UT.enc (xs.take i))).length (byteC (UT.enc (xs.take i))) := hx3
      clear ht hb3 hx3
      have hbl : (byteC (UT.enc (xs.take i))).length = (UT.enc (xs.take i)).length := byteC_len _
      obtain ⟨Lb, hLb⟩ : ∃ Lb, (byteC (UT.enc (xs.take i))).length = Lb := ⟨_, rfl⟩
      have HLB := Eqv2.mk hLb
      rw [hLb] at hown hbl ⊢
      have hLb4 : Lb ≤ 4 * N := by omega
      clear hLb hbl
      go_wp2_with (at_builtin; refine Lib.wpList_append_own_string _ rfl _ _ 84 9 rfl w.heap.size 5 i0 Tryz.underlying84 Tryz.underlying9 hi hz0 hz1 hz2 _ _ _ rfl hown t rfl ?c3 ?c4 ?c5 ?_)
      case c3 => unfold maxLen; omega
      case c4 => omega
      case c5 => exact HB3.out.size
      intro v' w4 hown' hgrow _
      have hB4 : Below w.heap.size w w4 := HB3.out.grown hgrow HB3.out.size (fun k hk => (World.ownsRow.lt hown k hk).1)
      have hx4 : BytesAt w.heap.size v' (UT.enc (xs.take (i + 1))) w4 := by
        rw [HTK.out]
        unfold BytesAt Own1
        have e : byteC (UT.enc (xs.take i) ++ Lib.encodeRune (c : Int)) = byteC (UT.enc (xs.take i)) ++ byteC (Lib.encodeRune (c : Int)) := by unfold byteC; rw [List.map_append]
        rw [e, List.length_append, HLB.out, byteC_len, ← HT.out.size, ← byteC_str t _ HT.out]
        exact hown'
      have HX4 := Lib.hid hx4
      have HB4 := Lib.hid hB4
      clear hown' hgrow hx4 hB4 hown
      go_wp2_with fail
      go_roundw
      case rel => exact ⟨i + 1, by omega, by go_num, HX4.out, HB4.out⟩
      case measure => simp [intOf]; omega
    · obtain rfl : i = N := by omega
      have hall : xs.take i = xs := List.take_of_length_le (by rw [HN.out]; exact Nat.le_refl _)
      have hxx : BytesAt w.heap.size (.slice bo (byteC (UT.enc (xs.take i))).length bc) (UT.enc xs) wr := by have := HX.out; rw [hall] at this ⊢; exact this
      have hcv := conv_own hxx
      clear hall hxx
      go_wp2_with fail
      go_ret
      exact ⟨⟨_, Is.mk _, rfl⟩, HB.out⟩
end Go.Proofs.YtnpkcobapckhdaaGreatDoor
namespace Go.Proofs.YtnpkcobapckhdaaGreatDoor
open Go.RowKit
namespace UT
/-- a list, its first i numbers turned by f -/
def mapTo (f : Nat → Nat) (xs : List Nat) (i : Nat) : List Nat := (xs.take i).map f ++ xs.drop i
theorem mapTo_zero (f : Nat → Nat) (xs : List Nat) : mapTo f xs 0 = xs := rfl
theorem mapTo_end (f : Nat → Nat) (xs : List Nat) {n : Nat} (h : xs.length ≤ n) : mapTo f xs n = xs.map f := by
  unfold mapTo; rw [List.take_of_length_le h, List.drop_eq_nil_of_le h, List.append_nil]
theorem mapTo_len (f : Nat → Nat) (xs : List Nat) (i : Nat) : (mapTo f xs i).length = xs.length := by
  unfold mapTo; rw [List.length_append, List.length_map, List.length_take, List.length_drop]; omega
theorem mapTo_get (f : Nat → Nat) (xs : List Nat) {i : Nat} (h : i < xs.length) : (mapTo f xs i)[i]? = some xs[i] := by
  unfold mapTo
  rw [List.getElem?_append_right (by rw [List.length_map, List.length_take]; omega), List.length_map, List.length_take, List.getElem?_drop, show i + (i - min i xs.length) = i by omega, List.getElem?_eq_getElem h]
theorem mapTo_succ (f : Nat → Nat) (xs : List Nat) {i : Nat} (h : i < xs.length) : mapTo f xs (i + 1) = (xs.take i).map f ++ f xs[i] :: xs.drop (i + 1) := by
  unfold mapTo
  rw [List.take_succ_eq_append_getElem h, List.map_append, List.append_assoc]; rfl
theorem mapTo_at (f : Nat → Nat) (xs : List Nat) {i : Nat} (h : i < xs.length) : mapTo f xs i = (xs.take i).map f ++ xs[i] :: xs.drop (i + 1) := by
  unfold mapTo; rw [List.drop_eq_getElem_cons h]
theorem mapTo_set (f : Nat → Nat) (xs : List Nat) {i : Nat} (h : i < xs.length) : (mapTo f xs i).set i (f xs[i]) = mapTo f xs (i + 1) := by
  rw [mapTo_succ f xs h, mapTo_at f xs h, List.set_append_right _ _ (by rw [List.length_map, List.length_take]; omega), List.length_map, List.length_take, show i - min i xs.length = 0 by omega]; rfl
theorem mapTo_same (f : Nat → Nat) (xs : List Nat) {i : Nat} (h : i < xs.length) (e : f xs[i] = xs[i]) : mapTo f xs i = mapTo f xs (i + 1) := by
  rw [mapTo_succ f xs h, mapTo_at f xs h, e]
/-- the hiragana of a katakana -/
def hf (c : Nat) : Nat := if 12449 ≤ c ∧ c ≤ 12534 then c - 96 else c
/-- what Hira returns -/
def hira (l : Bs) : Bs := if Lib.validD l = true then enc ((runes l).map hf) else l
theorem decode_ch (l : Bs) : isCh (Lib.decodeL l).1 = true := by
  rw [Lib.decodeL_N]
  unfold Lib.decodeN
  have k0 : (l.getD 0 0).toNat < 256 := (l.getD 0 0).toNat_lt
  repeat' split
  all_goals (refine decide_eq_true ?_; dsimp only; omega)
theorem runes_ch : ∀ (n : Nat) (l : Bs), l.length ≤ n → ∀ c ∈ runes l, isCh c = true
  | 0, l, h, c, hc => by
    have : l = [] := List.eq_nil_of_length_eq_zero (by omega)
    subst this; simp [runes_nil] at hc
  | n + 1, l, h, c, hc => by
    by_cases e : l = []
    · subst e; simp [runes_nil] at hc
    · have hw := Lib.decodeL_width l
      have hp : 0 < l.length := List.length_pos_iff.2 e
      rw [runes_step e] at hc
      rcases List.mem_cons.1 hc with rfl | hc
      · exact decode_ch l
      · exact runes_ch n _ (by rw [List.length_drop]; omega) c hc
theorem hf_ch {c : Nat} (h : isCh c = true) : isCh (hf c) = true := by
  have := of_decide_eq_true h
  unfold hf
  refine decide_eq_true ?_
  split <;> omega
end UT
theorem RunesAt.set {B g n cap i c : Nat} {xs : List Nat} {w : World} (h : RunesAt B (.slice (some ⟨g, 0, none⟩) n cap) xs w) (hn : xs.length = n) : RunesAt B (.slice (some ⟨g, 0, none⟩) n cap) (xs.set i c) (w.setCell ⟨g, i, none⟩ (.int .i32 (c : Int))) := by
  have hl : (runeC xs).length = n := by unfold runeC; rw [List.length_map, hn]
  have h2 : w.ownsRow B 21 1 (.slice (some ⟨g, 0, none⟩) n cap) n (runeC xs) := by have := h; unfold RunesAt Own1 at this; rw [hl] at this; exact this
  have h3 := (World.ownsRow.stored h2 i (.int .i32 (c : Int))).1
  unfold RunesAt Own1
  have e : runeC (xs.set i c) = (runeC xs).set i (.int .i32 (c : Int)) := by unfold runeC; rw [List.map_set]
  rw [e, List.length_set, hl]
  exact h3
set_option maxRecDepth 100000 in
set_option maxHeartbeats 1000000 in
theorem bt_yes (c lo hi : Int) (w : World) (h1 : lo ≤ c) (h2 : c ≤ hi) :
    Calls Tryz.prog 41 #[.int .i32 c, .int .i32 lo, .int .i32 hi] w fun e w' => e = .returned (.bool true) ∧ w = w' := by
  go_enter Tryz.func41, Tryz.ntmps41
  go_wp2_with fail
  go_ret
  exact ⟨rfl, rfl⟩
set_option maxRecDepth 100000 in
set_option maxHeartbeats 1000000 in
theorem bt_no (c lo hi : Int) (w : World) (h : c < lo ∨ hi < c) :
    Calls Tryz.prog 41 #[.int .i32 c, .int .i32 lo, .int .i32 hi] w fun e w' => e = .returned (.bool false) ∧ w = w' := by
  by_cases h1 : c < lo
  · clear h
    go_enter Tryz.func41, Tryz.ntmps41
    go_wp2_with fail
    go_ret
    exact ⟨rfl, rfl⟩
  · have h2 : hi < c := by omega
    have hd : decide (c ≤ hi) = false := decide_eq_false (by omega)
    clear h
    go_enter Tryz.func41, Tryz.ntmps41
    go_wp2_with fail
    go_ret
    exact ⟨rfl, rfl⟩
set_option maxRecDepth 100000 in
set_option maxHeartbeats 2000000 in
theorem rhira_any (s : ByteArray) (l : List UInt8) (w : World) (h : Is s l) (hs : s.size ≤ 17592186044416) :
    Calls Tryz.prog 21 #[.string s] w fun e w' => (∃ b, Is b (UT.hira l) ∧ e = .returned (.string b)) ∧ Below w.heap.size w w' := by
  have HI := Lib.hid h
  have hz := h.size
  clear h
  go_enter Tryz.func21, Tryz.ntmps21
  go_wp2_with fail
  with_reducible refine (runes_any s l _ HI.out hs).mono ?_
  rintro e w1 ⟨hb, ⟨hv, rfl⟩ | ⟨hv, v, hx, rfl⟩⟩
  · have HE := Eqv2.mk (show UT.hira l = l by unfold UT.hira; rw [hv]; rfl)
    have HB := Lib.hid hb
    clear hv hb
    go_wp2_with fail
    go_ret
    exact ⟨⟨s, by rw [HE.out]; exact HI.out, rfl⟩, HB.out⟩
  · have HE := Eqv2.mk (show UT.hira l = UT.enc ((UT.runes l).map UT.hf) by unfold UT.hira; rw [if_pos hv])
    have HCH := Lib.hid (UT.runes_ch l.length l (Nat.le_refl _))
    have hrl := UT.runes_len l.length l (Nat.le_refl _)
    obtain ⟨xs, hxs⟩ : ∃ xs, UT.runes l = xs := ⟨_, rfl⟩
    rw [hxs] at hx hrl HE HCH
    have hl : (runeC xs).length = xs.length := by unfold runeC; rw [List.length_map]
    obtain ⟨ao, cap, rfl⟩ := hx.frame
    rw [hl]
    rw [hl] at hx
    obtain ⟨N, hN⟩ : ∃ N, xs.length = N := ⟨_, rfl⟩
    have HN := Eqv2.mk hN
    rw [hN] at hx hrl ⊢
    have HB := Lib.hid hb
    have HX := Lib.hid hx
    clear hv hb hx hl hN hxs
    go_wp2_with fail
    go_loopw [5] (fun iv wr => ∃ i : Nat, i ≤ N ∧ iv = .int .i64 i ∧ RunesAt w.heap.size (.slice ao N cap) (UT.mapTo UT.hf xs i) wr ∧ Below w.heap.size w wr) (fun iv _ => N - (intOf iv).toNat)
    case atStart => exact ⟨0, Nat.zero_le _, rfl, by rw [UT.mapTo_zero]; exact HX.out, HB.out⟩
    case round =>
      obtain ⟨i, hi, rfl, hx, hb⟩ := hrel
      have HBr := Lib.hid hb
      by_cases hlt : i < N
      · have hil : i < xs.length := by rw [HN.out]; exact hlt
        have hml := UT.mapTo_len UT.hf xs i
        have hrc : (runeC (UT.mapTo UT.hf xs i)).length = N := by unfold runeC; rw [List.length_map, hml, HN.out]
        obtain ⟨g, cap', hv, hgB, hgl, hcap, hcell, hfr, _⟩ := hx.at (by intro e; rw [e] at hrc; simp at hrc; omega)
        injection hv with hv1 hv2 hv3
        subst hv1 hv3
        have hc0 : wr.cell? ⟨g, i, none⟩ = some (.int .i32 (xs[i] : Int)) := hcell i _ (by unfold runeC; rw [List.getElem?_map, UT.mapTo_get _ _ hil]; rfl)
        have hfz := hfr i
        obtain ⟨c, hc⟩ : ∃ c, xs[i] = c := ⟨_, rfl⟩
        have HC := Eqv2.mk hc
        have hch := of_decide_eq_true (HCH.out c (by rw [← hc]; exact List.getElem_mem hil))
        have hcb : c ≤ 1114111 := hch.1
        rw [hc] at hc0
        have HX2 := Lib.hid hx
        clear hb hx hcell hfr hv2 hrc hml hc hch
        by_cases hin : 12449 ≤ c ∧ c ≤ 12534
        · obtain ⟨h1, h2⟩ := hin
          have hfc : UT.hf c = c - 96 := by unfold UT.hf; rw [if_pos ⟨h1, h2⟩]
          have hsub : ((c - 96 : Nat) : Int) = (c : Int) - 96 := by omega
          have HS := Lib.hid (RunesAt.set (i := i) (c := c - 96) HX2.out (by rw [UT.mapTo_len]; exact HN.out))
          rw [hsub, ← hfc, ← HC.out, UT.mapTo_set UT.hf xs hil, HC.out] at HS
          clear hfc hsub
          go_wp2_with fail
          with_reducible refine (bt_yes c 12449 12534 _ (by omega) (by omega)).mono ?_
          rintro e w2 ⟨rfl, rfl⟩
          go_wp2_with fail
          go_roundw
          case rel => exact ⟨i + 1, by omega, by go_num, HS.out, HBr.out.setCell hgB _⟩
          case measure => simp [intOf]; omega
        · have hfc : UT.hf xs[i] = xs[i] := by rw [HC.out]; unfold UT.hf; rw [if_neg hin]
          have HS := Eqv2.mk (UT.mapTo_same UT.hf xs hil hfc)
          have hin2 : c < 12449 ∨ 12534 < c := by omega
          have HIN := Lib.hid hin2
          clear hin hin2 hfc
          go_wp2_with fail
          with_reducible refine (bt_no c 12449 12534 _ (by have := HIN.out; omega)).mono ?_
          rintro e w2 ⟨rfl, rfl⟩
          go_wp2_with fail
          go_roundw
          case rel => exact ⟨i + 1, by omega, by go_num, by rw [← HS.out]; exact HX2.out, HBr.out⟩
          case measure => simp [intOf]; omega
      · obtain rfl : i = N := by omega
        have hx2 : RunesLie (.slice ao i cap) (xs.map UT.hf) wr := by rw [UT.mapTo_end UT.hf xs (by rw [HN.out]; exact Nat.le_refl _)] at hx; exact hx.lie
        have HX2 := Lib.hid hx2
        clear hb hx hx2
        go_wp2_with fail
        with_reducible refine (utext_any _ (xs.map UT.hf) _ HX2.out (fun c hc => by obtain ⟨d, hd, rfl⟩ := List.mem_map.1 hc; exact UT.hf_ch (HCH.out d hd)) (by rw [List.length_map, HN.out]; omega)).mono ?_
        rintro e w3 ⟨⟨t, ht, rfl⟩, hb3⟩
        have HT := Lib.hid ht
        have HB3 := Lib.hid (HBr.out.trans (hb3.mono HBr.out.size))
        clear ht hb3
        go_wp2_with fail
        go_ret
        exact ⟨⟨t, by rw [HE.out]; exact HT.out, rfl⟩, HB3.out⟩
end Go.Proofs.YtnpkcobapckhdaaGreatDoor
namespace Go.Proofs.YtnpkcobapckhdaaGreatDoor
open Go.RowKit
namespace UT
/-- the kind of a character -/
def cls (c : Nat) : Nat :=
  if 12353 ≤ c ∧ c ≤ 12438 then 1 else if (12449 ≤ c ∧ c ≤ 12534) ∨ c = 12540 then 2 else if 65377 ≤ c ∧ c ≤ 65439 then 3 else if (65281 ≤ c ∧ c ≤ 65374) ∨ c = 12288 then 4
  else if 32 ≤ c ∧ c ≤ 126 then 5 else if (13312 ≤ c ∧ c ≤ 19903) ∨ (19968 ≤ c ∧ c ≤ 40959) ∨ c = 12293 then 6 else 0
def clsTab : List (Nat × Nat × Nat) := [(0, 31, 0), (32, 126, 5), (127, 12287, 0), (12288, 12288, 4), (12289, 12292, 0), (12293, 12293, 6), (12294, 12352, 0), (12353, 12438, 1), (12439, 12448, 0), (12449, 12534, 2), (12535, 12539, 0), (12540, 12540, 2), (12541, 13311, 0), (13312, 19903, 6), (19904, 19967, 0), (19968, 40959, 6), (40960, 65280, 0), (65281, 65374, 4), (65375, 65376, 0), (65377, 65439, 3), (65440, 1114111, 0)]
theorem cls_at {c r : Nat} (a b : Nat) (h1 : a ≤ c) (h2 : c ≤ b) (h : (a, b, r) ∈ clsTab) : cls c = r := by
  simp only [clsTab, List.mem_cons, Prod.mk.injEq, List.not_mem_nil, or_false] at h
  unfold cls
  rcases h with h | h | h | h | h | h | h | h | h | h | h | h | h | h | h | h | h | h | h | h | h
  all_goals
    obtain ⟨rfl, rfl, rfl⟩ := h
    repeat' split
    all_goals omega
end UT
set_option maxRecDepth 100000 in
set_option maxHeartbeats 4000000 in
theorem class_any (c : Nat) (w : World) (hc : c ≤ 1114111) :
    Calls Tryz.prog 74 #[.int .i32 c] w fun e w' => e = .returned (.int .i64 (UT.cls c)) ∧ w = w' := by
  have hI : (c : Int) ≤ 1114111 := by omega
  by_cases h0 : c ≤ 31
  · have HR := Eqv2.mk (UT.cls_at (c := c) (r := 0) 0 31 (by omega) (by omega) (by decide))
    have g1 : (0 : Int) ≤ (c : Int) := by omega
    have g2 : (c : Int) ≤ 31 := by omega
    have e12540 : ((c : Int) == 12540) = false := by rw [beq_eq_false_iff_ne]; omega
    have e12288 : ((c : Int) == 12288) = false := by rw [beq_eq_false_iff_ne]; omega
    have e12293 : ((c : Int) == 12293) = false := by rw [beq_eq_false_iff_ne]; omega
    clear hI
    go_enter Tryz.func74, Tryz.ntmps74
    go_wp2_with fail
    go_ret
    exact ⟨by rw [HR.out]; rfl, rfl⟩
  by_cases h32 : c ≤ 126
  · have HR := Eqv2.mk (UT.cls_at (c := c) (r := 5) 32 126 (by omega) (by omega) (by decide))
    have g1 : (32 : Int) ≤ (c : Int) := by omega
    have g2 : (c : Int) ≤ 126 := by omega
    have e12540 : ((c : Int) == 12540) = false := by rw [beq_eq_false_iff_ne]; omega
    have e12288 : ((c : Int) == 12288) = false := by rw [beq_eq_false_iff_ne]; omega
    have e12293 : ((c : Int) == 12293) = false := by rw [beq_eq_false_iff_ne]; omega
    clear hI
    go_enter Tryz.func74, Tryz.ntmps74
    go_wp2_with fail
    go_ret
    exact ⟨by rw [HR.out]; rfl, rfl⟩
  by_cases h127 : c ≤ 12287
  · have HR := Eqv2.mk (UT.cls_at (c := c) (r := 0) 127 12287 (by omega) (by omega) (by decide))
    have g1 : (127 : Int) ≤ (c : Int) := by omega
    have g2 : (c : Int) ≤ 12287 := by omega
    have e12540 : ((c : Int) == 12540) = false := by rw [beq_eq_false_iff_ne]; omega
    have e12288 : ((c : Int) == 12288) = false := by rw [beq_eq_false_iff_ne]; omega
    have e12293 : ((c : Int) == 12293) = false := by rw [beq_eq_false_iff_ne]; omega
    clear hI
    go_enter Tryz.func74, Tryz.ntmps74
    go_wp2_with fail
    go_ret
    exact ⟨by rw [HR.out]; rfl, rfl⟩
  by_cases h12288 : c ≤ 12288
  · have HR := Eqv2.mk (UT.cls_at (c := c) (r := 4) 12288 12288 (by omega) (by omega) (by decide))
    have g1 : (12288 : Int) ≤ (c : Int) := by omega
    have g2 : (c : Int) ≤ 12288 := by omega
    have e12540 : ((c : Int) == 12540) = false := by rw [beq_eq_false_iff_ne]; omega
    have e12288 : ((c : Int) == 12288) = true := by rw [beq_iff_eq]; omega
    have e12293 : ((c : Int) == 12293) = false := by rw [beq_eq_false_iff_ne]; omega
    clear hI
    go_enter Tryz.func74, Tryz.ntmps74
    go_wp2_with fail
    go_ret
    exact ⟨by rw [HR.out]; rfl, rfl⟩
  by_cases h12289 : c ≤ 12292
  · have HR := Eqv2.mk (UT.cls_at (c := c) (r := 0) 12289 12292 (by omega) (by omega) (by decide))
    have g1 : (12289 : Int) ≤ (c : Int) := by omega
    have g2 : (c : Int) ≤ 12292 := by omega
    have e12540 : ((c : Int) == 12540) = false := by rw [beq_eq_false_iff_ne]; omega
    have e12288 : ((c : Int) == 12288) = false := by rw [beq_eq_false_iff_ne]; omega
    have e12293 : ((c : Int) == 12293) = false := by rw [beq_eq_false_iff_ne]; omega
    clear hI
    go_enter Tryz.func74, Tryz.ntmps74
    go_wp2_with fail
    go_ret
    exact ⟨by rw [HR.out]; rfl, rfl⟩
  by_cases h12293 : c ≤ 12293
  · have HR := Eqv2.mk (UT.cls_at (c := c) (r := 6) 12293 12293 (by omega) (by omega) (by decide))
    have g1 : (12293 : Int) ≤ (c : Int) := by omega
    have g2 : (c : Int) ≤ 12293 := by omega
    have e12540 : ((c : Int) == 12540) = false := by rw [beq_eq_false_iff_ne]; omega
    have e12288 : ((c : Int) == 12288) = false := by rw [beq_eq_false_iff_ne]; omega
    have e12293 : ((c : Int) == 12293) = true := by rw [beq_iff_eq]; omega
    clear hI
    go_enter Tryz.func74, Tryz.ntmps74
    go_wp2_with fail
    go_ret
    exact ⟨by rw [HR.out]; rfl, rfl⟩
  by_cases h12294 : c ≤ 12352
  · have HR := Eqv2.mk (UT.cls_at (c := c) (r := 0) 12294 12352 (by omega) (by omega) (by decide))
    have g1 : (12294 : Int) ≤ (c : Int) := by omega
    have g2 : (c : Int) ≤ 12352 := by omega
    have e12540 : ((c : Int) == 12540) = false := by rw [beq_eq_false_iff_ne]; omega
    have e12288 : ((c : Int) == 12288) = false := by rw [beq_eq_false_iff_ne]; omega
    have e12293 : ((c : Int) == 12293) = false := by rw [beq_eq_false_iff_ne]; omega
    clear hI
    go_enter Tryz.func74, Tryz.ntmps74
    go_wp2_with fail
    go_ret
    exact ⟨by rw [HR.out]; rfl, rfl⟩
  by_cases h12353 : c ≤ 12438
  · have HR := Eqv2.mk (UT.cls_at (c := c) (r := 1) 12353 12438 (by omega) (by omega) (by decide))
    have g1 : (12353 : Int) ≤ (c : Int) := by omega
    have g2 : (c : Int) ≤ 12438 := by omega
    have e12540 : ((c : Int) == 12540) = false := by rw [beq_eq_false_iff_ne]; omega
    have e12288 : ((c : Int) == 12288) = false := by rw [beq_eq_false_iff_ne]; omega
    have e12293 : ((c : Int) == 12293) = false := by rw [beq_eq_false_iff_ne]; omega
    clear hI
    go_enter Tryz.func74, Tryz.ntmps74
    go_wp2_with fail
    go_ret
    exact ⟨by rw [HR.out]; rfl, rfl⟩
  by_cases h12439 : c ≤ 12448
  · have HR := Eqv2.mk (UT.cls_at (c := c) (r := 0) 12439 12448 (by omega) (by omega) (by decide))
    have g1 : (12439 : Int) ≤ (c : Int) := by omega
    have g2 : (c : Int) ≤ 12448 := by omega
    have e12540 : ((c : Int) == 12540) = false := by rw [beq_eq_false_iff_ne]; omega
    have e12288 : ((c : Int) == 12288) = false := by rw [beq_eq_false_iff_ne]; omega
    have e12293 : ((c : Int) == 12293) = false := by rw [beq_eq_false_iff_ne]; omega
    clear hI
    go_enter Tryz.func74, Tryz.ntmps74
    go_wp2_with fail
    go_ret
    exact ⟨by rw [HR.out]; rfl, rfl⟩
  by_cases h12449 : c ≤ 12534
  · have HR := Eqv2.mk (UT.cls_at (c := c) (r := 2) 12449 12534 (by omega) (by omega) (by decide))
    have g1 : (12449 : Int) ≤ (c : Int) := by omega
    have g2 : (c : Int) ≤ 12534 := by omega
    have e12540 : ((c : Int) == 12540) = false := by rw [beq_eq_false_iff_ne]; omega
    have e12288 : ((c : Int) == 12288) = false := by rw [beq_eq_false_iff_ne]; omega
    have e12293 : ((c : Int) == 12293) = false := by rw [beq_eq_false_iff_ne]; omega
    clear hI
    go_enter Tryz.func74, Tryz.ntmps74
    go_wp2_with fail
    go_ret
    exact ⟨by rw [HR.out]; rfl, rfl⟩
  by_cases h12535 : c ≤ 12539
  · have HR := Eqv2.mk (UT.cls_at (c := c) (r := 0) 12535 12539 (by omega) (by omega) (by decide))
    have g1 : (12535 : Int) ≤ (c : Int) := by omega
    have g2 : (c : Int) ≤ 12539 := by omega
    have e12540 : ((c : Int) == 12540) = false := by rw [beq_eq_false_iff_ne]; omega
    have e12288 : ((c : Int) == 12288) = false := by rw [beq_eq_false_iff_ne]; omega
    have e12293 : ((c : Int) == 12293) = false := by rw [beq_eq_false_iff_ne]; omega
    clear hI
    go_enter Tryz.func74, Tryz.ntmps74
    go_wp2_with fail
    go_ret
    exact ⟨by rw [HR.out]; rfl, rfl⟩
  by_cases h12540 : c ≤ 12540
  · have HR := Eqv2.mk (UT.cls_at (c := c) (r := 2) 12540 12540 (by omega) (by omega) (by decide))
    have g1 : (12540 : Int) ≤ (c : Int) := by omega
    have g2 : (c : Int) ≤ 12540 := by omega
    have e12540 : ((c : Int) == 12540) = true := by rw [beq_iff_eq]; omega
    have e12288 : ((c : Int) == 12288) = false := by rw [beq_eq_false_iff_ne]; omega
    have e12293 : ((c : Int) == 12293) = false := by rw [beq_eq_false_iff_ne]; omega
    clear hI
    go_enter Tryz.func74, Tryz.ntmps74
    go_wp2_with fail
    go_ret
    exact ⟨by rw [HR.out]; rfl, rfl⟩
  by_cases h12541 : c ≤ 13311
  · have HR := Eqv2.mk (UT.cls_at (c := c) (r := 0) 12541 13311 (by omega) (by omega) (by decide))
    have g1 : (12541 : Int) ≤ (c : Int) := by omega
    have g2 : (c : Int) ≤ 13311 := by omega
    have e12540 : ((c : Int) == 12540) = false := by rw [beq_eq_false_iff_ne]; omega
    have e12288 : ((c : Int) == 12288) = false := by rw [beq_eq_false_iff_ne]; omega
    have e12293 : ((c : Int) == 12293) = false := by rw [beq_eq_false_iff_ne]; omega
    clear hI
    go_enter Tryz.func74, Tryz.ntmps74
    go_wp2_with fail
    go_ret
    exact ⟨by rw [HR.out]; rfl, rfl⟩
  by_cases h13312 : c ≤ 19903
  · have HR := Eqv2.mk (UT.cls_at (c := c) (r := 6) 13312 19903 (by omega) (by omega) (by decide))
    have g1 : (13312 : Int) ≤ (c : Int) := by omega
    have g2 : (c : Int) ≤ 19903 := by omega
    have e12540 : ((c : Int) == 12540) = false := by rw [beq_eq_false_iff_ne]; omega
    have e12288 : ((c : Int) == 12288) = false := by rw [beq_eq_false_iff_ne]; omega
    have e12293 : ((c : Int) == 12293) = false := by rw [beq_eq_false_iff_ne]; omega
    clear hI
    go_enter Tryz.func74, Tryz.ntmps74
    go_wp2_with fail
    go_ret
    exact ⟨by rw [HR.out]; rfl, rfl⟩
  by_cases h19904 : c ≤ 19967
  · have HR := Eqv2.mk (UT.cls_at (c := c) (r := 0) 19904 19967 (by omega) (by omega) (by decide))
    have g1 : (19904 : Int) ≤ (c : Int) := by omega
    have g2 : (c : Int) ≤ 19967 := by omega
    have e12540 : ((c : Int) == 12540) = false := by rw [beq_eq_false_iff_ne]; omega
    have e12288 : ((c : Int) == 12288) = false := by rw [beq_eq_false_iff_ne]; omega
    have e12293 : ((c : Int) == 12293) = false := by rw [beq_eq_false_iff_ne]; omega
    clear hI
    go_enter Tryz.func74, Tryz.ntmps74
    go_wp2_with fail
    go_ret
    exact ⟨by rw [HR.out]; rfl, rfl⟩
  by_cases h19968 : c ≤ 40959
  · have HR := Eqv2.mk (UT.cls_at (c := c) (r := 6) 19968 40959 (by omega) (by omega) (by decide))
    have g1 : (19968 : Int) ≤ (c : Int) := by omega
    have g2 : (c : Int) ≤ 40959 := by omega
    have e12540 : ((c : Int) == 12540) = false := by rw [beq_eq_false_iff_ne]; omega
    have e12288 : ((c : Int) == 12288) = false := by rw [beq_eq_false_iff_ne]; omega
    have e12293 : ((c : Int) == 12293) = false := by rw [beq_eq_false_iff_ne]; omega
    clear hI
    go_enter Tryz.func74, Tryz.ntmps74
    go_wp2_with fail
    go_ret
    exact ⟨by rw [HR.out]; rfl, rfl⟩
  by_cases h40960 : c ≤ 65280
  · have HR := Eqv2.mk (UT.cls_at (c := c) (r := 0) 40960 65280 (by omega) (by omega) (by decide))
    have g1 : (40960 : Int) ≤ (c : Int) := by omega
    have g2 : (c : Int) ≤ 65280 := by omega
    have e12540 : ((c : Int) == 12540) = false := by rw [beq_eq_false_iff_ne]; omega
    have e12288 : ((c : Int) == 12288) = false := by rw [beq_eq_false_iff_ne]; omega
    have e12293 : ((c : Int) == 12293) = false := by rw [beq_eq_false_iff_ne]; omega
    clear hI
    go_enter Tryz.func74, Tryz.ntmps74
    go_wp2_with fail
    go_ret
    exact ⟨by rw [HR.out]; rfl, rfl⟩
  by_cases h65281 : c ≤ 65374
  · have HR := Eqv2.mk (UT.cls_at (c := c) (r := 4) 65281 65374 (by omega) (by omega) (by decide))
    have g1 : (65281 : Int) ≤ (c : Int) := by omega
    have g2 : (c : Int) ≤ 65374 := by omega
    have e12540 : ((c : Int) == 12540) = false := by rw [beq_eq_false_iff_ne]; omega
    have e12288 : ((c : Int) == 12288) = false := by rw [beq_eq_false_iff_ne]; omega
    have e12293 : ((c : Int) == 12293) = false := by rw [beq_eq_false_iff_ne]; omega
    clear hI
    go_enter Tryz.func74, Tryz.ntmps74
    go_wp2_with fail
    go_ret
    exact ⟨by rw [HR.out]; rfl, rfl⟩
  by_cases h65375 : c ≤ 65376
  · have HR := Eqv2.mk (UT.cls_at (c := c) (r := 0) 65375 65376 (by omega) (by omega) (by decide))
    have g1 : (65375 : Int) ≤ (c : Int) := by omega
    have g2 : (c : Int) ≤ 65376 := by omega
    have e12540 : ((c : Int) == 12540) = false := by rw [beq_eq_false_iff_ne]; omega
    have e12288 : ((c : Int) == 12288) = false := by rw [beq_eq_false_iff_ne]; omega
    have e12293 : ((c : Int) == 12293) = false := by rw [beq_eq_false_iff_ne]; omega
    clear hI
    go_enter Tryz.func74, Tryz.ntmps74
    go_wp2_with fail
    go_ret
    exact ⟨by rw [HR.out]; rfl, rfl⟩
  by_cases h65377 : c ≤ 65439
  · have HR := Eqv2.mk (UT.cls_at (c := c) (r := 3) 65377 65439 (by omega) (by omega) (by decide))
    have g1 : (65377 : Int) ≤ (c : Int) := by omega
    have g2 : (c : Int) ≤ 65439 := by omega
    have e12540 : ((c : Int) == 12540) = false := by rw [beq_eq_false_iff_ne]; omega
    have e12288 : ((c : Int) == 12288) = false := by rw [beq_eq_false_iff_ne]; omega
    have e12293 : ((c : Int) == 12293) = false := by rw [beq_eq_false_iff_ne]; omega
    clear hI
    go_enter Tryz.func74, Tryz.ntmps74
    go_wp2_with fail
    go_ret
    exact ⟨by rw [HR.out]; rfl, rfl⟩
  have HR := Eqv2.mk (UT.cls_at (c := c) (r := 0) 65440 1114111 (by omega) (by omega) (by decide))
  have g1 : (65440 : Int) ≤ (c : Int) := by omega
  have e12540 : ((c : Int) == 12540) = false := by rw [beq_eq_false_iff_ne]; omega
  have e12288 : ((c : Int) == 12288) = false := by rw [beq_eq_false_iff_ne]; omega
  have e12293 : ((c : Int) == 12293) = false := by rw [beq_eq_false_iff_ne]; omega
  clear hI
  go_enter Tryz.func74, Tryz.ntmps74
  go_wp2_with fail
  go_ret
  exact ⟨by rw [HR.out]; rfl, rfl⟩
theorem UT.mapD_valid (f : Int → Int) (h : Nat → Nat) (hf : ∀ c, UT.isCh c = true → f (c : Int) = (h c : Int)) : ∀ (n : Nat) (l : List UInt8), l.length ≤ n → Lib.mapD f l = UT.enc ((UT.runes l).map h)
  | 0, l, hl => by
    have : l = [] := List.eq_nil_of_length_eq_zero (by omega)
    subst this; rfl
  | n + 1, l, hl => by
    by_cases e : l = []
    · subst e; rfl
    · have hw := Lib.decodeL_width l
      have hp : 0 < l.length := List.length_pos_iff.2 e
      have ih := UT.mapD_valid f h hf n (l.drop (Lib.decodeL l).2) (by rw [List.length_drop]; omega)
      have hc := hf _ (UT.decode_ch l)
      rw [Lib.mapD_step f l e, UT.runes_step e, ih, hc, if_pos (by omega)]
      rfl
set_option maxRecDepth 100000 in
set_option maxHeartbeats 2000000 in
theorem hira1_any (c : Nat) (w : World) (hc : c ≤ 1114111) :
    Calls Tryz.prog 73 #[.int .i32 c] w fun e w' => e = .returned (.int .i32 (UT.hf c)) ∧ w = w' := by
  have hI : (c : Int) ≤ 1114111 := by omega
  by_cases h2 : UT.cls c = 2
  · have H2 := Eqv2.mk h2
    by_cases hl : c = 12540
    · have HR := Eqv2.mk (show UT.hf c = c by unfold UT.hf; rw [if_neg (by omega)])
      have el : ((c : Int) != 12540) = false := by rw [hl]; rfl
      clear hl h2
      go_enter Tryz.func73, Tryz.ntmps73
      go_wp2_with fail
      with_reducible refine (class_any c _ hc).mono ?_
      rw [H2.out]
      rintro e w2 ⟨rfl, rfl⟩
      go_wp2_with fail
      go_ret
      exact ⟨by rw [HR.out]; rfl, rfl⟩
    · have hb : 12449 ≤ c ∧ c ≤ 12534 := by
        unfold UT.cls at h2
        repeat' split at h2
        all_goals omega
      obtain ⟨b1, b2⟩ := hb
      have HR := Eqv2.mk (show ((UT.hf c : Nat) : Int) = (c : Int) - 96 by unfold UT.hf; rw [if_pos ⟨b1, b2⟩]; omega)
      have el : ((c : Int) != 12540) = true := by rw [bne_iff_ne]; omega
      clear hl h2
      go_enter Tryz.func73, Tryz.ntmps73
      go_wp2_with fail
      with_reducible refine (class_any c _ hc).mono ?_
      rw [H2.out]
      rintro e w2 ⟨rfl, rfl⟩
      go_wp2_with fail
      go_ret
      exact ⟨by rw [HR.out]; rfl, rfl⟩
  · have HR := Eqv2.mk (show UT.hf c = c by
      unfold UT.hf
      rw [if_neg]
      intro hh
      apply h2
      unfold UT.cls
      rw [if_neg (by omega), if_pos (by omega)])
    obtain ⟨k, hk⟩ : ∃ k, UT.cls c = k := ⟨_, rfl⟩
    have HK := Eqv2.mk hk
    have e2 : ((k : Int) == 2) = false := by rw [beq_eq_false_iff_ne]; omega
    clear h2 hk
    go_enter Tryz.func73, Tryz.ntmps73
    go_wp2_with fail
    with_reducible refine (class_any c _ hc).mono ?_
    rw [HK.out]
    rintro e w2 ⟨rfl, rfl⟩
    go_wp2_with fail
    go_ret
    exact ⟨by rw [HR.out]; rfl, rfl⟩
set_option maxRecDepth 100000 in
theorem uvalid_any (s : ByteArray) (l : List UInt8) (w : World) (h : Is s l) (hs : s.size ≤ 17592186044416) (ht : Tabs w) :
    Calls Tryz.prog 113 #[.string s] w fun e w' => e = .returned (.bool (Lib.validD l)) ∧ Below w.heap.size w w' := by
  have HI := Lib.hid h
  have HT := Lib.hid ht
  clear h ht
  go_enter Tryz.func113, Tryz.ntmps113
  go_wp2_with fail
  with_reducible refine (Tryz.utf8_ValidString s _ (by omega) HT.out.utf).mono ?_
  rw [HI.out.data]
  rintro e w2 ⟨rfl, hb⟩
  have HB := Lib.hid hb
  clear hb
  go_wp2_with fail
  go_ret
  exact ⟨rfl, HB.out⟩
theorem mapHira (w : World) : MapGrows Tryz.prog 73 #[] (fun z => ((UT.hf z.toNat : Nat) : Int)) w := by
  intro W x hx _
  refine (hira1_any x W hx).mono ?_
  rintro e w' ⟨rfl, rfl⟩
  exact ⟨by dsimp only; rw [Int.toNat_natCast], Below.refl _ _⟩
theorem hf_bd (x : Nat) (hx : x ≤ 1114111) : -2147483648 ≤ ((UT.hf ((x : Nat) : Int).toNat : Nat) : Int) ∧ ((UT.hf ((x : Nat) : Int).toNat : Nat) : Int) ≤ 2147483647 := by
  rw [Int.toNat_natCast]
  unfold UT.hf
  split <;> omega
set_option maxRecDepth 100000 in
set_option maxHeartbeats 2000000 in
theorem each_hira (s : ByteArray) (l : List UInt8) (w : World) (h : Is s l) (hs : s.size ≤ 17592186044416) (ht : Tabs w) :
    Calls Tryz.prog 72 #[.string s, .func (.func 73) #[] #[]] w fun e w' => (∃ b, Is b (UT.hira l) ∧ e = .returned (.string b)) ∧ Below w.heap.size w w' := by
  have HI := Lib.hid h
  have HT := Lib.hid ht
  clear h ht
  go_enter Tryz.func72, Tryz.ntmps72
  go_wp2_with fail
  with_reducible refine (uvalid_any s l _ HI.out hs HT.out).mono ?_
  rintro e w2 ⟨rfl, hb⟩
  have HB := Lib.hid hb
  have HT2 := Lib.hid (HT.out.below hb (Nat.le_refl _))
  clear hb
  cases hv : Lib.validD l
  · have HE := Eqv2.mk (show UT.hira l = l by unfold UT.hira; rw [hv]; rfl)
    clear hv
    go_wp2_with fail
    go_ret
    exact ⟨⟨s, by rw [HE.out]; exact HI.out, rfl⟩, HB.out⟩
  · have HE := Eqv2.mk (show UT.hira l = Lib.mapD (fun z => ((UT.hf z.toNat : Nat) : Int)) l by
      unfold UT.hira
      rw [if_pos hv]
      exact (UT.mapD_valid _ UT.hf (fun c _ => by rw [Int.toNat_natCast]) l.length l (Nat.le_refl _)).symm)
    clear hv
    go_wp2_with fail
    with_reducible refine (Tryz.strings_Map_grows 73 #[] (fun _ _ => rfl) (fun z => ((UT.hf z.toNat : Nat) : Int)) s _ (by omega) (mapHira _) hf_bd HT2.out.utf).mono ?_
    rw [HI.out.data, ← HE.out]
    rintro e w3 ⟨rfl, hb⟩
    have HB3 := Lib.hid (HB.out.trans (hb.mono HB.out.size))
    clear hb
    go_wp2_with fail
    go_ret
    exact ⟨⟨_, Is.mk _, rfl⟩, HB3.out⟩
set_option maxRecDepth 100000 in
theorem khira_any (s : ByteArray) (l : List UInt8) (w : World) (h : Is s l) (hs : s.size ≤ 17592186044416) (ht : Tabs w) :
    Calls Tryz.prog 30 #[.string s] w fun e w' => (∃ b, Is b (UT.hira l) ∧ e = .returned (.string b)) ∧ Below w.heap.size w w' := by
  have HI := Lib.hid h
  have HT := Lib.hid ht
  clear h ht
  go_enter Tryz.func30, Tryz.ntmps30
  go_wp2_with fail
  with_reducible refine (each_hira s l _ HI.out hs HT.out).mono ?_
  rintro e w2 ⟨⟨b, hb, rfl⟩, hbe⟩
  have HB := Lib.hid hbe
  have HBB := Lib.hid hb
  clear hbe hb
  go_wp2_with fail
  go_ret
  exact ⟨⟨b, HBB.out, rfl⟩, HB.out⟩
end Go.Proofs.YtnpkcobapckhdaaGreatDoor
