/-
  The document's decoder and encoder of characters as plain functions over lists of bytes, and what they share with the library's own. No condition.
-/
import Derived.Lib.MapLaws
import Derived.Lib.ValidU
import Derived.Lib.TrimUEq
namespace Go.Proofs.YtgdcffahhpeibaaGreatDoor
namespace UT
abbrev Bs := List UInt8
def b (x : Bs) (k : Nat) : Nat := (x.getD k 0).toNat
/-- how many bytes a code has that begins so, and the bits of the first byte -/
def lead (v : Nat) : Nat × Nat := if v < 128 then (1, v) else if 192 ≤ v ∧ v < 224 then (2, v - 192) else if 224 ≤ v ∧ v < 240 then (3, v - 224) else if 240 ≤ v ∧ v < 248 then (4, v - 240) else (0, 0)
/-- the bits of a code's first bytes -/
def accN (x : Bs) (c : Nat) : Nat → Nat
  | 0 => c
  | i + 1 => 64 * accN x c i + b x (i + 1) % 64
def least (n : Nat) : Nat := if n = 2 then 128 else if n = 3 then 2048 else if n = 4 then 65536 else 0
def isCh (c : Nat) : Bool := decide (c ≤ 1114111 ∧ (c < 55296 ∨ 57343 < c))
/-- the first character of a text and its length; 0, 0: there is none -/
def nextL (x : Bs) : Nat × Nat := if x = [] then (0, 0) else if Lib.decodeL x = (65533, 1) then (0, 0) else Lib.decodeL x
theorem nextL_nil : nextL [] = (0, 0) := rfl
theorem nextL_ne {x : Bs} (h : x ≠ []) : nextL x = if Lib.decodeN x.length (b x 0) (b x 1) (b x 2) (b x 3) = (65533, 1) then (0, 0) else Lib.decodeN x.length (b x 0) (b x 1) (b x 2) (b x 3) := by
  unfold nextL b
  rw [if_neg h, Lib.decodeL_N]
theorem ne_of {x : Bs} (h : 0 < x.length) : x ≠ [] := by intro e; rw [e] at h; simp at h
theorem nx_bad {x : Bs} (h : x ≠ []) (e : Lib.decodeN x.length (b x 0) (b x 1) (b x 2) (b x 3) = (65533, 1)) : nextL x = (0, 0) := by rw [nextL_ne h, if_pos e]
theorem nx_ok {x : Bs} {c n : Nat} (h : x ≠ []) (e : Lib.decodeN x.length (b x 0) (b x 1) (b x 2) (b x 3) = (c, n)) (hn : 2 ≤ n) : nextL x = (c, n) := by
  rw [nextL_ne h, e, if_neg (by intro e2; injection e2 with e2 e3; omega)]
theorem next_one {x : Bs} (h : 0 < x.length) (h0 : b x 0 < 128) : nextL x = (b x 0, 1) := by
  rw [nextL_ne (ne_of h)]
  unfold Lib.decodeN
  rw [if_pos h0, if_neg (by intro e; injection e with e; omega)]
theorem next_bad {x : Bs} (h : 0 < x.length) (h0 : (lead (b x 0)).1 = 0) : nextL x = (0, 0) := by
  have k0 : b x 0 < 256 := (x.getD 0 0).toNat_lt
  have hb : ¬ b x 0 < 128 ∧ ¬ (192 ≤ b x 0 ∧ b x 0 < 248) := by
    unfold lead at h0
    refine ⟨fun h => ?_, fun h => ?_⟩
    · rw [if_pos h] at h0; cases h0
    · rw [if_neg (by omega)] at h0
      split at h0
      · cases h0
      · split at h0
        · cases h0
        · rw [if_pos (by omega)] at h0; cases h0
  have e : Lib.decodeN x.length (b x 0) (b x 1) (b x 2) (b x 3) = (65533, 1) := by
    unfold Lib.decodeN
    rw [if_neg hb.1, if_neg (by omega), if_neg (by omega), if_neg (by omega)]
  rw [nextL_ne (ne_of h), e]
  rfl
theorem lead_cases {v n c : Nat} (h : lead v = (n, c)) (hn : 2 ≤ n) : (n = 2 ∧ 192 ≤ v ∧ v < 224 ∧ c = v - 192) ∨ (n = 3 ∧ 224 ≤ v ∧ v < 240 ∧ c = v - 224) ∨ (n = 4 ∧ 240 ≤ v ∧ v < 248 ∧ c = v - 240) := by
  unfold lead at h
  repeat' split at h
  all_goals (injection h with h1 h2; omega)
theorem lead_one {v c : Nat} (h : lead v = (1, c)) : v < 128 ∧ c = v := by
  unfold lead at h
  repeat' split at h
  all_goals (injection h with h1 h2; omega)
theorem next_short {x : Bs} {n c : Nat} (h : 0 < x.length) (hl : lead (b x 0) = (n, c)) (hn : 2 ≤ n) (hs : x.length < n) : nextL x = (0, 0) := by
  have e : Lib.decodeN x.length (b x 0) (b x 1) (b x 2) (b x 3) = (65533, 1) := by
    unfold Lib.decodeN
    rcases lead_cases hl hn with ⟨rfl, h1, h2, _⟩ | ⟨rfl, h1, h2, _⟩ | ⟨rfl, h1, h2, _⟩
    all_goals rw [if_neg (by omega), if_neg (by omega), if_neg (by omega), if_neg (by omega)]
  rw [nextL_ne (ne_of h), e]
  rfl
theorem next_cont {x : Bs} {n c k : Nat} (h : 0 < x.length) (hl : lead (b x 0) = (n, c)) (hn : 2 ≤ n) (h1 : 1 ≤ k) (h2 : k < n) (hb : b x k < 128 ∨ 191 < b x k) : nextL x = (0, 0) := by
  have k1 : b x 1 < 256 := (x.getD 1 0).toNat_lt
  have k2 : b x 2 < 256 := (x.getD 2 0).toNat_lt
  have k3 : b x 3 < 256 := (x.getD 3 0).toNat_lt
  have hk : k = 1 ∨ k = 2 ∨ k = 3 := by rcases lead_cases hl hn with ⟨rfl, _⟩ | ⟨rfl, _⟩ | ⟨rfl, _⟩ <;> omega
  have e : Lib.decodeN x.length (b x 0) (b x 1) (b x 2) (b x 3) = (65533, 1) := by
    unfold Lib.decodeN
    rcases lead_cases hl hn with ⟨rfl, h1, h2, _⟩ | ⟨rfl, h1, h2, _⟩ | ⟨rfl, h1, h2, _⟩ <;> rcases hk with rfl | rfl | rfl
    all_goals first
    | (exfalso; omega)
    | rw [if_neg (by omega), if_neg (by omega), if_neg (by omega), if_neg (by omega)]
  rw [nextL_ne (ne_of h), e]
  rfl
theorem accN_0 (x : Bs) (c : Nat) : accN x c 0 = c := rfl
theorem accN_s (x : Bs) (c i : Nat) : accN x c (i + 1) = 64 * accN x c i + b x (i + 1) % 64 := rfl
set_option maxRecDepth 100000 in
theorem next_end {x : Bs} {n c : Nat} (h : 0 < x.length) (hl : lead (b x 0) = (n, c)) (hn : 2 ≤ n) (hs : n ≤ x.length) (hc : ∀ k, 1 ≤ k → k < n → 128 ≤ b x k ∧ b x k ≤ 191) :
    nextL x = if accN x c (n - 1) < least n ∨ isCh (accN x c (n - 1)) = false then (0, 0) else (accN x c (n - 1), n) := by
  rcases lead_cases hl hn with ⟨rfl, h1, h2, rfl⟩ | ⟨rfl, h1, h2, rfl⟩ | ⟨rfl, h1, h2, rfl⟩
  · have c1 := hc 1 (by omega) (by omega)
    have ea : accN x (b x 0 - 192) (2 - 1) = b x 0 % 32 * 64 + b x 1 % 64 := by show 64 * (b x 0 - 192) + b x 1 % 64 = _; omega
    have ed : Lib.decodeN x.length (b x 0) (b x 1) (b x 2) (b x 3) = if b x 0 % 32 * 64 + b x 1 % 64 ≥ 128 then (b x 0 % 32 * 64 + b x 1 % 64, 2) else (65533, 1) := by
      unfold Lib.decodeN
      rw [if_neg (by omega), if_pos ⟨by omega, by omega, by omega⟩]
    rw [ea]
    have e2 : least 2 = 128 := rfl
    rw [e2]
    by_cases g : b x 0 % 32 * 64 + b x 1 % 64 < 128
    · rw [nx_bad (ne_of h) (by rw [ed, if_neg (by omega)]), if_pos (.inl g)]
    · have hch : isCh (b x 0 % 32 * 64 + b x 1 % 64) = true := decide_eq_true ⟨by omega, by omega⟩
      rw [nx_ok (ne_of h) (by rw [ed, if_pos (by omega)]) (by omega), if_neg (by rw [hch]; simp; omega)]
  · have c1 := hc 1 (by omega) (by omega)
    have c2 := hc 2 (by omega) (by omega)
    have ea : accN x (b x 0 - 224) (3 - 1) = b x 0 % 16 * 4096 + b x 1 % 64 * 64 + b x 2 % 64 := by show 64 * (64 * (b x 0 - 224) + b x 1 % 64) + b x 2 % 64 = _; omega
    have ed : Lib.decodeN x.length (b x 0) (b x 1) (b x 2) (b x 3) = if b x 0 % 16 * 4096 + b x 1 % 64 * 64 + b x 2 % 64 ≥ 2048 ∧ (b x 0 % 16 * 4096 + b x 1 % 64 * 64 + b x 2 % 64 < 55296 ∨ (57344 ≤ b x 0 % 16 * 4096 + b x 1 % 64 * 64 + b x 2 % 64 ∧ b x 0 % 16 * 4096 + b x 1 % 64 * 64 + b x 2 % 64 ≤ 1114111)) then (b x 0 % 16 * 4096 + b x 1 % 64 * 64 + b x 2 % 64, 3) else (65533, 1) := by
      unfold Lib.decodeN
      rw [if_neg (by omega), if_neg (by omega), if_pos ⟨by omega, ⟨by omega, by omega⟩, by omega, by omega⟩]
    rw [ea]
    have e2 : least 3 = 2048 := rfl
    rw [e2]
    generalize b x 0 % 16 * 4096 + b x 1 % 64 * 64 + b x 2 % 64 = a at ed ⊢
    by_cases g : a < 2048
    · rw [nx_bad (ne_of h) (by rw [ed, if_neg (by omega)]), if_pos (.inl g)]
    · by_cases g2 : a ≤ 1114111 ∧ (a < 55296 ∨ 57343 < a)
      · have hch : isCh a = true := decide_eq_true g2
        rw [nx_ok (ne_of h) (by rw [ed, if_pos (by omega)]) (by omega), if_neg (by rw [hch]; simp; omega)]
      · have hch : isCh a = false := decide_eq_false g2
        rw [nx_bad (ne_of h) (by rw [ed, if_neg (by omega)]), if_pos (.inr hch)]
  · have c1 := hc 1 (by omega) (by omega)
    have c2 := hc 2 (by omega) (by omega)
    have c3 := hc 3 (by omega) (by omega)
    have ea : accN x (b x 0 - 240) (4 - 1) = b x 0 % 8 * 262144 + b x 1 % 64 * 4096 + b x 2 % 64 * 64 + b x 3 % 64 := by show 64 * (64 * (64 * (b x 0 - 240) + b x 1 % 64) + b x 2 % 64) + b x 3 % 64 = _; omega
    have ed : Lib.decodeN x.length (b x 0) (b x 1) (b x 2) (b x 3) = if b x 0 % 8 * 262144 + b x 1 % 64 * 4096 + b x 2 % 64 * 64 + b x 3 % 64 ≥ 65536 ∧ (b x 0 % 8 * 262144 + b x 1 % 64 * 4096 + b x 2 % 64 * 64 + b x 3 % 64 < 55296 ∨ (57344 ≤ b x 0 % 8 * 262144 + b x 1 % 64 * 4096 + b x 2 % 64 * 64 + b x 3 % 64 ∧ b x 0 % 8 * 262144 + b x 1 % 64 * 4096 + b x 2 % 64 * 64 + b x 3 % 64 ≤ 1114111)) then (b x 0 % 8 * 262144 + b x 1 % 64 * 4096 + b x 2 % 64 * 64 + b x 3 % 64, 4) else (65533, 1) := by
      unfold Lib.decodeN
      rw [if_neg (by omega), if_neg (by omega), if_neg (by omega), if_pos ⟨by omega, ⟨by omega, by omega⟩, ⟨by omega, by omega⟩, by omega, by omega⟩]
    rw [ea]
    have e2 : least 4 = 65536 := rfl
    rw [e2]
    generalize b x 0 % 8 * 262144 + b x 1 % 64 * 4096 + b x 2 % 64 * 64 + b x 3 % 64 = a at ed ⊢
    by_cases g : a < 65536
    · rw [nx_bad (ne_of h) (by rw [ed, if_neg (by omega)]), if_pos (.inl g)]
    · by_cases g2 : a ≤ 1114111 ∧ (a < 55296 ∨ 57343 < a)
      · have hch : isCh a = true := decide_eq_true g2
        rw [nx_ok (ne_of h) (by rw [ed, if_pos (by omega)]) (by omega), if_neg (by rw [hch]; simp; omega)]
      · have hch : isCh a = false := decide_eq_false g2
        rw [nx_bad (ne_of h) (by rw [ed, if_neg (by omega)]), if_pos (.inr hch)]
set_option maxRecDepth 100000 in
theorem accN_bd {x : Bs} {v n c : Nat} (hl : lead v = (n, c)) (hn : 2 ≤ n) (i : Nat) (hi : i < n) : accN x c i < 2097152 := by
  have m (k : Nat) : b x k % 64 < 64 := Nat.mod_lt _ (by decide)
  rcases lead_cases hl hn with ⟨rfl, h1, h2, rfl⟩ | ⟨rfl, h1, h2, rfl⟩ | ⟨rfl, h1, h2, rfl⟩
  · obtain rfl | rfl : i = 0 ∨ i = 1 := by omega
    · show v - 192 < _; omega
    · have := m 1; show 64 * (v - 192) + b x 1 % 64 < _; omega
  · obtain rfl | rfl | rfl : i = 0 ∨ i = 1 ∨ i = 2 := by omega
    · show v - 224 < _; omega
    · have := m 1; show 64 * (v - 224) + b x 1 % 64 < _; omega
    · have := m 1; have := m 2; show 64 * (64 * (v - 224) + b x 1 % 64) + b x 2 % 64 < _; omega
  · obtain rfl | rfl | rfl | rfl : i = 0 ∨ i = 1 ∨ i = 2 ∨ i = 3 := by omega
    · show v - 240 < _; omega
    · have := m 1; show 64 * (v - 240) + b x 1 % 64 < _; omega
    · have := m 1; have := m 2; show 64 * (64 * (v - 240) + b x 1 % 64) + b x 2 % 64 < _; omega
    · have := m 1; have := m 2; have := m 3; show 64 * (64 * (64 * (v - 240) + b x 1 % 64) + b x 2 % 64) + b x 3 % 64 < _; omega

/-! ### texts as lists of characters -/
def runesGo : Nat → Bs → List Nat
  | 0, _ => []
  | n + 1, l => if l = [] then [] else (Lib.decodeL l).1 :: runesGo n (l.drop (Lib.decodeL l).2)
/-- the characters of a text -/
def runes (l : Bs) : List Nat := runesGo l.length l
theorem runesGo_fuel : ∀ (n m : Nat) (l : Bs), l.length ≤ n → l.length ≤ m → runesGo n l = runesGo m l
  | 0, m, l, hn, _ => by
    have : l = [] := List.eq_nil_of_length_eq_zero (by omega)
    subst this
    cases m <;> simp [runesGo]
  | n + 1, 0, l, _, hm => by
    have : l = [] := List.eq_nil_of_length_eq_zero (by omega)
    subst this; simp [runesGo]
  | n + 1, m + 1, l, hn, hm => by
    rw [runesGo, runesGo]
    split
    · rfl
    · rename_i h
      have hw := Lib.decodeL_width l
      have hp : 0 < l.length := List.length_pos_iff.2 h
      rw [runesGo_fuel n m _ (by rw [List.length_drop]; omega) (by rw [List.length_drop]; omega)]
theorem runes_nil : runes [] = [] := rfl
theorem runes_step {l : Bs} (h : l ≠ []) : runes l = (Lib.decodeL l).1 :: runes (l.drop (Lib.decodeL l).2) := by
  have hw := Lib.decodeL_width l
  cases l with
  | nil => exact absurd rfl h
  | cons c r =>
    show runesGo (r.length + 1) (c :: r) = _
    rw [runesGo, if_neg h]
    congr 1
    exact runesGo_fuel _ _ _ (by rw [List.length_drop, List.length_cons]; omega) (Nat.le_refl _)
theorem validGo_fuel : ∀ (n m : Nat) (l : Bs), l.length ≤ n → l.length ≤ m → Lib.validGoD n l = Lib.validGoD m l
  | 0, m, l, hn, _ => by
    have : l = [] := List.eq_nil_of_length_eq_zero (by omega)
    subst this
    cases m <;> simp [Lib.validGoD]
  | n + 1, 0, l, _, hm => by
    have : l = [] := List.eq_nil_of_length_eq_zero (by omega)
    subst this; simp [Lib.validGoD]
  | n + 1, m + 1, l, hn, hm => by
    rw [Lib.validGoD, Lib.validGoD]
    split
    · rfl
    · rename_i h
      have hw := Lib.decodeL_width l
      have hp : 0 < l.length := List.length_pos_iff.2 h
      rw [validGo_fuel n m _ (by rw [List.length_drop]; omega) (by rw [List.length_drop]; omega)]
theorem valid_nil : Lib.validD [] = true := rfl
theorem valid_step {l : Bs} (h : l ≠ []) : Lib.validD l = if (Lib.decodeL l).1 = 65533 ∧ (Lib.decodeL l).2 = 1 then false else Lib.validD (l.drop (Lib.decodeL l).2) := by
  have hw := Lib.decodeL_width l
  cases l with
  | nil => exact absurd rfl h
  | cons c r =>
    show Lib.validGoD (r.length + 1) (c :: r) = _
    rw [Lib.validGoD, if_neg h]
    rw [validGo_fuel r.length _ (List.drop (Lib.decodeL (c :: r)).2 (c :: r)) (by rw [List.length_drop, List.length_cons]; omega) (Nat.le_refl _)]
    rfl
theorem runes_len : ∀ (n : Nat) (l : Bs), l.length ≤ n → (runes l).length ≤ l.length
  | 0, l, h => by
    have : l = [] := List.eq_nil_of_length_eq_zero (by omega)
    subst this; simp [runes_nil]
  | n + 1, l, h => by
    by_cases e : l = []
    · subst e; simp [runes_nil]
    · have hw := Lib.decodeL_width l
      have hp : 0 < l.length := List.length_pos_iff.2 e
      rw [runes_step e, List.length_cons]
      have := runes_len n (l.drop (Lib.decodeL l).2) (by rw [List.length_drop]; omega)
      rw [List.length_drop] at this
      omega
/-- what the decoder says of a text at a place -/
theorem next_valid {l : Bs} (h : l ≠ []) (hv : Lib.validD l = true) : nextL l = Lib.decodeL l ∧ Lib.validD (l.drop (Lib.decodeL l).2) = true := by
  rw [valid_step h] at hv
  split at hv
  · cases hv
  · rename_i hn
    refine ⟨?_, hv⟩
    unfold nextL
    rw [if_neg h, if_neg (fun e => hn (by rw [e]; exact ⟨rfl, rfl⟩))]
theorem next_pos {l : Bs} (h : l ≠ []) (h0 : (nextL l).2 ≠ 0) : nextL l = Lib.decodeL l ∧ ¬ ((Lib.decodeL l).1 = 65533 ∧ (Lib.decodeL l).2 = 1) := by
  unfold nextL at h0 ⊢
  rw [if_neg h] at h0 ⊢
  split at h0
  · exact absurd rfl h0
  · rename_i hn
    rw [if_neg hn]
    refine ⟨rfl, fun e => hn ?_⟩
    obtain ⟨e1, e2⟩ := e
    exact Prod.ext e1 e2
theorem next_zero {l : Bs} (h : l ≠ []) (h0 : (nextL l).2 = 0) : Lib.validD l = false := by
  unfold nextL at h0
  rw [if_neg h] at h0
  split at h0
  · rename_i e
    rw [valid_step h, if_pos (by rw [e]; exact ⟨rfl, rfl⟩)]
  · have := Lib.decodeL_width l; omega
end UT
end Go.Proofs.YtgdcffahhpeibaaGreatDoor
