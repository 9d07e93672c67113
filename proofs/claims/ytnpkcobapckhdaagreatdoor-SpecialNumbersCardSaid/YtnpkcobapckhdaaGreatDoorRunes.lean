/-
  Strings as lists of runes, in plain Lean: what a range over a string hands over, each rune encoded anew; ASCII digits; tokens of three bytes. No condition.
-/
import Derived.Lib.TrimUEq
import Derived.Lib.RuneCount
namespace Go.Proofs.YtnpkcobapckhdaaGreatDoor
namespace Ru
abbrev Bs := List UInt8
/-- the bytes of a rune -/
def enc (r : Nat) : Bs := (Utf8.encode (r : Int)).data.toList
/-- the runes of l, each as its bytes -/
def toksF : Nat → Bs → List Bs
  | 0, _ => []
  | n + 1, l => if l = [] then [] else enc (Lib.decodeL l).1 :: toksF n (l.drop (Lib.decodeL l).2)
def toks (l : Bs) : List Bs := toksF l.length l

theorem width_pos (l : Bs) (h : l ≠ []) : 1 ≤ (Lib.decodeL l).2 := by
  have hp : 0 < l.length := by cases l with | nil => exact absurd rfl h | cons a r => simp
  exact Lib.decode_width_pos ⟨l.toArray⟩ 0 (by show 0 < l.toArray.size; simpa using hp)
theorem toksF_nil (n : Nat) : toksF n [] = [] := by cases n <;> simp [toksF]
theorem toksF_fuel : ∀ (n m : Nat) (l : Bs), l.length ≤ n → l.length ≤ m → toksF n l = toksF m l
  | 0, m, l, h, _ => by
    have : l = [] := List.eq_nil_of_length_eq_zero (by omega)
    rw [this, toksF_nil, toksF_nil]
  | n + 1, 0, l, _, h => by
    have : l = [] := List.eq_nil_of_length_eq_zero (by omega)
    rw [this, toksF_nil, toksF_nil]
  | n + 1, m + 1, l, h1, h2 => by
    by_cases h : l = []
    · rw [h, toksF_nil, toksF_nil]
    · have a := width_pos l h
      rw [toksF, toksF, if_neg h, if_neg h, toksF_fuel n m _ (by rw [List.length_drop]; omega) (by rw [List.length_drop]; omega)]

/-- three bytes that are one rune, encoded as it is decoded -/
def tok3 (t : Bs) : Bool := match t with
  | [a, b, c] => a.toNat / 16 == 14 && b.toNat / 64 == 2 && c.toNat / 64 == 2 && decide (a.toNat % 16 * 4096 + b.toNat % 64 * 64 + c.toNat % 64 ≥ 2048) && decide (a.toNat % 16 * 4096 + b.toNat % 64 * 64 + c.toNat % 64 < 55296 ∨ (57344 ≤ a.toNat % 16 * 4096 + b.toNat % 64 * 64 + c.toNat % 64 ∧ a.toNat % 16 * 4096 + b.toNat % 64 * 64 + c.toNat % 64 ≤ 1114111)) && enc (a.toNat % 16 * 4096 + b.toNat % 64 * 64 + c.toNat % 64) == t
  | _ => false
theorem tok3_len {t : Bs} (h : tok3 t = true) : t.length = 3 := by
  unfold tok3 at h
  split at h
  · rfl
  · cases h
theorem tok3_dec {t : Bs} (h : tok3 t = true) (r : Bs) : enc (Lib.decodeL (t ++ r)).1 = t ∧ (Lib.decodeL (t ++ r)).2 = 3 := by
  unfold tok3 at h
  split at h
  · rename_i a b c
    simp only [Bool.and_eq_true, beq_iff_eq, decide_eq_true_eq] at h
    obtain ⟨⟨⟨⟨⟨h1, h2⟩, h3⟩, h4⟩, h5⟩, h6⟩ := h
    have e : Lib.decodeL ([a, b, c] ++ r) = (a.toNat % 16 * 4096 + b.toNat % 64 * 64 + c.toNat % 64, 3) := by
      rw [Lib.decodeL_N]
      have g0 : ([a, b, c] ++ r).getD 0 0 = a := rfl
      have g1 : ([a, b, c] ++ r).getD 1 0 = b := rfl
      have g2 : ([a, b, c] ++ r).getD 2 0 = c := rfl
      have gl : 2 < ([a, b, c] ++ r).length := by simp
      rw [g0, g1, g2]
      unfold Lib.decodeN
      rw [if_neg (by omega), if_neg (by omega), if_pos ⟨h1, ⟨by omega, h2⟩, gl, h3⟩, if_pos ⟨h4, h5⟩]
    rw [e]
    exact ⟨h6, rfl⟩
  · cases h
theorem toksF_tok {t : Bs} (h : tok3 t = true) (r : Bs) (n : Nat) : toksF (n + 1) (t ++ r) = t :: toksF n r := by
  have hl := tok3_len h
  have hd := tok3_dec h r
  rw [toksF, if_neg (by intro e; have := congrArg List.length e; rw [List.length_append, hl] at this; simp at this), hd.1, hd.2]
  congr 1
  congr 1
  rw [← hl, List.drop_left]
/-- a text of such runes -/
theorem toks_flat : ∀ (T : List Bs), (∀ t ∈ T, tok3 t = true) → toks T.flatten = T := by
  have key : ∀ (T : List Bs), (∀ t ∈ T, tok3 t = true) → ∀ n, T.length ≤ n → toksF n T.flatten = T := by
    intro T
    induction T with
    | nil => intro _ n _; exact toksF_nil n
    | cons t T ih =>
      intro h n hn
      obtain ⟨m, rfl⟩ : ∃ m, n = m + 1 := ⟨n - 1, by simp at hn; omega⟩
      rw [List.flatten_cons, toksF_tok (h t (by simp)), ih (fun x hx => h x (by simp [hx])) m (by simp at hn; omega)]
  intro T h
  refine key T h _ ?_
  have : ∀ (T : List Bs), (∀ t ∈ T, tok3 t = true) → T.length ≤ T.flatten.length := by
    intro T
    induction T with
    | nil => simp
    | cons t T ih =>
      intro h
      have a := tok3_len (h t (by simp))
      have b := ih (fun x hx => h x (by simp [hx]))
      rw [List.flatten_cons, List.length_append, List.length_cons]; omega
  exact this T h
/-- three by three, as the reference goes -/
theorem flat_take {t : Bs} (h : t.length = 3) (T : List Bs) : ((t :: T).flatten).take 3 = t ∧ ((t :: T).flatten).drop 3 = T.flatten := by
  rw [List.flatten_cons, ← h]
  exact ⟨List.take_left, List.drop_left⟩
theorem flat_len : ∀ (T : List Bs), (∀ t ∈ T, t.length = 3) → T.flatten.length = 3 * T.length
  | [], _ => rfl
  | t :: T, h => by
    rw [List.flatten_cons, List.length_append, h t (by simp), flat_len T (fun x hx => h x (by simp [hx])), List.length_cons]; omega
end Ru
end Go.Proofs.YtnpkcobapckhdaaGreatDoor
