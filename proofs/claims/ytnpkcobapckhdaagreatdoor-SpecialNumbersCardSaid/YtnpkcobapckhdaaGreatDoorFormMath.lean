/-
  All ways of writing a number as plain functions: digits of either width, the list without repetitions. No condition.
-/
import Derived.Test.YtnpkcobapckhdaaGreatDoorNumPos
import Derived.Test.YtnpkcobapckhdaaGreatDoorComMath
import Derived.Test.YtnpkcobapckhdaaGreatDoorParseMath
namespace Go.Proofs.YtnpkcobapckhdaaGreatDoor
namespace Num

/-- the digit with which l begins, in ASCII or full width, and how many bytes it takes -/
def nd (l : Bs) : Option (Nat × Nat) :=
  if l = [] then none
  else if 48 ≤ (l.getD 0 0).toNat ∧ (l.getD 0 0).toNat ≤ 57 then some ((l.getD 0 0).toNat - 48, 1)
  else if 2 < l.length ∧ (l.getD 0 0).toNat = 239 ∧ (l.getD 1 0).toNat = 188 ∧ 144 ≤ (l.getD 2 0).toNat ∧ (l.getD 2 0).toNat ≤ 153 then some ((l.getD 2 0).toNat - 144, 3)
  else none
def narF : Nat → Bs → Option Bs
  | 0, _ => some []
  | n + 1, l => if l = [] then some [] else match nd l with
    | none => none
    | some (d, k) => (narF n (l.drop k)).map (UInt8.ofNat (48 + d) :: ·)
/-- the ASCII digits of a string of digits -/
def nar (l : Bs) : Option Bs := narF l.length l

theorem nd_some {l : Bs} {d k : Nat} (h : nd l = some (d, k)) : d < 10 ∧ (k = 1 ∨ k = 3) ∧ l ≠ [] ∧ k ≤ l.length := by
  unfold nd at h
  split at h
  · cases h
  · rename_i hl
    have hp : 0 < l.length := by cases l with | nil => exact absurd rfl hl | cons a r => simp
    split at h
    · injection h with h; injection h with h1 h2
      exact ⟨by omega, Or.inl h2.symm, hl, by omega⟩
    · split at h
      · injection h with h; injection h with h1 h2
        exact ⟨by omega, Or.inr h2.symm, hl, by omega⟩
      · cases h
/-- what a range over the string hands over there -/
theorem nd_rune {l : Bs} {d k : Nat} (h : nd l = some (d, k)) : (Lib.decodeL l).2 = k ∧ (Lib.decodeL l).1 = (if k = 1 then 48 else 65296) + d := by
  rw [Lib.decodeL_N]
  unfold nd at h
  unfold Lib.decodeN
  split at h
  · cases h
  · split at h
    · injection h with h; injection h with h1 h2
      subst h2
      rw [if_pos (by omega), if_pos rfl]
      exact ⟨rfl, by show _ = 48 + d; omega⟩
    · split at h
      · rename_i hh
        injection h with h; injection h with h1 h2
        subst h2
        obtain ⟨a, b, c, e, f⟩ := hh
        rw [if_neg (by omega), if_neg (by omega), if_pos ⟨by omega, ⟨by omega, by omega⟩, a, by omega⟩, if_pos ⟨by omega, by omega⟩, if_neg (by omega)]
        exact ⟨rfl, by show _ = 65296 + d; omega⟩
      · cases h
theorem nd_none {l : Bs} (h : nd l = none) (hl : l ≠ []) : ¬ (48 ≤ (Lib.decodeL l).1 ∧ (Lib.decodeL l).1 ≤ 57) ∧ ¬ (65296 ≤ (Lib.decodeL l).1 ∧ (Lib.decodeL l).1 ≤ 65305) := by
  rw [Lib.decodeL_N]
  unfold nd at h
  rw [if_neg hl] at h
  split at h
  · cases h
  · rename_i h1
    split at h
    · cases h
    · rename_i h2
      unfold Lib.decodeN
      split
      · exact ⟨h1, by show ¬ (65296 ≤ (l.getD 0 0).toNat ∧ _); omega⟩
      · split
        · split
          · exact ⟨by show ¬ (48 ≤ _ % 32 * 64 + _ % 64 ∧ _); omega, by show ¬ (65296 ≤ _ % 32 * 64 + _ % 64 ∧ _); omega⟩
          · exact ⟨by show ¬ (48 ≤ 65533 ∧ 65533 ≤ 57); omega, by show ¬ (65296 ≤ 65533 ∧ 65533 ≤ 65305); omega⟩
        · split
          · split
            · rename_i hc hd
              obtain ⟨c1, ⟨c2, c3⟩, c4, c5⟩ := hc
              exact ⟨by show ¬ (48 ≤ _ % 16 * 4096 + _ % 64 * 64 + _ % 64 ∧ _); omega, by show ¬ (65296 ≤ _ % 16 * 4096 + _ % 64 * 64 + _ % 64 ∧ _); omega⟩
            · exact ⟨by show ¬ (48 ≤ 65533 ∧ 65533 ≤ 57); omega, by show ¬ (65296 ≤ 65533 ∧ 65533 ≤ 65305); omega⟩
          · split
            · split
              · rename_i hd
                exact ⟨by show ¬ (48 ≤ _ % 8 * 262144 + _ % 64 * 4096 + _ % 64 * 64 + _ % 64 ∧ _); omega, by show ¬ (65296 ≤ _ % 8 * 262144 + _ % 64 * 4096 + _ % 64 * 64 + _ % 64 ∧ _); omega⟩
              · exact ⟨by show ¬ (48 ≤ 65533 ∧ 65533 ≤ 57); omega, by show ¬ (65296 ≤ 65533 ∧ 65533 ≤ 65305); omega⟩
            · exact ⟨by show ¬ (48 ≤ 65533 ∧ 65533 ≤ 57); omega, by show ¬ (65296 ≤ 65533 ∧ 65533 ≤ 65305); omega⟩

/-- what a loop over the string has: acc is written, pos bytes are done -/
def NarL (l acc : Bs) (fuel pos : Nat) : Prop := (narF fuel (l.drop pos)).map (acc ++ ·) = nar l
theorem narL_start (l : Bs) : NarL l [] l.length 0 := by
  unfold NarL nar
  rw [List.drop_zero]
  cases narF l.length l <;> simp
theorem narL_step {l acc : Bs} {fuel pos d k : Nat} (h : NarL l acc fuel pos) (hd : nd (l.drop pos) = some (d, k)) (hf : l.length ≤ pos + fuel) : NarL l (acc ++ [UInt8.ofNat (48 + d)]) (fuel - 1) (pos + k) := by
  have hs := nd_some hd
  have hlt : pos < l.length := by
    rcases Nat.lt_or_ge pos l.length with h' | h'
    · exact h'
    · exact absurd (List.drop_eq_nil_of_le h') hs.2.2.1
  obtain ⟨n, rfl⟩ : ∃ n, fuel = n + 1 := ⟨fuel - 1, by omega⟩
  unfold NarL at *
  rw [narF, if_neg hs.2.2.1, hd] at h
  dsimp only at h
  rw [List.drop_drop] at h
  rw [Nat.add_sub_cancel, ← h]
  simp only [Option.map_map]
  congr 1
  funext x
  simp
theorem narL_none {l acc : Bs} {fuel pos : Nat} (h : NarL l acc fuel pos) (hd : nd (l.drop pos) = none) (hp : pos < l.length) (hf : l.length ≤ pos + fuel) : nar l = none := by
  have hne : l.drop pos ≠ [] := by intro e; have := congrArg List.length e; rw [List.length_drop] at this; simp at this; omega
  obtain ⟨n, rfl⟩ : ∃ n, fuel = n + 1 := ⟨fuel - 1, by omega⟩
  unfold NarL at h
  rw [narF, if_neg hne, hd] at h
  exact h.symm
theorem narL_end {l acc : Bs} {fuel pos : Nat} (h : NarL l acc fuel pos) (hp : ¬ pos < l.length) : nar l = some acc := by
  unfold NarL at h
  rw [List.drop_eq_nil_of_le (by omega)] at h
  cases fuel with
  | zero => rw [narF] at h; rw [← h]; simp
  | succ n => rw [narF, if_pos rfl] at h; rw [← h]; simp

/-! ### the list -/
def addU (L : List Bs) (x : Bs) : List Bs := if x ∈ L then L else L ++ [x]
def wide (d : Bs) : Bs := mapD wideCh d
def four (d : Bs) : List Bs := [com true d, pos d, writ false d, writ true d]
def formsOf (d : Bs) : List Bs := (four d).foldl addU [d, wide d]
/-- all ways of writing the number that l is -/
def forms (l : Bs) : List Bs := match nar l with
  | none => []
  | some d => if valid d = true then formsOf d else []
theorem mapD_len3 : ∀ d : Bs, (mapD wideCh d).length = 3 * d.length
  | [] => rfl
  | c :: r => by
    have := mapD_len3 r
    rw [mapD, List.length_append, this, List.length_cons]
    show 3 + _ = _
    omega
theorem wide_ne (d : Bs) (h : d ≠ []) : wide d ≠ d := by
  intro e
  have := congrArg List.length e
  unfold wide at this
  rw [mapD_len3] at this
  have hp : 0 < d.length := by cases d with | nil => exact absurd rfl h | cons a r => simp
  omega
theorem ref_forms (d : Bs) (h : d ≠ []) : (d :: wide d :: four d).foldl addU [] = formsOf d := by
  show (four d).foldl addU (addU (addU [] d) (wide d)) = _
  have e1 : addU [] d = [d] := by unfold addU; rw [if_neg (by simp)]; rfl
  have e2 : addU [d] (wide d) = [d, wide d] := by unfold addU; rw [if_neg (by simp; exact wide_ne d h)]; rfl
  rw [e1, e2]; rfl
theorem addU_len (L : List Bs) (x : Bs) : (addU L x).length ≤ L.length + 1 := by unfold addU; split <;> simp
end Num
end Go.Proofs.YtnpkcobapckhdaaGreatDoor
