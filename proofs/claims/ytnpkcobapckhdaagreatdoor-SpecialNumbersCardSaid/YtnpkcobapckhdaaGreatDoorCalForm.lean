/-
  All ways of writing a day as plain lists of bytes. No condition.
-/
import Derived.Test.YtnpkcobapckhdaaGreatDoorLawMath
import Derived.Lib.ItoaNum
import Derived.Lib.Repeat
import Derived.Lib.Join
namespace Go.Proofs.YtnpkcobapckhdaaGreatDoor
namespace CF
open Num (Bs digs)
def nen : Bs := [229, 185, 180]
def gatsu : Bs := [230, 156, 136]
def nichi : Bs := [230, 151, 165]
def gan : Bs := [229, 133, 131]
def wd (n : Nat) : Bs := if n = 0 then [230, 151, 165] else if n = 1 then [230, 156, 136] else if n = 2 then [231, 129, 171] else if n = 3 then [230, 176, 180] else if n = 4 then [230, 156, 168] else if n = 5 then [233, 135, 145] else [229, 156, 159]
/-- with k digits at least -/
def pad (k n : Nat) : Bs := List.replicate (k - (digs n).length) 48 ++ digs n
/-- in kanji -/
def kan (n : Nat) : Bs := Num.writ false (digs n)
def short (m d : Nat) : Bs := digs m ++ gatsu ++ digs d ++ nichi
/-- the era of day n: its name, and the year before its first -/
def era (n : Nat) : Option (Bs × Nat) :=
  if 737180 ≤ n then some ([228, 187, 164, 229, 146, 140], 2018)
  else if 726110 ≤ n then some ([229, 185, 179, 230, 136, 144], 1988)
  else if 703450 ≤ n then some ([230, 152, 173, 229, 146, 140], 1925)
  else if 698189 ≤ n then some ([229, 164, 167, 230, 173, 163], 1911)
  else if 681932 ≤ n then some ([230, 152, 142, 230, 178, 187], 1867)
  else none
/-- the year of an era, in digits or in kanji -/
def yearA (k : Nat) : Bs := if k = 1 then gan else digs k
def yearB (k : Nat) : Bs := if k = 1 then gan else kan k
def form1 (y m d : Nat) : Bs := digs y ++ nen ++ short m d
def form2 (n y m d : Nat) : Bs := digs y ++ nen ++ short m d ++ [40] ++ wd (n % 7) ++ [41]
def form3 (y m d : Nat) : Bs := pad 4 y ++ [47] ++ pad 2 m ++ [47] ++ pad 2 d
def form4 (y m d : Nat) : Bs := pad 4 y ++ [45] ++ pad 2 m ++ [45] ++ pad 2 d
def form5 (e : Bs) (k m d : Nat) : Bs := e ++ yearA k ++ nen ++ short m d
def form6 (e : Bs) (k m d : Nat) : Bs := e ++ yearB k ++ nen ++ kan m ++ gatsu ++ kan d ++ nichi
/-- the forms with a year, of day n, which is y, m, d -/
def withYear (n y m d : Nat) : List Bs :=
  [form1 y m d, form2 n y m d, form3 y m d, form4 y m d] ++ (match era n with | none => [] | some (e, b) => [form5 e (y - b) m d, form6 e (y - b) m d])
def formsL (n y m d : Nat) : List Bs := withYear n y m d ++ [short m d, digs m ++ [47] ++ digs d]

theorem dec_digs : ∀ (k n : Nat), n < 10 ^ (k + 1) → n < 10000 → Lib.decDigits n = digs n
  | 0, n, h, _ => by
    have h10 : n < 10 := by simpa using h
    rw [Lib.decDigits, dif_pos h10, Num.digs_small n h10]; rfl
  | k + 1, n, h, h4 => by
    by_cases h10 : n < 10
    · rw [Lib.decDigits, dif_pos h10, Num.digs_small n h10]; rfl
    · rw [Lib.decDigits, dif_neg h10, dec_digs k (n / 10) (by rw [Nat.pow_succ] at h; omega) (by omega), Num.digs_rec n (by omega) h4, Num.digs_small (n % 10) (by omega)]
      rfl
theorem itoa_digs (n : Nat) (h : n < 10000) : Lib.itoa (n : Int) = digs n := by
  unfold Lib.itoa
  rw [if_neg (by omega), Int.toNat_natCast]
  exact dec_digs 3 n (by omega) h
theorem repeatL_zero : ∀ k, Lib.repeatL [48] k = List.replicate k 48
  | 0 => rfl
  | k + 1 => by rw [Lib.repeatL, repeatL_zero k, List.replicate_succ]; rfl
theorem join_flat : ∀ xs : List Bs, Lib.join xs [] = xs.flatten
  | [] => rfl
  | x :: r => by
    rw [Lib.join_cons, List.flatten_cons]
    congr 1
    unfold Lib.joinTail
    simp
theorem pad_len (k n : Nat) : (pad k n).length ≤ k + 4 := by
  unfold pad
  rw [List.length_append, List.length_replicate]
  have := (Num.digs_len n).2
  omega
theorem kan_len (n : Nat) : (kan n).length ≤ 40 := by
  unfold kan
  have h := (Num.digs_len n).2
  unfold Num.writ
  split
  · decide
  · have := Num.wr_len false (digs n) false; omega
theorem wd_len (n : Nat) : (wd n).length = 3 := by
  unfold wd
  repeat' split
  all_goals rfl
theorem short_len (m d : Nat) : (short m d).length ≤ 14 := by
  have a := (Num.digs_len m).2
  have b := (Num.digs_len d).2
  unfold short
  simp only [List.length_append]
  have : gatsu.length = 3 := rfl
  have : nichi.length = 3 := rfl
  omega
theorem withYear_len (n y m d : Nat) : (withYear n y m d).length ≤ 6 := by
  unfold withYear
  cases era n with
  | none => simp
  | some x => simp
end CF
end Go.Proofs.YtnpkcobapckhdaaGreatDoor
