/-
  Numbers in Japanese writing as plain functions on lists of bytes. No condition.
-/
import Derived.Lib.SlTrimSet
namespace Go.Proofs.YtnpkcobapckhdaaGreatDoor
namespace Num
abbrev Bs := List UInt8
def dgP : List Bs := [[227, 128, 135], [228, 184, 128], [228, 186, 140], [228, 184, 137], [229, 155, 155], [228, 186, 148], [229, 133, 173], [228, 184, 131], [229, 133, 171], [228, 185, 157]]
def dgF : List Bs := [[233, 155, 182], [229, 163, 177], [229, 188, 144], [229, 143, 130], [229, 155, 155], [228, 186, 148], [229, 133, 173], [228, 184, 131], [229, 133, 171], [228, 185, 157]]
def unP : List Bs := [[], [229, 141, 129], [231, 153, 190], [229, 141, 131]]
def unF : List Bs := [[], [230, 139, 190], [231, 153, 190], [229, 141, 131]]
def grp : List Bs := [[], [228, 184, 135], [229, 132, 132], [229, 133, 134], [228, 186, 172]]
def zero : Bs := [233, 155, 182]
def dg (f : Bool) : List Bs := if f then dgF else dgP
def un (f : Bool) : List Bs := if f then unF else unP
def dch (f : Bool) (n : Nat) : Bs := (dg f).getD n []
def uch (f : Bool) (k : Nat) : Bs := (un f).getD k []
def gch (k : Nat) : Bs := grp.getD k []
def val (c : UInt8) : Nat := c.toNat - 48
def cutset : Bs := [48, 49, 50, 51, 52, 53, 54, 55, 56, 57]
def isD (c : UInt8) : Bool := 48 ≤ c && c ≤ 57
/-- decimal digits of a number of at most 20 digits -/
def valid (l : Bs) : Bool := !l.isEmpty && decide (l.length ≤ 20) && l.all isD && (l.head? != some 48 || l == [48])

/-- what one digit writes; whether something of its group is written then -/
def stepOut (f : Bool) (n p : Nat) : Bs := if n = 0 then [] else (if 1 < n ∨ f = true ∨ p % 4 = 0 then dch f n else []) ++ uch f (p % 4)
def stepG (n p : Nat) (s : Bool) : Bs := if p % 4 = 0 ∧ (s = true ∨ n ≠ 0) then gch (p / 4) else []
def stepS (n p : Nat) (s : Bool) : Bool := if p % 4 = 0 then false else s || decide (n ≠ 0)
def wr (f : Bool) : Bs → Bool → Bs
  | [], _ => []
  | c :: r, s => stepOut f (val c) r.length ++ stepG (val c) r.length s ++ wr f r (stepS (val c) r.length s)
/-- a number in a style -/
def writ (f : Bool) (l : Bs) : Bs := if l == [48] then zero else wr f l false
/-- the digits one by one -/
def pos : Bs → Bs
  | [] => []
  | c :: r => dch false (val c) ++ pos r
/-- with commas -/
def com : Bool → Bs → Bs
  | _, [] => []
  | first, c :: r => (if first = false ∧ (r.length + 1) % 3 = 0 then [44] else []) ++ c :: com false r

theorem dch_len (f : Bool) (n : Nat) : (dch f n).length ≤ 3 := by
  unfold dch dg
  by_cases h : n < 10
  · have : n = 0 ∨ n = 1 ∨ n = 2 ∨ n = 3 ∨ n = 4 ∨ n = 5 ∨ n = 6 ∨ n = 7 ∨ n = 8 ∨ n = 9 := by omega
    rcases this with rfl | rfl | rfl | rfl | rfl | rfl | rfl | rfl | rfl | rfl <;> cases f <;> decide
  · rw [List.getD_eq_getElem?_getD, List.getElem?_eq_none (by cases f <;> simp [dgP, dgF] <;> omega)]; simp
theorem uch_len (f : Bool) (n : Nat) : (uch f n).length ≤ 3 := by
  unfold uch un
  by_cases h : n < 4
  · have : n = 0 ∨ n = 1 ∨ n = 2 ∨ n = 3 := by omega
    rcases this with rfl | rfl | rfl | rfl <;> cases f <;> decide
  · rw [List.getD_eq_getElem?_getD, List.getElem?_eq_none (by cases f <;> simp [unP, unF] <;> omega)]; simp
theorem gch_len (n : Nat) : (gch n).length ≤ 3 := by
  unfold gch
  by_cases h : n < 5
  · have : n = 0 ∨ n = 1 ∨ n = 2 ∨ n = 3 ∨ n = 4 := by omega
    rcases this with rfl | rfl | rfl | rfl | rfl <;> decide
  · rw [List.getD_eq_getElem?_getD, List.getElem?_eq_none (by simp [grp]; omega)]; simp
theorem stepOut_len (f : Bool) (n p : Nat) : (stepOut f n p).length ≤ 6 := by
  have a := dch_len f n
  have b := uch_len f (p % 4)
  unfold stepOut
  split
  · simp
  · split
    · rw [List.length_append]; omega
    · rw [List.length_append]; simp; omega
theorem stepG_len (n p : Nat) (s : Bool) : (stepG n p s).length ≤ 3 := by
  have a := gch_len (p / 4)
  unfold stepG
  split
  · exact a
  · simp
theorem wr_len (f : Bool) : ∀ (l : Bs) (s : Bool), (wr f l s).length ≤ 9 * l.length
  | [], _ => by simp [wr]
  | c :: r, s => by
    have ih := wr_len f r (stepS (val c) r.length s)
    have a := stepOut_len f (val c) r.length
    have b := stepG_len (val c) r.length s
    rw [wr, List.length_append, List.length_append, List.length_cons]
    omega
theorem pos_len : ∀ l : Bs, (pos l).length ≤ 3 * l.length
  | [] => by simp [pos]
  | c :: r => by
    have ih := pos_len r
    have a := dch_len false (val c)
    rw [pos, List.length_append, List.length_cons]; omega

theorem valid_iff (l : Bs) : valid l = true ↔ (l ≠ [] ∧ l.length ≤ 20 ∧ l.all isD = true ∧ (l.head? ≠ some 48 ∨ l = [48])) := by
  unfold valid
  simp [and_assoc]

theorem trim_nil (l : Bs) : Lib.trimS l cutset = [] ↔ l.all isD = true := by
  have hc : ∀ c : UInt8, cutset.contains c = isD c := by
    intro c
    have h : ∀ n : Fin 256, cutset.contains (UInt8.ofNat n) = isD (UInt8.ofNat n) := by decide +kernel
    have := h ⟨c.toNat, c.toNat_lt⟩
    simpa using this
  have hd : ∀ (m : Bs), m.dropWhile (cutset.contains ·) = [] ↔ m.all isD = true := by
    intro m
    induction m with
    | nil => simp
    | cons a m ih =>
      rw [List.dropWhile_cons, hc a]
      cases h : isD a
      · simp [h]
      · simp only [if_true]
        rw [ih]; simp [h]
  unfold Lib.trimS Lib.trimLeftS Lib.trimRightS
  rw [hd]
  constructor
  · intro h
    have h2 : (List.dropWhile (fun x => cutset.contains x) l.reverse).all isD = true := by
      rw [List.all_reverse] at h; exact h
    have h3 : l.reverse.dropWhile (cutset.contains ·) = [] := by
      cases e : l.reverse.dropWhile (cutset.contains ·) with
      | nil => rfl
      | cons a m =>
        exfalso
        have h4 := List.head_dropWhile_not (p := fun x => cutset.contains x) (l := l.reverse) (by rw [e]; simp)
        rw [e] at h2
        have h5 : isD a = true := by simp at h2; exact h2.1
        simp only [e, List.head_cons] at h4
        rw [hc] at h4
        rw [h5] at h4
        cases h4
    rw [hd, List.all_reverse] at h3
    exact h3
  · intro h
    have h3 : l.reverse.dropWhile (cutset.contains ·) = [] := by rw [hd, List.all_reverse]; exact h
    rw [h3]; rfl
end Num
end Go.Proofs.YtnpkcobapckhdaaGreatDoor
