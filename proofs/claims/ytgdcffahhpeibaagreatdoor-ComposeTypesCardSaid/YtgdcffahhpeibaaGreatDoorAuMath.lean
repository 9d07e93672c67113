/-
  The automaton of rules as plain functions over lists of bytes: feeding keys, flushing, and what both have in common. No condition but that the rules are allowed.
-/
import Derived.Test.YtgdcffahhpeibaaGreatDoorRoMath
namespace Go.Proofs.YtgdcffahhpeibaaGreatDoor
namespace Au
open UT (Bs)
open Ro (Rule find longer check)
def isKey (c : UInt8) : Bool := decide (33 ≤ c.toNat) && decide (c.toNat ≤ 126)
def keysOf (s : Bs) : Bs := s.filter isKey
/-- the rule with the most keys, n at most, with which s begins -/
def beginN (l : List Rule) (s : Bs) : Nat → Option Rule
  | 0 => none
  | n + 1 => match find l (s.take (n + 1)) with
    | some r => some r
    | none => beginN l s n
def begin (l : List Rule) (s : Bs) : Option Rule := beginN l s s.length
/-- what is written, and what is to be fed then -/
def apply (l : List Rule) (s : Bs) : Bs × Bs := match begin l s with
  | some r => (r.2.1, r.2.2 ++ s.drop r.1.length)
  | none => (s.take 1, s.drop 1)
/-- feeding keys while others are pending: what is written, what is pending then -/
def feedF (l : List Rule) : Nat → Bs → Bs → Bs × Bs
  | 0, p, _ => ([], p)
  | _ + 1, p, [] => ([], p)
  | n + 1, p, c :: ks =>
    if longer l (p ++ [c]) = true then feedF l n (p ++ [c]) ks
    else ((apply l (p ++ [c])).1 ++ (feedF l n [] ((apply l (p ++ [c])).2 ++ ks)).1, (feedF l n [] ((apply l (p ++ [c])).2 ++ ks)).2)
def fuel (p k : Bs) : Nat := (p.length + k.length) * (p.length + k.length) + k.length + 1
def feed (l : List Rule) (p k : Bs) : Bs × Bs := feedF l (fuel p k) p k
def step (l : List Rule) (p : Bs) (c : UInt8) : Bs × Bs := feed l (keysOf p) (keysOf [c])
def run (l : List Rule) (k : Bs) : Bs × Bs := feed l [] (keysOf k)
def flushF (l : List Rule) : Nat → Bs → Bs
  | 0, _ => []
  | n + 1, p => if p = [] then [] else (apply l p).1 ++ ((feed l [] (apply l p).2).1 ++ flushF l n (feed l [] (apply l p).2).2)
def flush (l : List Rule) (p : Bs) : Bs := flushF l ((keysOf p).length + 1) (keysOf p)

/-! ### applying -/
theorem find_some {l : List Rule} {k : Bs} {r : Rule} (h : find l k = some r) : r ∈ l ∧ r.1 = k :=
  ⟨List.mem_of_find?_eq_some h, eq_of_beq (List.find?_some (p := fun r : Rule => r.1 == k) h)⟩
theorem beginN_some {l : List Rule} {s : Bs} : ∀ {n : Nat} {r : Rule}, beginN l s n = some r → ∃ m, 0 < m ∧ m ≤ n ∧ find l (s.take m) = some r
  | 0, r, h => by cases h
  | n + 1, r, h => by
    rw [beginN] at h
    split at h
    · rename_i r' hr
      injection h with h
      subst h
      exact ⟨n + 1, by omega, by omega, hr⟩
    · obtain ⟨m, h1, h2, h3⟩ := beginN_some h
      exact ⟨m, h1, by omega, h3⟩
theorem begin_some {l : List Rule} {s : Bs} {r : Rule} (h : begin l s = some r) : r ∈ l ∧ 0 < r.1.length ∧ r.1.length ≤ s.length ∧ s.take r.1.length = r.1 := by
  obtain ⟨m, h1, h2, h3⟩ := beginN_some h
  obtain ⟨hm, hr⟩ := find_some h3
  have hl : r.1.length = m := by rw [hr, List.length_take]; omega
  exact ⟨hm, by omega, by omega, by rw [hl]; exact hr.symm⟩
/-- the rules are allowed: what follows is shorter than the keys -/
def Short (l : List Rule) : Prop := ∀ r ∈ l, r.2.2.length < r.1.length
theorem short_of {l : List Rule} (h : check l = 0) : Short l := fun r hr => by
  have := ((Ro.good_iff l).1 ((Ro.check_zero l).1 h).2).1 r hr
  exact ((Ro.allowed_iff r).1 this).2.2.2.2.1
theorem apply_len {l : List Rule} (h : Short l) {s : Bs} (hs : s ≠ []) : (apply l s).2.length < s.length := by
  have hp : 0 < s.length := List.length_pos_iff.2 hs
  unfold apply
  split
  · rename_i r hr
    obtain ⟨h1, h2, h3, _⟩ := begin_some hr
    have := h r h1
    dsimp only
    rw [List.length_append, List.length_drop]
    omega
  · dsimp only
    rw [List.length_drop]
    omega
theorem sq_lt {a b : Nat} (h : a < b) : a * a + a < b * b := by
  have h1 : (a + 1) * (a + 1) ≤ b * b := Nat.mul_le_mul h h
  have h2 : (a + 1) * (a + 1) = a * a + a + a + 1 := by
    rw [Nat.add_mul, Nat.mul_add]; omega
  omega
theorem snoc_ne (p : Bs) (c : UInt8) : p ++ [c] ≠ [] := by simp
theorem fuel_one (p : Bs) (c : UInt8) (ks : Bs) : fuel (p ++ [c]) ks < fuel p (c :: ks) := by
  unfold fuel
  rw [List.length_append, List.length_cons, List.length_cons, List.length_nil, show p.length + (0 + 1) + ks.length = p.length + (ks.length + 1) by omega]
  omega
theorem fuel_two {l : List Rule} (h : Short l) (p : Bs) (c : UInt8) (ks : Bs) : fuel [] ((apply l (p ++ [c])).2 ++ ks) < fuel p (c :: ks) := by
  have hl := apply_len h (snoc_ne p c)
  rw [List.length_append, List.length_cons, List.length_nil] at hl
  unfold fuel
  rw [List.length_append, List.length_cons, List.length_nil, Nat.zero_add]
  have := sq_lt (a := (apply l (p ++ [c])).2.length + ks.length) (b := p.length + (ks.length + 1)) (by omega)
  omega
theorem feedF_fuel {l : List Rule} (h : Short l) : ∀ (n m : Nat) (p k : Bs), fuel p k ≤ n → fuel p k ≤ m → feedF l n p k = feedF l m p k
  | 0, m, p, k, hn, _ => by unfold fuel at hn; omega
  | n + 1, 0, p, k, _, hm => by unfold fuel at hm; omega
  | n + 1, m + 1, p, [], _, _ => rfl
  | n + 1, m + 1, p, c :: ks, hn, hm => by
    have f1 := fuel_one p c ks
    have f2 := fuel_two h p c ks
    rw [feedF, feedF, feedF_fuel h n m (p ++ [c]) ks (by omega) (by omega), feedF_fuel h n m [] _ (by omega) (by omega)]
theorem feed_nil (l : List Rule) (p : Bs) : feed l p [] = ([], p) := rfl
theorem feed_cons {l : List Rule} (h : Short l) (p : Bs) (c : UInt8) (ks : Bs) : feed l p (c :: ks) =
    if longer l (p ++ [c]) = true then feed l (p ++ [c]) ks
    else ((apply l (p ++ [c])).1 ++ (feed l [] ((apply l (p ++ [c])).2 ++ ks)).1, (feed l [] ((apply l (p ++ [c])).2 ++ ks)).2) := by
  have f1 := fuel_one p c ks
  have f2 := fuel_two h p c ks
  have e1 : feedF l (fuel p (c :: ks) - 1) (p ++ [c]) ks = feed l (p ++ [c]) ks := feedF_fuel h _ _ _ _ (by omega) (Nat.le_refl _)
  have e2 : feedF l (fuel p (c :: ks) - 1) [] ((apply l (p ++ [c])).2 ++ ks) = feed l [] ((apply l (p ++ [c])).2 ++ ks) := feedF_fuel h _ _ _ _ (by omega) (Nat.le_refl _)
  rw [← e1, ← e2]
  have hf : fuel p (c :: ks) = (fuel p (c :: ks) - 1) + 1 := by omega
  show feedF l (fuel p (c :: ks)) p (c :: ks) = _
  rw [hf, feedF]
  rfl
theorem feed_yes {l : List Rule} (h : Short l) {p : Bs} {c : UInt8} (hl : longer l (p ++ [c]) = true) (ks : Bs) : feed l p (c :: ks) = feed l (p ++ [c]) ks := by
  rw [feed_cons h, if_pos hl]
theorem feed_no {l : List Rule} (h : Short l) {p : Bs} {c : UInt8} (hl : longer l (p ++ [c]) = false) (ks : Bs) : feed l p (c :: ks) = ((apply l (p ++ [c])).1 ++ (feed l [] ((apply l (p ++ [c])).2 ++ ks)).1, (feed l [] ((apply l (p ++ [c])).2 ++ ks)).2) := by
  rw [feed_cons h, if_neg (by rw [hl]; simp)]
/-- an induction along the feeding -/
theorem feed_ind {l : List Rule} (h : Short l) {M : Bs → Bs → Prop} (h0 : ∀ p, M p []) (h1 : ∀ p c ks, longer l (p ++ [c]) = true → M (p ++ [c]) ks → M p (c :: ks))
    (h2 : ∀ p c ks, longer l (p ++ [c]) = false → M [] ((apply l (p ++ [c])).2 ++ ks) → M p (c :: ks)) : ∀ (n : Nat) (p k : Bs), fuel p k ≤ n → M p k
  | 0, p, k, hn => by unfold fuel at hn; omega
  | n + 1, p, [], _ => h0 p
  | n + 1, p, c :: ks, hn => by
    have f1 := fuel_one p c ks
    have f2 := fuel_two h p c ks
    cases hl : longer l (p ++ [c])
    · exact h2 p c ks hl (feed_ind h h0 h1 h2 n _ _ (by omega))
    · exact h1 p c ks hl (feed_ind h h0 h1 h2 n _ _ (by omega))
theorem feed_rec {l : List Rule} (h : Short l) {M : Bs → Bs → Prop} (h0 : ∀ p, M p []) (h1 : ∀ p c ks, longer l (p ++ [c]) = true → M (p ++ [c]) ks → M p (c :: ks))
    (h2 : ∀ p c ks, longer l (p ++ [c]) = false → M [] ((apply l (p ++ [c])).2 ++ ks) → M p (c :: ks)) (p k : Bs) : M p k := feed_ind h h0 h1 h2 _ p k (Nat.le_refl _)
/-- keys one after the other -/
theorem feed_app {l : List Rule} (h : Short l) (k2 p k : Bs) : feed l p (k ++ k2) = ((feed l p k).1 ++ (feed l (feed l p k).2 k2).1, (feed l (feed l p k).2 k2).2) := by
  refine feed_rec h (M := fun p k => feed l p (k ++ k2) = ((feed l p k).1 ++ (feed l (feed l p k).2 k2).1, (feed l (feed l p k).2 k2).2)) ?_ ?_ ?_ p k
  · intro p; rfl
  · intro p c ks hl ih
    rw [List.cons_append, feed_yes h hl, feed_yes h hl, ih]
  · intro p c ks hl ih
    rw [List.cons_append, feed_no h hl, feed_no h hl, ← List.append_assoc, ih]
    dsimp only
    rw [List.append_assoc]
theorem feed_len {l : List Rule} (h : Short l) (p k : Bs) : (feed l p k).2.length ≤ p.length + k.length := by
  refine feed_rec h (M := fun p k => (feed l p k).2.length ≤ p.length + k.length) ?_ ?_ ?_ p k
  · intro p; rw [feed_nil]; simp
  · intro p c ks hl ih
    rw [feed_yes h hl]
    rw [List.length_append, List.length_cons, List.length_nil] at ih
    rw [List.length_cons]; omega
  · intro p c ks hl ih
    rw [feed_no h hl]
    have := apply_len h (snoc_ne p c)
    rw [List.length_append, List.length_cons, List.length_nil] at this
    rw [List.length_append, List.length_nil] at ih
    rw [List.length_cons]
    dsimp only
    omega
/-- what is pending: nothing, or the beginning of the keys of a rule -/
theorem feed_pend {l : List Rule} (h : Short l) (p k : Bs) (hp : p = [] ∨ longer l p = true) : (feed l p k).2 = [] ∨ longer l (feed l p k).2 = true := by
  refine feed_rec h (M := fun p k => (p = [] ∨ longer l p = true) → ((feed l p k).2 = [] ∨ longer l (feed l p k).2 = true)) ?_ ?_ ?_ p k hp
  · intro p hp; exact hp
  · intro p c ks hl ih _
    rw [feed_yes h hl]
    exact ih (.inr hl)
  · intro p c ks hl ih _
    rw [feed_no h hl]
    exact ih (.inl rfl)
theorem longer_iff {l : List Rule} {p : Bs} : longer l p = true ↔ ∃ r ∈ l, p.length < r.1.length ∧ r.1.take p.length = p := by
  unfold longer
  rw [List.any_eq_true]
  constructor
  · rintro ⟨r, hr, h⟩
    rw [Bool.and_eq_true, decide_eq_true_iff, beq_iff_eq] at h
    exact ⟨r, hr, h⟩
  · rintro ⟨r, hr, h1, h2⟩
    exact ⟨r, hr, by rw [Bool.and_eq_true, decide_eq_true_iff, beq_iff_eq]; exact ⟨h1, h2⟩⟩
theorem longer_nil {l : List Rule} (h : ∀ r ∈ l, r.1 ≠ []) (h0 : l ≠ []) : longer l [] = true := by
  cases l with
  | nil => exact absurd rfl h0
  | cons r l =>
    rw [longer_iff]
    exact ⟨r, List.mem_cons_self .., List.length_pos_iff.2 (h r (List.mem_cons_self ..)), rfl⟩
/-! ### keys -/
theorem keysOf_all {s : Bs} (h : ∀ c ∈ s, isKey c = true) : keysOf s = s := List.filter_eq_self.2 h
theorem keysOf_mem {s : Bs} {c : UInt8} (h : c ∈ keysOf s) : isKey c = true := (List.mem_filter.1 h).2
theorem keysOf_app (a b : Bs) : keysOf (a ++ b) = keysOf a ++ keysOf b := List.filter_append ..
theorem keysOf_one (c : UInt8) : keysOf [c] = if isKey c = true then [c] else [] := by
  unfold keysOf
  rw [List.filter_cons]
  split <;> rfl
/-- keys of rules are keys -/
def Keyed (l : List Rule) : Prop := ∀ r ∈ l, (∀ c ∈ r.1, isKey c = true) ∧ (∀ c ∈ r.2.2, isKey c = true)
theorem isKey_of {c : UInt8} (h : Ro.isK c = true) : isKey c = true := by
  have h1 := (Ro.isK_byte h).2.2.2.2
  unfold Ro.isK at h
  simp only [Bool.or_eq_true, Bool.and_eq_true, decide_eq_true_eq, beq_iff_eq] at h
  unfold isKey
  simp only [Bool.and_eq_true, decide_eq_true_eq]
  omega
theorem keyed_of {l : List Rule} (h : check l = 0) : Keyed l := fun r hr => by
  have := ((Ro.good_iff l).1 ((Ro.check_zero l).1 h).2).1 r hr
  have ha := (Ro.allowed_iff r).1 this
  exact ⟨fun c hc => isKey_of ((Ro.keyed_byte ha.2.1).2 c hc), fun c hc => isKey_of ((Ro.keyed_byte ha.2.2.2.1).2 c hc)⟩
theorem pend_keys {l : List Rule} (hk : Keyed l) {p : Bs} (h : p = [] ∨ longer l p = true) : ∀ c ∈ p, isKey c = true := by
  intro c hc
  rcases h with rfl | h
  · simp at hc
  · obtain ⟨r, hr, _, ht⟩ := longer_iff.1 h
    exact (hk r hr).1 c (by rw [← ht] at hc; exact List.mem_of_mem_take hc)
theorem run_pend {l : List Rule} (h : Short l) (k : Bs) : (run l k).2 = [] ∨ longer l (run l k).2 = true := feed_pend h [] _ (.inl rfl)
/-- one key after others -/
theorem run_snoc {l : List Rule} (h : check l = 0) (k : Bs) (c : UInt8) : run l (k ++ [c]) = ((run l k).1 ++ (step l (run l k).2 c).1, (step l (run l k).2 c).2) := by
  have hs := short_of h
  unfold step
  rw [keysOf_all (pend_keys (keyed_of h) (run_pend hs k))]
  unfold run
  rw [keysOf_app, feed_app hs]
/-! ### flushing -/
theorem flushF_fuel {l : List Rule} (h : Short l) : ∀ (n m : Nat) (p : Bs), p.length < n → p.length < m → flushF l n p = flushF l m p
  | 0, m, p, hn, _ => by omega
  | n + 1, 0, p, _, hm => by omega
  | n + 1, m + 1, p, hn, hm => by
    rw [flushF, flushF]
    by_cases hp : p = []
    · rw [if_pos hp, if_pos hp]
    · rw [if_neg hp, if_neg hp]
      have h1 := apply_len h hp
      have h2 := feed_len h [] (apply l p).2
      rw [List.length_nil] at h2
      rw [flushF_fuel h n m _ (by omega) (by omega)]
def flushP (l : List Rule) (p : Bs) : Bs := flushF l (p.length + 1) p
theorem flush_eq (l : List Rule) (p : Bs) : flush l p = flushP l (keysOf p) := rfl
theorem flushP_nil (l : List Rule) : flushP l [] = [] := rfl
theorem flushP_step {l : List Rule} (h : Short l) {p : Bs} (hp : p ≠ []) : flushP l p = (apply l p).1 ++ ((feed l [] (apply l p).2).1 ++ flushP l (feed l [] (apply l p).2).2) := by
  have h1 := apply_len h hp
  have h2 := feed_len h [] (apply l p).2
  rw [List.length_nil] at h2
  show flushF l (p.length + 1) p = _
  rw [flushF, if_neg hp, flushF_fuel h p.length ((feed l [] (apply l p).2).2.length + 1) _ (by omega) (by omega)]
  rfl
/-! ### keys that occur in no rule -/
def Other (l : List Rule) (c : UInt8) : Prop := ∀ r ∈ l, c ∉ r.1
theorem other_longer {l : List Rule} {c : UInt8} (h : Other l c) (p : Bs) : longer l (p ++ [c]) = false := by
  cases hl : longer l (p ++ [c])
  · rfl
  · obtain ⟨r, hr, _, ht⟩ := longer_iff.1 hl
    exact absurd (List.mem_of_mem_take (by rw [ht]; simp : c ∈ r.1.take (p ++ [c]).length)) (h r hr)
theorem find_none_other {l : List Rule} {c : UInt8} (h : Other l c) (p : Bs) : find l (p ++ [c]) = none := by
  cases hf : find l (p ++ [c]) with
  | none => rfl
  | some r =>
    obtain ⟨hr, he⟩ := find_some hf
    exact absurd (by rw [he]; simp) (h r hr)
theorem beginN_other {l : List Rule} {c : UInt8} (p : Bs) : ∀ n, n ≤ p.length → beginN l (p ++ [c]) n = beginN l p n
  | 0, _ => rfl
  | n + 1, hn => by
    rw [beginN, beginN, beginN_other p n (by omega), List.take_append_of_le_length (by omega)]
theorem begin_other {l : List Rule} {c : UInt8} (h : Other l c) (p : Bs) : begin l (p ++ [c]) = begin l p := by
  unfold begin
  rw [List.length_append, List.length_cons, List.length_nil, Nat.zero_add, beginN]
  have e : (p ++ [c]).take (p.length + 1) = p ++ [c] := List.take_of_length_le (by simp)
  rw [e, find_none_other h]
  exact beginN_other p _ (Nat.le_refl _)
theorem apply_other {l : List Rule} {c : UInt8} (h : Other l c) {p : Bs} (hp : p ≠ []) : apply l (p ++ [c]) = ((apply l p).1, (apply l p).2 ++ [c]) := by
  unfold apply
  rw [begin_other h]
  split
  · rename_i r hr
    have := (begin_some hr).2.2.1
    dsimp only
    rw [List.drop_append_of_le_length this, List.append_assoc]
  · cases p with
    | nil => exact absurd rfl hp
    | cons x p => rfl
theorem apply_one {l : List Rule} {c : UInt8} (h : Other l c) : apply l [c] = ([c], []) := by
  unfold apply
  have := begin_other h []
  rw [List.nil_append] at this
  rw [this]
  rfl
theorem feed_other {l : List Rule} (hs : Short l) {c : UInt8} (h : Other l c) : ∀ (n : Nat) (p ks : Bs), p.length ≤ n → feed l p (c :: ks) = (flushP l p ++ (c :: (feed l [] ks).1), (feed l [] ks).2)
  | n, [], ks, _ => by
    have hl := other_longer h []
    rw [List.nil_append] at hl
    rw [feed_no hs (by rw [List.nil_append]; exact hl), List.nil_append, apply_one h]
    rfl
  | 0, x :: p, ks, hn => by simp at hn
  | n + 1, x :: p, ks, hn => by
    have hne : x :: p ≠ [] := by simp
    have h1 := apply_len hs hne
    have h2 := feed_len hs [] (apply l (x :: p)).2
    rw [List.length_nil] at h2
    rw [feed_no hs (other_longer h _), apply_other h hne]
    dsimp only
    rw [List.append_assoc, List.singleton_append, feed_app hs, feed_other hs h n _ ks (by omega), flushP_step hs hne]
    simp only [List.append_assoc]
theorem feed_others {l : List Rule} (hs : Short l) (p : Bs) : ∀ s : Bs, s ≠ [] → (∀ c ∈ s, Other l c) → feed l p s = (flushP l p ++ s, [])
  | [], h, _ => absurd rfl h
  | [c], _, h => by
    rw [feed_other hs (h c (by simp)) _ p [] (Nat.le_refl _)]
    rfl
  | c :: d :: s, _, h => by
    rw [feed_other hs (h c (by simp)) _ p (d :: s) (Nat.le_refl _), feed_others hs [] (d :: s) (by simp) (fun x hx => h x (List.mem_cons_of_mem _ hx)), flushP_nil, List.nil_append]
/-! ### no rules -/
theorem begin_bare (s : Bs) : begin [] s = none := by
  cases h : begin [] s with
  | none => rfl
  | some r => exact absurd (begin_some h).1 (by simp)
theorem feed_bare : ∀ s : Bs, feed [] [] s = (s, [])
  | [] => rfl
  | c :: s => by
    have hs : Short [] := fun r hr => by simp at hr
    rw [feed_no hs rfl]
    have e : apply [] ([] ++ [c]) = ([c], []) := by unfold apply; rw [begin_bare]; rfl
    rw [e]
    dsimp only
    rw [List.nil_append, feed_bare s]; rfl
theorem flush_bare : ∀ s : Bs, flushP [] s = s
  | [] => rfl
  | c :: s => by
    have hs : Short [] := fun r hr => by simp at hr
    rw [flushP_step hs (by simp)]
    have e : apply [] (c :: s) = ([c], s) := by unfold apply; rw [begin_bare]; rfl
    rw [e]
    dsimp only
    rw [feed_bare s]
    dsimp only
    rw [flushP_nil]; simp
end Au
end Go.Proofs.YtgdcffahhpeibaaGreatDoor
