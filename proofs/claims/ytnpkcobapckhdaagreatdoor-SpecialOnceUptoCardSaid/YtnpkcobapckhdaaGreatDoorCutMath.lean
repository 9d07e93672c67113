/-
  Where a separator stands in a text of characters; numbers read from digits. Plain lists of bytes. No condition.
-/
import Derived.Test.YtnpkcobapckhdaaGreatDoorCalForm
import Derived.Lib.IndexMore
import Derived.Lib.AtoiAll
namespace Go.Proofs.YtnpkcobapckhdaaGreatDoor
namespace CF
open Num (Bs digs isD val)

/-! ### a separator behind characters that are others -/
theorem index_skip (sep : Bs) (r : Bs) (hr : 0 ≤ Lib.index r sep) : ∀ a : Bs, (∀ i, i < a.length → sep.isPrefixOf ((a ++ r).drop i) = false) → Lib.index (a ++ r) sep = a.length + Lib.index r sep
  | [], _ => by simp
  | c :: a, h => by
    have h0 := h 0 (by simp)
    rw [List.drop_zero] at h0
    have ih := index_skip sep r hr a (fun i hi => by have := h (i + 1) (by simp; omega); simpa using this)
    show Lib.index (c :: (a ++ r)) sep = _
    rw [Lib.index, show sep.isPrefixOf (c :: (a ++ r)) = false from h0, if_neg (by simp), ih]
    have hne : ((a.length : Int) + Lib.index r sep == -1) = false := by rw [beq_eq_false_iff_ne]; omega
    rw [hne, if_neg (by simp), List.length_cons]
    omega
theorem index_none (sep : Bs) (h0 : sep ≠ []) : ∀ a : Bs, (∀ i, i < a.length → sep.isPrefixOf (a.drop i) = false) → Lib.index a sep = -1
  | [], _ => by
    cases sep with
    | nil => exact absurd rfl h0
    | cons x y => rfl
  | c :: a, h => by
    have hp := h 0 (by simp)
    rw [List.drop_zero] at hp
    have ih := index_none sep h0 a (fun i hi => by have := h (i + 1) (by simp; omega); simpa using this)
    rw [Lib.index, hp, if_neg (by simp), ih]
    rfl
theorem index_head (sep b : Bs) (h0 : sep ≠ []) : Lib.index (sep ++ b) sep = 0 := by
  cases sep with
  | nil => exact absurd rfl h0
  | cons x y =>
    show Lib.index (x :: (y ++ b)) (x :: y) = 0
    rw [Lib.index, if_pos (by rw [List.isPrefixOf_iff_prefix]; exact ⟨b, rfl⟩)]
theorem cut_at (a sep b : Bs) (h0 : sep ≠ []) (h : ∀ i, i < a.length → sep.isPrefixOf ((a ++ (sep ++ b)).drop i) = false) : Lib.cut (a ++ (sep ++ b)) sep = (a, b, true) := by
  have e : Lib.index (a ++ (sep ++ b)) sep = a.length := by
    rw [index_skip sep (sep ++ b) (by rw [index_head sep b h0]; omega) a h, index_head sep b h0]; omega
  unfold Lib.cut
  rw [e, if_pos (by omega)]
  simp only [Int.toNat_natCast]
  rw [List.take_left, ← List.append_assoc]
  congr 2
  have : a.length + sep.length = (a ++ sep).length := by rw [List.length_append]
  rw [this, List.drop_left]
theorem cut_none (a sep : Bs) (h0 : sep ≠ []) (h : ∀ i, i < a.length → sep.isPrefixOf (a.drop i) = false) : Lib.cut a sep = (a, [], false) := by
  unfold Lib.cut
  rw [index_none sep h0 a h, if_neg (by omega)]

/-- a character: one byte below 128, or three -/
def Tk (t : Bs) : Prop := match t with
  | [c] => c.toNat < 128
  | [a, b, c] => 224 ≤ a.toNat ∧ 128 ≤ b.toNat ∧ b.toNat < 192 ∧ 128 ≤ c.toNat ∧ c.toNat < 192
  | _ => False
theorem pre_head {x : UInt8} {y l : Bs} (h : (x :: y).isPrefixOf l = true) : l.head? = some x := by
  rw [List.isPrefixOf_iff_prefix] at h
  obtain ⟨t, rfl⟩ := h
  rfl
/-- a character does not begin within another, and not where another one stands -/
theorem tk_pre (S t r : Bs) (hS : Tk S) (ht : Tk t) (hne : t ≠ S) (i : Nat) (hi : i < t.length) : S.isPrefixOf ((t ++ r).drop i) = false := by
  cases hp : S.isPrefixOf ((t ++ r).drop i) with
  | false => rfl
  | true =>
    exfalso
    match S, hS with
    | [s], hS =>
      have hh := pre_head hp
      match t, ht with
      | [c], ht =>
        have : i = 0 := by simp at hi; omega
        subst this
        simp at hh
        exact hne (by rw [hh])
      | [a, b, c], ht =>
        obtain ⟨h1, h2, _, h4, _⟩ := ht
        have hS' : s.toNat < 128 := hS
        have : i = 0 ∨ i = 1 ∨ i = 2 := by simp at hi; omega
        rcases this with rfl | rfl | rfl <;> (simp at hh; subst hh; omega)
    | [x, y, z], hS =>
      obtain ⟨h1, h2, h3, h4, h5⟩ := hS
      have hh := pre_head hp
      match t, ht with
      | [c], ht =>
        have ht' : c.toNat < 128 := ht
        have : i = 0 := by simp at hi; omega
        subst this
        simp at hh
        subst hh
        omega
      | [a, b, c], ht =>
        obtain ⟨g1, g2, g3, g4, g5⟩ := ht
        have : i = 0 ∨ i = 1 ∨ i = 2 := by simp at hi; omega
        rcases this with rfl | rfl | rfl
        · rw [List.isPrefixOf_iff_prefix] at hp
          obtain ⟨q, hq⟩ := hp
          simp at hq
          exact hne (by rw [hq.1, hq.2.1, hq.2.2.1])
        · simp at hh; subst hh; omega
        · simp at hh; subst hh; omega
theorem tks_pre (S : Bs) (hS : Tk S) : ∀ (T : List Bs) (r : Bs), (∀ t ∈ T, Tk t ∧ t ≠ S) → ∀ i, i < T.flatten.length → S.isPrefixOf ((T.flatten ++ r).drop i) = false
  | [], _, _, i, hi => by simp at hi
  | t :: T, r, h, i, hi => by
    obtain ⟨ht, hne⟩ := h t (by simp)
    by_cases hlt : i < t.length
    · rw [List.flatten_cons, List.append_assoc]
      exact tk_pre S t _ hS ht hne i hlt
    · have hl : i - t.length < T.flatten.length := by rw [List.flatten_cons, List.length_append] at hi; omega
      have ih := tks_pre S hS T r (fun x hx => h x (by simp [hx])) (i - t.length) hl
      have e : ((t :: T).flatten ++ r).drop i = (T.flatten ++ r).drop (i - t.length) := by
        rw [List.flatten_cons, List.append_assoc]
        have : i = t.length + (i - t.length) := by omega
        rw [this, ← List.drop_drop, List.drop_left]
        congr 1
        omega
      rw [e]; exact ih
theorem tk_ne {S : Bs} (h : Tk S) : S ≠ [] := by intro e; subst e; exact h
/-- a text of characters that are none of the separator, and the separator behind it -/
theorem cut_tk (T : List Bs) (S b : Bs) (hS : Tk S) (h : ∀ t ∈ T, Tk t ∧ t ≠ S) : Lib.cut (T.flatten ++ (S ++ b)) S = (T.flatten, b, true) :=
  cut_at _ S b (tk_ne hS) (tks_pre S hS T _ h)
theorem cut_tk_none (T : List Bs) (S : Bs) (hS : Tk S) (h : ∀ t ∈ T, Tk t ∧ t ≠ S) : Lib.cut T.flatten S = (T.flatten, [], false) := by
  refine cut_none _ S (tk_ne hS) (fun i hi => ?_)
  have := tks_pre S hS T [] h i hi
  rwa [List.append_nil] at this
/-- a text is one of characters without S -/
def Free (S a : Bs) : Prop := ∃ T : List Bs, T.flatten = a ∧ ∀ t ∈ T, Tk t ∧ t ≠ S
theorem Free.append {S a b : Bs} (h : Free S a) (h' : Free S b) : Free S (a ++ b) := by
  obtain ⟨T, rfl, h⟩ := h
  obtain ⟨T', rfl, h'⟩ := h'
  refine ⟨T ++ T', by simp, fun t ht => ?_⟩
  rcases List.mem_append.1 ht with h1 | h1
  · exact h t h1
  · exact h' t h1
theorem Free.nil (S : Bs) : Free S [] := ⟨[], rfl, fun t ht => by simp at ht⟩
theorem Free.one {S t : Bs} (h : Tk t) (hne : t ≠ S) : Free S t := ⟨[t], by simp, fun x hx => by simp at hx; subst hx; exact ⟨h, hne⟩⟩
theorem Free.cut {S a : Bs} (h : Free S a) (hS : Tk S) (b : Bs) : Lib.cut (a ++ (S ++ b)) S = (a, b, true) := by
  obtain ⟨T, rfl, h⟩ := h; exact cut_tk T S b hS h
theorem Free.cut_none {S a : Bs} (h : Free S a) (hS : Tk S) : Lib.cut a S = (a, [], false) := by
  obtain ⟨T, rfl, h⟩ := h; exact cut_tk_none T S hS h
/-- digits are characters, and no separator that is no digit -/
theorem free_dig {S : Bs} (hS : ∀ c, isD c = true → [c] ≠ S) : ∀ l : Bs, l.all isD = true → Free S l
  | [], _ => Free.nil S
  | c :: r, h => by
    have hc : isD c = true := by simp at h; exact h.1
    have hr : r.all isD = true := by simp at h ⊢; exact h.2
    have h1 : Tk [c] := by
      have := (Num.isD_val hc).1
      unfold Num.isD at hc
      simp [UInt8.le_iff_toNat_le] at hc
      show c.toNat < 128
      omega
    exact (Free.one h1 (hS c hc)).append (free_dig hS r hr)

/-! ### numbers -/
def dval (l : Bs) : Nat := l.foldl (fun a c => 10 * a + val c) 0
theorem foldl_dval (l : Bs) : ∀ a : Nat, l.foldl (fun a c => 10 * a + val c) a = a * 10 ^ l.length + dval l := by
  induction l with
  | nil => intro a; simp [dval]
  | cons c r ih =>
    intro a
    have h1 := ih (10 * a + val c)
    have h2 := ih (10 * 0 + val c)
    unfold dval
    rw [List.foldl_cons, List.foldl_cons, h1, h2, List.length_cons, Nat.pow_succ]
    have : (10 * a + val c) * 10 ^ r.length = a * (10 ^ r.length * 10) + (10 * 0 + val c) * 10 ^ r.length := by
      rw [Nat.add_mul, Nat.mul_comm 10 a, Nat.mul_assoc, Nat.mul_comm 10 (10 ^ r.length)]
      simp
    omega
theorem dval_append (a b : Bs) : dval (a ++ b) = dval a * 10 ^ b.length + dval b := by
  unfold dval
  rw [List.foldl_append, foldl_dval b (List.foldl (fun a c => 10 * a + val c) 0 a)]
  rfl
theorem dval_one (n : Nat) (h : n < 10) : dval (Num.one n) = n := by
  have h1 : n = 0 ∨ n = 1 ∨ n = 2 ∨ n = 3 ∨ n = 4 ∨ n = 5 ∨ n = 6 ∨ n = 7 ∨ n = 8 ∨ n = 9 := by omega
  rcases h1 with rfl | rfl | rfl | rfl | rfl | rfl | rfl | rfl | rfl | rfl <;> decide
theorem dval_digs_k : ∀ (k n : Nat), n < 10 ^ (k + 1) → n < 10000 → dval (digs n) = n
  | 0, n, h, _ => by rw [Num.digs_small n (by simpa using h)]; exact dval_one n (by simpa using h)
  | k + 1, n, h, h4 => by
    by_cases h10 : n < 10
    · rw [Num.digs_small n h10]; exact dval_one n h10
    · rw [Num.digs_rec n (by omega) h4, dval_append, dval_digs_k k (n / 10) (by rw [Nat.pow_succ] at h; omega) (by omega), Num.digs_small (n % 10) (by omega), dval_one _ (by omega)]
      show n / 10 * 10 ^ 1 + n % 10 = n
      omega
theorem dval_digs (n : Nat) (h : n < 10000) : dval (digs n) = n := dval_digs_k 3 n (by omega) h
theorem dval_zeros (l : Bs) : ∀ k : Nat, dval (List.replicate k 48 ++ l) = dval l
  | 0 => rfl
  | k + 1 => by
    rw [List.replicate_succ, List.cons_append]
    show dval ([48] ++ (List.replicate k 48 ++ l)) = _
    rw [dval_append, dval_zeros l k]
    have : dval [48] = 0 := by decide
    rw [this]; simp
theorem dval_pad (k n : Nat) (h : n < 10000) : dval (pad k n) = n := by unfold pad; rw [dval_zeros, dval_digs n h]
theorem pad_all (k n : Nat) (h : n < 10000) : (pad k n).all isD = true := by
  unfold pad; rw [List.all_append, Num.zeros_all, Num.digs_all n h]; rfl
theorem pad_size (k n : Nat) (hk : k ≤ 4) : 1 ≤ (pad k n).length ∧ (pad k n).length ≤ 4 := by
  have := Num.digs_len n
  unfold pad
  rw [List.length_append, List.length_replicate]; omega
theorem val_eq {c : UInt8} (h : isD c = true) : 48 ≤ c.toNat ∧ c.toNat ≤ 57 ∧ val c = c.toNat - 48 := by
  unfold Num.isD at h
  simp [UInt8.le_iff_toNat_le] at h
  exact ⟨h.1, h.2, rfl⟩
theorem uint10 : ∀ (l : Bs) (acc a : Nat), l.all isD = true → acc < 10 ^ a → a + l.length ≤ 15 → Lib.parseUint10 acc l = .ok (l.foldl (fun a c => 10 * a + val c) acc)
  | [], acc, _, _, _, _ => rfl
  | c :: r, acc, a, h, ha, hl => by
    have hc : isD c = true := by simp at h; exact h.1
    have hr : r.all isD = true := by simp at h ⊢; exact h.2
    obtain ⟨v1, v2, v3⟩ := val_eq hc
    rw [List.length_cons] at hl
    have hp : 10 ^ a ≤ 10 ^ 15 := Nat.pow_le_pow_right (by omega) (by omega)
    have h15 : (10 : Nat) ^ 15 = 1000000000000000 := by decide
    have hs : (10 : Nat) ^ (a + 1) = 10 * 10 ^ a := by rw [Nat.pow_succ, Nat.mul_comm]
    rw [Lib.parseUint10, if_pos ⟨v1, v2⟩, if_neg (by omega), if_neg (by omega), List.foldl_cons]
    have e : acc * 10 + (c.toNat - 48) = 10 * acc + val c := by rw [v3]; omega
    rw [e]
    exact uint10 r (10 * acc + val c) (a + 1) hr (by rw [hs, v3]; omega) (by omega)
theorem atoi_dig (l : Bs) (h : l.all isD = true) (h0 : l ≠ []) (hl : l.length ≤ 15) (hv : dval l ≤ 9999) : Lib.atoiAll l = .ok (dval l : Int) := by
  cases l with
  | nil => exact absurd rfl h0
  | cons c r =>
    have hc : isD c = true := by simp at h; exact h.1
    obtain ⟨v1, v2, _⟩ := val_eq hc
    have e : Lib.parseMag (c :: r) = .ok (dval (c :: r)) := by
      unfold Lib.parseMag
      rw [if_neg (by simp)]
      exact uint10 (c :: r) 0 0 h (by decide) (by omega)
    unfold Lib.atoiAll
    simp only
    rw [if_neg (by omega), e]
    simp only
    rw [if_neg (by omega), if_neg (by omega), if_neg (by omega)]

/-- the program's number -/
def pnum (l : Bs) : Int :=
  if l = gan then 1
  else match Lib.atoiAll (if (Num.progParse l).2 = true then (Num.progParse l).1 else l) with
    | .ok n => if n < 0 ∨ 9999 < n then 0 else n
    | _ => 0
/-- the reference's number -/
def rgo : Nat → Nat → Bs → Nat
  | _, acc, [] => acc
  | i, acc, c :: r => if isD c = true ∧ i ≤ 4 then rgo (i + 1) (10 * acc + val c) r else 0
def rnum (l : Bs) : Nat :=
  if l = gan then 1
  else rgo 0 0 (match l with | [] => [] | c :: r => if isD c = true then c :: r else (Num.refParse (c :: r)).1)
theorem rgo_dig : ∀ (l : Bs) (i acc : Nat), l.all isD = true → i + l.length ≤ 5 → rgo i acc l = l.foldl (fun a c => 10 * a + val c) acc
  | [], _, _, _, _ => rfl
  | c :: r, i, acc, h, hl => by
    have hc : isD c = true := by simp at h; exact h.1
    have hr : r.all isD = true := by simp at h ⊢; exact h.2
    rw [List.length_cons] at hl
    rw [rgo, if_pos ⟨hc, by omega⟩, rgo_dig r (i + 1) _ hr (by omega), List.foldl_cons]
theorem rgo_le : ∀ (l : Bs) (i acc : Nat), i ≤ 5 → acc < 10 ^ i → rgo i acc l < 100000
  | [], i, acc, hi, ha => by
    rw [rgo]
    have : 10 ^ i ≤ 10 ^ 5 := Nat.pow_le_pow_right (by omega) hi
    have h5 : (10 : Nat) ^ 5 = 100000 := by decide
    omega
  | c :: r, i, acc, hi, ha => by
    rw [rgo]
    split
    · rename_i h
      have v := (val_eq h.1).2.2
      have v2 := (val_eq h.1).2.1
      have hs : (10 : Nat) ^ (i + 1) = 10 * 10 ^ i := by rw [Nat.pow_succ, Nat.mul_comm]
      exact rgo_le r (i + 1) _ (by omega) (by rw [hs]; omega)
    · omega
theorem first_big (f : Bool) (d : Bs) (h : Num.valid d = true) : ∃ c, (Num.writ f d).head? = some c ∧ 224 ≤ c.toNat := by
  have key : ∀ (T : List Bs), (∀ t ∈ T, Ru.tok3 t = true) → T ≠ [] → ∃ c, T.flatten.head? = some c ∧ 224 ≤ c.toNat := by
    intro T hT hne
    match T, hne with
    | t :: T, _ =>
      have ht := hT t (by simp)
      unfold Ru.tok3 at ht
      split at ht
      · rename_i a b c _
        refine ⟨a, rfl, ?_⟩
        simp only [Bool.and_eq_true, beq_iff_eq] at ht
        have := ht.1.1.1.1.1
        omega
      · cases ht
  cases h0 : (d == [48])
  · obtain ⟨a, b, _, _, e⟩ := Num.valid_parts h h0
    rw [Num.writ_long f d h0, ← Num.wrT_flat]
    refine key _ (Num.wrT_tok f d false e b) ?_
    intro hn
    have hb := Num.guess_back f d h h0
    rw [← Num.wrT_flat, hn] at hb
    have : Num.guess ([] : List Bs).flatten = [48] := by decide
    rw [this] at hb
    rw [← hb] at h0
    simp at h0
  · have := eq_of_beq h0; subst this
    exact ⟨233, rfl, by decide⟩
theorem first_pos (d : Bs) (h : Num.valid d = true) : ∃ c, (Num.pos d).head? = some c ∧ 224 ≤ c.toNat := by
  have hne := ((Num.valid_iff d).1 h).1
  have hall := Num.all_of_valid h
  cases d with
  | nil => exact absurd rfl hne
  | cons x r =>
    have hx : isD x = true := by simp at hall; exact hall.1
    have h10 := (Num.isD_val hx).1
    have h1 : val x = 0 ∨ val x = 1 ∨ val x = 2 ∨ val x = 3 ∨ val x = 4 ∨ val x = 5 ∨ val x = 6 ∨ val x = 7 ∨ val x = 8 ∨ val x = 9 := by omega
    rw [Num.pos]
    rcases h1 with e | e | e | e | e | e | e | e | e | e <;> rw [e]
    · exact ⟨227, rfl, by decide⟩
    · exact ⟨228, rfl, by decide⟩
    · exact ⟨228, rfl, by decide⟩
    · exact ⟨228, rfl, by decide⟩
    · exact ⟨229, rfl, by decide⟩
    · exact ⟨228, rfl, by decide⟩
    · exact ⟨229, rfl, by decide⟩
    · exact ⟨228, rfl, by decide⟩
    · exact ⟨229, rfl, by decide⟩
    · exact ⟨228, rfl, by decide⟩
/-- digits are not read as kanji -/
theorem parse_dig (c : UInt8) (r : Bs) (h : isD c = true) : (Num.progParse (c :: r)).2 = false := by
  have hc := (val_eq h).2.1
  unfold Num.progParse
  split
  · rename_i h1
    obtain ⟨x, hx, hx2⟩ := first_pos _ h1.1
    rw [h1.2] at hx
    injection hx with hx
    subst hx
    omega
  · split
    · rename_i h2
      obtain ⟨a, b⟩ := Num.rd_sound false _ h2
      obtain ⟨x, hx, hx2⟩ := first_big false _ a
      rw [b] at hx
      injection hx with hx
      subst hx
      omega
    · split
      · rename_i h3
        obtain ⟨a, b⟩ := Num.rd_sound true _ h3
        obtain ⟨x, hx, hx2⟩ := first_big true _ a
        rw [b] at hx
        injection hx with hx
        subst hx
        omega
      · rfl
theorem dig_ne_gan {l : Bs} (h : l.all isD = true) : l ≠ gan := by
  intro e; subst e; exact absurd h (by decide)
theorem pnum_dig (l : Bs) (h : l.all isD = true) (h0 : l ≠ []) (hl : l.length ≤ 15) (hv : dval l ≤ 9999) : pnum l = dval l := by
  have hp : (Num.progParse l).2 = false := by
    cases l with
    | nil => exact absurd rfl h0
    | cons c r => exact parse_dig c r (by simp at h; exact h.1)
  unfold pnum
  rw [if_neg (dig_ne_gan h), hp, if_neg (by simp), atoi_dig l h h0 hl hv]
  simp only
  rw [if_neg (by omega)]
theorem rnum_dig (l : Bs) (h : l.all isD = true) (h0 : l ≠ []) (hl : l.length ≤ 5) : rnum l = dval l := by
  unfold rnum
  rw [if_neg (dig_ne_gan h)]
  cases l with
  | nil => exact absurd rfl h0
  | cons c r =>
    have hc : isD c = true := by simp at h; exact h.1
    simp only
    rw [if_pos hc]
    exact rgo_dig (c :: r) 0 0 h (by omega)
theorem kan_ne (n : Nat) (h : n < 10000) : kan n ≠ gan := by
  intro e
  have hv := Num.digs_valid n h
  have hb := Num.guess_writ false (digs n) hv
  unfold kan at e
  rw [e] at hb
  have hg : Num.guess gan = [48] := by decide
  rw [hg] at hb
  rw [← hb] at e
  exact absurd e (by decide)
theorem pnum_kan (n : Nat) (h : n < 10000) : pnum (kan n) = n := by
  have hv := Num.digs_valid n h
  have hd := Num.digs_len n
  unfold pnum
  rw [if_neg (kan_ne n h)]
  unfold kan
  rw [Num.ref_writ false (digs n) hv, if_pos rfl, atoi_dig (digs n) (Num.digs_all n h) (by intro e; rw [e] at hd; simp at hd) (by omega) (by rw [dval_digs n h]; omega), dval_digs n h]
  simp only
  rw [if_neg (by omega)]
theorem rnum_kan (n : Nat) (h : n < 10000) : rnum (kan n) = n := by
  have hv := Num.digs_valid n h
  have hd := Num.digs_len n
  have hr : Num.refParse (kan n) = (digs n, true) := by rw [← Num.parse_eq]; exact Num.ref_writ false (digs n) hv
  obtain ⟨x, hx, hx2⟩ := first_big false (digs n) hv
  unfold rnum
  rw [if_neg (kan_ne n h)]
  cases e : kan n with
  | nil =>
    have : kan n = Num.writ false (digs n) := rfl
    rw [← this, e] at hx; cases hx
  | cons c r =>
    have hk : kan n = Num.writ false (digs n) := rfl
    rw [← hk, e] at hx
    injection hx with hx
    subst hx
    have hn : ¬ isD c = true := by intro hh; have := (val_eq hh).2.1; omega
    simp only
    rw [if_neg hn, ← e, hr, rgo_dig (digs n) 0 0 (Num.digs_all n h) (by omega)]
    exact dval_digs n h
theorem pnum_gan : pnum gan = 1 := by unfold pnum; rw [if_pos rfl]
theorem rnum_gan : rnum gan = 1 := by unfold rnum; rw [if_pos rfl]
theorem pnum_bd (l : Bs) : 0 ≤ pnum l ∧ pnum l ≤ 9999 := by
  unfold pnum
  split
  · omega
  · split
    · split <;> omega
    · omega
end CF
end Go.Proofs.YtnpkcobapckhdaaGreatDoor
