/-
  Plain facts for the laws on numbers: the law's own number and digits, apart, group by group, the commas. No condition.
-/
import Derived.Test.YtnpkcobapckhdaaGreatDoorParseMath
import Derived.Test.YtnpkcobapckhdaaGreatDoorComMath
namespace Go.Proofs.YtnpkcobapckhdaaGreatDoor
namespace Num

/-! ### the law's number -/
def nStep (s : Bs) (c : UInt8) : Bs := if s = [48] then [UInt8.ofNat (48 + c.toNat % 10)] else s ++ [UInt8.ofNat (48 + c.toNat % 10)]
def nFold (b : Bs) : Bs := b.foldl nStep []
def number (b : Bs) : Bs := if nFold (b.take 20) = [] then [48] else nFold (b.take 20)
theorem isD_of (k : Nat) (h : k < 10) : isD (UInt8.ofNat (48 + k)) = true := by
  have h1 : k = 0 ∨ k = 1 ∨ k = 2 ∨ k = 3 ∨ k = 4 ∨ k = 5 ∨ k = 6 ∨ k = 7 ∨ k = 8 ∨ k = 9 := by omega
  rcases h1 with rfl | rfl | rfl | rfl | rfl | rfl | rfl | rfl | rfl | rfl <;> decide
/-- what the loop keeps -/
structure NF (n : Nat) (s : Bs) : Prop where
  len : s.length ≤ n
  dig : s.all isD = true
  hd : s = [] ∨ s = [48] ∨ (s ≠ [] ∧ s.head? ≠ some 48)
theorem nf_one (n : Nat) (x : UInt8) (h : isD x = true) : NF (n + 1) [x] := by
  refine ⟨by simp, by rw [List.all_cons, h]; rfl, ?_⟩
  by_cases e : x = 48
  · exact Or.inr (Or.inl (by rw [e]))
  · exact Or.inr (Or.inr ⟨by simp, by simpa using e⟩)
theorem nf_step {n : Nat} {s : Bs} (h : NF n s) (c : UInt8) : NF (n + 1) (nStep s c) := by
  obtain ⟨a, b, d⟩ := h
  have hd := isD_of (c.toNat % 10) (Nat.mod_lt _ (by decide))
  unfold nStep
  by_cases hs : s = [48]
  · rw [if_pos hs]; exact nf_one n _ hd
  · rw [if_neg hs]
    rcases d with d | d | d
    · rw [d]; exact nf_one n _ hd
    · exact absurd d hs
    · refine ⟨by rw [List.length_append]; simp; exact a, by rw [List.all_append, b, List.all_cons, hd]; rfl, Or.inr (Or.inr ⟨by simp, ?_⟩)⟩
      cases s with
      | nil => exact absurd rfl d.1
      | cons x r => simpa using d.2
theorem nf_fold : ∀ (b : Bs) (n : Nat) (s : Bs), NF n s → NF (n + b.length) (b.foldl nStep s)
  | [], _, _, h => h
  | c :: r, n, s, h => by
    have := nf_fold r (n + 1) (nStep s c) (nf_step h c)
    rw [List.foldl_cons, List.length_cons]
    have e : n + (r.length + 1) = n + 1 + r.length := by omega
    rw [e]; exact this
theorem number_valid (b : Bs) : valid (number b) = true := by
  have h := nf_fold (b.take 20) 0 [] ⟨by simp, rfl, Or.inl rfl⟩
  have hl : (b.take 20).length ≤ 20 := by rw [List.length_take]; omega
  unfold number nFold
  split
  · decide
  · rename_i hne
    rw [valid_iff]
    refine ⟨hne, by have := h.len; omega, h.dig, ?_⟩
    rcases h.hd with e | e | e
    · exact absurd e hne
    · exact Or.inr e
    · exact Or.inl e.2
theorem nFold_snoc (b : Bs) (k : Nat) (c : UInt8) (h : b[k]? = some c) : nFold (b.take (k + 1)) = nStep (nFold (b.take k)) c := by
  unfold nFold
  rw [List.take_add_one, h]
  simp
theorem nFold_len (b : Bs) (k : Nat) : (nFold (b.take k)).length ≤ k := by
  have h := nf_fold (b.take k) 0 [] ⟨by simp, rfl, Or.inl rfl⟩
  have hl : (b.take k).length ≤ k := by rw [List.length_take]; omega
  have := h.len
  unfold nFold; omega

/-! ### apart -/
theorem com_filter : ∀ (l : Bs) (f : Bool), l.all isD = true → (com f l).filter (fun c => c != 44) = l
  | [], _, _ => by cases ‹Bool› <;> rfl
  | c :: r, f, h => by
    have hc : isD c = true := by simp at h; exact h.1
    have hr : r.all isD = true := by simp at h ⊢; exact h.2
    have hn : (c != 44) = true := by
      rw [bne_iff_ne]; intro e; rw [e] at hc; exact absurd hc (by decide)
    rw [com, List.filter_append, List.filter_cons, hn, com_filter r false hr]
    split <;> rfl
theorem com_inj {x y : Bs} (hx : x.all isD = true) (hy : y.all isD = true) (h : com true x = com true y) : x = y := by
  rw [← com_filter x true hx, ← com_filter y true hy, h]
/-- the three writings -/
def wri (i : Nat) (d : Bs) : Bs := if i = 0 then writ false d else if i = 1 then pos d else writ true d
theorem back_wri (i : Nat) (d : Bs) (h : valid d = true) : progParse (wri i d) = (d, true) := by
  unfold wri
  split
  · exact ref_writ false d h
  · split
    · exact ref_pos d h
    · exact ref_writ true d h
theorem apart (i j : Nat) {x y : Bs} (hx : valid x = true) (hy : valid y = true) (h : x ≠ y) : wri i x ≠ wri j y := by
  intro e
  have a := back_wri i x hx
  have b := back_wri j y hy
  rw [e, b] at a
  exact h (congrArg Prod.fst a).symm

/-! ### group by group -/
theorem stepOut_up (f : Bool) (n p g : Nat) : stepOut f n (p + 4 * g) = stepOut f n p := by
  unfold stepOut
  have : (p + 4 * g) % 4 = p % 4 := by omega
  rw [this]
theorem wr_group (f : Bool) (g : Nat) (t : Bs) (ht : t.length = 4 * g) : ∀ (r : Bs) (sm : Bool), r ≠ [] → r.length ≤ 4 →
    wr f (r ++ t) sm = wr f r sm ++ (if sm = true ∨ (∃ c ∈ r, val c ≠ 0) then gch g else []) ++ wr f t false
  | [c], sm, _, _ => by
    have e1 : (0 + 4 * g) % 4 = 0 := by omega
    have e2 : (0 + 4 * g) / 4 = g := by omega
    have e3 : gch (0 / 4) = [] := rfl
    have e4 := stepOut_up f (val c) 0 g
    rw [Nat.zero_add] at e1 e2 e4
    have e5 : stepG (val c) 0 sm = [] := by unfold stepG; split <;> rfl
    show wr f (c :: t) sm = wr f [c] sm ++ _ ++ _
    rw [wr, wr, ht, e4]
    show _ = (stepOut f (val c) 0 ++ stepG (val c) 0 sm ++ []) ++ _ ++ _
    rw [e5]
    have e6 : stepS (val c) (4 * g) sm = false := by unfold stepS; rw [if_pos e1]
    rw [e6]
    unfold stepG
    rw [e1, e2]
    simp
  | c :: d :: r, sm, _, hl => by
    have hl3 : (d :: r).length ≤ 3 := by simp at hl ⊢; omega
    have ih := wr_group f g t ht (d :: r) (stepS (val c) (d :: r).length sm) (by simp) (by omega)
    obtain ⟨p, hp⟩ : ∃ p, (d :: r).length = p := ⟨_, rfl⟩
    have hp0 : p ≠ 0 := by rw [← hp]; simp
    have hp3 : p ≤ 3 := by rw [← hp]; exact hl3
    have hpl : (d :: r ++ t).length = p + 4 * g := by rw [List.length_append, hp, ht]
    have e1 : ∀ s, stepG (val c) p s = [] := by intro s; unfold stepG; rw [if_neg (by omega)]
    have e2 : ∀ s, stepG (val c) (p + 4 * g) s = [] := by intro s; unfold stepG; rw [if_neg (by omega)]
    have e3 : stepS (val c) (p + 4 * g) sm = (sm || decide (val c ≠ 0)) := by unfold stepS; rw [if_neg (by omega)]
    have e4 : stepS (val c) p sm = (sm || decide (val c ≠ 0)) := by unfold stepS; rw [if_neg (by omega)]
    rw [hp, e4] at ih
    have w1 : wr f (c :: (d :: r ++ t)) sm = stepOut f (val c) (d :: r ++ t).length ++ stepG (val c) (d :: r ++ t).length sm ++ wr f (d :: r ++ t) (stepS (val c) (d :: r ++ t).length sm) := rfl
    have w2 : wr f (c :: (d :: r)) sm = stepOut f (val c) (d :: r).length ++ stepG (val c) (d :: r).length sm ++ wr f (d :: r) (stepS (val c) (d :: r).length sm) := rfl
    show wr f (c :: (d :: r ++ t)) sm = _
    rw [w1, w2, hpl, hp, stepOut_up, e1, e2, e3, e4, ih]
    have e5 : ((sm || decide (val c ≠ 0)) = true ∨ ∃ x ∈ d :: r, val x ≠ 0) ↔ (sm = true ∨ ∃ x ∈ c :: d :: r, val x ≠ 0) := by
      simp [or_assoc]
    simp only [e5]
    simp only [List.append_assoc, List.nil_append]
theorem wr_zeros (f : Bool) (t : Bs) : ∀ n : Nat, wr f (List.replicate n 48 ++ t) false = wr f t false
  | 0 => rfl
  | n + 1 => by
    rw [List.replicate_succ, List.cons_append, wr]
    have e1 : val 48 = 0 := rfl
    have e2 : ∀ p, stepOut f 0 p = [] := fun p => by unfold stepOut; rw [if_pos rfl]
    have e3 : ∀ p, stepG 0 p false = [] := fun p => by unfold stepG; rw [if_neg (by simp)]
    have e4 : ∀ p, stepS 0 p false = false := fun p => by unfold stepS; split <;> simp
    rw [e1, e2, e3, e4, wr_zeros f t n]
    rfl
theorem nonzero {s : Bs} (h : valid s = true) (h0 : (s == [48]) = false) : ∃ c ∈ s, val c ≠ 0 := by
  obtain ⟨a, _, c, d, _⟩ := valid_parts h h0
  cases s with
  | nil => exact absurd rfl a
  | cons x r =>
    refine ⟨x, by simp, ?_⟩
    intro e
    have hx : isD x = true := by simp at c; exact c.1
    have := (isD_val hx).2
    rw [e] at this
    apply d
    rw [← this]; rfl
/-- a number that is not 0, of at most four digits, and four times as many digits behind it -/
theorem wr_cat (f : Bool) (s : Bs) (g : Nat) (t : Bs) (hs : valid s = true) (h0 : (s == [48]) = false) (h4 : s.length ≤ 4) (ht : t.length = 4 * g) :
    wr f (s ++ t) false = wr f s false ++ gch g ++ wr f t false := by
  have hne := ((valid_iff s).1 hs).1
  rw [wr_group f g t ht s false hne h4, if_pos (Or.inr (nonzero hs h0))]
theorem valid_cat (s t : Bs) (hs : valid s = true) (h0 : (s == [48]) = false) (ht : t.all isD = true) (hl : s.length + t.length ≤ 20) : valid (s ++ t) = true ∧ ((s ++ t) == [48]) = false := by
  obtain ⟨a, b, c, d, e⟩ := valid_parts hs h0
  cases s with
  | nil => exact absurd rfl a
  | cons x r =>
    have hx : x ≠ 48 := by simpa using d
    refine ⟨?_, ?_⟩
    · rw [valid_iff]
      refine ⟨by simp, by rw [List.length_append]; exact hl, by rw [List.all_append, c, ht]; rfl, Or.inl ?_⟩
      simpa using hx
    · rw [beq_eq_false_iff_ne]
      intro e
      simp at e
      exact hx e.1
theorem zeros_all (n : Nat) : (List.replicate n (48 : UInt8)).all isD = true := by
  rw [List.all_eq_true]; intro x hx; rw [List.eq_of_mem_replicate hx]; decide

/-! ### the law's digits -/
def one (n : Nat) : Bs := [UInt8.ofNat (48 + n)]
def digs (n : Nat) : Bs := if n < 10 then one n else if n < 100 then one (n / 10) ++ one (n % 10) else if n < 1000 then one (n / 10 / 10) ++ one (n / 10 % 10) ++ one (n % 10) else one (n / 10 / 10 / 10) ++ one (n / 10 / 10 % 10) ++ one (n / 10 % 10) ++ one (n % 10)
theorem digs_small (n : Nat) (h : n < 10) : digs n = one n := by unfold digs; rw [if_pos h]
theorem digs_rec (n : Nat) (h : 10 ≤ n) (h4 : n < 10000) : digs n = digs (n / 10) ++ digs (n % 10) := by
  rw [digs_small (n % 10) (by omega)]
  by_cases h1 : n < 100
  · rw [digs_small (n / 10) (by omega)]
    unfold digs
    rw [if_neg (by omega), if_pos h1]
  · by_cases h2 : n < 1000
    · have e : digs (n / 10) = one (n / 10 / 10) ++ one (n / 10 % 10) := by unfold digs; rw [if_neg (by omega), if_pos (by omega)]
      rw [e]; unfold digs
      rw [if_neg (by omega), if_neg h1, if_pos h2]
    · have e : digs (n / 10) = one (n / 10 / 10 / 10) ++ one (n / 10 / 10 % 10) ++ one (n / 10 % 10) := by unfold digs; rw [if_neg (by omega), if_neg (by omega), if_pos (by omega)]
      rw [e]; unfold digs
      rw [if_neg (by omega), if_neg h1, if_neg h2]
theorem digs_len (n : Nat) : 1 ≤ (digs n).length ∧ (digs n).length ≤ 4 := by
  unfold digs one
  split
  · exact ⟨by simp, by simp⟩
  · split
    · exact ⟨by simp, by simp⟩
    · split
      · exact ⟨by simp, by simp⟩
      · exact ⟨by simp, by simp⟩
theorem one_ne (k : Nat) (h : k < 10) (h0 : k ≠ 0) : UInt8.ofNat (48 + k) ≠ 48 := by
  have h1 : k = 1 ∨ k = 2 ∨ k = 3 ∨ k = 4 ∨ k = 5 ∨ k = 6 ∨ k = 7 ∨ k = 8 ∨ k = 9 := by omega
  rcases h1 with rfl | rfl | rfl | rfl | rfl | rfl | rfl | rfl | rfl <;> decide
theorem digs_all (n : Nat) (h : n < 10000) : (digs n).all isD = true := by
  have o : ∀ k, k < 10 → isD (UInt8.ofNat (48 + k)) = true := isD_of
  have q : ∀ k, k < 10 → (one k).all isD = true := fun k hk => by unfold one; rw [List.all_cons, o k hk]; rfl
  unfold digs
  split
  · exact q n (by omega)
  · split
    · rw [List.all_append, q (n / 10) (by omega), q (n % 10) (by omega)]; rfl
    · split
      · rw [List.all_append, List.all_append, q (n / 10 / 10) (by omega), q (n / 10 % 10) (by omega), q (n % 10) (by omega)]; rfl
      · rw [List.all_append, List.all_append, List.all_append, q (n / 10 / 10 / 10) (by omega), q (n / 10 / 10 % 10) (by omega), q (n / 10 % 10) (by omega), q (n % 10) (by omega)]; rfl
theorem digs_head (n : Nat) (h : n < 10000) (h0 : n ≠ 0) : (digs n).head? ≠ some 48 := by
  unfold digs one
  split
  · simpa using one_ne n (by omega) h0
  · split
    · simpa using one_ne (n / 10) (by omega) (by omega)
    · split
      · simpa using one_ne (n / 10 / 10) (by omega) (by omega)
      · simpa using one_ne (n / 10 / 10 / 10) (by omega) (by omega)
theorem digs_valid (n : Nat) (h : n < 10000) : valid (digs n) = true := by
  by_cases h0 : n = 0
  · subst h0; decide
  · have a := digs_len n
    rw [valid_iff]
    exact ⟨by intro e; rw [e] at a; simp at a, by omega, digs_all n h, Or.inl (digs_head n h h0)⟩
theorem digs_zero (n : Nat) (h : n < 10000) : (digs n == [48]) = decide (n = 0) := by
  by_cases h0 : n = 0
  · subst h0; decide
  · rw [decide_eq_false h0, beq_eq_false_iff_ne]
    intro e
    have := digs_head n h h0
    rw [e] at this
    exact this rfl
/-- what NumeralGroups says of the writings -/
theorem group_a (f : Bool) (n g : Nat) (hn : n < 10000) (h0 : n ≠ 0) (hg : g < 5) : valid (digs n ++ List.replicate (4 * g) 48) = true ∧ writ f (digs n ++ List.replicate (4 * g) 48) = writ f (digs n) ++ gch g := by
  have hz : (digs n == [48]) = false := by rw [digs_zero n hn]; exact decide_eq_false h0
  have hl := digs_len n
  have hv := digs_valid n hn
  have hc := valid_cat (digs n) (List.replicate (4 * g) 48) hv hz (zeros_all _) (by rw [List.length_replicate]; omega)
  refine ⟨hc.1, ?_⟩
  rw [writ_long f _ hc.2, writ_long f _ hz, wr_cat f _ g _ hv hz hl.2 (List.length_replicate ..)]
  have := wr_zeros f [] (4 * g)
  rw [List.append_nil] at this
  rw [this]
  simp [wr]
theorem group_b (f : Bool) (n m : Nat) (hn : n < 10000) (h0 : n ≠ 0) (hm : m < 10000) :
    valid (digs n ++ List.replicate (4 - (digs m).length) 48 ++ digs m) = true ∧ writ f (digs n ++ List.replicate (4 - (digs m).length) 48 ++ digs m) = writ f (digs n) ++ gch 1 ++ (if m = 0 then [] else writ f (digs m)) := by
  have hz : (digs n == [48]) = false := by rw [digs_zero n hn]; exact decide_eq_false h0
  have hl := digs_len n
  have hv := digs_valid n hn
  have hm4 := digs_len m
  have ht : (List.replicate (4 - (digs m).length) 48 ++ digs m).length = 4 * 1 := by rw [List.length_append, List.length_replicate]; omega
  have hc := valid_cat (digs n) (List.replicate (4 - (digs m).length) 48 ++ digs m) hv hz (by rw [List.all_append, zeros_all, digs_all m hm]; rfl) (by omega)
  rw [List.append_assoc]
  refine ⟨hc.1, ?_⟩
  rw [writ_long f _ hc.2, writ_long f _ hz, wr_cat f _ 1 _ hv hz hl.2 ht, wr_zeros]
  congr 1
  by_cases h : m = 0
  · subst h
    rw [if_pos rfl]
    exact wr_zeros f [] 1
  · rw [if_neg h, writ_long f _ (by rw [digs_zero m hm]; exact decide_eq_false h)]

/-! ### the commas -/
/-- the law's loop over the commas' text: what was read, the run, the first -/
structure CS where
  s : Bs
  run : Nat
  first : Bool
def csStep (st : CS) (c : UInt8) : CS := if c ≠ 44 then ⟨st.s ++ [c], st.run + 1, st.first⟩ else ⟨st.s, 0, false⟩
def csBad (st : CS) (c : UInt8) : Bool := c == 44 && (decide (st.run < 1) || decide (3 < st.run) || (!st.first && decide (st.run ≠ 3)))
def csOk : Bs → CS → Bool
  | [], _ => true
  | c :: r, st => !csBad st c && csOk r (csStep st c)
structure CI (r : Bs) (st : CS) : Prop where
  lo : 1 ≤ st.run
  hi : st.run ≤ 3
  fst : st.first = true → st.run ≤ (st.run + r.length - 1) % 3 + 1
  snd : st.first = false → (st.run + r.length) % 3 = 0
/-- what the loop ends with -/
def CSEnd (d : Bs) (st : CS) : Prop := st.s = d ∧ 1 ≤ st.run ∧ st.run ≤ 3 ∧ (st.first = false → st.run = 3)
theorem isD_ne {c : UInt8} (h : isD c = true) : c ≠ 44 := by intro e; rw [e] at h; exact absurd h (by decide)
theorem csBad_dig {st : CS} {c : UInt8} (h : c ≠ 44) : csBad st c = false := by
  unfold csBad
  have : (c == 44) = false := by rw [beq_eq_false_iff_ne]; exact h
  rw [this]; rfl
theorem csBad_com {st : CS} (h1 : 1 ≤ st.run) (h2 : st.run ≤ 3) (h3 : st.first = false → st.run = 3) : csBad st 44 = false := by
  unfold csBad
  have a : decide (st.run < 1) = false := decide_eq_false (by omega)
  have b : decide (3 < st.run) = false := decide_eq_false (by omega)
  rw [a, b]
  cases hf : st.first
  · have := h3 hf
    simp [this]
  · simp
theorem cs_all : ∀ (r : Bs) (st : CS), r.all isD = true → CI r st → csOk (com false r) st = true ∧ CSEnd (st.s ++ r) ((com false r).foldl csStep st)
  | [], st, _, h => by
    refine ⟨rfl, by simp [com], h.lo, h.hi, fun hf => ?_⟩
    have := h.snd hf
    have := h.lo
    have := h.hi
    show st.run = 3
    simp at *; omega
  | c :: r, st, ha, h => by
    have hc : isD c = true := by simp at ha; exact ha.1
    have hr : r.all isD = true := by simp at ha ⊢; exact ha.2
    have hc4 := isD_ne hc
    have hlo := h.lo
    have hhi := h.hi
    have hf1 := h.fst
    have hf2 := h.snd
    rw [List.length_cons] at hf1 hf2
    by_cases h3 : (r.length + 1) % 3 = 0
    · have hb : csBad st 44 = false := csBad_com hlo hhi (fun hf => by have := hf2 hf; omega)
      have ih := cs_all r ⟨st.s ++ [c], 1, false⟩ hr ⟨(by show 1 ≤ 1; omega), (by show 1 ≤ 3; omega), (fun hf => by cases hf), (fun _ => by show (1 + r.length) % 3 = 0; omega)⟩
      rw [com, if_pos ⟨rfl, h3⟩]
      have e1 : csStep st 44 = ⟨st.s, 0, false⟩ := by unfold csStep; rw [if_neg (by simp)]
      have e2 : csStep ⟨st.s, 0, false⟩ c = ⟨st.s ++ [c], 1, false⟩ := by unfold csStep; rw [if_pos hc4]
      show csOk (44 :: c :: com false r) st = true ∧ CSEnd _ ((44 :: c :: com false r).foldl csStep st)
      rw [csOk, csOk, hb, e1, csBad_dig hc4, e2, List.foldl_cons, List.foldl_cons, e1, e2, ih.1]
      refine ⟨rfl, ?_⟩
      have := ih.2
      rw [List.append_assoc] at this
      exact this
    · have ih := cs_all r ⟨st.s ++ [c], st.run + 1, st.first⟩ hr ⟨by show 1 ≤ st.run + 1; omega, by
          show st.run + 1 ≤ 3
          cases hf : st.first
          · have := hf2 hf; omega
          · have := hf1 hf; omega, fun hf => by have := hf1 hf; show st.run + 1 ≤ (st.run + 1 + r.length - 1) % 3 + 1; omega, fun hf => by have := hf2 hf; show (st.run + 1 + r.length) % 3 = 0; omega⟩
      rw [com, if_neg (fun hh => h3 hh.2)]
      have e2 : csStep st c = ⟨st.s ++ [c], st.run + 1, st.first⟩ := by unfold csStep; rw [if_pos hc4]
      show csOk (c :: com false r) st = true ∧ CSEnd _ ((c :: com false r).foldl csStep st)
      rw [csOk, csBad_dig hc4, e2, List.foldl_cons, e2, ih.1]
      refine ⟨rfl, ?_⟩
      have := ih.2
      rw [List.append_assoc] at this
      exact this
def cs0 : CS := ⟨[], 0, true⟩
theorem cs_com (d : Bs) (h : d.all isD = true) (h0 : d ≠ []) : csOk (com true d) cs0 = true ∧ CSEnd d ((com true d).foldl csStep cs0) := by
  cases d with
  | nil => exact absurd rfl h0
  | cons c r =>
    have hc : isD c = true := by simp at h; exact h.1
    have hr : r.all isD = true := by simp at h ⊢; exact h.2
    have hc4 := isD_ne hc
    have ih := cs_all r ⟨[] ++ [c], 1, true⟩ hr ⟨(by show 1 ≤ 1; omega), (by show 1 ≤ 3; omega), (fun _ => by show 1 ≤ (1 + r.length - 1) % 3 + 1; omega), (fun hf => by cases hf)⟩
    have e2 : csStep cs0 c = ⟨[] ++ [c], 1, true⟩ := by unfold csStep cs0; rw [if_pos hc4]
    show csOk (c :: com false r) cs0 = true ∧ CSEnd _ ((c :: com false r).foldl csStep cs0)
    rw [csOk, csBad_dig hc4, e2, List.foldl_cons, e2, ih.1]
    exact ⟨rfl, ih.2⟩
end Num
end Go.Proofs.YtnpkcobapckhdaaGreatDoor
