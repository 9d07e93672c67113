/-
  numeral.Parse and the reference's Parse as plain functions: they are equal, and they read back what is written. No condition.
-/
import Derived.Test.YtnpkcobapckhdaaGreatDoorReadMath
namespace Go.Proofs.YtnpkcobapckhdaaGreatDoor
namespace Num
open Ru (tok3 toks)

/-! ### the reference's machine over a text of tokens -/
theorem gsF_flat : ∀ (T : List Bs), (∀ t ∈ T, t.length = 3) → ∀ (n : Nat) (st : GS), T.length ≤ n → gsF n T.flatten st = T.reverse.foldl gsStep st := by
  intro T
  induction h : T.reverse generalizing T with
  | nil =>
    intro _ n st _
    have : T = [] := by simpa using h
    subst this
    cases n with
    | zero => rfl
    | succ n => rw [gsF, if_pos (by simp)]; rfl
  | cons t R ih =>
    intro hT n st hn
    have hT2 : T = R.reverse ++ [t] := by
      have := congrArg List.reverse h
      rw [List.reverse_reverse, List.reverse_cons] at this
      exact this
    subst hT2
    have ht : t.length = 3 := hT t (by simp)
    have hR : ∀ x ∈ R.reverse, x.length = 3 := fun x hx => hT x (by simp at hx ⊢; exact Or.inl hx)
    have hf : (R.reverse ++ [t]).flatten = R.reverse.flatten ++ t := by rw [List.flatten_append]; simp
    obtain ⟨m, rfl⟩ : ∃ m, n = m + 1 := ⟨n - 1, by rw [List.length_append] at hn; simp at hn; omega⟩
    have hl : (R.reverse.flatten ++ t).length - 3 = R.reverse.flatten.length := by rw [List.length_append, ht]; omega
    rw [hf, gsF, if_neg (by rw [List.length_append, ht]; omega), hl, List.take_left, List.drop_left]
    rw [ih R.reverse (by simp) hR m (gsStep st t) (by rw [List.length_append] at hn; simp at hn ⊢; omega), List.foldl_cons]
theorem strip_rep (n : Nat) (l : Bs) (h : l.head? ≠ some 48) (hl : l ≠ []) : strip (List.replicate n 48 ++ l) = l := by
  induction n with
  | zero =>
    match l, hl with
    | [c], _ => rfl
    | c :: d :: r, _ =>
      rw [List.replicate_zero, List.nil_append, strip, if_neg (by intro e; rw [e] at h; simp at h)]
  | succ n ih =>
    cases hx : List.replicate n 48 ++ l with
    | nil => simp at hx; exact absurd hx.2 hl
    | cons a r => rw [List.replicate_succ, List.cons_append, hx, strip, if_pos rfl, ← hx]; exact ih
theorem guess_back (f : Bool) (l : Bs) (h : valid l = true) (h0 : (l == [48]) = false) : guess (wr f l false) = l := by
  obtain ⟨a, b, c, d, e⟩ := valid_parts h h0
  have hg := gs_back f (dv l) l false (dig_dv l l [] rfl) e b
  have h3 : ∀ t ∈ wrT f l false, t.length = 3 := fun t ht => Ru.tok3_len (wrT_tok f l false e b t ht)
  unfold guess gsOut
  rw [← wrT_flat, gsF_flat _ h3 _ _ (by rw [Ru.flat_len _ h3]; omega)]
  have hq : ∀ q, q < 20 → ((wrT f l false).reverse.foldl gsStep gs0).d q = dv l q := by
    intro q hq
    by_cases hlt : q < l.length
    · exact hg.low q hlt
    · rw [hg.high q hq (by omega)]
      unfold dv
      rw [if_neg hlt]
  have e1 : (List.range 20).map (fun i => UInt8.ofNat (48 + ((wrT f l false).reverse.foldl gsStep gs0).d (19 - i))) = (List.range 20).map (fun i => UInt8.ofNat (48 + dv l (19 - i))) := by
    apply List.map_congr_left
    intro i _
    rw [hq (19 - i) (by omega)]
  rw [e1, twenty l b c, strip_rep _ _ d a]
theorem guess_zero : guess zero = [48] := by decide
theorem guess_nil : guess [] = [48] := by decide

/-! ### digit by digit -/
def dw1 (t : Bs) : Bs := if 0 ≤ ix dgP t then [UInt8.ofNat (48 + (ix dgP t).toNat)] else []
/-- the program's: rune by rune -/
def dwp (l : Bs) : Bs := (toks l).flatMap dw1
/-- the reference's: three bytes by three -/
def dwF : Nat → Bs → Bs
  | 0, _ => []
  | n + 1, l => if l.length < 3 then [] else dw1 (l.take 3) ++ dwF n (l.drop 3)
def dwr (l : Bs) : Bs := dwF l.length l
def posT (l : Bs) : List Bs := l.map fun c => dch false (val c)
theorem posT_flat : ∀ l, (posT l).flatten = pos l
  | [] => rfl
  | c :: r => by rw [pos, ← posT_flat r]; rfl
theorem posT_tok (l : Bs) (h : l.all isD = true) : ∀ t ∈ posT l, tok3 t = true := by
  intro t ht
  unfold posT at ht
  rw [List.mem_map] at ht
  obtain ⟨c, hc, rfl⟩ := ht
  exact dch_tok false _ (isD_val (List.all_eq_true.1 h c hc)).1
theorem dw1_dch (n : Nat) (h : n < 10) : dw1 (dch false n) = [UInt8.ofNat (48 + n)] := by
  have h1 : n = 0 ∨ n = 1 ∨ n = 2 ∨ n = 3 ∨ n = 4 ∨ n = 5 ∨ n = 6 ∨ n = 7 ∨ n = 8 ∨ n = 9 := by omega
  rcases h1 with rfl | rfl | rfl | rfl | rfl | rfl | rfl | rfl | rfl | rfl <;> decide
theorem dw_posT : ∀ (l : Bs), l.all isD = true → (posT l).flatMap dw1 = l
  | [], _ => rfl
  | c :: r, h => by
    have hc := isD_val (List.all_eq_true.1 h c (by simp))
    have hr : r.all isD = true := by simp at h ⊢; exact h.2
    show dw1 (dch false (val c)) ++ (posT r).flatMap dw1 = c :: r
    rw [dw1_dch _ hc.1, hc.2, dw_posT r hr]
    rfl
theorem dwp_pos (l : Bs) (h : l.all isD = true) : dwp (pos l) = l := by
  unfold dwp
  rw [← posT_flat, Ru.toks_flat _ (posT_tok l h)]
  exact dw_posT l h
theorem dwF_flat : ∀ (T : List Bs), (∀ t ∈ T, t.length = 3) → ∀ n, T.length ≤ n → dwF n T.flatten = T.flatMap dw1
  | [], _, n, _ => by cases n <;> simp [dwF]
  | t :: T, h, n, hn => by
    obtain ⟨m, rfl⟩ : ∃ m, n = m + 1 := ⟨n - 1, by simp at hn; omega⟩
    have ht := h t (by simp)
    have hf := Ru.flat_take ht T
    rw [dwF, if_neg (by rw [List.flatten_cons, List.length_append, ht]; omega), hf.1, hf.2, dwF_flat T (fun x hx => h x (by simp [hx])) m (by simp at hn; omega)]
    rfl
theorem dwr_pos (l : Bs) (h : l.all isD = true) : dwr (pos l) = l := by
  have h3 : ∀ t ∈ posT l, t.length = 3 := fun t ht => Ru.tok3_len (posT_tok l h t ht)
  unfold dwr
  rw [← posT_flat, dwF_flat _ h3 _ (by rw [Ru.flat_len _ h3]; omega)]
  exact dw_posT l h

/-! ### Parse -/
/-- the text of a number that may be none -/
def wrt0 (f : Bool) (d : Bs) : Bs := if valid d = true then writ f d else []
def rdTry (f : Bool) (l : Bs) : Bs := rdOut ((toks l).foldl (rdStep f) rs0)
def rdOk (f : Bool) (l : Bs) : Prop := valid (rdTry f l) = true ∧ writ f (rdTry f l) = l
instance (f : Bool) (l : Bs) : Decidable (rdOk f l) := by unfold rdOk; infer_instance
def rd (f : Bool) (l : Bs) : Bs × Bool := if l = zero then ([48], true) else (rdTry f l, decide (rdOk f l))
def digOk (d l : Bs) : Prop := valid d = true ∧ pos d = l
instance (d l : Bs) : Decidable (digOk d l) := by unfold digOk; infer_instance
def progParse (l : Bs) : Bs × Bool :=
  if digOk (dwp l) l then (dwp l, true)
  else if (rd false l).2 = true then ((rd false l).1, true)
  else if (rd true l).2 = true then ((rd true l).1, true)
  else ([], false)
def refParse (l : Bs) : Bs × Bool :=
  if digOk (dwr l) l then (dwr l, true)
  else if wrt0 false (guess l) = l ∨ wrt0 true (guess l) = l then (guess l, true)
  else ([], false)

theorem all_of_valid {d : Bs} (h : valid d = true) : d.all isD = true := ((valid_iff d).1 h).2.2.1
theorem digOk_iff (l : Bs) : (∃ d, digOk d l) ↔ digOk (dwp l) l := by
  constructor
  · rintro ⟨d, h1, h2⟩
    have : dwp l = d := by rw [← h2]; exact dwp_pos d (all_of_valid h1)
    rw [this]; exact ⟨h1, h2⟩
  · exact fun h => ⟨_, h⟩
theorem digOk_iff2 (l : Bs) : (∃ d, digOk d l) ↔ digOk (dwr l) l := by
  constructor
  · rintro ⟨d, h1, h2⟩
    have : dwr l = d := by rw [← h2]; exact dwr_pos d (all_of_valid h1)
    rw [this]; exact ⟨h1, h2⟩
  · exact fun h => ⟨_, h⟩
theorem digOk_same {l : Bs} (h : digOk (dwp l) l) : dwr l = dwp l := by
  have : dwr (pos (dwp l)) = dwp l := dwr_pos _ (all_of_valid h.1)
  rw [h.2] at this
  exact this
/-- what is written for a number that is not 0 -/
theorem writ_long (f : Bool) (l : Bs) (h0 : (l == [48]) = false) : writ f l = wr f l false := by unfold writ; rw [h0]; rfl
theorem writ_zero (f : Bool) : writ f [48] = zero := rfl
theorem zero_ne (f : Bool) (l : Bs) (h : valid l = true) (h0 : (l == [48]) = false) : wr f l false ≠ zero := by
  intro e
  have a := guess_back f l h h0
  rw [e, guess_zero] at a
  rw [← a] at h0
  simp at h0
theorem guess_writ (f : Bool) (l : Bs) (h : valid l = true) : guess (writ f l) = l := by
  cases h0 : (l == [48])
  · rw [writ_long f l h0]; exact guess_back f l h h0
  · have := eq_of_beq h0; subst this; exact guess_zero
theorem rd_writ (f : Bool) (l : Bs) (h : valid l = true) : rd f (writ f l) = (l, true) := by
  cases h0 : (l == [48])
  · rw [writ_long f l h0]
    unfold rd
    rw [if_neg (zero_ne f l h h0)]
    have e : rdTry f (wr f l false) = l := by unfold rdTry; rw [toks_wr f l h h0]; exact read_back f l h h0
    have ok : rdOk f (wr f l false) := by unfold rdOk; rw [e]; exact ⟨h, writ_long f l h0⟩
    rw [e, decide_eq_true ok]
  · have := eq_of_beq h0; subst this
    show rd f zero = _
    unfold rd
    rw [if_pos rfl]
theorem rd_sound (f : Bool) (l : Bs) (h : (rd f l).2 = true) : valid (rd f l).1 = true ∧ writ f (rd f l).1 = l := by
  unfold rd at *
  by_cases hz : l = zero
  · rw [if_pos hz]; exact ⟨by decide, by rw [hz]; rfl⟩
  · rw [if_neg hz] at h ⊢
    exact of_decide_eq_true h
theorem rd_some (f : Bool) (l : Bs) : (∃ d, valid d = true ∧ writ f d = l) ↔ (rd f l).2 = true := by
  constructor
  · rintro ⟨d, h1, h2⟩
    rw [← h2, rd_writ f d h1]
  · exact fun h => ⟨_, rd_sound f l h⟩
theorem rd_guess (f : Bool) (l : Bs) (h : (rd f l).2 = true) : guess l = (rd f l).1 := by
  have a := rd_sound f l h
  have := guess_writ f (rd f l).1 a.1
  rw [a.2] at this
  exact this
theorem dwr_ok_nil : ¬ digOk (dwr []) [] := by decide
theorem wrt0_some (f : Bool) (l : Bs) (h : wrt0 f (guess l) = l) (hl : l ≠ []) : ∃ d, valid d = true ∧ writ f d = l := by
  unfold wrt0 at h
  by_cases hv : valid (guess l) = true
  · rw [if_pos hv] at h; exact ⟨_, hv, h⟩
  · rw [if_neg hv] at h; exact absurd h.symm hl
theorem wrt0_guess (f : Bool) (l : Bs) (h : (rd f l).2 = true) : wrt0 f (guess l) = l := by
  have a := rd_sound f l h
  rw [rd_guess f l h]
  unfold wrt0
  rw [if_pos a.1]; exact a.2
/-- the program and the reference read alike -/
theorem parse_eq (l : Bs) : progParse l = refParse l := by
  unfold progParse refParse
  by_cases h1 : digOk (dwp l) l
  · have e := digOk_same h1
    rw [if_pos h1, e, if_pos h1]
  · have h1b : ¬ digOk (dwr l) l := fun h => h1 ((digOk_iff l).1 ⟨_, h⟩)
    rw [if_neg h1, if_neg h1b]
    by_cases h2 : (rd false l).2 = true
    · rw [if_pos h2, if_pos (Or.inl (wrt0_guess false l h2)), rd_guess false l h2]
    · rw [if_neg h2]
      by_cases h3 : (rd true l).2 = true
      · rw [if_pos h3, if_pos (Or.inr (wrt0_guess true l h3)), rd_guess true l h3]
      · rw [if_neg h3]
        have hn : ¬ (wrt0 false (guess l) = l ∨ wrt0 true (guess l) = l) := by
          by_cases hl : l = []
          · subst hl; decide
          · rintro (h | h)
            · exact h2 ((rd_some false l).1 (wrt0_some false l h hl))
            · exact h3 ((rd_some true l).1 (wrt0_some true l h hl))
        rw [if_neg hn]

/-! ### back -/
theorem ref_pos (d : Bs) (h : valid d = true) : progParse (pos d) = (d, true) := by
  have e := dwp_pos d (all_of_valid h)
  unfold progParse
  rw [e, if_pos ⟨h, rfl⟩]
/-- over plain digits the machine only keeps the last one -/
theorem fold_pos (f : Bool) : ∀ (l : Bs), l.all isD = true → ∀ st : RS, ∃ k : Int, k < 10 ∧ (posT l).foldl (rdStep f) st = ⟨st.d, st.now, if l = [] then st.dig else k⟩
  | [], _, st => ⟨0, by omega, rfl⟩
  | c :: r, h, st => by
    have hc := isD_val (List.all_eq_true.1 h c (by simp))
    have hr : r.all isD = true := by simp at h ⊢; exact h.2
    have key : ∃ k : Int, k < 10 ∧ rdStep f st (dch false (val c)) = ⟨st.d, st.now, k⟩ := by
      have h1 : val c = 0 ∨ val c = 1 ∨ val c = 2 ∨ val c = 3 ∨ val c = 4 ∨ val c = 5 ∨ val c = 6 ∨ val c = 7 ∨ val c = 8 ∨ val c = 9 := by have := hc.1; omega
      have a : ix grp.tail (dch false (val c)) = -1 := by rcases h1 with e | e | e | e | e | e | e | e | e | e <;> rw [e] <;> decide
      have b : ix (un f).tail (dch false (val c)) = -1 := by cases f <;> rcases h1 with e | e | e | e | e | e | e | e | e | e <;> rw [e] <;> decide
      have k10 : ix (dg f) (dch false (val c)) < 10 := by cases f <;> rcases h1 with e | e | e | e | e | e | e | e | e | e <;> rw [e] <;> decide
      refine ⟨ix (dg f) (dch false (val c)), k10, ?_⟩
      unfold rdStep
      rw [if_neg (by omega), if_neg (by omega)]
    obtain ⟨k, hk, e⟩ := key
    obtain ⟨k2, hk2, e2⟩ := fold_pos f r hr ⟨st.d, st.now, k⟩
    refine ⟨if r = [] then k else k2, by split <;> omega, ?_⟩
    show (posT r).foldl (rdStep f) (rdStep f st (dch false (val c))) = _
    rw [e, e2]
    simp
theorem rdOut_one (k : Int) (hk : k < 10) : rdOut ⟨fun _ => 0, fun _ => 0, k⟩ = [] ∨ ∃ c, rdOut ⟨fun _ => 0, fun _ => 0, k⟩ = [c] := by
  by_cases h : 0 ≤ k
  · have h1 : k = 0 ∨ k = 1 ∨ k = 2 ∨ k = 3 ∨ k = 4 ∨ k = 5 ∨ k = 6 ∨ k = 7 ∨ k = 8 ∨ k = 9 := by omega
    rcases h1 with rfl | rfl | rfl | rfl | rfl | rfl | rfl | rfl | rfl | rfl
    · left; decide
    · right; exact ⟨49, by decide⟩
    · right; exact ⟨50, by decide⟩
    · right; exact ⟨51, by decide⟩
    · right; exact ⟨52, by decide⟩
    · right; exact ⟨53, by decide⟩
    · right; exact ⟨54, by decide⟩
    · right; exact ⟨55, by decide⟩
    · right; exact ⟨56, by decide⟩
    · right; exact ⟨57, by decide⟩
  · left
    have e : pend (fun _ => 0) k = fun _ => 0 := by unfold pend; rw [if_neg h]
    unfold rdOut
    simp only [e]
    decide
theorem wr_one (f : Bool) (c : UInt8) (h : isD c = true) (h0 : c ≠ 48) : wr f [c] false = dch f (val c) := by
  have hv : val c ≠ 0 := by
    intro e
    have := (isD_val h).2
    rw [e] at this
    exact h0 this.symm
  show stepOut f (val c) 0 ++ stepG (val c) 0 false ++ [] = _
  have e1 : stepG (val c) 0 false = [] := by unfold stepG; split <;> rfl
  have e2 : uch f (0 % 4) = [] := by cases f <;> rfl
  rw [e1, List.append_nil, List.append_nil]
  unfold stepOut
  rw [if_neg hv, if_pos (Or.inr (Or.inr rfl)), e2, List.append_nil]
theorem dch_inj (f : Bool) (m n : Nat) (hm : m < 10) (hn : n < 10) (h0 : n ≠ 0) (h : dch false m = dch f n) : m = n := by
  have h1 : m = 0 ∨ m = 1 ∨ m = 2 ∨ m = 3 ∨ m = 4 ∨ m = 5 ∨ m = 6 ∨ m = 7 ∨ m = 8 ∨ m = 9 := by omega
  have h2 : n = 1 ∨ n = 2 ∨ n = 3 ∨ n = 4 ∨ n = 5 ∨ n = 6 ∨ n = 7 ∨ n = 8 ∨ n = 9 := by omega
  cases f <;> rcases h1 with rfl | rfl | rfl | rfl | rfl | rfl | rfl | rfl | rfl | rfl <;> rcases h2 with rfl | rfl | rfl | rfl | rfl | rfl | rfl | rfl | rfl <;> first | rfl | (exfalso; revert h; decide)
/-- where a number's text is plain digits, they are its own -/
theorem pos_writ (f : Bool) (d e : Bs) (hd : valid d = true) (he : valid e = true) (h : pos e = writ f d) : e = d := by
  cases h0 : (d == [48])
  · rw [writ_long f d h0] at h
    have hb := read_back f d hd h0
    rw [← toks_wr f d hd h0, ← h, ← posT_flat, Ru.toks_flat _ (posT_tok e (all_of_valid he))] at hb
    obtain ⟨k, hk, hf⟩ := fold_pos f e (all_of_valid he) rs0
    have hne := ((valid_iff e).1 he).1
    rw [hf, if_neg hne] at hb
    rcases rdOut_one k hk with h1 | ⟨c, h1⟩
    · have : d = [] := by rw [← hb]; exact h1
      exact absurd this ((valid_iff d).1 hd).1
    · have hdc : d = [c] := by rw [← hb]; exact h1
      subst hdc
      obtain ⟨_, _, v3, v4, _⟩ := valid_parts hd h0
      have hcd : isD c = true := by simpa using v3
      have hc0 : c ≠ 48 := by simpa using v4
      rw [wr_one f c hcd hc0] at h
      have hl := congrArg List.length h
      have hl3 : (dch f (val c)).length = 3 := Ru.tok3_len (dch_tok f _ (isD_val hcd).1)
      rw [hl3, ← posT_flat, Ru.flat_len _ (fun t ht => Ru.tok3_len (posT_tok e (all_of_valid he) t ht))] at hl
      match e, hne with
      | [x], _ =>
        have hx : isD x = true := by have := all_of_valid he; simpa using this
        have hp : pos [x] = dch false (val x) := by show dch false (val x) ++ [] = _; simp
        rw [hp] at h
        have hvc : val c ≠ 0 := by
          intro e
          have := (isD_val hcd).2
          rw [e] at this
          exact hc0 this.symm
        have := dch_inj f _ _ (isD_val hx).1 (isD_val hcd).1 hvc h
        rw [← (isD_val hx).2, ← (isD_val hcd).2, this]
      | x :: y :: r, _ => simp [posT] at hl; omega
  · have := eq_of_beq h0; subst this
    rw [writ_zero] at h
    have hb := dwp_pos e (all_of_valid he)
    rw [h] at hb
    have : dwp zero = [] := by decide
    rw [this] at hb
    rw [← hb] at he
    exact absurd he (by decide)
theorem ref_writ (f : Bool) (d : Bs) (h : valid d = true) : progParse (writ f d) = (d, true) := by
  rw [parse_eq]
  unfold refParse
  by_cases h1 : digOk (dwr (writ f d)) (writ f d)
  · rw [if_pos h1, pos_writ f d _ h h1.1 h1.2]
  · have hg := guess_writ f d h
    have hw : wrt0 f (guess (writ f d)) = writ f d := by rw [hg]; unfold wrt0; rw [if_pos h]
    rw [if_neg h1, if_pos (by cases f; exact Or.inl hw; exact Or.inr hw), hg]
end Num
end Go.Proofs.YtnpkcobapckhdaaGreatDoor
