/-
  Rules of romanisation as plain lists of bytes: which are allowed, their text, how a text is read. No condition.
-/
import Derived.Test.YtgdcffahhpeibaaGreatDoorUtfBack
import Derived.Lib.SlTrimSet
import Derived.Lib.CutLaws
namespace Go.Proofs.YtgdcffahhpeibaaGreatDoor
namespace Ro
open UT (Bs runes)
/-- a rule: its keys, what it writes, the keys that are pending then -/
abbrev Rule := Bs × Bs × Bs
def isK (c : UInt8) : Bool := (decide (97 ≤ c.toNat) && decide (c.toNat ≤ 122)) || (c.toNat == 45 || (c.toNat == 44 || (c.toNat == 46 || c.toNat == 39)))
def keyed (l : Bs) (n : Nat) : Bool := decide (l.length ≤ n) && l.all isK
def isKa (c : Nat) : Bool := (decide (12353 ≤ c) && decide (c ≤ 12438)) || (c == 12540 || (c == 12289 || c == 12290))
def kana (l : Bs) : Bool := Lib.validD l && (decide ((runes l).length ≤ 4) && (runes l).all isKa)
def allowed (r : Rule) : Bool := !r.1.isEmpty && (keyed r.1 4 && (kana r.2.1 && (keyed r.2.2 3 && (decide (r.2.2.length < r.1.length) && !(r.2.1 ++ r.2.2).isEmpty))))
def find (l : List Rule) (k : Bs) : Option Rule := l.find? (fun r => r.1 == k)
def longer (l : List Rule) (k : Bs) : Bool := l.any fun r => decide (k.length < r.1.length) && r.1.take k.length == k
/-- no key twice, each allowed, beside the keys seen -/
def goodFrom : List Bs → List Rule → Bool
  | _, [] => true
  | seen, r :: l => !seen.contains r.1 && (allowed r && goodFrom (seen ++ [r.1]) l)
def good (l : List Rule) : Bool := goodFrom [] l
def check (l : List Rule) : Nat := if 500 < l.length then 2 else if good l = true then 0 else 50
/-- the pieces between the bytes c -/
def pieces (c : UInt8) : Bs → List Bs
  | [] => [[]]
  | x :: r => if x = c then [] :: pieces c r else match pieces c r with
    | [] => [[x]]
    | p :: ps => (x :: p) :: ps
def lineRule (line : Bs) : Option Rule := match pieces 9 line with
  | [a, b] => some (a, b, [])
  | [a, b, c] => if c = [] then none else some (a, b, c)
  | _ => none
def skip (line : Bs) : Bool := match line with
  | [] => true
  | c :: _ => c == 35
/-- what a line adds to the rules out: none: it is not valid -/
def lineStep (line : Bs) (out : List Rule) : Option (List Rule) := match lineRule line with
  | none => none
  | some r => if (out.map (·.1)).contains r.1 || !allowed r || decide (500 ≤ out.length) then none else some (out ++ [r])
/-- the rules, the number of a line, an error's number -/
def parseGo : List Bs → Nat → List Rule → List Rule × Nat × Nat
  | [], _, out => (out, 0, 0)
  | line :: r, i, out => if skip line = true then parseGo r (i + 1) out else match lineStep line out with
    | none => ([], i + 1, 50)
    | some out' => parseGo r (i + 1) out'
def parse (text : Bs) : List Rule × Nat × Nat := if 1048576 < text.length then ([], 0, 2) else parseGo (pieces 10 text) 0 []
def ruleLine (r : Rule) : Bs := r.1 ++ ([9] ++ (r.2.1 ++ (if r.2.2 = [] then [] else [9] ++ r.2.2)))
def text (l : List Rule) : Bs := l.flatMap fun r => ruleLine r ++ [10]
def print (l : List Rule) : Bs × Nat := if check l = 0 then (text l, 0) else ([], check l)

/-! ### what they have in common -/
theorem allowed_iff (r : Rule) : allowed r = true ↔ (r.1 ≠ [] ∧ keyed r.1 4 = true ∧ kana r.2.1 = true ∧ keyed r.2.2 3 = true ∧ r.2.2.length < r.1.length ∧ (r.2.1 ≠ [] ∨ r.2.2 ≠ [])) := by
  obtain ⟨k, o, n⟩ := r
  unfold allowed
  cases k <;> cases o <;> cases n <;> simp
theorem pieces_ne (c : UInt8) : ∀ l, pieces c l ≠ []
  | [] => by simp [pieces]
  | x :: r => by
    unfold pieces
    split
    · simp
    · split <;> simp
theorem pieces_cons_eq (c : UInt8) (r : Bs) : pieces c (c :: r) = [] :: pieces c r := by rw [pieces, if_pos rfl]
theorem pieces_cons_ne {c x : UInt8} (h : x ≠ c) (r : Bs) : ∃ p ps, pieces c r = p :: ps ∧ pieces c (x :: r) = (x :: p) :: ps := by
  cases hp : pieces c r with
  | nil => exact absurd hp (pieces_ne c r)
  | cons p ps => exact ⟨p, ps, rfl, by rw [pieces, if_neg h, hp]⟩
/-- a piece without c, then c -/
theorem pieces_app (c : UInt8) (r : Bs) : ∀ a : Bs, c ∉ a → pieces c (a ++ c :: r) = a :: pieces c r
  | [], _ => pieces_cons_eq c r
  | x :: a, h => by
    have hx : x ≠ c := fun e => h (e ▸ List.mem_cons_self ..)
    have ih := pieces_app c r a (fun hm => h (List.mem_cons_of_mem _ hm))
    rw [List.cons_append, pieces, if_neg hx, ih]
theorem pieces_none (c : UInt8) : ∀ a : Bs, c ∉ a → pieces c a = [a]
  | [], _ => rfl
  | x :: a, h => by
    have hx : x ≠ c := fun e => h (e ▸ List.mem_cons_self ..)
    rw [pieces, if_neg hx, pieces_none c a (fun hm => h (List.mem_cons_of_mem _ hm))]
/-- no piece holds c -/
theorem pieces_free (c : UInt8) : ∀ (l : Bs) (p : Bs), p ∈ pieces c l → c ∉ p
  | [], p, h => by simp [pieces] at h; subst h; simp
  | x :: r, p, h => by
    by_cases hx : x = c
    · subst hx
      rw [pieces_cons_eq] at h
      rcases List.mem_cons.1 h with rfl | h
      · simp
      · exact pieces_free x r p h
    · obtain ⟨q, qs, h1, h2⟩ := pieces_cons_ne hx r
      rw [h2] at h
      have hq := pieces_free c r
      rw [h1] at hq
      rcases List.mem_cons.1 h with rfl | h
      · intro hm
        rcases List.mem_cons.1 hm with e | hm
        · exact hx e.symm
        · exact hq q (List.mem_cons_self ..) hm
      · exact hq p (List.mem_cons_of_mem _ h)
theorem pieces_split (c : UInt8) : ∀ l : Bs, c ∈ l → ∃ a r, l = a ++ c :: r ∧ c ∉ a
  | [], h => by simp at h
  | x :: l, h => by
    by_cases hx : x = c
    · exact ⟨[], l, by rw [hx]; rfl, by simp⟩
    · have hm : c ∈ l := by
        rcases List.mem_cons.1 h with e | h
        · exact absurd e.symm hx
        · exact h
      obtain ⟨a, r, e, hn⟩ := pieces_split c l hm
      exact ⟨x :: a, r, by rw [e]; rfl, by intro hm; rcases List.mem_cons.1 hm with e' | hm; exact hx e'.symm; exact hn hm⟩
/-- lines put together -/
def joined : List Bs → Bs
  | [] => []
  | [a] => a
  | a :: b :: r => a ++ 10 :: joined (b :: r)
theorem pieces_joined : ∀ l : List Bs, l ≠ [] → (∀ a ∈ l, (10 : UInt8) ∉ a) → pieces 10 (joined l) = l
  | [], h, _ => absurd rfl h
  | [a], _, h => pieces_none 10 a (h a (List.mem_cons_self ..))
  | a :: b :: r, _, h => by
    rw [joined, pieces_app 10 _ a (h a (List.mem_cons_self ..)), pieces_joined (b :: r) (by simp) (fun x hx => h x (List.mem_cons_of_mem _ hx))]

/-! ### good rules -/
theorem goodFrom_iff : ∀ (l : List Rule) (seen : List Bs), goodFrom seen l = true ↔ ((∀ r ∈ l, allowed r = true ∧ r.1 ∉ seen) ∧ (l.map (·.1)).Nodup)
  | [], seen => by simp [goodFrom]
  | r :: l, seen => by
    rw [goodFrom, Bool.and_eq_true, Bool.and_eq_true, goodFrom_iff l]
    simp only [List.map_cons, List.nodup_cons, List.mem_cons, forall_eq_or_imp, List.mem_append, List.not_mem_nil, or_false, Bool.not_eq_true', List.mem_map]
    constructor
    · rintro ⟨h1, h2, h3, h4⟩
      have hc : r.1 ∉ seen := by intro hm; rw [List.contains_iff_mem.2 hm] at h1; cases h1
      refine ⟨⟨⟨h2, hc⟩, fun x hx => ⟨(h3 x hx).1, fun hm => (h3 x hx).2 (.inl hm)⟩⟩, ?_, h4⟩
      rintro ⟨x, hx, e⟩
      exact (h3 x hx).2 (.inr e)
    · rintro ⟨⟨⟨h1, h2⟩, h3⟩, h4, h5⟩
      refine ⟨?_, h1, fun x hx => ⟨(h3 x hx).1, ?_⟩, h5⟩
      · cases hc : seen.contains r.1
        · rfl
        · exact absurd (List.contains_iff_mem.1 hc) h2
      · rintro (hm | e)
        · exact (h3 x hx).2 hm
        · exact h4 ⟨x, hx, e⟩
theorem good_iff (l : List Rule) : good l = true ↔ ((∀ r ∈ l, allowed r = true) ∧ (l.map (·.1)).Nodup) := by
  unfold good
  rw [goodFrom_iff]
  simp
theorem check_zero (l : List Rule) : check l = 0 ↔ (l.length ≤ 500 ∧ good l = true) := by
  unfold check
  split
  · omega
  · split
    · simp_all
    · simp_all
theorem check_cases (l : List Rule) : check l = 0 ∨ check l = 2 ∨ check l = 50 := by
  unfold check
  split
  · simp
  · split <;> simp
theorem good_perm {l l' : List Rule} (h : l.Perm l') : good l = good l' := by
  rw [Bool.eq_iff_iff, good_iff, good_iff]
  have hn : (l.map (·.1)).Nodup ↔ (l'.map (·.1)).Nodup := (h.map _).nodup_iff
  rw [hn]
  constructor
  · exact fun ⟨a, b⟩ => ⟨fun r hr => a r (h.mem_iff.2 hr), b⟩
  · exact fun ⟨a, b⟩ => ⟨fun r hr => a r (h.mem_iff.1 hr), b⟩
theorem check_perm {l l' : List Rule} (h : l.Perm l') : check l = check l' := by
  unfold check
  rw [good_perm h, h.length_eq]
theorem check_rot (l : List Rule) (k : Nat) : check (l.drop k ++ l.take k) = check l :=
  check_perm (by
    have := List.perm_append_comm (l₁ := l.drop k) (l₂ := l.take k)
    rwa [List.take_append_drop] at this)
theorem good_sub {l l' : List Rule} (h : l'.Sublist l) (hg : good l = true) : good l' = true := by
  rw [good_iff] at hg ⊢
  exact ⟨fun r hr => hg.1 r (h.subset hr), hg.2.sublist (h.map _)⟩
theorem check_sub {l l' : List Rule} (h : l'.Sublist l) (hg : check l = 0) : check l' = 0 := by
  rw [check_zero] at hg ⊢
  exact ⟨Nat.le_trans h.length_le hg.1, good_sub h hg.2⟩

/-! ### the program's way to read a line -/
def progRule (line : Bs) : Option Rule :=
  match Lib.cut line [9] with
  | (keys, rest, ok) => match Lib.cut rest [9] with
    | (kana, next, third) => if ok = false ∨ (third = true ∧ next = []) then none else some (keys, kana, next)
def progStep (line : Bs) (out : List Rule) : Option (List Rule) := match progRule line with
  | none => none
  | some r => if (out.map (·.1)).contains r.1 || !allowed r || decide (out.length = 500) then none else some (out ++ [r])

/-! ### reading lines -/
theorem goodFrom_snoc (l : List Rule) (r : Rule) (h : good l = true) (ha : allowed r = true) (hn : (l.map (·.1)).contains r.1 = false) : good (l ++ [r]) = true := by
  rw [good_iff] at h ⊢
  refine ⟨fun x hx => ?_, ?_⟩
  · rcases List.mem_append.1 hx with hx | hx
    · exact h.1 x hx
    · simp at hx; subst hx; exact ha
  · rw [List.map_append, List.nodup_append]
    refine ⟨h.2, by simp, fun a ha' b hb => ?_⟩
    simp at hb
    subst hb
    intro e
    subst e
    rw [List.contains_iff_mem.2 ha'] at hn
    cases hn
theorem lineStep_some {line : Bs} {out out' : List Rule} (h : lineStep line out = some out') : ∃ r, out' = out ++ [r] ∧ lineRule line = some r ∧ allowed r = true ∧ (out.map (·.1)).contains r.1 = false ∧ out.length < 500 := by
  unfold lineStep at h
  split at h
  · cases h
  · rename_i r hr
    split at h
    · cases h
    · rename_i hc
      injection h with h
      simp only [Bool.or_eq_true, not_or, Bool.not_eq_true, Bool.not_eq_false', decide_eq_false_iff_not, Nat.not_le] at hc
      exact ⟨r, h.symm, hr, hc.1.2, hc.1.1, hc.2⟩
/-- rules that have been read -/
def Fine (out : List Rule) : Prop := good out = true ∧ out.length ≤ 500
theorem Fine.nil : Fine [] := ⟨rfl, by simp⟩
theorem Fine.step {line : Bs} {out out' : List Rule} (h : Fine out) (hs : lineStep line out = some out') : Fine out' := by
  obtain ⟨r, rfl, _, h2, h3, h4⟩ := lineStep_some hs
  exact ⟨goodFrom_snoc _ _ h.1 h2 h3, by rw [List.length_append]; simp; omega⟩
theorem parseGo_cons (line : Bs) (r : List Bs) (i : Nat) (out : List Rule) : parseGo (line :: r) i out = if skip line = true then parseGo r (i + 1) out else match lineStep line out with
    | none => ([], i + 1, 50)
    | some out' => parseGo r (i + 1) out' := rfl
theorem parseGo_inv : ∀ (ls : List Bs) (i : Nat) (out : List Rule), Fine out →
    (∃ more, parseGo ls i out = (out ++ more, 0, 0) ∧ Fine (out ++ more)) ∨ (∃ n, i < n ∧ n ≤ i + ls.length ∧ parseGo ls i out = ([], n, 50))
  | [], i, out, h => .inl ⟨[], by rw [List.append_nil]; exact ⟨rfl, h⟩⟩
  | line :: r, i, out, h => by
    rw [parseGo_cons]
    by_cases hs : skip line = true
    · rw [if_pos hs]
      rcases parseGo_inv r (i + 1) out h with h' | ⟨n, h1, h2, h3⟩
      · exact .inl h'
      · exact .inr ⟨n, by omega, by rw [List.length_cons]; omega, h3⟩
    · rw [if_neg hs]
      cases hl : lineStep line out with
      | none => exact .inr ⟨i + 1, by omega, by rw [List.length_cons]; omega, rfl⟩
      | some out' =>
        dsimp only
        have hf := h.step hl
        obtain ⟨x, rfl, _⟩ := lineStep_some hl
        rcases parseGo_inv r (i + 1) _ hf with ⟨more, h1, h2⟩ | ⟨n, h1, h2, h3⟩
        · exact .inl ⟨x :: more, by rw [h1]; simp, by simpa using h2⟩
        · exact .inr ⟨n, by omega, by rw [List.length_cons]; omega, h3⟩
theorem parseGo_app : ∀ (A B : List Bs) (i : Nat) (out : List Rule), parseGo (A ++ B) i out = if (parseGo A i out).2.2 = 0 then parseGo B (i + A.length) (parseGo A i out).1 else parseGo A i out
  | [], B, i, out => by rw [List.nil_append, parseGo, if_pos rfl]; rfl
  | line :: A, B, i, out => by
    rw [List.cons_append, parseGo_cons, parseGo_cons]
    by_cases hs : skip line = true
    · rw [if_pos hs, if_pos hs, parseGo_app A B (i + 1) out, List.length_cons, show i + (A.length + 1) = i + 1 + A.length by omega]
    · rw [if_neg hs, if_neg hs]
      cases hl : lineStep line out with
      | none => dsimp only; rw [if_neg (by omega)]
      | some out' =>
        dsimp only
        rw [parseGo_app A B (i + 1) out', List.length_cons, show i + (A.length + 1) = i + 1 + A.length by omega]
theorem parseGo_shift : ∀ (B : List Bs) (i : Nat) (out : List Rule), parseGo B (i + 1) out = ((parseGo B i out).1, if (parseGo B i out).2.1 = 0 then 0 else (parseGo B i out).2.1 + 1, (parseGo B i out).2.2)
  | [], i, out => rfl
  | line :: r, i, out => by
    rw [parseGo_cons, parseGo_cons]
    by_cases hs : skip line = true
    · rw [if_pos hs, if_pos hs, parseGo_shift r (i + 1) out]
    · rw [if_neg hs, if_neg hs]
      cases hl : lineStep line out with
      | none => rfl
      | some out' => dsimp only; rw [parseGo_shift r (i + 1) out']
/-- one skipped line more -/
theorem parseGo_skip (A B : List Bs) (x : Bs) (hx : skip x = true) (out : List Rule) (hf : Fine out) :
    parseGo (A ++ x :: B) 0 out = ((parseGo (A ++ B) 0 out).1, if A.length < (parseGo (A ++ B) 0 out).2.1 then (parseGo (A ++ B) 0 out).2.1 + 1 else (parseGo (A ++ B) 0 out).2.1, (parseGo (A ++ B) 0 out).2.2) := by
  rw [parseGo_app, parseGo_app]
  rcases parseGo_inv A 0 out hf with ⟨more, h1, h2⟩ | ⟨n, h1, h2, h3⟩
  · rw [h1]
    dsimp only
    rw [if_pos rfl, if_pos rfl, parseGo_cons, if_pos hx, parseGo_shift]
    rcases parseGo_inv B (0 + A.length) _ h2 with ⟨m2, h4, h5⟩ | ⟨n, h4, h5, h6⟩
    · rw [h4]; simp
    · rw [h6]; simp only [show ¬ n = 0 by omega, if_false, show A.length < n by omega, if_true]
  · rw [h3]
    have hd : ¬ A.length < n := by omega
    simp only [show ¬ ((50 : Nat) = 0) by decide, if_false, hd]
theorem parse_inv (t : Bs) : (∃ a, parse t = (a, 0, 0) ∧ check a = 0) ∨ (∃ n e, e ≠ 0 ∧ parse t = ([], n, e)) := by
  unfold parse
  split
  · exact .inr ⟨0, 2, by decide, rfl⟩
  · rcases parseGo_inv (pieces 10 t) 0 [] Fine.nil with ⟨more, h1, h2⟩ | ⟨n, _, _, h3⟩
    · exact .inl ⟨more, h1, by rw [check_zero]; exact ⟨h2.2, h2.1⟩⟩
    · exact .inr ⟨n, 50, by decide, h3⟩

/-! ### what is written is read again -/
theorem isK_byte {c : UInt8} (h : isK c = true) : c ≠ 9 ∧ c ≠ 10 ∧ c ≠ 35 ∧ c.toNat < 128 ∧ 33 ≤ c.toNat := by
  unfold isK at h
  simp only [Bool.or_eq_true, Bool.and_eq_true, decide_eq_true_eq, beq_iff_eq] at h
  refine ⟨?_, ?_, ?_, by omega, by omega⟩ <;> (rintro rfl; revert h; decide)
theorem keyed_byte {l : Bs} {n : Nat} (h : keyed l n = true) : l.length ≤ n ∧ ∀ c ∈ l, isK c = true := by
  unfold keyed at h
  rw [Bool.and_eq_true, decide_eq_true_iff] at h
  exact ⟨h.1, List.all_eq_true.1 h.2⟩
theorem keyed_no {l : Bs} {n : Nat} (h : keyed l n = true) : (9 : UInt8) ∉ l ∧ (10 : UInt8) ∉ l :=
  ⟨fun hm => (isK_byte ((keyed_byte h).2 _ hm)).1 rfl, fun hm => (isK_byte ((keyed_byte h).2 _ hm)).2.1 rfl⟩
theorem isKa_big {c : Nat} (h : isKa c = true) : 12289 ≤ c := by
  unfold isKa at h
  simp only [Bool.or_eq_true, Bool.and_eq_true, decide_eq_true_eq, beq_iff_eq] at h
  omega
theorem kana_parts {l : Bs} (h : kana l = true) : Lib.validD l = true ∧ (runes l).length ≤ 4 ∧ (∀ c ∈ runes l, isKa c = true) ∧ (∀ x ∈ l, 128 ≤ x.toNat) ∧ l.length ≤ 16 := by
  unfold kana at h
  simp only [Bool.and_eq_true, decide_eq_true_eq, List.all_eq_true] at h
  obtain ⟨h1, h2, h3⟩ := h
  refine ⟨h1, h2, h3, UT.big_bytes h1 (fun c hc => by have := isKa_big (h3 c hc); omega), ?_⟩
  have e := UT.enc_runes l.length l (Nat.le_refl _) h1
  have := UT.bk_len (runes l)
  rw [e] at this
  omega
theorem kana_no {l : Bs} (h : kana l = true) : (9 : UInt8) ∉ l ∧ (10 : UInt8) ∉ l :=
  ⟨fun hm => by have := (kana_parts h).2.2.2.1 _ hm; simp at this, fun hm => by have := (kana_parts h).2.2.2.1 _ hm; simp at this⟩
theorem ruleLine_free {r : Rule} (h : allowed r = true) : (10 : UInt8) ∉ ruleLine r := by
  obtain ⟨_, h2, h3, h4, _, _⟩ := (allowed_iff r).1 h
  unfold ruleLine
  intro hm
  rcases List.mem_append.1 hm with hm | hm
  · exact (keyed_no h2).2 hm
  · rcases List.mem_append.1 hm with hm | hm
    · simp at hm
    · rcases List.mem_append.1 hm with hm | hm
      · exact (kana_no h3).2 hm
      · split at hm
        · simp at hm
        · rcases List.mem_append.1 hm with hm | hm
          · simp at hm
          · exact (keyed_no h4).2 hm
theorem ruleLine_read {r : Rule} (h : allowed r = true) : lineRule (ruleLine r) = some r ∧ skip (ruleLine r) = false := by
  obtain ⟨h1, h2, h3, h4, _, _⟩ := (allowed_iff r).1 h
  obtain ⟨k, o, n⟩ := r
  dsimp only at h1 h2 h3 h4
  have hk := (keyed_no h2).1
  have ho := (kana_no h3).1
  have hn := (keyed_no h4).1
  constructor
  · unfold lineRule ruleLine
    dsimp only
    rw [List.cons_append, List.nil_append, pieces_app 9 _ k hk]
    by_cases e : n = []
    · subst e
      rw [if_pos rfl, List.append_nil, pieces_none 9 o ho]
    · rw [if_neg e, List.cons_append, List.nil_append, pieces_app 9 _ o ho, pieces_none 9 n hn]
      dsimp only
      rw [if_neg e]
  · unfold ruleLine
    dsimp only
    cases k with
    | nil => exact absurd rfl h1
    | cons c k =>
      have := isK_byte ((keyed_byte h2).2 c (List.mem_cons_self ..))
      show (c == 35) = false
      rw [beq_eq_false_iff_ne]
      exact this.2.2.1
theorem text_pieces : ∀ l : List Rule, (∀ r ∈ l, allowed r = true) → pieces 10 (text l) = l.map ruleLine ++ [[]]
  | [], _ => rfl
  | r :: l, h => by
    have ih := text_pieces l (fun x hx => h x (List.mem_cons_of_mem _ hx))
    show pieces 10 ((ruleLine r ++ [10]) ++ text l) = _
    rw [List.append_assoc, List.cons_append, List.nil_append, pieces_app 10 _ _ (ruleLine_free (h r (List.mem_cons_self ..))), ih]; rfl
theorem ruleLine_len {r : Rule} (h : allowed r = true) : (ruleLine r).length ≤ 25 := by
  obtain ⟨_, h2, h3, h4, _, _⟩ := (allowed_iff r).1 h
  have a := (keyed_byte h2).1
  have b := (kana_parts h3).2.2.2.2
  have c := (keyed_byte h4).1
  unfold ruleLine
  simp only [List.length_append, List.length_cons, List.length_nil]
  split
  · simp only [List.length_nil]; omega
  · simp only [List.length_append, List.length_cons, List.length_nil]; omega
theorem text_len : ∀ l : List Rule, (∀ r ∈ l, allowed r = true) → (text l).length ≤ 26 * l.length
  | [], _ => by simp [text]
  | r :: l, h => by
    have ih := text_len l (fun x hx => h x (List.mem_cons_of_mem _ hx))
    have := ruleLine_len (h r (List.mem_cons_self ..))
    show ((ruleLine r ++ [10]) ++ text l).length ≤ _
    rw [List.length_append, List.length_append, List.length_cons, List.length_cons, List.length_nil]
    omega
theorem parseGo_lines : ∀ (l : List Rule) (i : Nat) (out : List Rule), good (out ++ l) = true → (out ++ l).length ≤ 500 → parseGo (l.map ruleLine ++ [[]]) i out = (out ++ l, 0, 0)
  | [], i, out, _, _ => by rw [List.append_nil]; rfl
  | r :: l, i, out, h, hl => by
    have hg := (good_iff _).1 h
    have ha := hg.1 r (by simp)
    obtain ⟨h1, h2⟩ := ruleLine_read ha
    have hnd : (out.map (·.1)).contains r.1 = false := by
      cases hc : (out.map (·.1)).contains r.1
      · rfl
      · have hm := List.contains_iff_mem.1 hc
        have hn := hg.2
        rw [List.map_append, List.nodup_append] at hn
        exact absurd rfl (hn.2.2 _ hm r.1 (by simp))
    rw [List.map_cons, List.cons_append, parseGo_cons, if_neg (by rw [h2]; simp)]
    have hs : lineStep (ruleLine r) out = some (out ++ [r]) := by
      unfold lineStep
      rw [h1]
      dsimp only
      rw [hnd, ha, if_neg (by simp at hl ⊢; omega)]
    rw [hs]
    dsimp only
    have e : out ++ r :: l = (out ++ [r]) ++ l := by simp
    rw [e] at h hl ⊢
    exact parseGo_lines l (i + 1) _ h hl
theorem parse_text (l : List Rule) (h : check l = 0) : parse (text l) = (l, 0, 0) := by
  obtain ⟨h1, h2⟩ := (check_zero l).1 h
  have ha := ((good_iff l).1 h2).1
  have hl := text_len l ha
  unfold parse
  rw [if_neg (by omega), text_pieces l ha]
  exact parseGo_lines l 0 [] h2 h1

/-! ### the program's way is the document's -/
theorem keyed_tab {l : Bs} {n : Nat} (h : (9 : UInt8) ∈ l) : keyed l n = false := by
  cases hk : keyed l n
  · rfl
  · exact absurd h (keyed_no hk).1
theorem prog_line (hcut : ∀ (a r : Bs), (9 : UInt8) ∉ a → Lib.cut (a ++ 9 :: r) [9] = (a, r, true)) (hnone : ∀ a : Bs, (9 : UInt8) ∉ a → Lib.cut a [9] = (a, [], false))
    (line : Bs) (out : List Rule) (hl : out.length ≤ 500) : progStep line out = lineStep line out := by
  have hd : decide (out.length = 500) = decide (500 ≤ out.length) := by
    rw [decide_eq_decide]; omega
  unfold progStep lineStep
  rw [hd]
  by_cases h1 : (9 : UInt8) ∈ line
  · obtain ⟨a, r, rfl, ha⟩ := pieces_split 9 line h1
    by_cases h2 : (9 : UInt8) ∈ r
    · obtain ⟨b, r2, rfl, hb⟩ := pieces_split 9 r h2
      have hp : progRule (a ++ 9 :: (b ++ 9 :: r2)) = if r2 = [] then none else some (a, b, r2) := by
        unfold progRule
        rw [hcut a _ ha]
        dsimp only
        rw [hcut b _ hb]
        simp
      by_cases h3 : (9 : UInt8) ∈ r2
      · obtain ⟨c, r3, rfl, hc⟩ := pieces_split 9 r2 h3
        have hq : lineRule (a ++ 9 :: (b ++ 9 :: (c ++ 9 :: r3))) = none := by
          unfold lineRule
          rw [pieces_app 9 _ a ha, pieces_app 9 _ b hb, pieces_app 9 _ c hc]
          cases hp3 : pieces 9 r3 with
          | nil => exact absurd hp3 (pieces_ne 9 r3)
          | cons p ps => rfl
        rw [hp, hq, if_neg (by simp)]
        have hal : allowed (a, b, c ++ 9 :: r3) = false := by
          cases hx : allowed (a, b, c ++ 9 :: r3)
          · rfl
          · have := ((allowed_iff _).1 hx).2.2.2.1
            rw [keyed_tab h3] at this
            cases this
        simp [hal]
      · have hq : lineRule (a ++ 9 :: (b ++ 9 :: r2)) = if r2 = [] then none else some (a, b, r2) := by
          unfold lineRule
          rw [pieces_app 9 _ a ha, pieces_app 9 _ b hb, pieces_none 9 r2 h3]
        rw [hp, hq]
    · have hp : progRule (a ++ 9 :: r) = some (a, r, []) := by
        unfold progRule
        rw [hcut a _ ha]
        dsimp only
        rw [hnone r h2]
        simp
      have hq : lineRule (a ++ 9 :: r) = some (a, r, []) := by
        unfold lineRule
        rw [pieces_app 9 _ a ha, pieces_none 9 r h2]
      rw [hp, hq]
  · have hp : progRule line = none := by
      unfold progRule
      rw [hnone line h1]
      simp
    have hq : lineRule line = none := by
      unfold lineRule
      rw [pieces_none 9 line h1]
    rw [hp, hq]
end Ro
end Go.Proofs.YtgdcffahhpeibaaGreatDoor
