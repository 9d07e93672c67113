/-
  The least keys that write a text: states, paths, a search by rounds, and what it finds. No condition but that the rules are allowed.
-/
import Derived.Test.YtgdcffahhpeibaaGreatDoorAuMath
namespace Go.Proofs.YtgdcffahhpeibaaGreatDoor
namespace Au
open UT (Bs)
open Ro (Rule find longer check)
/-- how much of a text is written, what is pending -/
abbrev St := Nat × Bs
def succ (l : List Rule) (s : Bs) (x : St) (c : UInt8) : Option St :=
  if (step l x.2 c).1.isPrefixOf (s.drop x.1) = true then some (x.1 + (step l x.2 c).1.length, (step l x.2 c).2) else none
def reachFrom (l : List Rule) (s : Bs) : St → Bs → Option St
  | x, [] => some x
  | x, c :: k => match succ l s x c with
    | none => none
    | some y => reachFrom l s y k
def reach (l : List Rule) (s : Bs) (k : Bs) : Option St := reachFrom l s (0, []) k
def Path (l : List Rule) (s k : Bs) (x : St) : Prop := (∀ c ∈ k, isKey c = true) ∧ reach l s k = some x
/-- shorter, or as long and not greater -/
def kle (a b : Bs) : Prop := a.length < b.length ∨ (a.length = b.length ∧ a ≤ b)
def Best (l : List Rule) (s : Bs) (x : St) (k : Bs) : Prop := Path l s k x ∧ ∀ k', Path l s k' x → kle k k'

theorem reachFrom_snoc (l : List Rule) (s : Bs) (c : UInt8) : ∀ (k : Bs) (x : St), reachFrom l s x (k ++ [c]) = (reachFrom l s x k).bind (fun y => succ l s y c)
  | [], x => by
    show (match succ l s x c with | none => none | some y => reachFrom l s y []) = succ l s x c
    cases succ l s x c <;> rfl
  | d :: k, x => by
    rw [List.cons_append, reachFrom, reachFrom]
    cases succ l s x d with
    | none => rfl
    | some y => exact reachFrom_snoc l s c k y
theorem reach_snoc (l : List Rule) (s k : Bs) (c : UInt8) : reach l s (k ++ [c]) = (reach l s k).bind (fun y => succ l s y c) := reachFrom_snoc l s c k _
theorem path_nil (l : List Rule) (s : Bs) : Path l s [] (0, []) := ⟨fun c hc => by simp at hc, rfl⟩
theorem path_snoc {l : List Rule} {s k : Bs} {x y : St} {c : UInt8} (h : Path l s k x) (hc : isKey c = true) (hs : succ l s x c = some y) : Path l s (k ++ [c]) y :=
  ⟨fun d hd => by
    rcases List.mem_append.1 hd with hd | hd
    · exact h.1 d hd
    · simp at hd; subst hd; exact hc, by rw [reach_snoc, h.2]; exact hs⟩
theorem path_last {l : List Rule} {s k : Bs} {y : St} {c : UInt8} (h : Path l s (k ++ [c]) y) : ∃ x, Path l s k x ∧ isKey c = true ∧ succ l s x c = some y := by
  have h2 := h.2
  rw [reach_snoc] at h2
  cases hx : reach l s k with
  | none => rw [hx] at h2; cases h2
  | some x =>
    rw [hx] at h2
    exact ⟨x, ⟨fun d hd => h.1 d (List.mem_append_left _ hd), hx⟩, h.1 c (by simp), h2⟩
theorem snoc_cases (k : Bs) : k = [] ∨ ∃ k' c, k = k' ++ [c] := by
  rcases List.eq_nil_or_concat k with h | ⟨k', c, h⟩
  · exact .inl h
  · exact .inr ⟨k', c, by rw [h, List.concat_eq_append]⟩
/-- what a path has written -/
theorem reach_run {l : List Rule} (hl : check l = 0) (s : Bs) : ∀ (n : Nat) (k : Bs) (x : St), k.length ≤ n → Path l s k x → (run l k).1 = s.take x.1 ∧ x.1 ≤ s.length ∧ (run l k).2 = x.2
  | n, k, x, hn, h => by
    rcases snoc_cases k with rfl | ⟨k', c, rfl⟩
    · have h2 := h.2
      injection h2 with h2
      subst h2
      exact ⟨rfl, Nat.zero_le _, rfl⟩
    · cases n with
      | zero => simp at hn
      | succ n =>
        obtain ⟨y, hy, hc, hs⟩ := path_last h
        obtain ⟨h1, h2, h3⟩ := reach_run hl s n k' y (by simp at hn; omega) hy
        rw [run_snoc hl, h3, h1]
        unfold succ at hs
        split at hs
        · rename_i hp
          injection hs with hs
          subst hs
          have hpre := List.isPrefixOf_iff_prefix.1 hp
          obtain ⟨t, ht⟩ := hpre
          have hlen : (step l y.2 c).1.length ≤ s.length - y.1 := by
            have := congrArg List.length ht
            rw [List.length_append, List.length_drop] at this
            omega
          refine ⟨?_, by dsimp only; omega, rfl⟩
          dsimp only
          rw [List.take_add, ← ht, List.take_left]
        · cases hs
theorem run_reach {l : List Rule} (hl : check l = 0) (s : Bs) : ∀ (n : Nat) (k : Bs), k.length ≤ n → (∀ c ∈ k, isKey c = true) → (run l k).1 <+: s → Path l s k ((run l k).1.length, (run l k).2)
  | n, k, hn, hk, hp => by
    rcases snoc_cases k with rfl | ⟨k', c, rfl⟩
    · exact path_nil l s
    · cases n with
      | zero => simp at hn
      | succ n =>
        rw [run_snoc hl] at hp ⊢
        dsimp only at hp ⊢
        obtain ⟨t, ht⟩ := hp
        rw [List.append_assoc] at ht
        have ih := run_reach hl s n k' (by simp at hn; omega) (fun d hd => hk d (List.mem_append_left _ hd)) ⟨_, ht⟩
        refine path_snoc ih (hk c (by simp)) ?_
        unfold succ
        dsimp only
        rw [if_pos, List.length_append]
        rw [List.isPrefixOf_iff_prefix, ← ht, List.drop_left]
        exact ⟨t, rfl⟩
def goal (s : Bs) : St := (s.length, [])
theorem goal_iff {l : List Rule} (hl : check l = 0) (s k : Bs) : Path l s k (goal s) ↔ ((∀ c ∈ k, isKey c = true) ∧ run l k = (s, [])) := by
  constructor
  · intro h
    obtain ⟨h1, h2, h3⟩ := reach_run hl s _ k _ (Nat.le_refl _) h
    refine ⟨h.1, ?_⟩
    rw [← Prod.eta (run l k), h1, h3]
    simp [goal]
  · rintro ⟨h1, h2⟩
    have := run_reach hl s _ k (Nat.le_refl _) h1 (by rw [h2]; exact List.prefix_refl _)
    rw [h2] at this
    exact this
/-! ### the order -/
theorem kle_refl (a : Bs) : kle a a := .inr ⟨rfl, List.le_refl a⟩
theorem kle_antisymm {a b : Bs} (h : kle a b) (h' : kle b a) : a = b := by
  rcases h with h | ⟨h1, h2⟩
  · rcases h' with h' | ⟨h3, _⟩ <;> omega
  · rcases h' with h' | ⟨_, h4⟩
    · omega
    · exact List.le_antisymm h2 h4
theorem le_append {a b : Bs} (hl : a.length = b.length) (h : a ≤ b) (c : UInt8) : a ++ [c] ≤ b ++ [c] := by
  induction a generalizing b with
  | nil =>
    cases b with
    | nil => exact List.le_refl _
    | cons y b => simp at hl
  | cons x a ih =>
    cases b with
    | nil => simp at hl
    | cons y b =>
      rw [List.cons_append, List.cons_append]
      rw [List.cons_le_cons_iff] at h ⊢
      rcases h with h | ⟨rfl, h⟩
      · exact .inl h
      · exact .inr ⟨rfl, ih (by simpa using hl) h⟩
/-! ### a search by rounds -/
def ins : List (St × Bs) → St → Bs → List (St × Bs)
  | [], y, k => [(y, k)]
  | (z, m) :: R, y, k => if z = y then (if k < m then (y, k) :: R else (z, m) :: R) else (z, m) :: ins R y k
def insAll (R : List (St × Bs)) (L : List (St × Bs)) : List (St × Bs) := L.foldl (fun R yk => ins R yk.1 yk.2) R
theorem ins_fst (R : List (St × Bs)) (y : St) (k : Bs) : (ins R y k).map (·.1) = if y ∈ R.map (·.1) then R.map (·.1) else R.map (·.1) ++ [y] := by
  induction R with
  | nil => simp [ins]
  | cons zm R ih =>
    obtain ⟨z, m⟩ := zm
    rw [ins]
    by_cases hz : z = y
    · subst hz
      rw [if_pos rfl]
      split <;> simp
    · rw [if_neg hz, List.map_cons, ih, List.map_cons]
      have hz' : ¬ y = z := fun e => hz e.symm
      by_cases hm : y ∈ R.map (·.1)
      · rw [if_pos hm, if_pos (List.mem_cons_of_mem _ hm)]
      · rw [if_neg hm, if_neg (by rw [List.mem_cons]; rintro (h | h); exact hz' h; exact hm h), List.cons_append]
/-- what a search has gathered of the candidates L: each state once, with its least keys -/
def Gath (L R : List (St × Bs)) : Prop :=
  (R.map (·.1)).Nodup ∧ (∀ y k, (y, k) ∈ R → (y, k) ∈ L) ∧ (∀ y k, (y, k) ∈ L → ∃ m, (y, m) ∈ R ∧ m ≤ k)
theorem Gath.nil : Gath [] [] := ⟨List.nodup_nil, fun y k h => by simp at h, fun y k h => by simp at h⟩
theorem ins_mem {R : List (St × Bs)} {y z : St} {k m : Bs} (h : (z, m) ∈ ins R y k) : (z, m) ∈ R ∨ (z = y ∧ m = k) := by
  induction R with
  | nil => simp [ins] at h; exact .inr h
  | cons zm R ih =>
    obtain ⟨z', m'⟩ := zm
    rw [ins] at h
    split at h
    · split at h
      · rcases List.mem_cons.1 h with h | h
        · injection h with h1 h2; exact .inr ⟨h1, h2⟩
        · exact .inl (List.mem_cons_of_mem _ h)
      · exact .inl h
    · rcases List.mem_cons.1 h with h | h
      · exact .inl (by rw [h]; exact List.mem_cons_self ..)
      · rcases ih h with h | h
        · exact .inl (List.mem_cons_of_mem _ h)
        · exact .inr h
theorem ins_keep {R : List (St × Bs)} {y z : St} {k m : Bs} (h : (z, m) ∈ R) : ∃ m', (z, m') ∈ ins R y k ∧ m' ≤ m := by
  induction R with
  | nil => simp at h
  | cons zm R ih =>
    obtain ⟨z', m'⟩ := zm
    rw [ins]
    rcases List.mem_cons.1 h with h | h
    · injection h with h1 h2
      subst h1 h2
      by_cases hz : z = y
      · rw [if_pos hz]
        by_cases hk : k < m
        · rw [if_pos hk, hz]
          exact ⟨k, List.mem_cons_self .., List.le_of_lt hk⟩
        · rw [if_neg hk]
          exact ⟨m, List.mem_cons_self .., List.le_refl _⟩
      · rw [if_neg hz]
        exact ⟨m, List.mem_cons_self .., List.le_refl _⟩
    · by_cases hz : z' = y
      · rw [if_pos hz]
        split
        · exact ⟨m, List.mem_cons_of_mem _ h, List.le_refl _⟩
        · exact ⟨m, List.mem_cons_of_mem _ h, List.le_refl _⟩
      · rw [if_neg hz]
        obtain ⟨m2, h1, h2⟩ := ih h
        exact ⟨m2, List.mem_cons_of_mem _ h1, h2⟩
theorem ins_new (R : List (St × Bs)) (y : St) (k : Bs) : ∃ m, (y, m) ∈ ins R y k ∧ m ≤ k := by
  induction R with
  | nil => exact ⟨k, by simp [ins], List.le_refl _⟩
  | cons zm R ih =>
    obtain ⟨z, m⟩ := zm
    rw [ins]
    by_cases hz : z = y
    · subst hz
      rw [if_pos rfl]
      by_cases hk : k < m
      · rw [if_pos hk]; exact ⟨k, List.mem_cons_self .., List.le_refl _⟩
      · rw [if_neg hk]; exact ⟨m, List.mem_cons_self .., List.not_lt.1 hk⟩
    · rw [if_neg hz]
      obtain ⟨m2, h1, h2⟩ := ih
      exact ⟨m2, List.mem_cons_of_mem _ h1, h2⟩
theorem Gath.step {L R : List (St × Bs)} (h : Gath L R) (y : St) (k : Bs) : Gath (L ++ [(y, k)]) (ins R y k) := by
  obtain ⟨h1, h2, h3⟩ := h
  refine ⟨?_, fun z m hm => ?_, fun z m hm => ?_⟩
  · rw [ins_fst]
    split
    · exact h1
    · rename_i hn
      exact List.nodup_append.2 ⟨h1, by simp, fun a ha b hb => by simp at hb; subst hb; intro e; exact hn (e ▸ ha)⟩
  · rcases ins_mem hm with hm | ⟨rfl, rfl⟩
    · exact List.mem_append_left _ (h2 z m hm)
    · simp
  · rcases List.mem_append.1 hm with hm | hm
    · obtain ⟨m1, a, b⟩ := h3 z m hm
      obtain ⟨m2, c, d⟩ := ins_keep (y := y) (k := k) a
      exact ⟨m2, c, List.le_trans d b⟩
    · simp at hm
      obtain ⟨rfl, rfl⟩ := hm
      exact ins_new R _ _
theorem gath_all : ∀ (M L R : List (St × Bs)), Gath L R → Gath (L ++ M) (insAll R M)
  | [], L, R, h => by rw [List.append_nil]; exact h
  | (y, k) :: M, L, R, h => by
    have := gath_all M _ _ (h.step y k)
    rw [List.append_assoc] at this
    exact this
/-- the candidates of one state: what its keys lead to, if it is not old -/
def cands (l : List Rule) (s : Bs) (old : List St) (x : St) (k : Bs) (cs : List UInt8) : List (St × Bs) :=
  cs.filterMap fun c => match succ l s x c with
    | none => none
    | some y => if y ∈ old then none else some (y, k ++ [c])
theorem cands_mem {l : List Rule} {s : Bs} {old : List St} {x : St} {k : Bs} {cs : List UInt8} {y : St} {m : Bs} :
    (y, m) ∈ cands l s old x k cs ↔ ∃ c ∈ cs, succ l s x c = some y ∧ y ∉ old ∧ m = k ++ [c] := by
  unfold cands
  rw [List.mem_filterMap]
  constructor
  · rintro ⟨c, hc, h⟩
    refine ⟨c, hc, ?_⟩
    cases hs : succ l s x c with
    | none => rw [hs] at h; cases h
    | some z =>
      rw [hs] at h
      dsimp only at h
      split at h
      · cases h
      · rename_i hn
        injection h with h; injection h with h1 h2
        subst h1
        exact ⟨rfl, hn, h2.symm⟩
  · rintro ⟨c, hc, h1, h2, h3⟩
    exact ⟨c, hc, by rw [h1]; dsimp only; rw [if_neg h2, h3]⟩
theorem cands_snoc (l : List Rule) (s : Bs) (old : List St) (x : St) (k : Bs) (cs : List UInt8) (c : UInt8) : cands l s old x k (cs ++ [c]) = cands l s old x k cs ++ cands l s old x k [c] := by
  unfold cands; rw [List.filterMap_append]
/-- all candidates of a round -/
def roundC (l : List Rule) (s : Bs) (ch : St → List UInt8) (old : List St) (last : List (St × Bs)) : List (St × Bs) := last.flatMap fun xk => cands l s old xk.1 xk.2 (ch xk.1)
/-- the keys that a search tries are keys, and those that lead anywhere are among them -/
def Tries (l : List Rule) (s : Bs) (ch : St → List UInt8) : Prop := ∀ x : St, (∀ c ∈ ch x, isKey c = true) ∧ (∀ c, isKey c = true → succ l s x c ≠ none → c ∈ ch x)
structure Inv (l : List Rule) (s : Bs) (n : Nat) (old last : List (St × Bs)) : Prop where
  best : ∀ x k, (x, k) ∈ old → Best l s x k ∧ k.length ≤ n
  sub : ∀ x k, (x, k) ∈ last ↔ ((x, k) ∈ old ∧ k.length = n)
  all : ∀ x k, Path l s k x → k.length ≤ n → x ∈ old.map (·.1)
  nodup : (old.map (·.1)).Nodup
  gl : ∀ x k, (x, k) ∈ old → k.length < n → x ≠ goal s
theorem Inv.start (l : List Rule) (s : Bs) : Inv l s 0 [((0, []), [])] [((0, []), [])] where
  best := fun x k h => by
    simp at h
    obtain ⟨rfl, rfl⟩ := h
    refine ⟨⟨path_nil l s, fun k' _ => ?_⟩, Nat.le_refl _⟩
    cases k' with
    | nil => exact kle_refl _
    | cons c k' => exact .inl (by simp)
  sub := fun x k => by
    constructor
    · intro h; exact ⟨h, by simp at h; rw [h.2]; rfl⟩
    · exact fun h => h.1
  all := fun x k h hk => by
    have : k = [] := List.eq_nil_of_length_eq_zero (by omega)
    subst this
    have h2 := h.2
    injection h2 with h2
    subst h2
    simp
  nodup := by simp
  gl := fun x k _ hk => by omega
theorem mem_fst {L : List (St × Bs)} {x : St} (h : x ∈ L.map (·.1)) : ∃ k, (x, k) ∈ L := by
  obtain ⟨⟨y, k⟩, h1, h2⟩ := List.mem_map.1 h
  dsimp only at h2
  subst h2
  exact ⟨k, h1⟩
theorem fst_mem {L : List (St × Bs)} {x : St} {k : Bs} (h : (x, k) ∈ L) : x ∈ L.map (·.1) := List.mem_map.2 ⟨_, h, rfl⟩
theorem nodup_fst : ∀ {L : List (St × Bs)} {x : St} {k k' : Bs}, (L.map (·.1)).Nodup → (x, k) ∈ L → (x, k') ∈ L → k = k'
  | [], _, _, _, _, h, _ => by simp at h
  | (y, m) :: L, x, k, k', hn, h, h' => by
    rw [List.map_cons, List.nodup_cons] at hn
    rcases List.mem_cons.1 h with g | g
    · injection g with h1 h2
      rcases List.mem_cons.1 h' with g' | g'
      · injection g' with _ h3; rw [h2, h3]
      · exact absurd (fst_mem g') (by rw [h1]; exact hn.1)
    · rcases List.mem_cons.1 h' with g' | g'
      · injection g' with h1 h2
        exact absurd (fst_mem g) (by rw [h1]; exact hn.1)
      · exact nodup_fst hn.2 g g'
/-- a path one longer than the round to a state that is not old: its last step is a candidate, not greater -/
theorem Inv.cand {l : List Rule} {s : Bs} {n : Nat} {old last : List (St × Bs)} (h : Inv l s n old last) {ch : St → List UInt8} (hch : Tries l s ch) {y : St} {k' : Bs} (hy : y ∉ old.map (·.1)) (hp : Path l s k' y) (hk : k'.length = n + 1) :
    ∃ m, (y, m) ∈ roundC l s ch (old.map (·.1)) last ∧ m.length = n + 1 ∧ m ≤ k' := by
  rcases snoc_cases k' with rfl | ⟨k2, c, rfl⟩
  · simp at hk
  · obtain ⟨x, hx, hc, hs⟩ := path_last hp
    have hk2 : k2.length = n := by simpa using hk
    obtain ⟨kx, hkx⟩ := mem_fst (h.all x k2 hx (by omega))
    obtain ⟨hb, hbl⟩ := h.best x kx hkx
    have hlen : kx.length = n := by
      rcases Nat.lt_or_ge kx.length n with hlt | hge
      · exact absurd (h.all y _ (path_snoc hb.1 hc hs) (by simp; omega)) hy
      · omega
    have hle : kx ≤ k2 := by
      rcases hb.2 k2 hx with h1 | ⟨_, h2⟩
      · omega
      · exact h2
    refine ⟨kx ++ [c], ?_, by simp; exact hlen, le_append (by omega) hle c⟩
    unfold roundC
    rw [List.mem_flatMap]
    exact ⟨(x, kx), (h.sub x kx).2 ⟨hkx, hlen⟩, cands_mem.2 ⟨c, (hch x).2 c hc (by rw [hs]; simp), hs, hy, rfl⟩⟩
theorem Inv.step {l : List Rule} {s : Bs} {n : Nat} {old last R : List (St × Bs)} (h : Inv l s n old last) {ch : St → List UInt8} (hch : Tries l s ch) (hg : goal s ∉ last.map (·.1))
    (hR : Gath (roundC l s ch (old.map (·.1)) last) R) : Inv l s (n + 1) (old ++ R) R := by
  have hfrom : ∀ y k, (y, k) ∈ R → y ∉ old.map (·.1) ∧ k.length = n + 1 ∧ Path l s k y := by
    intro y k hk
    have := hR.2.1 y k hk
    unfold roundC at this
    rw [List.mem_flatMap] at this
    obtain ⟨⟨x, kx⟩, hx, hc⟩ := this
    obtain ⟨c, hc1, hc2, hc3, rfl⟩ := cands_mem.1 hc
    obtain ⟨ho, hl⟩ := (h.sub x kx).1 hx
    exact ⟨hc3, by simp; exact hl, path_snoc (h.best x kx ho).1.1 ((hch x).1 c hc1) hc2⟩
  have hbest : ∀ y k, (y, k) ∈ R → Best l s y k := by
    intro y k hk
    obtain ⟨h1, h2, h3⟩ := hfrom y k hk
    refine ⟨h3, fun k' hk' => ?_⟩
    rcases Nat.lt_or_ge n k'.length with hlt | hge
    · rcases Nat.lt_or_ge (n + 1) k'.length with hlt2 | hge2
      · exact .inl (by omega)
      · obtain ⟨m, hm1, hm2, hm3⟩ := h.cand hch h1 hk' (by omega)
        obtain ⟨m', hm4, hm5⟩ := hR.2.2 y m hm1
        have : m' = k := by
          have hnd := hR.1
          exact nodup_fst hnd hm4 hk
        subst this
        exact .inr ⟨by omega, List.le_trans hm5 hm3⟩
    · exact absurd (h.all y k' hk' hge) h1
  refine ⟨fun x k hk => ?_, fun x k => ?_, fun x k hp hk => ?_, ?_, fun x k hk hl => ?_⟩
  · rcases List.mem_append.1 hk with hk | hk
    · have := h.best x k hk; exact ⟨this.1, by omega⟩
    · exact ⟨hbest x k hk, by have := (hfrom x k hk).2.1; omega⟩
  · constructor
    · intro hk; exact ⟨List.mem_append_right _ hk, (hfrom x k hk).2.1⟩
    · rintro ⟨hk, hl⟩
      rcases List.mem_append.1 hk with hk | hk
      · have := (h.best x k hk).2; omega
      · exact hk
  · rw [List.map_append, List.mem_append]
    rcases Nat.lt_or_ge n k.length with hlt | hge
    · by_cases ho : x ∈ old.map (·.1)
      · exact .inl ho
      · obtain ⟨m, hm1, _, _⟩ := h.cand hch ho hp (by omega)
        obtain ⟨m', hm4, _⟩ := hR.2.2 x m hm1
        exact .inr (fst_mem hm4)
    · exact .inl (h.all x k hp hge)
  · rw [List.map_append, List.nodup_append]
    refine ⟨h.nodup, hR.1, fun a ha b hb => ?_⟩
    rintro rfl
    obtain ⟨k, hk⟩ := mem_fst hb
    exact (hfrom a k hk).1 ha
  · rcases List.mem_append.1 hk with hk | hk
    · rcases Nat.lt_or_ge k.length n with hlt | hge
      · exact h.gl x k hk hlt
      · rintro rfl
        exact hg (fst_mem ((h.sub _ k).2 ⟨hk, by have := (h.best _ k hk).2; omega⟩))
    · have := (hfrom x k hk).2.1; omega
/-- what Type answers: the least keys, or that there are none -/
def TypeRes (l : List Rule) (s : Bs) (r : Option Bs) : Prop := match r with
  | some k => Best l s (goal s) k
  | none => ∀ k, ¬ Path l s k (goal s)
theorem TypeRes.eq {l : List Rule} {s : Bs} {r r' : Option Bs} (h : TypeRes l s r) (h' : TypeRes l s r') : r = r' := by
  cases r with
  | none =>
    cases r' with
    | none => rfl
    | some k => exact absurd h'.1 (h k)
  | some k =>
    cases r' with
    | none => exact absurd h.1 (h' k)
    | some k' => rw [kle_antisymm (h.2 k' h'.1) (h'.2 k h.1)]
theorem Inv.found {l : List Rule} {s : Bs} {n : Nat} {old last : List (St × Bs)} (h : Inv l s n old last) {k : Bs} (hk : (goal s, k) ∈ last) : TypeRes l s (some k) :=
  (h.best _ k ((h.sub _ k).1 hk).1).1
theorem Inv.empty {l : List Rule} {s : Bs} {n : Nat} {old : List (St × Bs)} (h : Inv l s n old []) : TypeRes l s none := by
  have hall : ∀ (m : Nat) (k : Bs) (x : St), k.length ≤ m → Path l s k x → ∃ kx, (x, kx) ∈ old ∧ kx.length < n := by
    have hold : ∀ x kx, (x, kx) ∈ old → kx.length < n := by
      intro x kx hx
      have h1 := (h.best x kx hx).2
      rcases Nat.lt_or_ge kx.length n with hlt | hge
      · exact hlt
      · exact absurd ((h.sub x kx).2 ⟨hx, by omega⟩) (by simp)
    intro m
    induction m with
    | zero =>
      intro k x hk hp
      obtain ⟨kx, hkx⟩ := mem_fst (h.all x k hp (by omega))
      exact ⟨kx, hkx, hold x kx hkx⟩
    | succ m ih =>
      intro k x hk hp
      rcases snoc_cases k with rfl | ⟨k', c, rfl⟩
      · obtain ⟨kx, hkx⟩ := mem_fst (h.all x [] hp (by simp))
        exact ⟨kx, hkx, hold x kx hkx⟩
      · obtain ⟨y, hy, hc, hs⟩ := path_last hp
        obtain ⟨ky, hky, hlt⟩ := ih k' y (by simp at hk; omega) hy
        obtain ⟨kx, hkx⟩ := mem_fst (h.all x _ (path_snoc (h.best y ky hky).1.1 hc hs) (by simp; omega))
        exact ⟨kx, hkx, hold x kx hkx⟩
  intro k hp
  obtain ⟨kx, hkx, hlt⟩ := hall _ k _ (Nat.le_refl _) hp
  exact h.gl _ kx hkx hlt rfl
/-- the search as a function -/
def bfs (l : List Rule) (s : Bs) (ch : St → List UInt8) : Nat → List (St × Bs) → List (St × Bs) → Option (Option Bs)
  | 0, _, _ => none
  | n + 1, old, last => match last.find? (fun xk => xk.1 == goal s) with
    | some xk => some (some xk.2)
    | none => if last = [] then some none else bfs l s ch n (old ++ insAll [] (roundC l s ch (old.map (·.1)) last)) (insAll [] (roundC l s ch (old.map (·.1)) last))
theorem bfs_right {l : List Rule} {s : Bs} {ch : St → List UInt8} (hch : Tries l s ch) : ∀ (f n : Nat) (old last : List (St × Bs)) (r : Option Bs), Inv l s n old last → bfs l s ch f old last = some r → TypeRes l s r
  | 0, _, _, _, _, _, h => by cases h
  | f + 1, n, old, last, r, hi, h => by
    rw [bfs] at h
    cases hf : last.find? (fun xk => xk.1 == goal s) with
    | some xk =>
      rw [hf] at h
      obtain ⟨x, k⟩ := xk
      injection h with h
      subst h
      have h1 := List.mem_of_find?_eq_some hf
      have h2 := eq_of_beq (List.find?_some (p := fun xk : St × Bs => xk.1 == goal s) hf)
      dsimp only at h2
      subst h2
      exact hi.found h1
    | none =>
      rw [hf] at h
      dsimp only at h
      split at h
      · rename_i hl
        injection h with h
        subst h hl
        exact hi.empty
      · have hg : goal s ∉ last.map (·.1) := by
          intro hm
          obtain ⟨k, hk⟩ := mem_fst hm
          have := List.find?_eq_none.1 hf _ hk
          simp at this
        exact bfs_right hch f (n + 1) _ _ r (hi.step hch hg (by have := gath_all (roundC l s ch (old.map (·.1)) last) [] [] Gath.nil; rwa [List.nil_append] at this)) h
/-- keys that may be tried: all that some rule has, or the text -/
theorem tries_of {l : List Rule} (hl : check l = 0) {s : Bs} {ch : St → List UInt8} (h1 : ∀ x, ∀ c ∈ ch x, isKey c = true) (h2 : ∀ (x : St) c, isKey c = true → c ∉ ch x → Other l c ∧ c ∉ s.drop x.1) : Tries l s ch := by
  intro x
  refine ⟨h1 x, fun c hc hs => ?_⟩
  by_cases hm : c ∈ ch x
  · exact hm
  · exfalso
    apply hs
    obtain ⟨ho, hn⟩ := h2 x c hc hm
    have hst : step l x.2 c = (flushP l (keysOf x.2) ++ [c], []) := by
      unfold step
      rw [keysOf_one, if_pos hc]
      exact feed_others (short_of hl) _ [c] (by simp) (fun d hd => by simp at hd; subst hd; exact ho)
    unfold succ
    rw [if_neg]
    intro hp
    apply hn
    rw [List.isPrefixOf_iff_prefix, hst] at hp
    exact hp.subset (by simp)
/-! ### how many states there are -/
def beginnings (l : List Rule) : List Bs := [] :: l.flatMap fun r => (List.range r.1.length).map fun n => r.1.take n
def states (l : List Rule) (s : Bs) : List St := (List.range (s.length + 1)).flatMap fun n => (beginnings l).map fun p => (n, p)
theorem nodup_le {α : Type} [DecidableEq α] : ∀ (a b : List α), a.Nodup → (∀ x ∈ a, x ∈ b) → a.length ≤ b.length
  | [], _, _, _ => by simp
  | x :: a, b, hn, hs => by
    rw [List.nodup_cons] at hn
    have hx := hs x (List.mem_cons_self ..)
    have ih := nodup_le a (b.erase x) hn.2 (fun y hy => (List.mem_erase_of_ne (fun e : y = x => hn.1 (by rw [← e]; exact hy))).2 (hs y (List.mem_cons_of_mem _ hy)))
    rw [List.length_erase_of_mem hx] at ih
    have : 0 < b.length := List.length_pos_of_mem hx
    rw [List.length_cons]; omega
theorem state_mem {l : List Rule} (hl : check l = 0) {s k : Bs} {x : St} (h : Path l s k x) : x ∈ states l s := by
  obtain ⟨_, h2, h3⟩ := reach_run hl s _ k x (Nat.le_refl _) h
  have hp := run_pend (short_of hl) k
  rw [h3] at hp
  unfold states
  rw [List.mem_flatMap]
  refine ⟨x.1, List.mem_range.2 (by omega), List.mem_map.2 ⟨x.2, ?_, rfl⟩⟩
  unfold beginnings
  rcases hp with hp | hp
  · rw [hp]; exact List.mem_cons_self ..
  · obtain ⟨r, hr, hlt, ht⟩ := longer_iff.1 hp
    refine List.mem_cons_of_mem _ (List.mem_flatMap.2 ⟨r, hr, List.mem_map.2 ⟨x.2.length, List.mem_range.2 hlt, ht⟩⟩)
theorem Inv.count {l : List Rule} (hl : check l = 0) {s : Bs} {n : Nat} {old last : List (St × Bs)} (h : Inv l s n old last) : old.length ≤ (states l s).length := by
  have := nodup_le (old.map (·.1)) (states l s) h.nodup (fun x hx => by
    obtain ⟨k, hk⟩ := mem_fst hx
    exact state_mem hl (h.best x k hk).1.1)
  rwa [List.length_map] at this
end Au
end Go.Proofs.YtgdcffahhpeibaaGreatDoor
