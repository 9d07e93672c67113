/-
  The rounds of the search for the least keys, step by step, as both programs take them. No condition but that the rules are allowed.
-/
import Derived.Test.YtgdcffahhpeibaaGreatDoorAuInv
namespace Go.Proofs.YtgdcffahhpeibaaGreatDoor
namespace Au
open UT (Bs)
open Ro (Rule find longer check)
abbrev Ent := St × Bs
/-- the keys of a state in a list -/
def lookS : List Ent → St → Option Bs
  | [], _ => none
  | (z, m) :: R, y => if z = y then some m else lookS R y
theorem lookS_none {R : List Ent} {y : St} : lookS R y = none ↔ y ∉ R.map (·.1) := by
  induction R with
  | nil => simp [lookS]
  | cons e R ih =>
    obtain ⟨z, m⟩ := e
    rw [lookS, List.map_cons, List.mem_cons]
    by_cases h : z = y
    · rw [if_pos h]
      constructor
      · intro h'; cases h'
      · intro h'; exact absurd (.inl h.symm) h'
    · rw [if_neg h, ih]
      constructor
      · rintro h' (h2 | h2)
        · exact h h2.symm
        · exact h' h2
      · exact fun h' h2 => h' (.inr h2)
theorem lookS_mem {R : List Ent} {y : St} {k : Bs} (h : lookS R y = some k) : (y, k) ∈ R := by
  induction R with
  | nil => simp [lookS] at h
  | cons e R ih =>
    obtain ⟨z, m⟩ := e
    rw [lookS] at h
    by_cases h' : z = y
    · rw [if_pos h'] at h
      injection h with h
      subst h h'
      exact List.mem_cons_self ..
    · rw [if_neg h'] at h
      exact List.mem_cons_of_mem _ (ih h)
theorem lookS_app (R S : List Ent) (y : St) : lookS (R ++ S) y = match lookS R y with
    | some k => some k
    | none => lookS S y := by
  induction R with
  | nil => rfl
  | cons e R ih =>
    obtain ⟨z, m⟩ := e
    rw [List.cons_append, lookS, lookS]
    by_cases h : z = y
    · rw [if_pos h, if_pos h]
    · rw [if_neg h, if_neg h, ih]
theorem ins_absent : ∀ {R : List Ent} {y : St} {k : Bs}, lookS R y = none → ins R y k = R ++ [(y, k)]
  | [], _, _, _ => rfl
  | (z, m) :: R, y, k, h => by
    rw [lookS] at h
    by_cases h' : z = y
    · rw [if_pos h'] at h; cases h
    · rw [if_neg h'] at h
      rw [ins, if_neg h', ins_absent h, List.cons_append]
theorem ins_kept : ∀ {R : List Ent} {y : St} {k m : Bs}, lookS R y = some m → ¬ k < m → ins R y k = R
  | [], _, _, _, h, _ => by cases h
  | (z, m') :: R, y, k, m, h, hk => by
    rw [lookS] at h
    by_cases h' : z = y
    · rw [if_pos h'] at h
      injection h with h
      subst h
      rw [ins, if_pos h', if_neg hk]
    · rw [if_neg h'] at h
      rw [ins, if_neg h', ins_kept h hk]
theorem ins_fst_old {R : List Ent} {y : St} {k m : Bs} (h : lookS R y = some m) : (ins R y k).map (·.1) = R.map (·.1) := by
  rw [ins_fst, if_pos]
  exact fst_mem (lookS_mem h)
theorem lookS_ins_less : ∀ {R : List Ent} {y : St} {k m : Bs}, lookS R y = some m → k < m → lookS (ins R y k) y = some k ∧ ∀ z, z ≠ y → lookS (ins R y k) z = lookS R z
  | [], _, _, _, h, _ => by cases h
  | (z, m') :: R, y, k, m, h, hk => by
    rw [lookS] at h
    by_cases h' : z = y
    · rw [if_pos h'] at h
      injection h with h
      subst h h'
      rw [ins, if_pos rfl, if_pos hk]
      refine ⟨by rw [lookS, if_pos rfl], fun z' hz' => ?_⟩
      rw [lookS, lookS, if_neg (fun e => hz' e.symm), if_neg (fun e => hz' e.symm)]
    · rw [if_neg h'] at h
      obtain ⟨h1, h2⟩ := lookS_ins_less h hk
      rw [ins, if_neg h']
      refine ⟨by rw [lookS, if_neg h', h1], fun z' hz' => ?_⟩
      rw [lookS, lookS, h2 z' hz']
/-- the place of a state in a list -/
theorem ins_set : ∀ {R : List Ent} {y : St} {k m : Bs} {i : Nat}, R[i]? = some (y, m) → (∀ (j : Nat) e, j < i → R[j]? = some e → e.1 ≠ y) → k < m → ins R y k = R.set i (y, k)
  | [], _, _, _, _, h, _, _ => by simp at h
  | (z, m') :: R, y, k, m, 0, h, _, hk => by
    rw [List.getElem?_cons_zero] at h
    injection h with h
    injection h with h1 h2
    subst h1 h2
    rw [ins, if_pos rfl, if_pos hk]; rfl
  | (z, m') :: R, y, k, m, i + 1, h, hno, hk => by
    rw [List.getElem?_cons_succ] at h
    have hz : z ≠ y := hno 0 (z, m') (by omega) rfl
    rw [ins, if_neg hz, ins_set h (fun j e hj he => hno (j + 1) e (by omega) (by rw [List.getElem?_cons_succ]; exact he)) hk]
    rfl
theorem lookS_at : ∀ {R : List Ent} {y : St} {m : Bs} {i : Nat}, R[i]? = some (y, m) → (∀ (j : Nat) e, j < i → R[j]? = some e → e.1 ≠ y) → lookS R y = some m
  | [], _, _, _, h, _ => by simp at h
  | (z, m') :: R, y, m, 0, h, _ => by
    rw [List.getElem?_cons_zero] at h
    injection h with h
    injection h with h1 h2
    subst h1 h2
    rw [lookS, if_pos rfl]
  | (z, m') :: R, y, m, i + 1, h, hno => by
    rw [List.getElem?_cons_succ] at h
    have hz : z ≠ y := hno 0 (z, m') (by omega) rfl
    rw [lookS, if_neg hz, lookS_at h (fun j e hj he => hno (j + 1) e (by omega) (by rw [List.getElem?_cons_succ]; exact he))]
theorem lookS_no {R : List Ent} {y : St} (h : ∀ (j : Nat) e, R[j]? = some e → e.1 ≠ y) : lookS R y = none := by
  rw [lookS_none]
  intro hm
  obtain ⟨e, he, hy⟩ := List.mem_map.1 hm
  obtain ⟨j, hj⟩ := List.getElem?_of_mem he
  exact h j e hj hy
theorem insAll_app (R A B : List Ent) : insAll R (A ++ B) = insAll (insAll R A) B := List.foldl_append ..
theorem insAll_one (R : List Ent) (y : St) (k : Bs) : insAll R [(y, k)] = ins R y k := rfl
theorem roundC_take (l : List Rule) (s : Bs) (ch : St → List UInt8) (old : List St) (last : List Ent) (i : Nat) (x : St) (k : Bs) (h : last[i]? = some (x, k)) : roundC l s ch old (last.take (i + 1)) = roundC l s ch old (last.take i) ++ cands l s old x k (ch x) := by
  have hi : i < last.length := by
    rcases Nat.lt_or_ge i last.length with h' | h'
    · exact h'
    · rw [List.getElem?_eq_none h'] at h; cases h
  rw [List.getElem?_eq_getElem hi] at h
  injection h with h
  unfold roundC
  rw [List.take_succ_eq_append_getElem hi, List.flatMap_append, h]
  simp
/-- one candidate: nothing comes of it, or an entry -/
def oneC (l : List Rule) (s : Bs) (old : List Ent) (x : St) (c : UInt8) : Option St := match succ l s x c with
  | none => none
  | some y => match lookS old y with
    | none => some y
    | some _ => none
theorem cands_take (l : List Rule) (s : Bs) (old : List Ent) (x : St) (k : Bs) (cs : List UInt8) (j : Nat) (c : UInt8) (h : cs[j]? = some c) : cands l s (old.map (·.1)) x k (cs.take (j + 1)) = cands l s (old.map (·.1)) x k (cs.take j) ++ (match oneC l s old x c with
    | none => []
    | some y => [(y, k ++ [c])]) := by
  have hj : j < cs.length := by
    rcases Nat.lt_or_ge j cs.length with h' | h'
    · exact h'
    · rw [List.getElem?_eq_none h'] at h; cases h
  rw [List.getElem?_eq_getElem hj] at h
  injection h with h
  rw [List.take_succ_eq_append_getElem hj, cands_snoc, h]
  congr 1
  unfold cands oneC
  rw [List.filterMap_cons]
  cases hs : succ l s x c with
  | none => rfl
  | some y =>
    dsimp only
    cases ho : lookS old y with
    | none => rw [if_neg (lookS_none.1 ho)]; rfl
    | some m => rw [if_pos (fst_mem (lookS_mem ho))]; rfl
/-- the keys of an entry found: as many as the round's -/
theorem step_len {l : List Rule} {s : Bs} {ch : St → List UInt8} {old : List St} {last : List Ent} {n : Nat} (hl : ∀ x k, (x, k) ∈ last → k.length = n) : ∀ y m, (y, m) ∈ insAll [] (roundC l s ch old last) → m.length = n + 1 := by
  intro y m hm
  have hg := gath_all (roundC l s ch old last) [] [] Gath.nil
  rw [List.nil_append] at hg
  have := hg.2.1 y m hm
  unfold roundC at this
  rw [List.mem_flatMap] at this
  obtain ⟨⟨x, k⟩, hx, hc⟩ := this
  obtain ⟨c, _, _, _, rfl⟩ := cands_mem.1 hc
  rw [List.length_append, hl x k hx]; rfl
/-- what Type holds at the head of a round -/
structure Head (l : List Rule) (s : Bs) (n : Nat) (old last : List Ent) : Prop where
  inv : Inv l s n old last
  cnt : n + last.length ≤ old.length
theorem Head.start (l : List Rule) (s : Bs) : Head l s 0 [((0, []), [])] [((0, []), [])] := ⟨Inv.start l s, by simp⟩
theorem Head.next {l : List Rule} {s : Bs} {n : Nat} {old last R : List Ent} (h : Head l s n old last) {ch : St → List UInt8} (hch : Tries l s ch) (hg : lookS old (goal s) = none) (hl : last ≠ []) (hR : R = insAll [] (roundC l s ch (old.map (·.1)) last)) : Head l s (n + 1) (old ++ R) R := by
  have hgl : goal s ∉ last.map (·.1) := by
    intro hm
    obtain ⟨k, hk⟩ := mem_fst hm
    exact lookS_none.1 hg (fst_mem ((h.inv.sub _ k).1 hk).1)
  have hga : Gath (roundC l s ch (old.map (·.1)) last) R := by
    have := gath_all (roundC l s ch (old.map (·.1)) last) [] [] Gath.nil
    rw [List.nil_append] at this
    rw [hR]; exact this
  refine ⟨h.inv.step hch hgl hga, ?_⟩
  have := h.cnt
  have := List.length_pos_iff.2 hl
  rw [List.length_append]; omega
theorem Head.found {l : List Rule} {s : Bs} {n : Nat} {old last : List Ent} (h : Head l s n old last) {k : Bs} (hk : lookS old (goal s) = some k) : TypeRes l s (some k) := (h.inv.best _ k (lookS_mem hk)).1
theorem Head.empty {l : List Rule} {s : Bs} {n : Nat} {old : List Ent} (h : Head l s n old []) : TypeRes l s none := h.inv.empty
/-- at the head: the goal is old just if it is of the last round -/
theorem Head.last_goal {l : List Rule} {s : Bs} {n : Nat} {old last : List Ent} (h : Head l s n old last) : lookS last (goal s) = lookS old (goal s) := by
  cases ho : lookS old (goal s) with
  | none =>
    rw [lookS_none] at ho ⊢
    intro hm
    obtain ⟨k, hk⟩ := mem_fst hm
    exact ho (fst_mem ((h.inv.sub _ k).1 hk).1)
  | some k =>
    have hm := lookS_mem ho
    have hlen : k.length = n := by
      have h1 := (h.inv.best _ k hm).2
      rcases Nat.lt_or_ge k.length n with h' | h'
      · exact absurd rfl (h.inv.gl _ k hm h')
      · omega
    have hml := (h.inv.sub _ k).2 ⟨hm, hlen⟩
    cases hl : lookS last (goal s) with
    | none => exact absurd (fst_mem hml) (lookS_none.1 hl)
    | some k' =>
      have := ((h.inv.sub _ k').1 (lookS_mem hl)).1
      rw [nodup_fst h.inv.nodup this hm]
/-- bounds -/
theorem states_len (l : List Rule) (s : Bs) : (states l s).length = (s.length + 1) * (beginnings l).length := by
  have hc : ∀ (L : List Nat) (c : Nat), (L.map (fun _ => c)).sum = L.length * c := by
    intro L c
    induction L with
    | nil => simp
    | cons x L ih => rw [List.map_cons, List.sum_cons, ih, List.length_cons, Nat.add_mul, Nat.one_mul, Nat.add_comm]
  unfold states
  rw [List.length_flatMap]
  simp only [List.length_map]
  rw [hc, List.length_range]
theorem beginnings_len {l : List Rule} (h : check l = 0) : (beginnings l).length ≤ 2001 := by
  have h5 := ((Ro.check_zero l).1 h).1
  have : ∀ m : List Rule, (∀ r ∈ m, r.1.length ≤ 4) → (m.flatMap fun r => (List.range r.1.length).map fun n => r.1.take n).length ≤ 4 * m.length := by
    intro m
    induction m with
    | nil => intro _; simp
    | cons r m ih =>
      intro hm
      have := ih (fun x hx => hm x (List.mem_cons_of_mem _ hx))
      have h4 := hm r (List.mem_cons_self ..)
      rw [List.flatMap_cons, List.length_append, List.length_map, List.length_range, List.length_cons]
      omega
  have := this l (fun r hr => (rule_sizes h hr).2.1)
  unfold beginnings
  rw [List.length_cons]
  omega
theorem Head.bound {l : List Rule} (hl : check l = 0) {s : Bs} {n : Nat} {old last : List Ent} (h : Head l s n old last) (hs : s.length ≤ 400) : old.length ≤ 802401 ∧ n ≤ 802401 ∧ last.length ≤ 802401 := by
  have h1 := h.inv.count hl
  have h2 := beginnings_len hl
  have h3 := h.cnt
  have h4 : (s.length + 1) * (beginnings l).length ≤ 401 * 2001 := Nat.mul_le_mul (by omega) h2
  rw [states_len] at h1
  omega
theorem Head.ent {l : List Rule} {s : Bs} {n : Nat} {old last : List Ent} (hl : check l = 0) (h : Head l s n old last) {x : St} {k : Bs} (hx : (x, k) ∈ last) : k.length = n ∧ x.1 ≤ s.length ∧ (∀ c ∈ k, isKey c = true) ∧ x.2.length ≤ 4 ∧ lookS old x = some k := by
  obtain ⟨h1, h2⟩ := (h.inv.sub x k).1 hx
  have hp := (h.inv.best x k h1).1.1
  obtain ⟨_, h3, h4⟩ := reach_run hl s _ k x (Nat.le_refl _) hp
  refine ⟨h2, h3, hp.1, ?_, ?_⟩
  · have hpd := run_pend (short_of hl) k
    rw [h4] at hpd
    rcases hpd with hpd | hpd
    · rw [hpd]; simp
    · obtain ⟨r, hr, hlt, _⟩ := longer_iff.1 hpd
      have := (rule_sizes hl hr).2.1
      omega
  · cases ho : lookS old x with
    | none => exact absurd (fst_mem h1) (lookS_none.1 ho)
    | some k' => rw [nodup_fst h.inv.nodup h1 (lookS_mem ho)]
end Au
end Go.Proofs.YtgdcffahhpeibaaGreatDoor
