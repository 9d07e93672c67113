/-
  How long the least keys are; what Type's answer says; an automaton that stays where rules of another block are written. No condition.
-/
import Derived.Test.YtdcpiabmgjajlaaDoorAuAll
namespace Go.Proofs.YtdcpiabmgjajlaaDoor
open Go.RowKit
namespace Au
theorem res_lenG {l : List Ro.Rule} (hl : Ro.check l = 0) {s k : UT.Bs} (hr : TypeRes l s (some k)) (hs : s.length ≤ 400) : ∀ (g n : Nat) (old last : List Ent), Head l s n old last → 2 * (900000 - old.length) + (if last = [] then 0 else 1) ≤ g → k.length ≤ 802401 := by
  intro g
  induction g with
  | zero =>
    intro n old last h hg
    have hb := h.bound hl hs
    omega
  | succ g ih =>
    intro n old last h hg
    have hb := h.bound hl hs
    by_cases hz : last = []
    · subst hz
      have := hr.eq h.empty
      cases this
    · cases ho : lookS old (goal s) with
      | some m =>
        have e := hr.eq (h.found ho)
        injection e with e
        subst e
        have hm := lookS_mem (show lookS last (goal s) = some k by rw [h.last_goal, ho])
        have := (h.ent hl hm).1
        omega
      | none =>
        rw [if_neg hz] at hg
        have hn := h.next (used_tries hl s) ho hz rfl
        have hlen : 0 < last.length := List.length_pos_iff.2 hz
        refine ih _ _ _ hn ?_
        have hbn := (hn.bound hl hs).1
        rw [List.length_append] at hbn ⊢
        by_cases hR : insAll [] (roundC l s (fun _ => keysFrom (s ++ bytesOf l) 94) (old.map (·.1)) last) = []
        · rw [if_pos hR, hR]; simp; omega
        · rw [if_neg hR]
          have := List.length_pos_iff.2 hR
          omega
theorem res_len {l : List Ro.Rule} (hl : Ro.check l = 0) {s k : UT.Bs} (hr : TypeRes l s (some k)) (hs : s.length ≤ 400) : k.length ≤ 802401 := res_lenG hl hr hs _ _ _ _ (Head.start l s) (Nat.le_refl _)
end Au
theorem TypeA.eq {xs : List RuleB} {l : List UInt8} {e e' : Ending} (h : TypeA xs l e) (h' : TypeA xs l e') : e = e' := by
  by_cases h0 : UT.countZ l < 0
  · rw [h.1 (.inl h0), h'.1 (.inl h0)]
  · by_cases h1 : 64 < UT.countZ l
    · rw [h.1 (.inr h1), h'.1 (.inr h1)]
    · obtain ⟨r, hr, rfl⟩ := h.2 (by omega) (by omega)
      obtain ⟨r', hr', rfl⟩ := h'.2 (by omega) (by omega)
      rw [hr.eq hr']
/-- an answer, and what it says -/
theorem TypeA.res {xs : List RuleB} {l : List UInt8} {e : Ending} (h : TypeA xs l e) : ∃ r, e = TypeE r ∧ ∀ k, r = some k → 0 ≤ UT.countZ l ∧ UT.countZ l ≤ 64 ∧ Au.TypeRes (rulesL xs) l (some k) := by
  by_cases h0 : UT.countZ l < 0
  · exact ⟨none, h.1 (.inl h0), fun k hk => by cases hk⟩
  · by_cases h1 : 64 < UT.countZ l
    · exact ⟨none, h.1 (.inr h1), fun k hk => by cases hk⟩
    · obtain ⟨r, hr, rfl⟩ := h.2 (by omega) (by omega)
      exact ⟨r, rfl, fun k hk => by rw [hk] at hr; exact ⟨by omega, by omega, hr⟩⟩
theorem typeE_form (r : Option (List UInt8)) : ∃ q b, TypeE r = .returned (.tuple #[.string q, .bool b]) := by
  cases r with
  | none => exact ⟨_, _, rfl⟩
  | some k => exact ⟨_, _, rfl⟩
theorem valid_of_count {l : List UInt8} (h : 0 ≤ UT.countZ l) : Lib.validD l = true ∧ UT.countZ l = ((UT.runes l).length : Int) := by
  unfold UT.countZ at h ⊢
  by_cases hv : Lib.validD l = true
  · rw [if_pos hv]; exact ⟨hv, rfl⟩
  · rw [if_neg hv] at h; omega
theorem count_app {a b : List UInt8} (ha : 0 ≤ UT.countZ a) (hb : 0 ≤ UT.countZ b) : UT.countZ (a ++ b) = UT.countZ a + UT.countZ b := by
  obtain ⟨va, ca⟩ := valid_of_count ha
  obtain ⟨vb, cb⟩ := valid_of_count hb
  obtain ⟨h1, h2⟩ := UT.valid_app va vb
  rw [ca, cb]
  unfold UT.countZ
  rw [if_pos h1, h2, List.length_append]
  omega
theorem frozen_cell {w : World} {b o : Nat} {v : Value} (h : w.cell? ⟨b, o, none⟩ = some v) : ∃ cs t f, w.heap[b]? = some (.cells cs t f) ∧ cs[o]? = some v := by
  unfold World.cell? at h
  dsimp only at h
  split at h
  · rename_i cs t f hb
    exact ⟨cs, t, f, hb, h⟩
  all_goals cases h
/-- an automaton is kept where rules are written -/
theorem AutoIs.other {B B0 : Nat} {xs ys : List RuleB} {a g n cap : Nat} {w w' : World} (h : AutoIs B xs a w) (ho : OwnR 32 B0 (.slice (some ⟨g, 0, none⟩) n cap) ys w) (hn : 0 < ys.length) (hk : ∀ b, b ≠ g → w'.heap[b]? = w.heap[b]?) : AutoIs B xs a w' := by
  obtain ⟨h1, ⟨hv, _⟩ | ⟨g', cap', cur, hv, hB, hg, hc, hm, hs, ht⟩⟩ := ho
  · cases hv
  · injection hv with hv
    injection hv with hv
    injection hv with hv
    subst hv
    obtain ⟨la, ok, mr, mp, kv, ks, p1, p2, c0, c1, c2, m1, m2, k1, ⟨b0, k2⟩, k3⟩ := h
    obtain ⟨r0, hr0⟩ : ∃ r0, ys[0]? = some r0 := ⟨_, List.getElem?_eq_getElem hn⟩
    have d0 : w.cell? ⟨g, 0, none⟩ = some (.string r0.1) := by
      have e := (cellsR_at ys 0 r0 hr0).1
      rw [← ht, Nat.zero_mul, List.getElem?_take, if_pos (by omega), Array.getElem?_toList] at e
      rw [Lib.cell_of_heap hg]
      exact e
    have ha : a ≠ g := fun e => by
      rw [e, d0] at c0
      cases c0
    have cb : ∀ o, w'.cell? ⟨a, o, none⟩ = w.cell? ⟨a, o, none⟩ := fun o => by
      unfold World.cell?
      dsimp only
      rw [hk a ha]
    refine ⟨la, ok, mr, mp, kv, ks, p1, p2, by rw [cb]; exact c0, by rw [cb]; exact c1, by rw [cb]; exact c2, m1.block (hk _ (m1.not_cell d0).symm), m2.block (hk _ (m2.not_cell d0).symm), k1, ⟨b0, ?_⟩, k3⟩
    obtain ⟨q1, q2 | ⟨gk, capk, curk, hvk, hBk, hgk, r⟩⟩ := k2
    · exact ⟨q1, .inl q2⟩
    · refine ⟨q1, .inr ⟨gk, capk, curk, hvk, hBk, ?_, r⟩⟩
      rw [hk gk (fun e => by
        rw [e, hg] at hgk
        injection hgk with hgk
        injection hgk with _ hgk
        exact absurd hgk (by decide))]
      exact hgk
end Go.Proofs.YtdcpiabmgjajlaaDoor
