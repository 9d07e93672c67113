/-
  What the automaton writes is valid and not long; the laws of the least keys. No condition but that the rules are allowed.
-/
import Derived.Test.YtgdcffahhpeibaaGreatDoorAuType
import Derived.Lib.ValidLaws
namespace Go.Proofs.YtgdcffahhpeibaaGreatDoor
namespace Au
open UT (Bs)
open Ro (Rule find longer check)
theorem key_byte {c : UInt8} (h : isKey c = true) : 33 ≤ c.toNat ∧ c.toNat ≤ 126 := by
  unfold isKey at h
  rw [Bool.and_eq_true, decide_eq_true_iff, decide_eq_true_iff] at h
  exact h
theorem valid_byte {c : UInt8} (h : c.toNat < 128) : Lib.validD [c] = true := by
  rw [Lib.validD_cons c [] h]; rfl
def AllKeys (s : Bs) : Prop := ∀ c ∈ s, isKey c = true
theorem AllKeys.app {a b : Bs} (h : AllKeys a) (h' : AllKeys b) : AllKeys (a ++ b) := fun c hc => by
  rcases List.mem_append.1 hc with hc | hc
  · exact h c hc
  · exact h' c hc
theorem allKeys_of (s : Bs) : AllKeys (keysOf s) := fun _ hc => keysOf_mem hc
theorem rule_kana {l : List Rule} (h : check l = 0) {r : Rule} (hr : r ∈ l) : Ro.kana r.2.1 = true :=
  ((Ro.allowed_iff r).1 (((Ro.good_iff l).1 ((Ro.check_zero l).1 h).2).1 r hr)).2.2.1
theorem apply_keys {l : List Rule} (h : check l = 0) {s : Bs} (hs : s ≠ []) (hk : AllKeys s) : AllKeys (apply l s).2 ∧ Lib.validD (apply l s).1 = true ∧ (apply l s).1.length ≤ 16 := by
  unfold apply
  split
  · rename_i r hr
    have hm := (begin_some hr).1
    have hp := Ro.kana_parts (rule_kana h hm)
    refine ⟨AllKeys.app (keyed_of h r hm).2 (fun c hc => hk c (List.mem_of_mem_drop hc)), hp.1, hp.2.2.2.2⟩
  · cases s with
    | nil => exact absurd rfl hs
    | cons c s =>
      refine ⟨fun d hd => hk d (List.mem_cons_of_mem _ hd), ?_, by show 1 ≤ 16; omega⟩
      exact valid_byte (by have := key_byte (hk c (List.mem_cons_self ..)); omega)
theorem feed_valid {l : List Rule} (h : check l = 0) (p k : Bs) (hp : AllKeys p) (hk : AllKeys k) : Lib.validD (feed l p k).1 = true ∧ (feed l p k).1.length ≤ 16 * (p.length + k.length) ∧ AllKeys (feed l p k).2 := by
  refine feed_rec (short_of h) (M := fun p k => AllKeys p → AllKeys k → Lib.validD (feed l p k).1 = true ∧ (feed l p k).1.length ≤ 16 * (p.length + k.length) ∧ AllKeys (feed l p k).2) ?_ ?_ ?_ p k hp hk
  · intro p hp _
    rw [feed_nil]
    exact ⟨rfl, by simp, hp⟩
  · intro p c ks hl ih hp hk
    rw [feed_yes (short_of h) hl]
    have hc : AllKeys [c] := fun d hd => by simp at hd; subst hd; exact hk _ (List.mem_cons_self ..)
    have := ih (hp.app hc) (fun d hd => hk d (List.mem_cons_of_mem _ hd))
    rw [List.length_append, List.length_cons, List.length_nil] at this
    rw [List.length_cons]
    exact ⟨this.1, by omega, this.2.2⟩
  · intro p c ks hl ih hp hk
    rw [feed_no (short_of h) hl]
    have hc : AllKeys [c] := fun d hd => by simp at hd; subst hd; exact hk _ (List.mem_cons_self ..)
    obtain ⟨a1, a2, a3⟩ := apply_keys h (snoc_ne p c) (hp.app hc)
    have al := apply_len (short_of h) (snoc_ne p c)
    have := ih (fun d hd => by simp at hd) (a1.app (fun d hd => hk d (List.mem_cons_of_mem _ hd)))
    rw [List.length_append, List.length_cons, List.length_nil] at al
    rw [List.length_append, List.length_nil] at this
    rw [List.length_cons]
    refine ⟨(UT.valid_app a2 this.1).1, ?_, this.2.2⟩
    dsimp only
    rw [List.length_append]
    omega
theorem run_valid {l : List Rule} (h : check l = 0) (k : Bs) : Lib.validD (run l k).1 = true := (feed_valid h [] (keysOf k) (fun c hc => by simp at hc) (allKeys_of k)).1
theorem keysOf_len (k : Bs) : (keysOf k).length ≤ k.length := List.length_filter_le ..
theorem flushP_len {l : List Rule} (h : check l = 0) : ∀ (n : Nat) (p : Bs), p.length ≤ n → AllKeys p → (flushP l p).length ≤ 16 * p.length
  | n, [], _, _ => by rw [flushP_nil]; simp
  | 0, c :: p, hn, _ => by simp at hn
  | n + 1, c :: p, hn, hk => by
    have hs := short_of h
    have hne : c :: p ≠ [] := by simp
    obtain ⟨a1, a2, a3⟩ := apply_keys h hne hk
    have al := apply_len hs hne
    obtain ⟨f1, f2, f3⟩ := feed_valid h [] (apply l (c :: p)).2 (fun c hc => by simp at hc) a1
    have fl := feed_len hs [] (apply l (c :: p)).2
    rw [List.length_nil] at fl f2
    rw [flushP_step hs hne, List.length_append, List.length_append]
    by_cases h0 : (feed l [] (apply l (c :: p)).2).2 = []
    · rw [h0, flushP_nil, List.length_nil]; omega
    · -- what is pending has not written yet: its own bytes pay
      have ih := flushP_len h n _ (by omega) f3
      have hb := feed_both h [] (apply l (c :: p)).2 (fun c hc => by simp at hc) a1
      rw [List.length_nil] at hb
      omega
where
  /-- what is written and what is pending, together -/
  feed_both {l : List Rule} (h : check l = 0) (p k : Bs) (hp : AllKeys p) (hk : AllKeys k) : (feed l p k).1.length + 16 * (feed l p k).2.length ≤ 16 * (p.length + k.length) := by
    refine feed_rec (short_of h) (M := fun p k => AllKeys p → AllKeys k → (feed l p k).1.length + 16 * (feed l p k).2.length ≤ 16 * (p.length + k.length)) ?_ ?_ ?_ p k hp hk
    · intro p _ _
      rw [feed_nil]; simp
    · intro p c ks hl ih hp hk
      rw [feed_yes (short_of h) hl]
      have hc : AllKeys [c] := fun d hd => by simp at hd; subst hd; exact hk _ (List.mem_cons_self ..)
      have := ih (hp.app hc) (fun d hd => hk d (List.mem_cons_of_mem _ hd))
      rw [List.length_append, List.length_cons, List.length_nil] at this
      rw [List.length_cons]
      omega
    · intro p c ks hl ih hp hk
      rw [feed_no (short_of h) hl]
      have hc : AllKeys [c] := fun d hd => by simp at hd; subst hd; exact hk _ (List.mem_cons_self ..)
      obtain ⟨a1, a2, a3⟩ := apply_keys h (snoc_ne p c) (hp.app hc)
      have al := apply_len (short_of h) (snoc_ne p c)
      have := ih (fun d hd => by simp at hd) (a1.app (fun d hd => hk d (List.mem_cons_of_mem _ hd)))
      rw [List.length_append, List.length_cons, List.length_nil] at al
      rw [List.length_append, List.length_nil] at this
      rw [List.length_cons]
      dsimp only
      rw [List.length_append]
      omega
theorem run_len {l : List Rule} (h : check l = 0) (k : Bs) : (run l k).1.length ≤ 16 * k.length := by
  have a := (feed_valid h [] (keysOf k) (fun c hc => by simp at hc) (allKeys_of k)).2.1
  have b := keysOf_len k
  rw [List.length_nil] at a
  unfold run
  omega
/-- keys behind keys that leave nothing pending -/
theorem run_app {l : List Rule} (h : check l = 0) {a b s t : Bs} (ha : run l a = (s, [])) (hb : run l b = (t, [])) : run l (a ++ b) = (s ++ t, []) := by
  unfold run at *
  rw [keysOf_app, feed_app (short_of h), ha]
  dsimp only
  rw [hb]
theorem res_run {l : List Rule} (h : check l = 0) {s k : Bs} (hr : TypeRes l s (some k)) : AllKeys k ∧ run l k = (s, []) := (goal_iff h s k).1 hr.1
theorem res_least {l : List Rule} (h : check l = 0) {s k : Bs} {r : Option Bs} (hr : TypeRes l s r) (hk : AllKeys k) (hs : run l k = (s, [])) : ∃ n, r = some n ∧ kle n k := by
  have hp := (goal_iff h s k).2 ⟨hk, hs⟩
  cases r with
  | none => exact absurd hp (hr k)
  | some n => exact ⟨n, rfl, hr.2 k hp⟩
theorem res_both {l : List Rule} (h : check l = 0) {s t k m : Bs} {r : Option Bs} (hs : TypeRes l s (some k)) (ht : TypeRes l t (some m)) (hr : TypeRes l (s ++ t) r) : ∃ n, r = some n ∧ n.length ≤ k.length + m.length ∧ run l n = (s ++ t, []) := by
  obtain ⟨a1, a2⟩ := res_run h hs
  obtain ⟨b1, b2⟩ := res_run h ht
  obtain ⟨n, hn, hle⟩ := res_least h hr (a1.app b1) (run_app h a2 b2)
  subst hn
  refine ⟨n, rfl, ?_, (res_run h hr).2⟩
  rcases hle with hle | ⟨hle, _⟩
  · rw [List.length_append] at hle; omega
  · rw [List.length_append] at hle; omega
/-- the law of one key -/
theorem one_law {l : List Rule} (h : check l = 0) (k : Bs) (c : UInt8) : run l (k ++ [c]) = ((run l k).1 ++ (step l (run l k).2 c).1, (step l (run l k).2 c).2) := run_snoc h k c
/-- the law of keys that occur in no rule -/
theorem others_law {l : List Rule} (h : check l = 0) (k s : Bs) (hs : s ≠ []) (hk : AllKeys s) (ho : ∀ c ∈ s, Other l c) : run l (k ++ s) = ((run l k).1 ++ (flush l (run l k).2 ++ s), []) := by
  have hp := pend_keys (keyed_of h) (run_pend (short_of h) k)
  rw [flush_eq, keysOf_all hp]
  unfold run
  rw [keysOf_app, keysOf_all hk, feed_app (short_of h), feed_others (short_of h) _ s hs ho]
theorem flush_nil (l : List Rule) : flush l [] = [] := rfl
end Au
end Go.Proofs.YtgdcffahhpeibaaGreatDoor
