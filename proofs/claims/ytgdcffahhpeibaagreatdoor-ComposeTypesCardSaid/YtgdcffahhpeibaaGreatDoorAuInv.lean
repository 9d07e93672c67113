/-
  What the loops of an automaton hold: feeding, flushing; lists of bytes as strings. No condition but that the rules are allowed.
-/
import Derived.Test.YtgdcffahhpeibaaGreatDoorAuLaws
namespace Go.Proofs.YtgdcffahhpeibaaGreatDoor
namespace Au
open UT (Bs)
open Ro (Rule find longer check)
theorem apply_out {l : List Rule} (h : check l = 0) (s : Bs) : (apply l s).1.length ≤ 16 := by
  unfold apply
  split
  · rename_i r hr
    exact (Ro.kana_parts (rule_kana h (begin_some hr).1)).2.2.2.2
  · show (s.take 1).length ≤ 16
    rw [List.length_take]; omega
/-- feeding under way: acc is written, p is pending, k is to be fed -/
structure FeedInv (l : List Rule) (P K p k acc : Bs) : Prop where
  out : (feed l P K).1 = acc ++ (feed l p k).1
  pend : (feed l P K).2 = (feed l p k).2
  len : acc.length + 16 * (p.length + k.length) ≤ 16 * (P.length + K.length)
theorem FeedInv.start (l : List Rule) (P K : Bs) : FeedInv l P K P K [] := ⟨rfl, rfl, by simp⟩
theorem FeedInv.yes {l : List Rule} (h : check l = 0) {P K p ks acc : Bs} {c : UInt8} (hi : FeedInv l P K p (c :: ks) acc) (hl : longer l (p ++ [c]) = true) : FeedInv l P K (p ++ [c]) ks acc := by
  have e := feed_yes (short_of h) hl ks
  refine ⟨by rw [hi.out, e], by rw [hi.pend, e], ?_⟩
  have := hi.len
  rw [List.length_append, List.length_cons, List.length_nil]
  rw [List.length_cons] at this
  omega
theorem FeedInv.no {l : List Rule} (h : check l = 0) {P K p ks acc : Bs} {c : UInt8} (hi : FeedInv l P K p (c :: ks) acc) (hl : longer l (p ++ [c]) = false) : FeedInv l P K [] ((apply l (p ++ [c])).2 ++ ks) (acc ++ (apply l (p ++ [c])).1) := by
  have e := feed_no (short_of h) hl ks
  have hn := apply_len (short_of h) (snoc_ne p c)
  have ho := apply_out h (p ++ [c])
  refine ⟨by rw [hi.out, e, List.append_assoc], by rw [hi.pend, e], ?_⟩
  have := hi.len
  rw [List.length_append, List.length_cons, List.length_nil] at hn
  rw [List.length_append, List.length_append, List.length_nil]
  rw [List.length_cons] at this
  omega
theorem FeedInv.done {l : List Rule} {P K p acc : Bs} (hi : FeedInv l P K p [] acc) : feed l P K = (acc, p) := by
  have h1 := hi.out
  have h2 := hi.pend
  rw [feed_nil] at h1 h2
  rw [← Prod.eta (feed l P K), h1, h2, List.append_nil]
theorem feed_both' {l : List Rule} (h : check l = 0) (p k : Bs) : (feed l p k).1.length + 16 * (feed l p k).2.length ≤ 16 * (p.length + k.length) := by
  refine feed_rec (short_of h) (M := fun p k => (feed l p k).1.length + 16 * (feed l p k).2.length ≤ 16 * (p.length + k.length)) ?_ ?_ ?_ p k
  · intro p
    rw [feed_nil]; simp
  · intro p c ks hl ih
    rw [feed_yes (short_of h) hl]
    rw [List.length_append, List.length_cons, List.length_nil] at ih
    rw [List.length_cons]
    omega
  · intro p c ks hl ih
    rw [feed_no (short_of h) hl]
    have a3 := apply_out h (p ++ [c])
    have al := apply_len (short_of h) (snoc_ne p c)
    rw [List.length_append, List.length_cons, List.length_nil] at al
    rw [List.length_append, List.length_nil] at ih
    rw [List.length_cons]
    dsimp only
    rw [List.length_append]
    omega
/-- flushing under way -/
structure FlushInv (l : List Rule) (P p acc : Bs) : Prop where
  out : flushP l P = acc ++ flushP l p
  len : acc.length + 16 * p.length ≤ 16 * P.length
theorem FlushInv.start (l : List Rule) (P : Bs) : FlushInv l P P [] := ⟨rfl, by simp⟩
theorem FlushInv.step {l : List Rule} (h : check l = 0) {P p acc : Bs} (hi : FlushInv l P p acc) (hp : p ≠ []) :
    FlushInv l P (feed l [] (apply l p).2).2 (acc ++ ((apply l p).1 ++ (feed l [] (apply l p).2).1)) ∧ (feed l [] (apply l p).2).2.length < p.length := by
  have e := flushP_step (short_of h) hp
  have h1 := apply_len (short_of h) hp
  have h2 := feed_both' h [] (apply l p).2
  have h3 := apply_out h p
  have h4 := feed_len (short_of h) [] (apply l p).2
  rw [List.length_nil] at h2 h4
  refine ⟨⟨by rw [hi.out, e]; simp only [List.append_assoc], ?_⟩, by omega⟩
  have := hi.len
  rw [List.length_append, List.length_append]
  omega
theorem FlushInv.done {l : List Rule} {P acc : Bs} (hi : FlushInv l P [] acc) : flushP l P = acc := by
  rw [hi.out, flushP_nil, List.append_nil]
/-- the rules' strings are short -/
theorem rule_sizes {l : List Rule} (h : check l = 0) {r : Rule} (hr : r ∈ l) : 0 < r.1.length ∧ r.1.length ≤ 4 ∧ r.2.1.length ≤ 16 ∧ r.2.2.length ≤ 3 := by
  have ha := (Ro.allowed_iff r).1 (((Ro.good_iff l).1 ((Ro.check_zero l).1 h).2).1 r hr)
  exact ⟨List.length_pos_iff.2 ha.1, (Ro.keyed_byte ha.2.1).1, (Ro.kana_parts ha.2.2.1).2.2.2.2, (Ro.keyed_byte ha.2.2.2.1).1⟩
theorem keysOf_take (l : Bs) (k : Nat) (c : UInt8) (h : l[k]? = some c) : keysOf (l.take (k + 1)) = if isKey c = true then keysOf (l.take k) ++ [c] else keysOf (l.take k) := by
  have hk : k < l.length := by
    rcases Nat.lt_or_ge k l.length with h' | h'
    · exact h'
    · rw [List.getElem?_eq_none h'] at h; cases h
  rw [List.getElem?_eq_getElem hk] at h
  injection h with h
  rw [List.take_succ_eq_append_getElem hk, h, keysOf_app, keysOf_one]
  split <;> simp
theorem isKey_yes {c : UInt8} (h1 : 33 ≤ c.toNat) (h2 : c.toNat ≤ 126) : isKey c = true := by
  unfold isKey
  rw [decide_eq_true h1, decide_eq_true h2]; rfl
theorem isKey_no {c : UInt8} (h : c.toNat < 33 ∨ 126 < c.toNat) : isKey c = false := by
  unfold isKey
  rw [Bool.and_eq_false_iff, decide_eq_false_iff_not, decide_eq_false_iff_not]
  omega
/-- beginning: how far a search from the longest has come -/
theorem beginN_step (l : List Rule) (s : Bs) (n : Nat) (h : find l (s.take (n + 1)) = none) : beginN l s (n + 1) = beginN l s n := by
  rw [beginN, h]
theorem beginN_hit (l : List Rule) (s : Bs) (n : Nat) (r : Rule) (h : find l (s.take (n + 1)) = some r) : beginN l s (n + 1) = some r := by
  rw [beginN, h]
theorem apply_hit {l : List Rule} {s : Bs} {r : Rule} (h : begin l s = some r) : apply l s = (r.2.1, r.2.2 ++ s.drop r.1.length) := by
  unfold apply; rw [h]
theorem apply_miss {l : List Rule} {s : Bs} (h : begin l s = none) : apply l s = (s.take 1, s.drop 1) := by
  unfold apply; rw [h]
end Au
end Go.Proofs.YtgdcffahhpeibaaGreatDoor
