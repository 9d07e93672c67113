/-
  A card's argument that is a list of the document's rules, opened to the rules that lie there. No condition.
-/
import Derived.Test.YtgdcffahhpeibaaDoorRoTabs
import Derived.Deep.Slices
import Derived.Carry
import Derived.ChangeSame
namespace Go.Proofs.YtgdcffahhpeibaaDoor
open Go.ChangeShapes Go.WideShapes Go.ChangeAt Go.RowKit Go.Deep
theorem cellsRule : Tryd.prog.cellsOf 44 = 3 := by kernel_rfl
theorem cellsStr : Tryd.prog.cellsOf 9 = 1 := by kernel_rfl
theorem one_string {H : Type} {enc : TypeId × Value → H} {w : World} {base : Nat} {spare : Nat → Bool} {held : Bool} {n : Nat} {x : Value} {y : Option (DataW H × List MemPlace)} (hy : y.isSome = true) (h : DataW.trod enc Tryd.prog w base spare held n 9 [x] = y) : ∃ s, x = .string s ∧ s.size ≤ maxLen := by
  obtain ⟨z, rfl⟩ := Option.isSome_iff_exists.1 hy
  obtain ⟨s, h1, _, h2⟩ := DataW.trod_string Tryd.underlying9 h
  injection h1 with h1
  exact ⟨s, h1, h2⟩
set_option maxRecDepth 100000 in
theorem open_rule {H : Type} {enc : TypeId × Value → H} {w : World} {base fuel : Nat} {spare : Nat → Bool} {held : Bool} {cs : List Value} {x : DataW H × List MemPlace} (h : DataW.trod enc Tryd.prog w base spare held fuel 44 cs = some x) :
    ∃ r : RuleB, cs = ruleC r ∧ r.1.size ≤ maxLen ∧ r.2.1.size ≤ maxLen ∧ r.2.2.size ≤ maxLen := by
  obtain ⟨ys, n, _, _, hlen, hyl, hf⟩ := DataW.trod_struct Tryd.underlying44 h
  rw [cellsRule] at hlen
  have hyl3 : ys.length = 3 := hyl
  obtain ⟨a, b, c, rfl⟩ : ∃ a b c, cs = [a, b, c] := by
    match cs, hlen with
    | [a, b, c], _ => exact ⟨a, b, c, rfl⟩
  clear hlen
  have h0 := hf 0 _ rfl
  have h1 := hf 1 _ rfl
  have h2 := hf 2 _ rfl
  have hs : ∀ j, j < 3 → (ys[j]?).isSome = true := fun j hj => by rw [List.getElem?_eq_getElem (by omega)]; rfl
  change DataW.trod _ _ _ _ _ _ n 9 ((([a, b, c] : List Value).drop 0).take (Tryd.prog.cellsOf 9)) = ys[0]? at h0
  change DataW.trod _ _ _ _ _ _ n 9 ((([a, b, c] : List Value).drop 1).take (Tryd.prog.cellsOf 9)) = ys[1]? at h1
  change DataW.trod _ _ _ _ _ _ n 9 ((([a, b, c] : List Value).drop 2).take (Tryd.prog.cellsOf 9)) = ys[2]? at h2
  rw [cellsStr] at h0 h1 h2
  obtain ⟨s0, rfl, m0⟩ := one_string (hs 0 (by omega)) h0
  obtain ⟨s1, rfl, m1⟩ := one_string (hs 1 (by omega)) h1
  obtain ⟨s2, rfl, m2⟩ := one_string (hs 2 (by omega)) h2
  exact ⟨(s0, s1, s2), rfl, m0, m1, m2⟩
theorem listed {α : Type} (P : Nat → α → Prop) : ∀ n, (∀ i, i < n → ∃ r, P i r) → ∃ xs : List α, xs.length = n ∧ ∀ (k : Nat) r, xs[k]? = some r → P k r
  | 0, _ => ⟨[], rfl, fun k r h => by simp at h⟩
  | n + 1, h => by
    obtain ⟨xs, h1, h2⟩ := listed P n (fun i hi => h i (by omega))
    obtain ⟨r, hr⟩ := h n (by omega)
    refine ⟨xs ++ [r], by simp [h1], fun k x hx => ?_⟩
    rw [List.getElem?_append] at hx
    split at hx
    · exact h2 k x hx
    · rename_i hk
      have : k - xs.length = 0 := by
        rcases Nat.eq_zero_or_pos (k - xs.length) with h' | h'
        · exact h'
        · rw [List.getElem?_eq_none (by simp; omega)] at hx; cases hx
      rw [this] at hx
      injection hx with hx
      obtain rfl : k = n := by omega
      rw [← hx]; exact hr
set_option maxRecDepth 100000 in
theorem open_rules {H : Type} {enc : TypeId × Value → H} {W : World} {base : Nat} {v : Value} {d : DataW H} {p : List MemPlace} (hval : Value.okWide Tryd.prog W .any base 31 v) (h : DataW.Trod enc Tryd.prog W 0 (fun _ => true) true 31 v d p) :
    ∃ xs, LieR v xs W ∧ xs.length ≤ 9223372036854775807 ∧ ∀ r ∈ xs, r.1.size ≤ 9223372036854775807 ∧ r.2.1.size ≤ 9223372036854775807 ∧ r.2.2.size ≤ 9223372036854775807 := by
  obtain ⟨a1, len, cap, rfl⟩ := okWide_slice Tryd.underlying31 hval
  obtain ⟨fuel, hf⟩ := h
  rcases open_slice Tryd.underlying31 hf with ⟨hcs, _⟩ | ⟨a, len', cap', m, n, D, Pl, hcs, _, hl, hm, hmm, _, hi⟩
  · simp [Value.cells] at hcs
    obtain ⟨rfl, rfl, rfl⟩ := hcs
    exact ⟨[], LieR.nil W, by simp, fun r hr => by simp at hr⟩
  · simp [Value.cells] at hcs
    obtain ⟨rfl, rfl, rfl⟩ := hcs
    rw [if_pos rfl] at hmm
    obtain ⟨xs, hx1, hx2⟩ := listed (fun i (r : RuleB) => (∃ g o, a = ⟨g, o, none⟩ ∧ W.cell? ⟨g, o + i * 3, none⟩ = some (.string r.1) ∧ W.cell? ⟨g, o + i * 3 + 1, none⟩ = some (.string r.2.1) ∧ W.cell? ⟨g, o + i * 3 + 2, none⟩ = some (.string r.2.2)) ∧ r.1.size ≤ maxLen ∧ r.2.1.size ≤ maxLen ∧ r.2.2.size ≤ maxLen) len (fun i him => by
      obtain ⟨cs', hc, ht'⟩ := hi i (by omega)
      rw [cellsRule] at hc
      obtain ⟨r, rfl, z1, z2, z3⟩ := open_rule ht'
      obtain ⟨_, _, hat⟩ := World.cells?_some hc
      refine ⟨r, ?_, z1, z2, z3⟩
      have q0 := hat 0 (by omega)
      have q1 := hat 1 (by omega)
      have q2 := hat 2 (by omega)
      rw [Go.Deep.add_add] at q0 q1 q2
      obtain ⟨g, o, sp⟩ := a
      have hsp : sp = none := by
        obtain ⟨cs0, hc0, ht0⟩ := hi 0 (by omega)
        rw [cellsRule] at hc0
        obtain ⟨r0, rfl, _⟩ := open_rule ht0
        obtain ⟨_, _, hat0⟩ := World.cells?_some hc0
        have p0 := hat0 0 (by omega)
        have he : ((⟨g, o, sp⟩ : Addr).add (0 * 3)).add 0 = ⟨g, o, sp⟩ := rfl
        rw [he] at p0
        exact Go.Proofs.cell_spot (b := g) (o := o) p0
      subst hsp
      have ha : ∀ j, (⟨g, o, none⟩ : Addr).add j = ⟨g, o + j, none⟩ := by
        intro j
        unfold Addr.add
        split
        · rename_i e; rw [e]; rfl
        · rfl
      rw [ha] at q0 q1 q2
      exact ⟨g, o, rfl, q0, by rw [← Nat.add_assoc] at q1; exact q1, by rw [← Nat.add_assoc] at q2; exact q2⟩)
    refine ⟨xs, ⟨some a, cap, by rw [hx1], by omega, fun k r hk => ?_⟩, by unfold maxLen at hm; omega, fun r hr => ?_⟩
    · obtain ⟨⟨g, o, rfl, e1, e2, e3⟩, _⟩ := hx2 k r hk
      exact ⟨g, o, rfl, e1, e2, e3⟩
    · obtain ⟨k, hk⟩ := List.getElem?_of_mem hr
      exact (hx2 k r hk).2
end Go.Proofs.YtgdcffahhpeibaaDoor
