/-
  Reading numbers in Japanese writing, in plain Lean: the program's machine (from the left), the reference's (from the right), and that both read what is written for a number. No condition.
-/
import Derived.Test.YtnpkcobapckhdaaGreatDoorNumMath
import Derived.Test.YtnpkcobapckhdaaGreatDoorRunes
namespace Go.Proofs.YtnpkcobapckhdaaGreatDoor
namespace Num
open Ru (tok3)
/-- the index of a token in a list, or -1 -/
def ixF : List Bs → Bs → Nat → Int
  | [], _, _ => -1
  | z :: zs, x, i => if z = x then i else ixF zs x (i + 1)
def ix (l : List Bs) (x : Bs) : Int := ixF l x 0
def upd (f : Nat → Nat) (i v : Nat) : Nat → Nat := fun q => if q = i then v else f q
theorem upd_same (f : Nat → Nat) (i v : Nat) : upd f i v i = v := by simp [upd]
theorem upd_other (f : Nat → Nat) (i v q : Nat) (h : q ≠ i) : upd f i v q = f q := by simp [upd, h]

/-! ### what is written, as tokens -/
def outT (f : Bool) (n p : Nat) : List Bs := if n = 0 then [] else (if 1 < n ∨ f = true ∨ p % 4 = 0 then [dch f n] else []) ++ (if p % 4 = 0 then [] else [uch f (p % 4)])
def grpT (n p : Nat) (s : Bool) : List Bs := if p % 4 = 0 ∧ (s = true ∨ n ≠ 0) ∧ p / 4 ≠ 0 then [gch (p / 4)] else []
def wrT (f : Bool) : Bs → Bool → List Bs
  | [], _ => []
  | c :: r, s => outT f (val c) r.length ++ grpT (val c) r.length s ++ wrT f r (stepS (val c) r.length s)
theorem outT_flat (f : Bool) (n p : Nat) : (outT f n p).flatten = stepOut f n p := by
  unfold outT stepOut
  split
  · rfl
  · rw [List.flatten_append]
    congr 1
    · split <;> simp
    · split
      · rename_i h; rw [h]; cases f <;> rfl
      · simp
theorem grpT_flat (n p : Nat) (s : Bool) : (grpT n p s).flatten = stepG n p s := by
  unfold grpT stepG
  by_cases h : p % 4 = 0 ∧ (s = true ∨ n ≠ 0)
  · rw [if_pos h]
    by_cases h2 : p / 4 = 0
    · rw [if_neg (fun x => x.2.2 h2), h2]; rfl
    · rw [if_pos ⟨h.1, h.2, h2⟩]; simp
  · rw [if_neg h, if_neg (fun x => h ⟨x.1, x.2.1⟩)]; rfl
theorem wrT_flat (f : Bool) : ∀ (l : Bs) (s : Bool), (wrT f l s).flatten = wr f l s
  | [], _ => rfl
  | c :: r, s => by rw [wrT, wr, List.flatten_append, List.flatten_append, outT_flat, grpT_flat, wrT_flat f r]

theorem dch_tok (f : Bool) (n : Nat) (h : n < 10) : tok3 (dch f n) = true := by
  have h1 : n = 0 ∨ n = 1 ∨ n = 2 ∨ n = 3 ∨ n = 4 ∨ n = 5 ∨ n = 6 ∨ n = 7 ∨ n = 8 ∨ n = 9 := by omega
  cases f <;> rcases h1 with rfl | rfl | rfl | rfl | rfl | rfl | rfl | rfl | rfl | rfl <;> decide
theorem uch_tok (f : Bool) (k : Nat) (h0 : k ≠ 0) (h : k < 4) : tok3 (uch f k) = true := by
  have h1 : k = 1 ∨ k = 2 ∨ k = 3 := by omega
  cases f <;> rcases h1 with rfl | rfl | rfl <;> decide
theorem gch_tok (k : Nat) (h0 : k ≠ 0) (h : k < 5) : tok3 (gch k) = true := by
  have h1 : k = 1 ∨ k = 2 ∨ k = 3 ∨ k = 4 := by omega
  rcases h1 with rfl | rfl | rfl | rfl <;> decide
theorem wrT_tok (f : Bool) : ∀ (l : Bs) (s : Bool), (∀ c ∈ l, val c < 10) → l.length ≤ 20 → ∀ t ∈ wrT f l s, tok3 t = true
  | [], _, _, _, t, h => by simp [wrT] at h
  | c :: r, s, hv, hl, t, h => by
    have hc := hv c (by simp)
    have hr : r.length < 20 := by simp at hl; omega
    rw [wrT, List.mem_append, List.mem_append] at h
    rcases h with (h | h) | h
    · unfold outT at h
      split at h
      · simp at h
      · rw [List.mem_append] at h
        rcases h with h | h
        · split at h
          · simp at h; rw [h]; exact dch_tok f _ hc
          · simp at h
        · split at h
          · simp at h
          · rename_i h4; simp at h; rw [h]; exact uch_tok f _ h4 (Nat.mod_lt _ (by decide))
    · unfold grpT at h
      split at h
      · rename_i h4; simp at h; rw [h]; exact gch_tok _ h4.2.2 (by omega)
      · simp at h
    · exact wrT_tok f r _ (fun x hx => hv x (by simp [hx])) (by omega) t h

/-! ### the program's machine -/
structure RS where
  d : Nat → Nat
  now : Nat → Nat
  dig : Int
def put4 (d now : Nat → Nat) (g : Nat) : Nat → Nat := fun q => if q / 4 = g then now (q % 4) else d q
def pend (now : Nat → Nat) (dig : Int) : Nat → Nat := if 0 ≤ dig then upd now 0 dig.toNat else now
def rdStep (f : Bool) (st : RS) (t : Bs) : RS :=
  if 0 ≤ ix grp.tail t then ⟨put4 st.d (pend st.now st.dig) ((ix grp.tail t).toNat + 1), fun _ => 0, -1⟩
  else if 0 ≤ ix (un f).tail t then ⟨st.d, upd st.now ((ix (un f).tail t).toNat + 1) (if st.dig < 0 then 1 else st.dig.toNat), -1⟩
  else ⟨st.d, st.now, ix (dg f) t⟩
def rs0 : RS := ⟨fun _ => 0, fun _ => 0, -1⟩
/-- the twenty digits, the highest first -/
def rdOut (st : RS) : Bs := ((List.range 20).map fun i => UInt8.ofNat (48 + put4 st.d (pend st.now st.dig) 0 (19 - i))).dropWhile (· == 48)

theorem rd_dig (f : Bool) (st : RS) (n : Nat) (h0 : n ≠ 0) (h : n < 10) : rdStep f st (dch f n) = ⟨st.d, st.now, n⟩ := by
  have h1 : n = 1 ∨ n = 2 ∨ n = 3 ∨ n = 4 ∨ n = 5 ∨ n = 6 ∨ n = 7 ∨ n = 8 ∨ n = 9 := by omega
  have a : ix grp.tail (dch f n) = -1 := by cases f <;> rcases h1 with rfl | rfl | rfl | rfl | rfl | rfl | rfl | rfl | rfl <;> decide
  have b : ix (un f).tail (dch f n) = -1 := by cases f <;> rcases h1 with rfl | rfl | rfl | rfl | rfl | rfl | rfl | rfl | rfl <;> decide
  have c : ix (dg f) (dch f n) = n := by cases f <;> rcases h1 with rfl | rfl | rfl | rfl | rfl | rfl | rfl | rfl | rfl <;> decide
  unfold rdStep
  rw [if_neg (by omega), if_neg (by omega), c]
theorem rd_unit (f : Bool) (st : RS) (k : Nat) (h0 : k ≠ 0) (h : k < 4) : rdStep f st (uch f k) = ⟨st.d, upd st.now k (if st.dig < 0 then 1 else st.dig.toNat), -1⟩ := by
  have h1 : k = 1 ∨ k = 2 ∨ k = 3 := by omega
  have a : ix grp.tail (uch f k) = -1 := by cases f <;> rcases h1 with rfl | rfl | rfl <;> decide
  have b : ix (un f).tail (uch f k) = (k : Int) - 1 := by cases f <;> rcases h1 with rfl | rfl | rfl <;> decide
  unfold rdStep
  rw [if_neg (by omega), if_pos (by omega), b, show ((k : Int) - 1).toNat + 1 = k by omega]
theorem rd_grp (f : Bool) (st : RS) (g : Nat) (h0 : g ≠ 0) (h : g < 5) : rdStep f st (gch g) = ⟨put4 st.d (pend st.now st.dig) g, fun _ => 0, -1⟩ := by
  have h1 : g = 1 ∨ g = 2 ∨ g = 3 ∨ g = 4 := by omega
  have a : ix grp.tail (gch g) = (g : Int) - 1 := by rcases h1 with rfl | rfl | rfl | rfl <;> decide
  unfold rdStep
  rw [if_pos (by omega), a, show ((g : Int) - 1).toNat + 1 = g by omega]

/-- D gives the digits of r at their places -/
def Dig (D : Nat → Nat) : Bs → Prop
  | [] => True
  | c :: r => D r.length = val c ∧ Dig D r
structure Inv (D : Nat → Nat) (p : Nat) (s : Bool) (st : RS) : Prop where
  dig : st.dig = -1
  done : ∀ q, q < 20 → 4 * ((p + 3) / 4) ≤ q → st.d q = D q
  here : ∀ j, j < 4 → p % 4 ≠ 0 → p % 4 ≤ j → st.now j = D (4 * (p / 4) + j)
  rest : ∀ j, j < 4 → (p % 4 = 0 ∨ j < p % 4) → st.now j = 0
  zero : ∀ q, q < 20 → q < 4 * ((p + 3) / 4) → st.d q = 0
  none : s = false → ∀ j, j < 4 → st.now j = 0
structure Fin (D : Nat → Nat) (st : RS) : Prop where
  high : ∀ q, q < 20 → 4 ≤ q → st.d q = D q
  low : ∀ j, j < 4 → pend st.now st.dig j = D j

/-- a digit's tokens -/
theorem rd_out (f : Bool) (st : RS) (n p : Nat) (hn : n < 10) (hd : st.dig = -1) (h : p % 4 ≠ 0) :
    (outT f n p).foldl (rdStep f) st = ⟨st.d, if n = 0 then st.now else upd st.now (p % 4) n, -1⟩ := by
  have hm : p % 4 < 4 := Nat.mod_lt _ (by decide)
  unfold outT
  by_cases h0 : n = 0
  · rw [if_pos h0, if_pos h0, List.foldl_nil, ← hd]
  · rw [if_neg h0, if_neg h0, if_neg h]
    split
    · rw [List.singleton_append, List.foldl_cons, List.foldl_cons, List.foldl_nil, rd_dig f st n h0 hn, rd_unit f _ _ h hm]
      simp only
      rw [if_neg (by omega)]
      rfl
    · rename_i h2
      have h1 : n = 1 := by omega
      rw [List.nil_append, List.foldl_cons, List.foldl_nil, rd_unit f _ _ h hm, hd, if_pos (by omega), h1]
theorem rd_out0 (f : Bool) (st : RS) (n p : Nat) (hn : n < 10) (hd : st.dig = -1) (h : p % 4 = 0) :
    (outT f n p).foldl (rdStep f) st = ⟨st.d, st.now, if n = 0 then -1 else n⟩ := by
  unfold outT
  by_cases h0 : n = 0
  · rw [if_pos h0, if_pos h0, List.foldl_nil, ← hd]
  · rw [if_neg h0, if_neg h0, if_pos h, if_pos (Or.inr (Or.inr h)), List.append_nil, List.foldl_cons, List.foldl_nil, rd_dig f st n h0 hn]

theorem read_fold (f : Bool) (D : Nat → Nat) : ∀ (r : Bs) (s : Bool) (st : RS), r ≠ [] → Dig D r → (∀ c ∈ r, val c < 10) → r.length ≤ 20 → Inv D r.length s st → Fin D ((wrT f r s).foldl (rdStep f) st)
  | [], _, _, h, _, _, _, _ => absurd rfl h
  | c :: r, s, st, _, hD, hv, hl, hi => by
    obtain ⟨hDc, hDr⟩ := hD
    have hc := hv c (by simp)
    have hv' : ∀ x ∈ r, val x < 10 := fun x hx => hv x (by simp [hx])
    have hl' : r.length < 20 := by simp at hl; omega
    rw [List.length_cons] at hi
    generalize hn : val c = n at *
    rw [wrT, List.foldl_append, List.foldl_append, hn]
    by_cases hm : r.length % 4 = 0
    · rw [rd_out0 f st n _ hc hi.dig hm]
      by_cases hp : r.length = 0
      · have hr : r = [] := List.eq_nil_of_length_eq_zero hp
        subst hr
        have eg : grpT n ([] : Bs).length s = [] := by unfold grpT; rw [if_neg]; simp
        rw [eg, wrT, List.foldl_nil, List.foldl_nil]
        refine ⟨fun q h1 h2 => hi.done q h1 (by simp; omega), fun j hj => ?_⟩
        have hi1 := hi.here j hj (by simp)
        have hi2 := hi.rest j hj
        simp at hi1 hi2 hDc
        unfold pend
        by_cases h0 : n = 0
        · simp only [if_pos h0]
          rw [if_neg (by omega)]
          by_cases hj0 : j = 0
          · have h9 := hi2 hj0; rw [hj0] at h9 ⊢; rw [h9, hDc, h0]
          · exact hi1 (by omega)
        · simp only [if_neg h0]
          rw [if_pos (by omega)]
          by_cases hj0 : j = 0
          · rw [hj0, upd_same, hDc]; omega
          · rw [upd_other _ _ _ _ hj0]; exact hi1 (by omega)
      · have hr : r ≠ [] := fun e => hp (by rw [e]; rfl)
        have e1 : (r.length + 1 + 3) / 4 = r.length / 4 + 1 := by omega
        have e2 : (r.length + 3) / 4 = r.length / 4 := by omega
        have e3 : (r.length + 1) % 4 = 1 := by omega
        have e4 : (r.length + 1) / 4 = r.length / 4 := by omega
        have es : stepS n r.length s = false := by unfold stepS; rw [if_pos hm]
        rw [es]
        apply read_fold f D r false _ hr hDr hv' (by omega)
        by_cases hs : s = true ∨ n ≠ 0
        · have eg : grpT n r.length s = [gch (r.length / 4)] := by unfold grpT; rw [if_pos ⟨hm, hs, by omega⟩]
          rw [eg, List.foldl_cons, List.foldl_nil, rd_grp f _ _ (by omega) (by omega)]
          have hpend : ∀ j, j < 4 → pend st.now (if n = 0 then -1 else (n : Int)) j = D (4 * (r.length / 4) + j) := by
            intro j hj
            have hi1 := hi.here j hj
            have hi2 := hi.rest j hj
            rw [e3, e4] at hi1
            rw [e3] at hi2
            unfold pend
            by_cases h0 : n = 0
            · rw [if_pos h0, if_neg (by omega)]
              by_cases hj0 : j = 0
              · rw [hi2 (by omega), hj0, show 4 * (r.length / 4) + 0 = r.length by omega, hDc, h0]
              · exact hi1 (by omega) (by omega)
            · rw [if_neg h0, if_pos (by omega)]
              by_cases hj0 : j = 0
              · rw [hj0, upd_same, show 4 * (r.length / 4) + 0 = r.length by omega, hDc]; omega
              · rw [upd_other _ _ _ _ hj0]; exact hi1 (by omega) (by omega)
          refine ⟨rfl, fun q h1 h2 => ?_, fun j _ h _ => absurd hm h, fun j _ _ => rfl, fun q h1 h2 => ?_, fun _ _ _ => rfl⟩
          · show put4 _ _ _ q = D q
            unfold put4
            rw [e2] at h2
            split
            · rename_i hq
              rw [hpend (q % 4) (by omega), ← hq, show 4 * (q / 4) + q % 4 = q by omega]
            · rename_i hq
              exact hi.done q h1 (by rw [e1]; omega)
          · show put4 _ _ _ q = 0
            unfold put4
            rw [e2] at h2
            rw [if_neg (by omega)]
            exact hi.zero q h1 (by rw [e1]; omega)
        · have hs1 : s = false := by cases s <;> simp_all
          have h0 : n = 0 := by
            by_cases h : n = 0
            · exact h
            · exact absurd (Or.inr h) hs
          have eg : grpT n r.length s = [] := by unfold grpT; rw [if_neg (fun x => hs x.2.1)]
          rw [eg, List.foldl_nil, if_pos h0]
          have hz := hi.none hs1
          have hDz : ∀ j, j < 4 → D (4 * (r.length / 4) + j) = 0 := by
            intro j hj
            by_cases hj0 : j = 0
            · rw [hj0, show 4 * (r.length / 4) + 0 = r.length by omega, hDc, h0]
            · have hi1 := hi.here j hj
              rw [e3, e4] at hi1
              rw [← hi1 (by omega) (by omega)]; exact hz j hj
          refine ⟨rfl, fun q h1 h2 => ?_, fun j _ h _ => absurd hm h, fun j hj _ => hz j hj, fun q h1 h2 => ?_, fun _ j hj => hz j hj⟩
          · rw [e2] at h2
            by_cases hq : q / 4 = r.length / 4
            · rw [← show 4 * (q / 4) + q % 4 = q by omega, hq, hDz (q % 4) (by omega)]
              exact hi.zero _ (by omega) (by rw [e1]; omega)
            · exact hi.done q h1 (by rw [e1]; omega)
          · rw [e2] at h2
            exact hi.zero q h1 (by rw [e1]; omega)
    · have hr : r ≠ [] := fun e => hm (by rw [e]; rfl)
      rw [rd_out f st n _ hc hi.dig hm]
      have eg : grpT n r.length s = [] := by unfold grpT; rw [if_neg (fun x => hm x.1)]
      have es : stepS n r.length s = (s || decide (n ≠ 0)) := by unfold stepS; rw [if_neg hm]
      rw [eg, List.foldl_nil, es]
      apply read_fold f D r _ _ hr hDr hv' (by omega)
      have e1 : (r.length + 1 + 3) / 4 = (r.length + 3) / 4 := by omega
      refine ⟨rfl, fun q h1 h2 => hi.done q h1 (by rw [e1]; exact h2), fun j hj _ h2 => ?_, fun j hj h2 => ?_, fun q h1 h2 => hi.zero q h1 (by rw [e1]; exact h2), fun h2 j hj => ?_⟩
      · show (if n = 0 then st.now else upd st.now (r.length % 4) n) j = _
        by_cases hj0 : j = r.length % 4
        · have hd : D (4 * (r.length / 4) + j) = n := by rw [hj0, show 4 * (r.length / 4) + r.length % 4 = r.length by omega, hDc]
          rw [hd]
          by_cases h0 : n = 0
          · rw [if_pos h0, h0]; exact hi.rest j hj (by omega)
          · rw [if_neg h0, hj0, upd_same]
        · have hi1 := hi.here j hj
          have hh : st.now j = D (4 * (r.length / 4) + j) := by
            by_cases h4 : (r.length + 1) % 4 = 0
            · omega
            · rw [hi1 h4 (by omega), show (r.length + 1) / 4 = r.length / 4 by omega]
          split
          · exact hh
          · rw [upd_other _ _ _ _ hj0]; exact hh
      · show (if n = 0 then st.now else upd st.now (r.length % 4) n) j = 0
        have hj0 : j < r.length % 4 := by omega
        have hh : st.now j = 0 := hi.rest j hj (by omega)
        split
        · exact hh
        · rw [upd_other _ _ _ _ (by omega)]; exact hh
      · show (if n = 0 then st.now else upd st.now (r.length % 4) n) j = 0
        have h3 : s = false ∧ n = 0 := by
          cases s
          · simp at h2; exact ⟨rfl, h2⟩
          · simp at h2
        rw [if_pos h3.2]
        exact hi.none h3.1 j hj

/-- the digit at a place -/
def dv (l : Bs) (q : Nat) : Nat := if q < l.length then val (l.getD (l.length - 1 - q) 0) else 0
theorem dig_dv (l : Bs) : ∀ (r pre : Bs), l = pre ++ r → Dig (dv l) r
  | [], _, _ => trivial
  | c :: r, pre, h => by
    refine ⟨?_, dig_dv l r (pre ++ [c]) (by rw [h]; simp)⟩
    have hl : l.length = pre.length + (r.length + 1) := by rw [h, List.length_append, List.length_cons]
    unfold dv
    rw [if_pos (by omega), show l.length - 1 - r.length = pre.length by omega, h]
    simp [List.getD_eq_getElem?_getD]
theorem dv_lt (l : Bs) (hv : ∀ c ∈ l, val c < 10) (q : Nat) : dv l q < 10 := by
  unfold dv
  split
  · apply hv
    rw [List.getD_eq_getElem?_getD, List.getElem?_eq_getElem (by omega)]
    exact List.getElem_mem _
  · omega
theorem isD_val {c : UInt8} (h : isD c = true) : val c < 10 ∧ UInt8.ofNat (48 + val c) = c := by
  unfold isD at h
  rw [Bool.and_eq_true, decide_eq_true_iff, decide_eq_true_iff, UInt8.le_iff_toNat_le, UInt8.le_iff_toNat_le] at h
  have a : (48 : UInt8).toNat = 48 := rfl
  have b : (57 : UInt8).toNat = 57 := rfl
  unfold val
  refine ⟨by omega, ?_⟩
  rw [show 48 + (c.toNat - 48) = c.toNat by omega]
  exact UInt8.ofNat_toNat
/-- twenty places, the highest first -/
theorem twenty (l : Bs) (hl : l.length ≤ 20) (hd : l.all isD = true) : (List.range 20).map (fun i => UInt8.ofNat (48 + dv l (19 - i))) = List.replicate (20 - l.length) 48 ++ l := by
  apply List.ext_getElem?
  intro i
  rw [List.getElem?_map, List.getElem?_append, List.length_replicate]
  by_cases hi : i < 20
  · rw [List.getElem?_range hi]
    simp only [Option.map_some]
    by_cases h : i < 20 - l.length
    · rw [if_pos h, List.getElem?_replicate, if_pos h]
      unfold dv
      rw [if_neg (by omega)]
      rfl
    · rw [if_neg h]
      have hj : i - (20 - l.length) < l.length := by omega
      rw [List.getElem?_eq_getElem hj]
      unfold dv
      rw [if_pos (by omega), show l.length - 1 - (19 - i) = i - (20 - l.length) by omega, List.getD_eq_getElem?_getD, List.getElem?_eq_getElem hj]
      congr 1
      exact (isD_val (List.all_eq_true.1 hd _ (List.getElem_mem hj))).2
  · rw [List.getElem?_eq_none (by rw [List.length_range]; omega), if_neg (by omega), List.getElem?_eq_none (by omega)]
    rfl
theorem drop_rep (n : Nat) (l : Bs) (h : l.head? ≠ some 48) : (List.replicate n 48 ++ l).dropWhile (· == 48) = l := by
  induction n with
  | zero =>
    cases l with
    | nil => rfl
    | cons a r =>
      rw [List.replicate_zero, List.nil_append, List.dropWhile_cons]
      simp at h
      rw [if_neg (by simpa using h)]
  | succ n ih => rw [List.replicate_succ, List.cons_append, List.dropWhile_cons, if_pos (by rfl)]; exact ih
theorem inv_start (l : Bs) : Inv (dv l) l.length false rs0 := by
  have hz : ∀ q, l.length ≤ q → dv l q = 0 := fun q h => by unfold dv; rw [if_neg (by omega)]
  exact ⟨rfl, fun q _ h => (hz q (by omega)).symm, fun j hj h h2 => (hz _ (by omega)).symm, fun _ _ _ => rfl, fun _ _ _ => rfl, fun _ _ _ => rfl⟩
theorem valid_parts {l : Bs} (h : valid l = true) (h0 : (l == [48]) = false) : l ≠ [] ∧ l.length ≤ 20 ∧ l.all isD = true ∧ l.head? ≠ some 48 ∧ ∀ c ∈ l, val c < 10 := by
  rw [valid_iff] at h
  obtain ⟨a, b, c, d⟩ := h
  refine ⟨a, b, c, ?_, fun x hx => (isD_val (List.all_eq_true.1 c x hx)).1⟩
  rcases d with d | d
  · exact d
  · rw [d] at h0; simp at h0
/-- the program reads what is written for a number -/
theorem read_back (f : Bool) (l : Bs) (h : valid l = true) (h0 : (l == [48]) = false) : rdOut ((wrT f l false).foldl (rdStep f) rs0) = l := by
  obtain ⟨a, b, c, d, e⟩ := valid_parts h h0
  have hf := read_fold f (dv l) l false rs0 a (dig_dv l l [] rfl) e b (inv_start l)
  have hq : ∀ q, q < 20 → put4 ((wrT f l false).foldl (rdStep f) rs0).d (pend ((wrT f l false).foldl (rdStep f) rs0).now ((wrT f l false).foldl (rdStep f) rs0).dig) 0 q = dv l q := by
    intro q hq
    unfold put4
    split
    · rw [hf.low (q % 4) (by omega), show q % 4 = q by omega]
    · exact hf.high q hq (by omega)
  unfold rdOut
  have e1 : (List.range 20).map (fun i => UInt8.ofNat (48 + put4 ((wrT f l false).foldl (rdStep f) rs0).d (pend ((wrT f l false).foldl (rdStep f) rs0).now ((wrT f l false).foldl (rdStep f) rs0).dig) 0 (19 - i))) = (List.range 20).map (fun i => UInt8.ofNat (48 + dv l (19 - i))) := by
    apply List.map_congr_left
    intro i hi
    rw [hq (19 - i) (by omega)]
  rw [e1, twenty l b c, drop_rep _ _ d]
theorem toks_wr (f : Bool) (l : Bs) (h : valid l = true) (h0 : (l == [48]) = false) : Ru.toks (wr f l false) = wrT f l false := by
  obtain ⟨a, b, c, d, e⟩ := valid_parts h h0
  rw [← wrT_flat]
  exact Ru.toks_flat _ (wrT_tok f l false e b)

/-! ### the reference's machine -/
structure GS where
  d : Nat → Nat
  g : Nat
  u : Nat
def gsStep (st : GS) (t : Bs) : GS :=
  if 0 < ix grp t then ⟨st.d, 4 * (ix grp t).toNat, 0⟩
  else if 0 < max (ix unP t) (ix unF t) then ⟨if st.g + (max (ix unP t) (ix unF t)).toNat < 20 ∧ st.d (st.g + (max (ix unP t) (ix unF t)).toNat) = 0 then upd st.d (st.g + (max (ix unP t) (ix unF t)).toNat) 1 else st.d, st.g, (max (ix unP t) (ix unF t)).toNat⟩
  else if 0 < max (ix dgP t) (ix dgF t) ∧ st.g + st.u < 20 then ⟨upd st.d (st.g + st.u) (max (ix dgP t) (ix dgF t)).toNat, st.g, st.u⟩
  else st
def gs0 : GS := ⟨fun _ => 0, 0, 0⟩
def gsF : Nat → Bs → GS → GS
  | 0, _, st => st
  | n + 1, l, st => if l.length < 3 then st else gsF n (l.take (l.length - 3)) (gsStep st (l.drop (l.length - 3)))
/-- digits without leading zeros, one at least -/
def strip : Bs → Bs
  | [] => []
  | [c] => [c]
  | c :: d :: r => if c = 48 then strip (d :: r) else c :: d :: r
def gsOut (st : GS) : Bs := strip ((List.range 20).map fun i => UInt8.ofNat (48 + st.d (19 - i)))
def guess (l : Bs) : Bs := gsOut (gsF l.length l gs0)

theorem gs_dig (f : Bool) (st : GS) (n : Nat) (h0 : n ≠ 0) (h : n < 10) (hp : st.g + st.u < 20) : gsStep st (dch f n) = ⟨upd st.d (st.g + st.u) n, st.g, st.u⟩ := by
  have h1 : n = 1 ∨ n = 2 ∨ n = 3 ∨ n = 4 ∨ n = 5 ∨ n = 6 ∨ n = 7 ∨ n = 8 ∨ n = 9 := by omega
  have a : ix grp (dch f n) = -1 := by cases f <;> rcases h1 with rfl | rfl | rfl | rfl | rfl | rfl | rfl | rfl | rfl <;> decide
  have b : max (ix unP (dch f n)) (ix unF (dch f n)) = -1 := by cases f <;> rcases h1 with rfl | rfl | rfl | rfl | rfl | rfl | rfl | rfl | rfl <;> decide
  have c : max (ix dgP (dch f n)) (ix dgF (dch f n)) = n := by cases f <;> rcases h1 with rfl | rfl | rfl | rfl | rfl | rfl | rfl | rfl | rfl <;> decide
  unfold gsStep
  rw [a, b, c, if_neg (by omega), if_neg (by omega), if_pos ⟨by omega, hp⟩]
  rfl
theorem gs_unit (f : Bool) (st : GS) (k : Nat) (h0 : k ≠ 0) (h : k < 4) (hp : st.g + k < 20) (hz : st.d (st.g + k) = 0) : gsStep st (uch f k) = ⟨upd st.d (st.g + k) 1, st.g, k⟩ := by
  have h1 : k = 1 ∨ k = 2 ∨ k = 3 := by omega
  have a : ix grp (uch f k) = -1 := by cases f <;> rcases h1 with rfl | rfl | rfl <;> decide
  have b : max (ix unP (uch f k)) (ix unF (uch f k)) = k := by cases f <;> rcases h1 with rfl | rfl | rfl <;> decide
  unfold gsStep
  rw [a, b, if_neg (by omega), if_pos (by omega)]
  simp only [Int.toNat_natCast]
  rw [if_pos ⟨hp, hz⟩]
theorem gs_grp (st : GS) (g : Nat) (h0 : g ≠ 0) (h : g < 5) : gsStep st (gch g) = ⟨st.d, 4 * g, 0⟩ := by
  have h1 : g = 1 ∨ g = 2 ∨ g = 3 ∨ g = 4 := by omega
  have a : ix grp (gch g) = g := by rcases h1 with rfl | rfl | rfl | rfl <;> decide
  unfold gsStep
  rw [a, if_pos (by omega)]
  rfl

/-- something of the highest group of r that is not full is not zero -/
def Some' (r : Bs) : Prop := ∃ q, 4 * (r.length / 4) ≤ q ∧ q < r.length ∧ dv r q ≠ 0
structure GI (D : Nat → Nat) (r : Bs) (s : Bool) (st : GS) : Prop where
  low : ∀ q, q < r.length → st.d q = D q
  high : ∀ q, q < 20 → r.length ≤ q → st.d q = 0
  grp : r.length % 4 ≠ 0 → (s = true ∨ ∃ q, 4 * (r.length / 4) ≤ q ∧ q < r.length ∧ D q ≠ 0) → st.g = 4 * (r.length / 4)
  free : r.length < 4 → st.g = 0 ∧ (r.length = 0 → st.u = 0)

theorem gs_back (f : Bool) (D : Nat → Nat) : ∀ (r : Bs) (s : Bool), Dig D r → (∀ c ∈ r, val c < 10) → r.length ≤ 20 → GI D r s ((wrT f r s).reverse.foldl gsStep gs0)
  | [], _, _, _, _ => ⟨fun q h => by simp at h, fun _ _ _ => rfl, fun h => absurd rfl h, fun _ => ⟨rfl, fun _ => rfl⟩⟩
  | c :: r, s, hD, hv, hl => by
    obtain ⟨hDc, hDr⟩ := hD
    have hc := hv c (by simp)
    have hv' : ∀ x ∈ r, val x < 10 := fun x hx => hv x (by simp [hx])
    have hl' : r.length < 20 := by simp at hl; omega
    have ih := gs_back f D r (stepS (val c) r.length s) hDr hv' (by omega)
    generalize hn : val c = n at *
    rw [wrT, hn, List.reverse_append, List.reverse_append, List.foldl_append, List.foldl_append]
    generalize hst : (wrT f r (stepS n r.length s)).reverse.foldl gsStep gs0 = st at *
    by_cases hm : r.length % 4 = 0
    · have e4 : (r.length + 1) / 4 = r.length / 4 := by omega
      -- the group's token, if there is one
      have key : ∀ st1 : GS, st1.d = st.d → st1.u = 0 → (n ≠ 0 → st1.g = r.length) → (s = true → r.length / 4 ≠ 0 → st1.g = 4 * (r.length / 4)) → (r.length = 0 → st1.g = 0) → GI D (c :: r) s ((outT f n r.length).reverse.foldl gsStep st1) := by
        intro st1 h1 h2 h3 h4 h5
        unfold outT
        by_cases h0 : n = 0
        · rw [if_pos h0, List.reverse_nil, List.foldl_nil]
          refine ⟨fun q hq => ?_, fun q hq hq2 => ?_, fun _ hs => ?_, fun hq => ⟨h5 (by simp at hq; omega), fun hq2 => by simp at hq2⟩⟩
          · rw [h1]
            by_cases hq3 : q = r.length
            · rw [hq3, hDc, h0]; exact ih.high _ (by omega) (Nat.le_refl _)
            · exact ih.low q (by simp at hq; omega)
          · rw [h1]; exact ih.high q hq (by simp at hq2; omega)
          · rw [List.length_cons, e4] at hs ⊢
            rcases hs with hs | ⟨q, hq1, hq2, hq3⟩
            · by_cases hg : r.length / 4 = 0
              · rw [hg, h5 (by omega)]
              · exact h4 hs hg
            · have hq4 : q = r.length := by omega
              rw [hq4, hDc] at hq3
              exact absurd h0 hq3
        · rw [if_neg h0, if_pos hm, if_pos (Or.inr (Or.inr hm)), List.append_nil, List.reverse_singleton, List.foldl_cons, List.foldl_nil, gs_dig f st1 n h0 hc (by rw [h2, h3 h0]; omega)]
          rw [h1, h2, h3 h0, Nat.add_zero]
          refine ⟨fun q hq => ?_, fun q hq hq2 => ?_, fun _ _ => ?_, fun hq => ⟨?_, fun hq2 => by simp at hq2⟩⟩
          · show upd st.d r.length n q = D q
            by_cases hq3 : q = r.length
            · rw [hq3, upd_same, hDc]
            · rw [upd_other _ _ _ _ hq3]; exact ih.low q (by simp at hq; omega)
          · show upd st.d r.length n q = 0
            simp at hq2
            rw [upd_other _ _ _ _ (by omega)]
            exact ih.high q hq (by omega)
          · show r.length = _
            rw [List.length_cons, e4]; omega
          · show r.length = 0
            simp at hq; omega
      by_cases hg : r.length / 4 = 0
      · have hr0 : r.length = 0 := by omega
        have eg : grpT n r.length s = [] := by unfold grpT; rw [if_neg (fun x => x.2.2 hg)]
        rw [eg, List.reverse_nil, List.foldl_nil]
        have hfree := ih.free (by omega)
        exact key st rfl (hfree.2 hr0) (fun _ => by rw [hfree.1, hr0]) (fun _ h => absurd hg h) (fun _ => hfree.1)
      · by_cases hs : s = true ∨ n ≠ 0
        · have eg : grpT n r.length s = [gch (r.length / 4)] := by unfold grpT; rw [if_pos ⟨hm, hs, hg⟩]
          rw [eg, List.reverse_singleton, List.foldl_cons, List.foldl_nil, gs_grp _ _ hg (by omega)]
          exact key _ rfl rfl (fun _ => by show 4 * (r.length / 4) = r.length; omega) (fun _ _ => rfl) (fun h => by omega)
        · have eg : grpT n r.length s = [] := by unfold grpT; rw [if_neg (fun x => hs x.2.1)]
          have h0 : n = 0 := by
            by_cases h : n = 0
            · exact h
            · exact absurd (Or.inr h) hs
          have hs1 : s = false := by cases s <;> simp_all
          rw [eg, List.reverse_nil, List.foldl_nil]
          unfold outT
          rw [if_pos h0, List.reverse_nil, List.foldl_nil]
          refine ⟨fun q hq => ?_, fun q hq hq2 => ih.high q hq (by simp at hq2; omega), fun _ hs => ?_, fun hq => by simp at hq; omega⟩
          · by_cases hq3 : q = r.length
            · rw [hq3, hDc, h0]; exact ih.high _ (by omega) (Nat.le_refl _)
            · exact ih.low q (by simp at hq; omega)
          · rw [List.length_cons, e4] at hs
            rcases hs with hs | ⟨q, hq1, hq2, hq3⟩
            · rw [hs] at hs1; cases hs1
            · have hq4 : q = r.length := by omega
              rw [hq4, hDc] at hq3
              exact absurd h0 hq3
    · have eg : grpT n r.length s = [] := by unfold grpT; rw [if_neg (fun x => hm x.1)]
      have es : stepS n r.length s = (s || decide (n ≠ 0)) := by unfold stepS; rw [if_neg hm]
      rw [eg, List.reverse_nil, List.foldl_nil]
      rw [es] at ih
      have hmm : r.length % 4 < 4 := Nat.mod_lt _ (by decide)
      unfold outT
      by_cases h0 : n = 0
      · rw [if_pos h0, List.reverse_nil, List.foldl_nil]
        refine ⟨fun q hq => ?_, fun q hq hq2 => ih.high q hq (by simp at hq2; omega), fun h4 hs => ?_, fun hq => ⟨(ih.free (by simp at hq; omega)).1, fun hq2 => by simp at hq2⟩⟩
        · by_cases hq3 : q = r.length
          · rw [hq3, hDc, h0]; exact ih.high _ (by omega) (Nat.le_refl _)
          · exact ih.low q (by simp at hq; omega)
        · rw [List.length_cons] at h4 hs ⊢
          have e5 : (r.length + 1) / 4 = r.length / 4 := by omega
          rw [e5] at hs ⊢
          apply ih.grp hm
          rcases hs with hs | ⟨q, hq1, hq2, hq3⟩
          · left; simp [hs]
          · right
            refine ⟨q, hq1, ?_, hq3⟩
            by_cases hq4 : q = r.length
            · rw [hq4, hDc] at hq3; exact absurd h0 hq3
            · omega
      · have hg := ih.grp hm (Or.inl (by simp [h0]))
        have hz : st.d (st.g + r.length % 4) = 0 := by rw [hg]; exact ih.high _ (by omega) (by omega)
        have hpl : st.g + r.length % 4 = r.length := by rw [hg]; omega
        rw [if_neg h0, if_neg hm, List.reverse_append, List.reverse_singleton, List.foldl_append, List.foldl_cons, List.foldl_nil, gs_unit f st _ hm hmm (by rw [hpl]; exact hl') hz, hpl]
        have fin : GI D (c :: r) s ⟨upd st.d r.length n, st.g, r.length % 4⟩ := by
          refine ⟨fun q hq => ?_, fun q hq hq2 => ?_, fun h4 _ => ?_, fun hq => ⟨(ih.free (by simp at hq; omega)).1, fun hq2 => by simp at hq2⟩⟩
          · show upd st.d r.length n q = D q
            by_cases hq3 : q = r.length
            · rw [hq3, upd_same, hDc]
            · rw [upd_other _ _ _ _ hq3]; exact ih.low q (by simp at hq; omega)
          · show upd st.d r.length n q = 0
            simp at hq2
            rw [upd_other _ _ _ _ (by omega)]
            exact ih.high q hq (by omega)
          · show st.g = _
            rw [List.length_cons] at h4 ⊢
            rw [hg]; omega
        split
        · rw [List.reverse_singleton, List.foldl_cons, List.foldl_nil, gs_dig f _ n h0 hc (by show st.g + r.length % 4 < 20; rw [hpl]; exact hl')]
          show GI D (c :: r) s ⟨upd (upd st.d r.length 1) (st.g + r.length % 4) n, st.g, r.length % 4⟩
          rw [hpl]
          have eu : upd (upd st.d r.length 1) r.length n = upd st.d r.length n := by
            funext q
            unfold upd
            split <;> rfl
          rw [eu]
          exact fin
        · rename_i h2
          have h1 : n = 1 := by omega
          rw [List.reverse_nil, List.foldl_nil, ← h1]
          exact fin
end Num
end Go.Proofs.YtnpkcobapckhdaaGreatDoor
