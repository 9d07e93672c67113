/-
  Reading the writings of a day: the program's and the reference's way as plain functions; both find the day of each form. No condition.
-/
import Derived.Test.YtnpkcobapckhdaaGreatDoorCutMath
import Derived.Test.YtnpkcobapckhdaaGreatDoorCalMath
import Derived.Lib.Strings
namespace Go.Proofs.YtnpkcobapckhdaaGreatDoor
namespace CF
open Num (Bs digs isD val)

abbrev Tr := Option (Int × Int × Int)
/-- the day that three numbers are, if s is one of its forms with a year -/
def hit (s : Bs) (y m d : Int) : Option Int :=
  if Cal.ok y m d = true ∧ s ∈ withYear (Cal.num y m d).toNat y.toNat m.toNat d.toNat then some (Cal.num y m d) else none
def firstHit (s : Bs) : List Tr → Int × Bool
  | [] => (0, false)
  | none :: r => firstHit s r
  | some (y, m, d) :: r => match hit s y m d with
    | some n => (n, true)
    | none => firstHit s r
/-- the text without a weekday and without the last sign -/
def txt (s : Bs) : Bs := Lib.trimSuffix (Lib.cut s [40]).1 nichi
def reiwaL : Bs := [228, 187, 164, 229, 146, 140]
def heiseiL : Bs := [229, 185, 179, 230, 136, 144]
def showaL : Bs := [230, 152, 173, 229, 146, 140]
def taishoL : Bs := [229, 164, 167, 230, 173, 163]
def meijiL : Bs := [230, 152, 142, 230, 178, 187]
/-- the program's: the first era, from the newest, whose name begins the text -/
def eraCut (t : Bs) : Bs × Int :=
  if Lib.hasPrefix t reiwaL = true then (t.drop 6, 2019)
  else if Lib.hasPrefix t heiseiL = true then (t.drop 6, 1989)
  else if Lib.hasPrefix t showaL = true then (t.drop 6, 1926)
  else if Lib.hasPrefix t taishoL = true then (t.drop 6, 1912)
  else if Lib.hasPrefix t meijiL = true then (t.drop 6, 1868)
  else (t, 1)
def ptr (base : Int) (t s0 s1 : Bs) : Tr :=
  if (Lib.cut t s0).2.2 = true ∧ (Lib.cut (Lib.cut t s0).2.1 s1).2.2 = true then some (base + pnum (Lib.cut t s0).1 - 1, pnum (Lib.cut (Lib.cut t s0).2.1 s1).1, pnum (Lib.cut (Lib.cut t s0).2.1 s1).2.1) else none
def progCal (s : Bs) : Int × Bool :=
  firstHit s [ptr (eraCut (txt s)).2 (eraCut (txt s)).1 nen gatsu, ptr (eraCut (txt s)).2 (eraCut (txt s)).1 [47] [47], ptr (eraCut (txt s)).2 (eraCut (txt s)).1 [45] [45]]
/-- the reference's: each era in turn, from the oldest -/
def rera1 (x : Bs × Int) (e : Bs) (b : Int) : Bs × Int := if Lib.hasPrefix x.1 e = true then (x.1.drop 6, b) else x
def reraCut (t : Bs) : Bs × Int := rera1 (rera1 (rera1 (rera1 (rera1 (t, 0) meijiL 1867) taishoL 1911) showaL 1925) heiseiL 1988) reiwaL 2018
def rtr (add : Int) (t s0 s1 : Bs) : Tr :=
  if (Lib.cut t s0).2.2 = true ∧ (Lib.cut (Lib.cut t s0).2.1 s1).2.2 = true then some (rnum (Lib.cut t s0).1 + add, rnum (Lib.cut (Lib.cut t s0).2.1 s1).1, rnum (Lib.cut (Lib.cut t s0).2.1 s1).2.1) else none
def refCal (s : Bs) : Int × Bool :=
  firstHit s [rtr (reraCut (txt s)).2 (reraCut (txt s)).1 nen gatsu, rtr (reraCut (txt s)).2 (reraCut (txt s)).1 [47] [47], rtr (reraCut (txt s)).2 (reraCut (txt s)).1 [45] [45]]

/-! ### what is found is right -/
theorem hit_some {s : Bs} {y m d : Int} {n : Int} (h : hit s y m d = some n) : Cal.ok y m d = true ∧ n = Cal.num y m d ∧ s ∈ withYear n.toNat y.toNat m.toNat d.toNat := by
  unfold hit at h
  split at h
  · rename_i hh
    injection h with h
    subst h
    exact ⟨hh.1, rfl, hh.2⟩
  · cases h
/-- s is a form with a year of some day -/
def IsForm (s : Bs) (n : Int) : Prop := ∃ y m d : Int, Cal.ok y m d = true ∧ n = Cal.num y m d ∧ s ∈ withYear n.toNat y.toNat m.toNat d.toNat
theorem firstHit_sound (s : Bs) : ∀ l : List Tr, ((firstHit s l).2 = true → IsForm s (firstHit s l).1) ∧ ((firstHit s l).2 = false → (firstHit s l).1 = 0)
  | [] => ⟨(fun h => by cases h), fun _ => rfl⟩
  | none :: r => firstHit_sound s r
  | some (y, m, d) :: r => by
    have ih := firstHit_sound s r
    rw [firstHit]
    cases h : hit s y m d with
    | none => exact ih
    | some n => exact ⟨fun _ => ⟨y, m, d, hit_some h⟩, (fun h => by cases h)⟩
theorem firstHit_at (s : Bs) (y m d : Int) (h1 : Cal.ok y m d = true) (h2 : s ∈ withYear (Cal.num y m d).toNat y.toNat m.toNat d.toNat) (r : List Tr) : firstHit s (some (y, m, d) :: r) = (Cal.num y m d, true) := by
  rw [firstHit]
  unfold hit
  rw [if_pos ⟨h1, h2⟩]

/-! ### the pieces of a form -/
theorem trim_end (a : Bs) : Lib.trimSuffix (a ++ nichi) nichi = a := by
  unfold Lib.trimSuffix Lib.hasSuffix
  rw [if_pos (by rw [List.isSuffixOf_iff_suffix]; exact ⟨a, rfl⟩), List.length_append, Nat.add_sub_cancel, List.take_left]
theorem trim_not (a : Bs) (c : UInt8) (h : c ≠ 165) : Lib.trimSuffix (a ++ [c]) nichi = a ++ [c] := by
  unfold Lib.trimSuffix Lib.hasSuffix
  rw [if_neg]
  rw [List.isSuffixOf_iff_suffix]
  rintro ⟨t, ht⟩
  have := congrArg List.getLast? ht
  simp [nichi] at this
  exact h this.symm
theorem tk_nen : Tk nen := by unfold nen Tk; decide
theorem tk_gatsu : Tk gatsu := by unfold gatsu Tk; decide
theorem tk_nichi : Tk nichi := by unfold nichi Tk; decide
theorem tk_gan : Tk gan := by unfold gan Tk; decide
theorem tk_par : Tk [40] := by unfold Tk; decide
theorem tk_sl : Tk [47] := by unfold Tk; decide
theorem tk_mi : Tk [45] := by unfold Tk; decide
theorem dig_not {S : Bs} (h : ∀ n : Fin 10, [UInt8.ofNat (48 + n)] ≠ S) (c : UInt8) (hc : isD c = true) : [c] ≠ S := by
  obtain ⟨a, b⟩ := Num.isD_val hc
  have := h ⟨val c, a⟩
  rwa [b] at this
theorem free_digs {S : Bs} (h : ∀ n : Fin 10, [UInt8.ofNat (48 + n)] ≠ S) (n : Nat) (hn : n < 10000) : Free S (digs n) := free_dig (dig_not h) _ (Num.digs_all n hn)
theorem free_pad {S : Bs} (h : ∀ n : Fin 10, [UInt8.ofNat (48 + n)] ≠ S) (k n : Nat) (hn : n < 10000) : Free S (pad k n) := free_dig (dig_not h) _ (pad_all k n hn)
/-- a property of the tokens of a number's text -/
theorem wrT_all (P : Bs → Prop) (h1 : ∀ n : Fin 10, P (Num.dch false n)) (h2 : ∀ k : Fin 4, k.1 ≠ 0 → P (Num.uch false k)) (h3 : ∀ g : Fin 5, g.1 ≠ 0 → P (Num.gch g)) :
    ∀ (l : Bs) (s : Bool), (∀ c ∈ l, val c < 10) → l.length ≤ 20 → ∀ t ∈ Num.wrT false l s, P t
  | [], _, _, _, t, ht => by simp [Num.wrT] at ht
  | c :: r, s, hv, hl, t, ht => by
    have hc := hv c (by simp)
    rw [List.length_cons] at hl
    rw [Num.wrT] at ht
    rcases List.mem_append.1 ht with ht | ht
    · rcases List.mem_append.1 ht with ht | ht
      · unfold Num.outT at ht
        split at ht
        · simp at ht
        · rcases List.mem_append.1 ht with ht | ht
          · split at ht
            · simp at ht; subst ht; exact h1 ⟨val c, hc⟩
            · simp at ht
          · split at ht
            · simp at ht
            · rename_i hp
              simp at ht; subst ht; exact h2 ⟨r.length % 4, by omega⟩ hp
      · unfold Num.grpT at ht
        split at ht
        · rename_i hp
          simp at ht; subst ht; exact h3 ⟨r.length / 4, by omega⟩ hp.2.2
        · simp at ht
    · exact wrT_all P h1 h2 h3 r _ (fun x hx => hv x (by simp [hx])) (by omega) t ht
theorem tok3_tk {t : Bs} (h : Ru.tok3 t = true) : Tk t := by
  unfold Ru.tok3 at h
  split at h
  · rename_i a b c
    simp only [Bool.and_eq_true, beq_iff_eq] at h
    obtain ⟨⟨⟨⟨⟨h1, h2⟩, h3⟩, _⟩, _⟩, _⟩ := h
    show 224 ≤ a.toNat ∧ 128 ≤ b.toNat ∧ b.toNat < 192 ∧ 128 ≤ c.toNat ∧ c.toNat < 192
    omega
  · cases h
theorem free_kan {S : Bs} (h1 : ∀ n : Fin 10, Num.dch false n ≠ S) (h2 : ∀ k : Fin 4, k.1 ≠ 0 → Num.uch false k ≠ S) (h3 : ∀ g : Fin 5, g.1 ≠ 0 → Num.gch g ≠ S) (n : Nat) (hn : n < 10000) (h0 : n ≠ 0) : Free S (kan n) := by
  have hv := Num.digs_valid n hn
  have hz : (digs n == [48]) = false := by rw [Num.digs_zero n hn]; exact decide_eq_false h0
  obtain ⟨_, b, _, _, e⟩ := Num.valid_parts hv hz
  refine ⟨Num.wrT false (digs n) false, ?_, ?_⟩
  · rw [Num.wrT_flat]; unfold kan; rw [Num.writ_long false _ hz]
  · intro t ht
    exact ⟨tok3_tk (Num.wrT_tok false (digs n) false e b t ht), wrT_all (fun t => t ≠ S) h1 h2 h3 (digs n) false e b t ht⟩
theorem kan_nil (n : Nat) (hn : n < 10000) : kan n ≠ [] := by
  intro e
  obtain ⟨c, hc, _⟩ := first_big false (digs n) (Num.digs_valid n hn)
  have : kan n = Num.writ false (digs n) := rfl
  rw [← this, e] at hc
  cases hc
theorem digs_nil (n : Nat) : digs n ≠ [] := by intro e; have := Num.digs_len n; rw [e] at this; simp at this
/-- no era's name begins here -/
theorem no_era {S a : Bs} (S' r : Bs) (h : Free S a) (hS : Tk S) (h0 : a ≠ []) : Lib.hasPrefix (a ++ r) (S ++ S') = false := by
  obtain ⟨T, rfl, hT⟩ := h
  have hp : 0 < T.flatten.length := by cases e : T.flatten with | nil => exact absurd e h0 | cons _ _ => simp
  have := tks_pre S hS T r hT 0 hp
  rw [List.drop_zero] at this
  unfold Lib.hasPrefix
  cases e : (S ++ S').isPrefixOf (T.flatten ++ r) with
  | false => rfl
  | true =>
    rw [List.isPrefixOf_iff_prefix] at e
    have h2 : S.isPrefixOf (T.flatten ++ r) = true := by
      rw [List.isPrefixOf_iff_prefix]
      obtain ⟨t, ht⟩ := e
      exact ⟨S' ++ t, by rw [← ht, List.append_assoc]⟩
    rw [h2] at this
    cases this

/-! ### each form is found -/
/-- a text that no era's name begins -/
def NoEra (t : Bs) : Prop := Lib.hasPrefix t reiwaL = false ∧ Lib.hasPrefix t heiseiL = false ∧ Lib.hasPrefix t showaL = false ∧ Lib.hasPrefix t taishoL = false ∧ Lib.hasPrefix t meijiL = false
def FreeE (a : Bs) : Prop := Free [228, 187, 164] a ∧ Free [229, 185, 179] a ∧ Free [230, 152, 173] a ∧ Free [229, 164, 167] a ∧ Free [230, 152, 142] a
theorem noEra_of {a : Bs} (r : Bs) (h : FreeE a) (h0 : a ≠ []) : NoEra (a ++ r) :=
  ⟨no_era [229, 146, 140] r h.1 (by unfold Tk; decide) h0, no_era [230, 136, 144] r h.2.1 (by unfold Tk; decide) h0, no_era [229, 146, 140] r h.2.2.1 (by unfold Tk; decide) h0, no_era [230, 173, 163] r h.2.2.2.1 (by unfold Tk; decide) h0, no_era [230, 178, 187] r h.2.2.2.2 (by unfold Tk; decide) h0⟩
theorem eraCut_none {t : Bs} (h : NoEra t) : eraCut t = (t, 1) := by
  unfold eraCut
  rw [h.1, h.2.1, h.2.2.1, h.2.2.2.1, h.2.2.2.2]
  rfl
theorem rera1_no {t e : Bs} {b b2 : Int} (h : Lib.hasPrefix t e = false) : rera1 (t, b) e b2 = (t, b) := by
  unfold rera1; rw [h]; rfl
theorem rera1_yes {t e : Bs} {b b2 : Int} (h : Lib.hasPrefix t e = true) : rera1 (t, b) e b2 = (t.drop 6, b2) := by
  unfold rera1; rw [h]; rfl
theorem reraCut_none {t : Bs} (h : NoEra t) : reraCut t = (t, 0) := by
  unfold reraCut
  rw [rera1_no h.2.2.2.2, rera1_no h.2.2.2.1, rera1_no h.2.2.1, rera1_no h.2.1, rera1_no h.1]
theorem pre_self (e r : Bs) : Lib.hasPrefix (e ++ r) e = true := by
  unfold Lib.hasPrefix
  rw [List.isPrefixOf_iff_prefix]; exact ⟨r, rfl⟩
theorem era_cuts {e : Bs} {b n : Nat} (h : era n = some (e, b)) (t : Bs) (ht : NoEra t) : eraCut (e ++ t) = (t, (b : Int) + 1) ∧ reraCut (e ++ t) = (t, (b : Int)) := by
  unfold era at h
  have hd : ∀ x : Bs, x.length = 6 → (x ++ t).drop 6 = t := fun x hx => by rw [← hx, List.drop_left]
  split at h
  · injection h with h; injection h with h1 h2; subst h1; subst h2
    have p5 := pre_self reiwaL t
    have q1 : Lib.hasPrefix (reiwaL ++ t) meijiL = false := rfl
    have q2 : Lib.hasPrefix (reiwaL ++ t) taishoL = false := rfl
    have q3 : Lib.hasPrefix (reiwaL ++ t) showaL = false := rfl
    have q4 : Lib.hasPrefix (reiwaL ++ t) heiseiL = false := rfl
    have d := hd reiwaL rfl
    refine ⟨?_, ?_⟩
    · show eraCut (reiwaL ++ t) = _
      unfold eraCut; rw [p5, if_pos rfl, d]; rfl
    · show reraCut (reiwaL ++ t) = _
      unfold reraCut; rw [rera1_no q1, rera1_no q2, rera1_no q3, rera1_no q4, rera1_yes p5, d]; rfl
  · split at h
    · injection h with h; injection h with h1 h2; subst h1; subst h2
      have p5 := pre_self heiseiL t
      have q1 : Lib.hasPrefix (heiseiL ++ t) meijiL = false := rfl
      have q2 : Lib.hasPrefix (heiseiL ++ t) taishoL = false := rfl
      have q3 : Lib.hasPrefix (heiseiL ++ t) showaL = false := rfl
      have q4 : Lib.hasPrefix (heiseiL ++ t) reiwaL = false := rfl
      have d := hd heiseiL rfl
      refine ⟨?_, ?_⟩
      · show eraCut (heiseiL ++ t) = _
        unfold eraCut; rw [q4, if_neg (by simp), p5, if_pos rfl, d]; rfl
      · show reraCut (heiseiL ++ t) = _
        unfold reraCut; rw [rera1_no q1, rera1_no q2, rera1_no q3, rera1_yes p5, d, rera1_no ht.1]; rfl
    · split at h
      · injection h with h; injection h with h1 h2; subst h1; subst h2
        have p5 := pre_self showaL t
        have q1 : Lib.hasPrefix (showaL ++ t) meijiL = false := rfl
        have q2 : Lib.hasPrefix (showaL ++ t) taishoL = false := rfl
        have q3 : Lib.hasPrefix (showaL ++ t) heiseiL = false := rfl
        have q4 : Lib.hasPrefix (showaL ++ t) reiwaL = false := rfl
        have d := hd showaL rfl
        refine ⟨?_, ?_⟩
        · show eraCut (showaL ++ t) = _
          unfold eraCut; rw [q4, if_neg (by simp), q3, if_neg (by simp), p5, if_pos rfl, d]; rfl
        · show reraCut (showaL ++ t) = _
          unfold reraCut; rw [rera1_no q1, rera1_no q2, rera1_yes p5, d, rera1_no ht.2.1, rera1_no ht.1]; rfl
      · split at h
        · injection h with h; injection h with h1 h2; subst h1; subst h2
          have p5 := pre_self taishoL t
          have q1 : Lib.hasPrefix (taishoL ++ t) meijiL = false := rfl
          have q2 : Lib.hasPrefix (taishoL ++ t) showaL = false := rfl
          have q3 : Lib.hasPrefix (taishoL ++ t) heiseiL = false := rfl
          have q4 : Lib.hasPrefix (taishoL ++ t) reiwaL = false := rfl
          have d := hd taishoL rfl
          refine ⟨?_, ?_⟩
          · show eraCut (taishoL ++ t) = _
            unfold eraCut; rw [q4, if_neg (by simp), q3, if_neg (by simp), q2, if_neg (by simp), p5, if_pos rfl, d]; rfl
          · show reraCut (taishoL ++ t) = _
            unfold reraCut; rw [rera1_no q1, rera1_yes p5, d, rera1_no ht.2.2.1, rera1_no ht.2.1, rera1_no ht.1]; rfl
        · split at h
          · injection h with h; injection h with h1 h2; subst h1; subst h2
            have p5 := pre_self meijiL t
            have q1 : Lib.hasPrefix (meijiL ++ t) taishoL = false := rfl
            have q2 : Lib.hasPrefix (meijiL ++ t) showaL = false := rfl
            have q3 : Lib.hasPrefix (meijiL ++ t) heiseiL = false := rfl
            have q4 : Lib.hasPrefix (meijiL ++ t) reiwaL = false := rfl
            have d := hd meijiL rfl
            refine ⟨?_, ?_⟩
            · show eraCut (meijiL ++ t) = _
              unfold eraCut; rw [q4, if_neg (by simp), q3, if_neg (by simp), q2, if_neg (by simp), q1, if_neg (by simp), p5, if_pos rfl, d]; rfl
            · show reraCut (meijiL ++ t) = _
              unfold reraCut; rw [rera1_yes p5, d, rera1_no ht.2.2.2.1, rera1_no ht.2.2.1, rera1_no ht.2.1, rera1_no ht.1]; rfl
          · cases h
/-- three numbers between 年 and 月 -/
theorem tr_kanji (base add : Int) (A B D : Bs) (y m d : Nat) (hA : Free nen A) (hB : Free gatsu B) (pA : pnum A = y) (pB : pnum B = m) (pD : pnum D = d) (rA : rnum A = y) (rB : rnum B = m) (rD : rnum D = d) :
    ptr base (A ++ (nen ++ (B ++ (gatsu ++ D)))) nen gatsu = some (base + y - 1, (m : Int), (d : Int)) ∧ rtr add (A ++ (nen ++ (B ++ (gatsu ++ D)))) nen gatsu = some ((y : Int) + add, (m : Int), (d : Int)) := by
  have c1 := hA.cut tk_nen (B ++ (gatsu ++ D))
  have c2 := hB.cut tk_gatsu D
  unfold ptr rtr
  rw [c1]
  dsimp only
  rw [c2]
  dsimp only
  rw [if_pos ⟨rfl, rfl⟩, if_pos ⟨rfl, rfl⟩, pA, pB, pD, rA, rB, rD]
  exact ⟨rfl, rfl⟩
theorem tr_sep (S : Bs) (hS : Tk S) (base add : Int) (A B D : Bs) (y m d : Nat) (hA : Free S A) (hB : Free S B) (pA : pnum A = y) (pB : pnum B = m) (pD : pnum D = d) (rA : rnum A = y) (rB : rnum B = m) (rD : rnum D = d) :
    ptr base (A ++ (S ++ (B ++ (S ++ D)))) S S = some (base + y - 1, (m : Int), (d : Int)) ∧ rtr add (A ++ (S ++ (B ++ (S ++ D)))) S S = some ((y : Int) + add, (m : Int), (d : Int)) := by
  have c1 := hA.cut hS (B ++ (S ++ D))
  have c2 := hB.cut hS D
  unfold ptr rtr
  rw [c1]
  dsimp only
  rw [c2]
  dsimp only
  rw [if_pos ⟨rfl, rfl⟩, if_pos ⟨rfl, rfl⟩, pA, pB, pD, rA, rB, rD]
  exact ⟨rfl, rfl⟩
theorem tr_none {S : Bs} (hS : Tk S) (S1 : Bs) (base add : Int) {t : Bs} (h : Free S t) : ptr base t S S1 = none ∧ rtr add t S S1 = none := by
  have c := h.cut_none hS
  unfold ptr rtr
  rw [c]
  exact ⟨if_neg (fun h => by cases h.1), if_neg (fun h => by cases h.1)⟩
theorem nz (S : Bs) (h : S = nen ∨ S = gatsu ∨ S = [40] ∨ S = [47] ∨ S = [45] ∨ S = [228, 187, 164] ∨ S = [229, 185, 179] ∨ S = [230, 152, 173] ∨ S = [229, 164, 167] ∨ S = [230, 152, 142]) :
    (∀ n : Fin 10, [UInt8.ofNat (48 + n)] ≠ S) ∧ (∀ n : Fin 10, Num.dch false n ≠ S) ∧ (∀ k : Fin 4, k.1 ≠ 0 → Num.uch false k ≠ S) ∧ (∀ g : Fin 5, g.1 ≠ 0 → Num.gch g ≠ S) ∧ gan ≠ S ∧ nichi ≠ S := by
  rcases h with rfl | rfl | rfl | rfl | rfl | rfl | rfl | rfl | rfl | rfl <;> decide
theorem close1 {s T0 t : Bs} {b0 a0 y m d : Int} (h1 : txt s = T0) (h2 : eraCut T0 = (t, b0)) (h3 : reraCut T0 = (t, a0)) (hok : Cal.ok y m d = true) (hs : s ∈ withYear (Cal.num y m d).toNat y.toNat m.toNat d.toNat)
    (hp : ptr b0 t nen gatsu = some (y, m, d)) (hr : rtr a0 t nen gatsu = some (y, m, d)) : progCal s = (Cal.num y m d, true) ∧ refCal s = (Cal.num y m d, true) := by
  unfold progCal refCal
  rw [h1, h2, h3]
  dsimp only
  rw [hp, hr]
  exact ⟨firstHit_at s y m d hok hs _, firstHit_at s y m d hok hs _⟩
theorem close2 {s T0 t : Bs} {b0 a0 y m d : Int} (h1 : txt s = T0) (h2 : eraCut T0 = (t, b0)) (h3 : reraCut T0 = (t, a0)) (hok : Cal.ok y m d = true) (hs : s ∈ withYear (Cal.num y m d).toNat y.toNat m.toNat d.toNat)
    (n1 : Free nen t) (hp : ptr b0 t [47] [47] = some (y, m, d)) (hr : rtr a0 t [47] [47] = some (y, m, d)) : progCal s = (Cal.num y m d, true) ∧ refCal s = (Cal.num y m d, true) := by
  have q := tr_none tk_nen gatsu b0 a0 n1
  unfold progCal refCal
  rw [h1, h2, h3]
  dsimp only
  rw [q.1, q.2, hp, hr]
  exact ⟨firstHit_at s y m d hok hs _, firstHit_at s y m d hok hs _⟩
theorem close3 {s T0 t : Bs} {b0 a0 y m d : Int} (h1 : txt s = T0) (h2 : eraCut T0 = (t, b0)) (h3 : reraCut T0 = (t, a0)) (hok : Cal.ok y m d = true) (hs : s ∈ withYear (Cal.num y m d).toNat y.toNat m.toNat d.toNat)
    (n1 : Free nen t) (n2 : Free [47] t) (hp : ptr b0 t [45] [45] = some (y, m, d)) (hr : rtr a0 t [45] [45] = some (y, m, d)) : progCal s = (Cal.num y m d, true) ∧ refCal s = (Cal.num y m d, true) := by
  have q := tr_none tk_nen gatsu b0 a0 n1
  have q2 := tr_none tk_sl [47] b0 a0 n2
  unfold progCal refCal
  rw [h1, h2, h3]
  dsimp only
  rw [q.1, q.2, q2.1, q2.2, hp, hr]
  exact ⟨firstHit_at s y m d hok hs _, firstHit_at s y m d hok hs _⟩
theorem last_dig {l : Bs} (h : l.all isD = true) (h0 : l ≠ []) : ∃ a c, l = a ++ [c] ∧ c ≠ 165 := by
  refine ⟨l.dropLast, l.getLast h0, (List.dropLast_concat_getLast h0).symm, ?_⟩
  have := List.all_eq_true.1 h _ (List.getLast_mem h0)
  intro e
  rw [e] at this
  exact absurd this (by decide)
theorem era_year {e : Bs} {b : Nat} {y m d : Int} (hok : Cal.ok y m d = true) (h : era (Cal.num y m d).toNat = some (e, b)) : (b : Int) + 1 ≤ y := by
  have a := Cal.num_year y m d hok
  have key : ∀ B : Int, y ≤ B → Cal.num y m d ≤ Cal.st (B + 1) := fun B hB => Int.le_trans a.2 (Cal.st_mono _ _ (by omega))
  have s1 : Cal.st (2018 + 1) = 737059 := by decide
  have s2 : Cal.st (1988 + 1) = 726102 := by decide
  have s3 : Cal.st (1925 + 1) = 703091 := by decide
  have s4 : Cal.st (1911 + 1) = 697977 := by decide
  have s5 : Cal.st (1867 + 1) = 681907 := by decide
  have k1 := key 2018
  have k2 := key 1988
  have k3 := key 1925
  have k4 := key 1911
  have k5 := key 1867
  unfold era at h
  split at h
  · injection h with h; injection h with _ h2; subst h2; omega
  · split at h
    · injection h with h; injection h with _ h2; subst h2; omega
    · split at h
      · injection h with h; injection h with _ h2; subst h2; omega
      · split at h
        · injection h with h; injection h with _ h2; subst h2; omega
        · split at h
          · injection h with h; injection h with _ h2; subst h2; omega
          · cases h
theorem freeE_of {a : Bs} (f : ∀ S : Bs, (S = nen ∨ S = gatsu ∨ S = [40] ∨ S = [47] ∨ S = [45] ∨ S = [228, 187, 164] ∨ S = [229, 185, 179] ∨ S = [230, 152, 173] ∨ S = [229, 164, 167] ∨ S = [230, 152, 142]) → Free S a) : FreeE a :=
  ⟨f _ (by simp), f _ (by simp), f _ (by simp), f _ (by simp), f _ (by simp)⟩
/-- free of every separator and every era's beginning -/
def FreeAll (a : Bs) : Prop := ∀ S : Bs, (S = nen ∨ S = gatsu ∨ S = [40] ∨ S = [47] ∨ S = [45] ∨ S = [228, 187, 164] ∨ S = [229, 185, 179] ∨ S = [230, 152, 173] ∨ S = [229, 164, 167] ∨ S = [230, 152, 142]) → Free S a
theorem all_digs (n : Nat) (h : n < 10000) : FreeAll (digs n) := fun S hS => free_digs (nz S hS).1 n h
theorem all_pad (k n : Nat) (h : n < 10000) : FreeAll (pad k n) := fun S hS => free_pad (nz S hS).1 k n h
theorem all_gan : FreeAll gan := fun S hS => Free.one tk_gan (nz S hS).2.2.2.2.1
theorem all_kan (n : Nat) (h : n < 10000) (h0 : n ≠ 0) : FreeAll (kan n) := fun S hS => free_kan (nz S hS).2.1 (nz S hS).2.2.1 (nz S hS).2.2.2.1 n h h0
theorem all_yearA (k : Nat) (h : k < 10000) : FreeAll (yearA k) := by unfold yearA; split; exact all_gan; exact all_digs k h
theorem all_yearB (k : Nat) (h : k < 10000) (h0 : k ≠ 0) : FreeAll (yearB k) := by unfold yearB; split; exact all_gan; exact all_kan k h h0
theorem num_yearA (k : Nat) (h : k < 10000) : pnum (yearA k) = k ∧ rnum (yearA k) = k := by
  unfold yearA
  split
  · rename_i e; subst e; exact ⟨pnum_gan, rnum_gan⟩
  · have hd := Num.digs_len k
    exact ⟨by rw [pnum_dig _ (Num.digs_all k h) (digs_nil k) (by omega) (by rw [dval_digs k h]; omega), dval_digs k h], by rw [rnum_dig _ (Num.digs_all k h) (digs_nil k) (by omega), dval_digs k h]⟩
theorem num_yearB (k : Nat) (h : k < 10000) : pnum (yearB k) = k ∧ rnum (yearB k) = k := by
  unfold yearB
  split
  · rename_i e; subst e; exact ⟨pnum_gan, rnum_gan⟩
  · exact ⟨pnum_kan k h, rnum_kan k h⟩
theorem num_digs (n : Nat) (h : n < 10000) : pnum (digs n) = n ∧ rnum (digs n) = n := by
  have hd := Num.digs_len n
  exact ⟨by rw [pnum_dig _ (Num.digs_all n h) (digs_nil n) (by omega) (by rw [dval_digs n h]; omega), dval_digs n h], by rw [rnum_dig _ (Num.digs_all n h) (digs_nil n) (by omega), dval_digs n h]⟩
theorem num_pad (k n : Nat) (hk : k ≤ 4) (h : n < 10000) : pnum (pad k n) = n ∧ rnum (pad k n) = n := by
  have hd := pad_size k n hk
  have h0 : pad k n ≠ [] := by intro e; rw [e] at hd; simp at hd
  exact ⟨by rw [pnum_dig _ (pad_all k n h) h0 (by omega) (by rw [dval_pad k n h]; omega), dval_pad k n h], by rw [rnum_dig _ (pad_all k n h) h0 (by omega), dval_pad k n h]⟩
theorem yearA_nil (k : Nat) : yearA k ≠ [] := by unfold yearA; split; decide; exact digs_nil k
theorem yearB_nil (k : Nat) (h : k < 10000) : yearB k ≠ [] := by unfold yearB; split; decide; exact kan_nil k h

/-- a text A 年 B 月 D, of the three numbers, an era's name before it or not: found -/
theorem find_kanji (s pre A B D : Bs) (y m d : Nat) (base add : Int) (k : Nat) (hok : Cal.ok y m d = true) (hs : s ∈ withYear (Cal.num y m d).toNat y m d)
    (fA : FreeAll A) (fB : FreeAll B) (hA0 : A ≠ []) (pA : pnum A = k ∧ rnum A = k) (pB : pnum B = m ∧ rnum B = m) (pD : pnum D = d ∧ rnum D = d)
    (ht : txt s = pre ++ (A ++ (nen ++ (B ++ (gatsu ++ D)))))
    (hc : ∀ t, NoEra t → eraCut (pre ++ t) = (t, base) ∧ reraCut (pre ++ t) = (t, add)) (hb : base + k - 1 = y) (ha : (k : Int) + add = y) :
    progCal s = (Cal.num y m d, true) ∧ refCal s = (Cal.num y m d, true) := by
  have hne : NoEra (A ++ (nen ++ (B ++ (gatsu ++ D)))) := noEra_of _ (freeE_of fA) hA0
  have e := hc _ hne
  have tr := tr_kanji base add A B D k m d (fA nen (by simp)) (fB gatsu (by simp)) pA.1 pB.1 pD.1 pA.2 pB.2 pD.2
  rw [hb, ha] at tr
  exact close1 ht e.1 e.2 hok (by simpa using hs) tr.1 tr.2
theorem txt_end (a : Bs) (h : Free [40] (a ++ nichi)) : txt (a ++ nichi) = a := by
  unfold txt
  rw [h.cut_none tk_par]
  exact trim_end a
theorem both_find (s : Bs) (y m d : Nat) (hok : Cal.ok y m d = true) (hs : s ∈ withYear (Cal.num y m d).toNat y m d) :
    progCal s = (Cal.num y m d, true) ∧ refCal s = (Cal.num y m d, true) := by
  have hk := (Cal.ok_iff y m d).1 hok
  have hl := Cal.mlen_bd y m
  have hy : y < 10000 := by omega
  have hm : m < 10000 := by omega
  have hd : d < 10000 := by omega
  have hm0 : m ≠ 0 := by omega
  have hd0 : d ≠ 0 := by omega
  have none0 : ∀ t, NoEra t → eraCut ([] ++ t) = (t, 1) ∧ reraCut ([] ++ t) = (t, 0) := fun t ht => ⟨eraCut_none ht, reraCut_none ht⟩
  have hs0 := hs
  have fN : Free [40] nen := Free.one tk_nen (by decide)
  have fG : Free [40] gatsu := Free.one tk_gatsu (by decide)
  have fI : Free [40] nichi := Free.one tk_nichi (by decide)
  have eY : ∀ a b c e f : Bs, a ++ b ++ (c ++ gatsu ++ e ++ f) = (a ++ (b ++ (c ++ (gatsu ++ e)))) ++ f := fun a b c e f => by simp only [List.append_assoc]
  unfold withYear at hs
  rcases List.mem_append.1 hs with hs | hs
  · simp only [List.mem_cons, List.not_mem_nil, or_false] at hs
    rcases hs with hs | hs | hs | hs
    · refine find_kanji s [] (digs y) (digs m) (digs d) y m d 1 0 y hok hs0 (all_digs y hy) (all_digs m hm) (digs_nil y) (num_digs y hy) (num_digs m hm) (num_digs d hd) ?_ none0 (by omega) (by omega)
      have e : s = (digs y ++ (nen ++ (digs m ++ (gatsu ++ digs d)))) ++ nichi := by rw [hs]; exact eY _ _ _ _ _
      rw [e]
      exact txt_end _ (((all_digs y hy [40] (by simp)).append (fN.append ((all_digs m hm [40] (by simp)).append (fG.append (all_digs d hd [40] (by simp)))))).append fI)
    · refine find_kanji s [] (digs y) (digs m) (digs d) y m d 1 0 y hok hs0 (all_digs y hy) (all_digs m hm) (digs_nil y) (num_digs y hy) (num_digs m hm) (num_digs d hd) ?_ none0 (by omega) (by omega)
      have e : s = ((digs y ++ (nen ++ (digs m ++ (gatsu ++ digs d)))) ++ nichi) ++ ([40] ++ (wd ((Cal.num y m d).toNat % 7) ++ [41])) := by
        rw [hs]; unfold form2 short; simp only [List.append_assoc]
      have f : Free [40] ((digs y ++ (nen ++ (digs m ++ (gatsu ++ digs d)))) ++ nichi) := ((all_digs y hy [40] (by simp)).append (fN.append ((all_digs m hm [40] (by simp)).append (fG.append (all_digs d hd [40] (by simp)))))).append fI
      unfold txt
      rw [e, f.cut tk_par]
      exact trim_end _
    · have e : s = pad 4 y ++ ([47] ++ (pad 2 m ++ ([47] ++ pad 2 d))) := by rw [hs]; unfold form3; simp only [List.append_assoc]
      have f : ∀ S : Bs, (S = nen ∨ S = [40]) → Free S s := by
        intro S hS
        have hS2 : S = nen ∨ S = gatsu ∨ S = [40] ∨ S = [47] ∨ S = [45] ∨ S = [228, 187, 164] ∨ S = [229, 185, 179] ∨ S = [230, 152, 173] ∨ S = [229, 164, 167] ∨ S = [230, 152, 142] := by rcases hS with h | h <;> simp [h]
        have f47 : Free S [47] := Free.one tk_sl (by rcases hS with rfl | rfl <;> decide)
        rw [e]
        exact (all_pad 4 y hy S hS2).append (f47.append ((all_pad 2 m hm S hS2).append (f47.append (all_pad 2 d hd S hS2))))
      have hp := pad_size 2 d (by omega)
      have hp4 := pad_size 4 y (by omega)
      obtain ⟨a, c, hac, hc⟩ := last_dig (pad_all 2 d hd) (by intro e; rw [e] at hp; simp at hp)
      have ht : txt s = s := by
        unfold txt
        rw [(f [40] (by simp)).cut_none tk_par]
        have : s = (pad 4 y ++ ([47] ++ (pad 2 m ++ ([47] ++ a)))) ++ [c] := by rw [e, hac]; simp only [List.append_assoc]
        rw [this]
        exact trim_not _ c hc
      have hne : NoEra s := by rw [e]; exact noEra_of _ (freeE_of (all_pad 4 y hy)) (by intro e; rw [e] at hp4; simp at hp4)
      have tr := tr_sep [47] tk_sl 1 0 (pad 4 y) (pad 2 m) (pad 2 d) y m d (all_pad 4 y hy [47] (by simp)) (all_pad 2 m hm [47] (by simp)) (num_pad 4 y (by omega) hy).1 (num_pad 2 m (by omega) hm).1 (num_pad 2 d (by omega) hd).1 (num_pad 4 y (by omega) hy).2 (num_pad 2 m (by omega) hm).2 (num_pad 2 d (by omega) hd).2
      rw [← e, show (1 : Int) + (y : Int) - 1 = (y : Int) by omega, show (y : Int) + 0 = (y : Int) by omega] at tr
      exact close2 ht (eraCut_none hne) (reraCut_none hne) hok (by simpa using hs0) (f nen (by simp)) tr.1 tr.2
    · have e : s = pad 4 y ++ ([45] ++ (pad 2 m ++ ([45] ++ pad 2 d))) := by rw [hs]; unfold form4; simp only [List.append_assoc]
      have f : ∀ S : Bs, (S = nen ∨ S = [40] ∨ S = [47]) → Free S s := by
        intro S hS
        have hS2 : S = nen ∨ S = gatsu ∨ S = [40] ∨ S = [47] ∨ S = [45] ∨ S = [228, 187, 164] ∨ S = [229, 185, 179] ∨ S = [230, 152, 173] ∨ S = [229, 164, 167] ∨ S = [230, 152, 142] := by rcases hS with h | h | h <;> simp [h]
        have f45 : Free S [45] := Free.one tk_mi (by rcases hS with rfl | rfl | rfl <;> decide)
        rw [e]
        exact (all_pad 4 y hy S hS2).append (f45.append ((all_pad 2 m hm S hS2).append (f45.append (all_pad 2 d hd S hS2))))
      have hp := pad_size 2 d (by omega)
      have hp4 := pad_size 4 y (by omega)
      obtain ⟨a, c, hac, hc⟩ := last_dig (pad_all 2 d hd) (by intro e; rw [e] at hp; simp at hp)
      have ht : txt s = s := by
        unfold txt
        rw [(f [40] (by simp)).cut_none tk_par]
        have : s = (pad 4 y ++ ([45] ++ (pad 2 m ++ ([45] ++ a)))) ++ [c] := by rw [e, hac]; simp only [List.append_assoc]
        rw [this]
        exact trim_not _ c hc
      have hne : NoEra s := by rw [e]; exact noEra_of _ (freeE_of (all_pad 4 y hy)) (by intro e; rw [e] at hp4; simp at hp4)
      have tr := tr_sep [45] tk_mi 1 0 (pad 4 y) (pad 2 m) (pad 2 d) y m d (all_pad 4 y hy [45] (by simp)) (all_pad 2 m hm [45] (by simp)) (num_pad 4 y (by omega) hy).1 (num_pad 2 m (by omega) hm).1 (num_pad 2 d (by omega) hd).1 (num_pad 4 y (by omega) hy).2 (num_pad 2 m (by omega) hm).2 (num_pad 2 d (by omega) hd).2
      rw [← e, show (1 : Int) + (y : Int) - 1 = (y : Int) by omega, show (y : Int) + 0 = (y : Int) by omega] at tr
      exact close3 ht (eraCut_none hne) (reraCut_none hne) hok (by simpa using hs0) (f nen (by simp)) (f [47] (by simp)) tr.1 tr.2
  · cases he : era (Cal.num y m d).toNat with
    | none => rw [he] at hs; simp at hs
    | some eb =>
      obtain ⟨e, b⟩ := eb
      have hby := era_year hok he
      have fE : Free [40] e := by
        unfold era at he
        have six : ∀ x z : Bs, Tk x → Tk z → x ≠ [40] → z ≠ [40] → Free [40] (x ++ z) := fun x z a b c d => (Free.one a c).append (Free.one b d)
        split at he
        · injection he with he; injection he with h1 _; subst h1; exact six [228, 187, 164] [229, 146, 140] (by unfold Tk; decide) (by unfold Tk; decide) (by decide) (by decide)
        · split at he
          · injection he with he; injection he with h1 _; subst h1; exact six [229, 185, 179] [230, 136, 144] (by unfold Tk; decide) (by unfold Tk; decide) (by decide) (by decide)
          · split at he
            · injection he with he; injection he with h1 _; subst h1; exact six [230, 152, 173] [229, 146, 140] (by unfold Tk; decide) (by unfold Tk; decide) (by decide) (by decide)
            · split at he
              · injection he with he; injection he with h1 _; subst h1; exact six [229, 164, 167] [230, 173, 163] (by unfold Tk; decide) (by unfold Tk; decide) (by decide) (by decide)
              · split at he
                · injection he with he; injection he with h1 _; subst h1; exact six [230, 152, 142] [230, 178, 187] (by unfold Tk; decide) (by unfold Tk; decide) (by decide) (by decide)
                · cases he
      have hcut := fun t ht => era_cuts he t ht
      have hkk : y - b < 10000 := by omega
      have hk0 : y - b ≠ 0 := by omega
      rw [he] at hs
      simp only [List.mem_cons, List.not_mem_nil, or_false] at hs
      rcases hs with hs | hs
      · refine find_kanji s e (yearA (y - b)) (digs m) (digs d) y m d ((b : Int) + 1) b (y - b) hok hs0 (all_yearA _ hkk) (all_digs m hm) (yearA_nil _) (num_yearA _ hkk) (num_digs m hm) (num_digs d hd) ?_ hcut (by omega) (by omega)
        have ee : s = (e ++ (yearA (y - b) ++ (nen ++ (digs m ++ (gatsu ++ digs d))))) ++ nichi := by rw [hs]; unfold form5 short; simp only [List.append_assoc]
        rw [ee]
        exact txt_end _ ((fE.append ((all_yearA _ hkk [40] (by simp)).append (fN.append ((all_digs m hm [40] (by simp)).append (fG.append (all_digs d hd [40] (by simp))))))).append fI)
      · refine find_kanji s e (yearB (y - b)) (kan m) (kan d) y m d ((b : Int) + 1) b (y - b) hok hs0 (all_yearB _ hkk hk0) (all_kan m hm hm0) (yearB_nil _ hkk) (num_yearB _ hkk) ⟨pnum_kan m hm, rnum_kan m hm⟩ ⟨pnum_kan d hd, rnum_kan d hd⟩ ?_ hcut (by omega) (by omega)
        have ee : s = (e ++ (yearB (y - b) ++ (nen ++ (kan m ++ (gatsu ++ kan d))))) ++ nichi := by rw [hs]; unfold form6; simp only [List.append_assoc]
        rw [ee]
        exact txt_end _ ((fE.append ((all_yearB _ hkk hk0 [40] (by simp)).append (fN.append ((all_kan m hm hm0 [40] (by simp)).append (fG.append (all_kan d hd hd0 [40] (by simp))))))).append fI)
/-- the program and the reference read alike -/
theorem cal_eq (s : Bs) : progCal s = refCal s := by
  have key : ∀ n, IsForm s n → progCal s = (n, true) ∧ refCal s = (n, true) := by
    rintro n ⟨y, m, d, hok, rfl, hs⟩
    have hk := (Cal.ok_iff y m d).1 hok
    have e1 : ((y.toNat : Nat) : Int) = y := by omega
    have e2 : ((m.toNat : Nat) : Int) = m := by omega
    have e3 : ((d.toNat : Nat) : Int) = d := by omega
    have := both_find s y.toNat m.toNat d.toNat (by rw [e1, e2, e3]; exact hok) (by rw [e1, e2, e3]; exact hs)
    rwa [e1, e2, e3] at this
  have p := firstHit_sound s [ptr (eraCut (txt s)).2 (eraCut (txt s)).1 nen gatsu, ptr (eraCut (txt s)).2 (eraCut (txt s)).1 [47] [47], ptr (eraCut (txt s)).2 (eraCut (txt s)).1 [45] [45]]
  have r := firstHit_sound s [rtr (reraCut (txt s)).2 (reraCut (txt s)).1 nen gatsu, rtr (reraCut (txt s)).2 (reraCut (txt s)).1 [47] [47], rtr (reraCut (txt s)).2 (reraCut (txt s)).1 [45] [45]]
  change ((progCal s).2 = true → IsForm s (progCal s).1) ∧ ((progCal s).2 = false → (progCal s).1 = 0) at p
  change ((refCal s).2 = true → IsForm s (refCal s).1) ∧ ((refCal s).2 = false → (refCal s).1 = 0) at r
  cases hp : (progCal s).2
  · cases hr : (refCal s).2
    · exact Prod.ext ((p.2 hp).trans (r.2 hr).symm) (hp.trans hr.symm)
    · have := key _ (r.1 hr)
      rw [this.1] at hp; cases hp
  · have := key _ (p.1 hp)
    rw [this.1, this.2]
end CF
end Go.Proofs.YtnpkcobapckhdaaGreatDoor
