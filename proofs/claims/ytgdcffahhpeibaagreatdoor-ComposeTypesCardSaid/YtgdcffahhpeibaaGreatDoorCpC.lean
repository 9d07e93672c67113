/-
  Texts merged (the edits in plain terms; Put and Insert): CpPlain, CpTyped, CpRows, CpPut, CpKey.
-/
import Derived.Test.YtgdcffahhpeibaaGreatDoorCpB
import Derived.Test.YtgdcffahhpeibaaGreatDoorAuLaws
import Derived.Test.YtgdcffahhpeibaaGreatDoorAuInv
import Derived.Test.YtgdcffahhpeibaaGreatDoorAuStep
import Derived.IntWalk
namespace Go.Proofs.YtgdcffahhpeibaaGreatDoor
namespace Cp
open UT (Bs)
open Ro (Rule check)
/-- Put: the buffer, and what is wrong -/
def put (b : Buf) (raw out : Bs) : Buf × Int :=
  if valid b = true ∧ okB 32 raw = true ∧ 1 ≤ UT.countZ out then
    if b.pend = [] then
      if b.items.length + (UT.runes out).length ≤ 64 then (ins b (mkItems raw (UT.runes out)), 0) else (zero, 7)
    else (zero, 8)
  else (zero, 1)
/-- a key: the buffer, and what is wrong -/
def key (l : List Rule) (b : Buf) (c : UInt8) : Buf × Int :=
  if valid b = true ∧ Au.isKey c = true then
    if (Au.step l b.pend c).2.length ≤ 8 then
      if b.items.length + (UT.runes (Au.step l b.pend c).1).length ≤ 64 then ({ ins b (mkItems (ends (b.pend ++ [c]) (Au.step l b.pend c).2) (UT.runes (Au.step l b.pend c).1)) with pend := (Au.step l b.pend c).2 }, 0)
      else (zero, 7)
    else (zero, 1)
  else (zero, 1)
/-- what Flush leaves -/
def flush (l : List Rule) (b : Buf) : Buf :=
  if valid b = true ∧ b.pend ≠ [] then ins { b with pend := [] } (mkItems b.pend ((UT.runes (Au.flush l b.pend)).take (64 - b.items.length)))
  else b
theorem valid_iff {b : Buf} : valid b = true ↔ (b.items.length ≤ 64 ∧ 0 ≤ b.caret ∧ b.caret ≤ (b.items.length : Int) ∧ b.pend.length ≤ 8 ∧ okB 33 b.pend = true ∧ ∀ x ∈ b.items, itemOk x = true) := by
  unfold valid
  simp only [Bool.and_eq_true, decide_eq_true_eq, List.all_eq_true]
theorem valid_zero : valid zero = true := by decide
theorem count_enc {c : Nat} (h : UT.isCh c = true) : UT.countZ (Lib.encodeRune (c : Int)) = 1 := by
  have := UT.runes_enc [c] (fun d hd => by simp at hd; subst hd; exact h)
  rw [show UT.enc [c] = Lib.encodeRune (c : Int) from by show Lib.encodeRune (c : Int) ++ [] = _; rw [List.append_nil]] at this
  unfold UT.countZ
  rw [if_pos this.2, this.1]; rfl
theorem mk_mem {raw : Bs} {cs : List Nat} : ∀ x ∈ mkItems raw cs, (x.1 = raw ∨ x.1 = []) ∧ ∃ c ∈ cs, x.2 = Lib.encodeRune (c : Int) := by
  cases cs with
  | nil => intro x hx; cases hx
  | cons c cs =>
    intro x hx
    rcases List.mem_cons.1 hx with rfl | hx
    · exact ⟨.inl rfl, c, List.mem_cons_self .., rfl⟩
    · obtain ⟨d, hd, rfl⟩ := List.mem_map.1 hx
      exact ⟨.inr rfl, d, List.mem_cons_of_mem _ hd, rfl⟩
theorem mk_ok {raw : Bs} {cs : List Nat} (hr : okB 32 raw = true) (hc : ∀ c ∈ cs, UT.isCh c = true) : ∀ x ∈ mkItems raw cs, itemOk x = true := by
  intro x hx
  obtain ⟨h1, c, hcm, h2⟩ := mk_mem x hx
  unfold itemOk
  rw [h2, count_enc (hc c hcm)]
  rcases h1 with h1 | h1
  · rw [h1, hr]; rfl
  · rw [h1]; rfl
theorem mk_out (raw : Bs) (cs : List Nat) : (mkItems raw cs).flatMap (·.2) = UT.enc cs := by
  cases cs with
  | nil => rfl
  | cons c cs =>
    rw [mkItems, UT.enc_cons, List.flatMap_cons]
    congr 1
    unfold UT.enc
    rw [List.flatMap_map]
theorem mk_raw (raw : Bs) (cs : List Nat) (h : cs ≠ []) : rawOf (mkItems raw cs) = raw := by
  cases cs with
  | nil => exact absurd rfl h
  | cons c cs =>
    unfold rawOf
    rw [mkItems, List.flatMap_cons]
    have : (cs.map fun (c : Nat) => (([], Lib.encodeRune (c : Int)) : Item)).flatMap (·.1) = [] := by
      rw [List.flatMap_eq_nil_iff]
      intro x hx
      obtain ⟨d, _, rfl⟩ := List.mem_map.1 hx
      rfl
    rw [this, List.append_nil]
theorem mk_take (raw : Bs) (cs : List Nat) (k : Nat) : (mkItems raw cs).take k = mkItems raw (cs.take k) := by
  cases cs with
  | nil => simp [mkItems]
  | cons c cs =>
    cases k with
    | zero => simp [mkItems]
    | succ k => rw [mkItems, List.take_succ_cons, List.take_succ_cons, mkItems, List.map_take]
theorem okB_app (low : Nat) (a b : Bs) : okB low (a ++ b) = (okB low a && okB low b) := by unfold okB; rw [List.all_append]
theorem okB_mem {low : Nat} {a : Bs} : okB low a = true ↔ ∀ c ∈ a, low ≤ c.toNat ∧ c.toNat ≤ 126 := by
  unfold okB
  simp only [List.all_eq_true, Bool.and_eq_true, decide_eq_true_eq]
theorem okB_low {a b : Nat} {s : Bs} (h : okB a s = true) (hab : b ≤ a) : okB b s = true := by
  rw [okB_mem] at h ⊢
  intro c hc
  have := h c hc
  omega
theorem okB_keys {s : Bs} (h : Au.AllKeys s) : okB 33 s = true := by
  rw [okB_mem]
  intro c hc
  exact Au.key_byte (h c hc)
theorem keys_okB {s : Bs} (h : okB 33 s = true) : Au.AllKeys s := by
  rw [okB_mem] at h
  intro c hc
  exact Au.isKey_yes (h c hc).1 (h c hc).2
theorem ends_take (s t : Bs) : ∃ k, ends s t = s.take k := by
  unfold ends
  split
  · exact ⟨_, rfl⟩
  · exact ⟨s.length, (List.take_length).symm⟩
theorem ends_ok {low : Nat} {s t : Bs} (h : okB low s = true) : okB low (ends s t) = true ∧ (ends s t).length ≤ s.length := by
  obtain ⟨k, hk⟩ := ends_take s t
  rw [hk]
  refine ⟨?_, by rw [List.length_take]; omega⟩
  rw [okB_mem] at h ⊢
  exact fun c hc => h c (List.mem_of_mem_take hc)
theorem ins_valid {b : Buf} {new : List Item} (hv : valid b = true) (hn : b.items.length + new.length ≤ 64) (hi : ∀ x ∈ new, itemOk x = true) (p : Bs) (hp : p.length ≤ 8) (hp2 : okB 33 p = true) : valid { ins b new with pend := p } = true := by
  rw [valid_iff] at hv
  obtain ⟨h1, h2, h3, h4, h5, h6⟩ := hv
  have hk : b.caret.toNat ≤ b.items.length := by omega
  rw [valid_iff]
  have hl : (b.items.take b.caret.toNat ++ new ++ b.items.drop b.caret.toNat).length = b.items.length + new.length := by
    rw [List.length_append, List.length_append, List.length_take, List.length_drop]; omega
  refine ⟨by show (b.items.take b.caret.toNat ++ new ++ b.items.drop b.caret.toNat).length ≤ 64; omega, by show 0 ≤ b.caret + (new.length : Int); omega, by show b.caret + (new.length : Int) ≤ ((b.items.take b.caret.toNat ++ new ++ b.items.drop b.caret.toNat).length : Int); omega, hp, hp2, fun x hx => ?_⟩
  rcases List.mem_append.1 hx with hx | hx
  · rcases List.mem_append.1 hx with hx | hx
    · exact h6 x (List.mem_of_mem_take hx)
    · exact hi x hx
  · exact h6 x (List.mem_of_mem_drop hx)
/-- the keys at the characters are short -/
def Small (b : Buf) : Prop := ∀ x ∈ b.items, x.1.length ≤ 9
theorem small_zero : Small zero := fun x hx => by cases hx
theorem ins_small {b : Buf} {new : List Item} (hv : Small b) (hi : ∀ x ∈ new, x.1.length ≤ 9) (p : Bs) : Small { ins b new with pend := p } := by
  intro x hx
  rcases List.mem_append.1 hx with hx | hx
  · rcases List.mem_append.1 hx with hx | hx
    · exact hv x (List.mem_of_mem_take hx)
    · exact hi x hx
  · exact hv x (List.mem_of_mem_drop hx)
theorem mk_small {raw : Bs} {cs : List Nat} (hr : raw.length ≤ 9) : ∀ x ∈ mkItems raw cs, x.1.length ≤ 9 := by
  intro x hx
  rcases (mk_mem x hx).1 with h | h <;> rw [h]
  · exact hr
  · simp
theorem runes_ch (l : Bs) : ∀ c ∈ UT.runes l, UT.isCh c = true := UT.bk_runes_ch _ _ (Nat.le_refl _)
/-! ### the edits keep buffers valid -/
theorem put_ok {b b' : Buf} {raw out : Bs} (h : put b raw out = (b', 0)) : valid b = true ∧ okB 32 raw = true ∧ b.pend = [] ∧ b.items.length + (UT.runes out).length ≤ 64 ∧ Lib.validD out = true ∧ b' = ins b (mkItems raw (UT.runes out)) := by
  unfold put at h
  split at h
  · rename_i h1
    split at h
    · rename_i h2
      split at h
      · rename_i h3
        injection h with h _
        refine ⟨h1.1, h1.2.1, h2, h3, ?_, h.symm⟩
        have := h1.2.2
        unfold UT.countZ at this
        split at this
        · assumption
        · omega
      · injection h with _ h; cases h
    · injection h with _ h; cases h
  · injection h with _ h; cases h
theorem put_valid {b b' : Buf} {raw out : Bs} (h : put b raw out = (b', 0)) : valid b' = true ∧ (Small b → raw.length ≤ 9 → Small b') := by
  obtain ⟨h1, h2, h3, h4, h5, rfl⟩ := put_ok h
  have hv := valid_iff.1 h1
  constructor
  · have := ins_valid h1 (new := mkItems raw (UT.runes out)) (by rw [mk_len]; exact h4) (mk_ok h2 (runes_ch out)) b.pend hv.2.2.2.1 hv.2.2.2.2.1
    exact this
  · intro hs hr
    exact ins_small hs (mk_small hr) b.pend
theorem step_facts {l : List Rule} (hl : check l = 0) (p : Bs) (c : UInt8) : Lib.validD (Au.step l p c).1 = true ∧ Au.AllKeys (Au.step l p c).2 ∧ (Au.step l p c).1.length ≤ 16 * (p.length + 1) := by
  have := Au.feed_valid hl (Au.keysOf p) (Au.keysOf [c]) (Au.allKeys_of p) (Au.allKeys_of [c])
  refine ⟨this.1, this.2.2, ?_⟩
  have h1 := this.2.1
  have h2 := Au.keysOf_len p
  have h3 := Au.keysOf_len [c]
  rw [List.length_singleton] at h3
  unfold Au.step
  omega
theorem key_ok {l : List Rule} {b b' : Buf} {c : UInt8} (h : key l b c = (b', 0)) : valid b = true ∧ Au.isKey c = true ∧ (Au.step l b.pend c).2.length ≤ 8 ∧ b.items.length + (UT.runes (Au.step l b.pend c).1).length ≤ 64 ∧
    b' = { ins b (mkItems (ends (b.pend ++ [c]) (Au.step l b.pend c).2) (UT.runes (Au.step l b.pend c).1)) with pend := (Au.step l b.pend c).2 } := by
  unfold key at h
  split at h
  · rename_i h1
    split at h
    · rename_i h2
      split at h
      · rename_i h3
        injection h with h _
        exact ⟨h1.1, h1.2, h2, h3, h.symm⟩
      · injection h with _ h; cases h
    · injection h with _ h; cases h
  · injection h with _ h; cases h
theorem pend_key {b : Buf} {c : UInt8} (h1 : valid b = true) (h2 : Au.isKey c = true) : okB 32 (b.pend ++ [c]) = true ∧ (b.pend ++ [c]).length ≤ 9 := by
  have hv := valid_iff.1 h1
  have hc := Au.key_byte h2
  refine ⟨?_, by rw [List.length_append, List.length_singleton]; omega⟩
  rw [okB_app, okB_low hv.2.2.2.2.1 (by omega), okB_mem.2 (fun d hd => by simp at hd; subst hd; omega)]
  rfl
theorem key_valid {l : List Rule} (hl : check l = 0) {b b' : Buf} {c : UInt8} (h : key l b c = (b', 0)) : valid b' = true ∧ (Small b → Small b') := by
  obtain ⟨h1, h2, h3, h4, rfl⟩ := key_ok h
  obtain ⟨p1, p2⟩ := pend_key h1 h2
  obtain ⟨s1, s2, s3⟩ := step_facts hl b.pend c
  obtain ⟨e1, e2⟩ := ends_ok (t := (Au.step l b.pend c).2) p1
  exact ⟨ins_valid h1 (by rw [mk_len]; exact h4) (mk_ok e1 (runes_ch _)) _ h3 (okB_keys s2), fun hs => ins_small hs (mk_small (by omega)) _⟩
theorem flush_valid {l : List Rule} {b : Buf} : (valid b = true → valid (flush l b) = true) ∧ (valid b = true → Small b → Small (flush l b)) := by
  unfold flush
  split
  · rename_i h
    obtain ⟨h1, h2⟩ := h
    have hv := valid_iff.1 h1
    have hv0 : valid { b with pend := [] } = true := valid_iff.2 ⟨hv.1, hv.2.1, hv.2.2.1, Nat.zero_le _, rfl, hv.2.2.2.2.2⟩
    refine ⟨fun _ => ?_, fun _ hs => ?_⟩
    · have := ins_valid hv0 (new := mkItems b.pend ((UT.runes (Au.flush l b.pend)).take (64 - b.items.length))) (by rw [mk_len, List.length_take]; show b.items.length + _ ≤ 64; have := hv.1; omega) (mk_ok (okB_low hv.2.2.2.2.1 (by omega)) (fun c hc => runes_ch _ c (List.mem_of_mem_take hc))) [] (Nat.zero_le _) rfl
      exact this
    · have : Small { b with pend := [] } := hs
      exact ins_small this (mk_small (by have := hv.2.2.2.1; omega)) []
  · exact ⟨fun h => h, fun _ h => h⟩
theorem without_valid {b : Buf} (h : valid b = true) (i : Nat) (c : Int) (hi : i < b.items.length) (h0 : 0 ≤ c) (hc : c < (b.items.length : Int)) : valid (without b i c) = true := by
  obtain ⟨h1, h2, h3, h4, h5, h6⟩ := valid_iff.1 h
  rw [valid_iff]
  have hl : (b.items.take i ++ b.items.drop (i + 1)).length = b.items.length - 1 := by rw [List.length_append, List.length_take, List.length_drop]; omega
  refine ⟨by show (b.items.take i ++ b.items.drop (i + 1)).length ≤ 64; omega, h0, by show c ≤ ((b.items.take i ++ b.items.drop (i + 1)).length : Int); omega, h4, h5, fun x hx => ?_⟩
  rcases List.mem_append.1 hx with hx | hx
  · exact h6 x (List.mem_of_mem_take hx)
  · exact h6 x (List.mem_of_mem_drop hx)
theorem without_small {b : Buf} (h : Small b) (i : Nat) (c : Int) : Small (without b i c) := by
  intro x hx
  rcases List.mem_append.1 hx with hx | hx
  · exact h x (List.mem_of_mem_take hx)
  · exact h x (List.mem_of_mem_drop hx)
theorem back_valid {b : Buf} : (valid b = true → valid (back b) = true) ∧ (Small b → Small (back b)) := by
  unfold back
  split
  · rename_i hv
    obtain ⟨h1, h2, h3, h4, h5, h6⟩ := valid_iff.1 hv
    split
    · split
      · rename_i h0
        exact ⟨fun _ => without_valid hv _ _ (by omega) (by omega) (by omega), fun hs => without_small hs _ _⟩
      · exact ⟨fun h => h, fun h => h⟩
    · refine ⟨fun _ => valid_iff.2 ⟨h1, h2, h3, by show (b.pend.take _).length ≤ 8; rw [List.length_take]; omega, ?_, h6⟩, fun h => h⟩
      rw [okB_mem] at h5 ⊢
      exact fun c hc => h5 c (List.mem_of_mem_take hc)
  · exact ⟨fun h => h, fun h => h⟩
theorem del_valid {b : Buf} : (valid b = true → valid (del b) = true) ∧ (Small b → Small (del b)) := by
  unfold del
  split
  · rename_i h
    obtain ⟨h1, h2, h3, h4, h5, h6⟩ := valid_iff.1 h.1
    have h7 := h.2
    exact ⟨fun _ => without_valid h.1 _ _ (by omega) (by omega) (by omega), fun hs => without_small hs _ _⟩
  · exact ⟨fun h => h, fun h => h⟩
theorem move_valid {b : Buf} {z : Int} : (valid b = true → valid (move b z) = true) ∧ (Small b → Small (move b z)) := by
  unfold move
  split
  · rename_i h
    obtain ⟨h1, h2, h3, h4, h5, h6⟩ := valid_iff.1 h.1
    exact ⟨fun _ => valid_iff.2 ⟨h1, by show 0 ≤ min (max (b.caret + min (max z (-64)) 64) 0) (b.items.length : Int); omega, by show min (max (b.caret + min (max z (-64)) 64) 0) (b.items.length : Int) ≤ (b.items.length : Int); omega, h4, h5, h6⟩, fun h => h⟩
  · exact ⟨fun h => h, fun h => h⟩
/-- sizes of a valid buffer with short keys -/
theorem count_len {x : Bs} (h : UT.countZ x = 1) : x.length ≤ 4 := by
  unfold UT.countZ at h
  split at h
  · rename_i hv
    have e := UT.enc_runes x.length x (Nat.le_refl _) hv
    have hl := UT.bk_len (UT.runes x)
    rw [e] at hl
    omega
  · omega
theorem out_len {b : Buf} (h : valid b = true) : ∀ x ∈ b.items, x.2.length ≤ 4 := by
  intro x hx
  have := (valid_iff.1 h).2.2.2.2.2 x hx
  unfold itemOk at this
  rw [Bool.and_eq_true, decide_eq_true_eq] at this
  exact count_len this.1
theorem fits_of {b : Buf} (h : valid b = true) (hs : Small b) : Fits b.items b.pend := by
  have hv := valid_iff.1 h
  exact ⟨by omega, by omega, fun x hx => ⟨by have := hs x hx; omega, by have := out_len h x hx; omega⟩⟩
/-! ### texts and keys of edited buffers -/
theorem take_ins {b : Buf} (hv : valid b = true) (new : List Item) (p : Bs) : ({ ins b new with pend := p } : Buf).items.take ({ ins b new with pend := p } : Buf).caret.toNat = b.items.take b.caret.toNat ++ new ∧ ({ ins b new with pend := p } : Buf).items.drop ({ ins b new with pend := p } : Buf).caret.toNat = b.items.drop b.caret.toNat := by
  obtain ⟨h1, h2, h3, _⟩ := valid_iff.1 hv
  have hc : (b.caret + (new.length : Int)).toNat = (b.items.take b.caret.toNat ++ new).length := by rw [List.length_append, List.length_take]; omega
  constructor
  · show (b.items.take b.caret.toNat ++ new ++ b.items.drop b.caret.toNat).take (b.caret + (new.length : Int)).toNat = _
    rw [hc, List.take_left]
  · show (b.items.take b.caret.toNat ++ new ++ b.items.drop b.caret.toNat).drop (b.caret + (new.length : Int)).toNat = _
    rw [hc, List.drop_left]
theorem keeps_law {l : List Rule} {b b' : Buf} {c : UInt8} (h : key l b c = (b', 0)) (h1 : (Au.step l b.pend c).2.length ≤ (b.pend ++ [c]).length) (h2 : (b.pend ++ [c]).drop ((b.pend ++ [c]).length - (Au.step l b.pend c).2.length) = (Au.step l b.pend c).2)
    (h3 : (Au.step l b.pend c).1 ≠ [] ∨ (Au.step l b.pend c).2 = b.pend ++ [c]) : raw b' = rawOf (b.items.take b.caret.toNat) ++ (b.pend ++ [c]) ++ rawOf (b.items.drop b.caret.toNat) := by
  obtain ⟨k1, k2, k3, k4, rfl⟩ := key_ok h
  unfold raw
  rw [(take_ins k1 _ _).1, (take_ins k1 _ _).2]
  have he : ends (b.pend ++ [c]) (Au.step l b.pend c).2 = (b.pend ++ [c]).take ((b.pend ++ [c]).length - (Au.step l b.pend c).2.length) := by
    unfold ends
    rw [if_pos ⟨h1, h2⟩]
  have hj : ends (b.pend ++ [c]) (Au.step l b.pend c).2 ++ (Au.step l b.pend c).2 = b.pend ++ [c] := by
    rw [he]
    conv => lhs; rhs; rw [← h2]
    rw [List.take_append_drop]
  have ha : ∀ A B : List Item, rawOf (A ++ B) = rawOf A ++ rawOf B := fun A B => by unfold rawOf; rw [List.flatMap_append]
  rw [ha]
  have hm : rawOf (mkItems (ends (b.pend ++ [c]) (Au.step l b.pend c).2) (UT.runes (Au.step l b.pend c).1)) ++ (Au.step l b.pend c).2 = b.pend ++ [c] := by
    by_cases h0 : UT.runes (Au.step l b.pend c).1 = []
    · have h4 : (Au.step l b.pend c).1 = [] := by
        by_cases he : (Au.step l b.pend c).1 = []
        · exact he
        · rw [UT.runes_step he] at h0; cases h0
      rcases h3 with h3 | h3
      · exact absurd h4 h3
      · rw [h0, h3]; rfl
    · rw [mk_raw _ _ h0]; exact hj
  show rawOf _ ++ rawOf _ ++ ((Au.step l b.pend c).2 ++ rawOf _) = _
  rw [List.append_assoc, ← List.append_assoc (rawOf (mkItems _ _)), hm, ← List.append_assoc]
end Cp
end Go.Proofs.YtgdcffahhpeibaaGreatDoor
namespace Go.Proofs.YtgdcffahhpeibaaGreatDoor
namespace Cp
open UT (Bs)
open Ro (Rule check)
def typedL (l : List Rule) : Bs → Buf → Buf × Bool
  | [], b => (b, true)
  | c :: ks, b => if (key l b c).2 = 0 then typedL l ks (key l b c).1 else (b, false)
/-- the buffer into which the keys pre were typed -/
structure Typed (l : List Rule) (pre : Bs) (b : Buf) : Prop where
  ok : valid b = true
  small : Small b
  caret : b.caret = (b.items.length : Int)
  outs : b.items.flatMap (·.2) = (Au.run l pre).1
  pend : b.pend = (Au.run l pre).2
  count : (UT.runes (Au.run l pre).1).length = b.items.length
theorem Typed.zero (l : List Rule) : Typed l [] zero := ⟨valid_zero, small_zero, rfl, rfl, rfl, rfl⟩
theorem Typed.key {l : List Rule} (hl : check l = 0) {pre : Bs} {b b' : Buf} {c : UInt8} (h : Typed l pre b) (hk : key l b c = (b', 0)) : Typed l (pre ++ [c]) b' := by
  obtain ⟨v1, v2⟩ := key_valid hl hk
  obtain ⟨k1, k2, k3, k4, rfl⟩ := key_ok hk
  have hr := Au.run_snoc hl pre c
  rw [← h.pend] at hr
  obtain ⟨s1, s2, s3⟩ := step_facts hl b.pend c
  have hn : b.caret.toNat = b.items.length := by rw [h.caret]; omega
  have hi : (ins b (mkItems (ends (b.pend ++ [c]) (Au.step l b.pend c).2) (UT.runes (Au.step l b.pend c).1))).items = b.items ++ mkItems (ends (b.pend ++ [c]) (Au.step l b.pend c).2) (UT.runes (Au.step l b.pend c).1) := by
    unfold ins
    dsimp only
    rw [hn, List.take_length, List.drop_length, List.append_nil]
  refine ⟨v1, v2 h.small, ?_, ?_, ?_, ?_⟩
  · show b.caret + ((mkItems _ _).length : Int) = (((ins b _).items).length : Int)
    rw [hi, List.length_append, h.caret]; omega
  · show ((ins b _).items).flatMap (·.2) = _
    rw [hi, List.flatMap_append, h.outs, mk_out, UT.enc_runes _ _ (Nat.le_refl _) s1, hr]
  · show (Au.step l b.pend c).2 = _
    rw [hr]
  · show _ = ((ins b _).items).length
    rw [hi, hr, List.length_append, mk_len, ← h.count]
    dsimp only
    rw [(UT.valid_app (Au.run_valid hl pre) s1).2, List.length_append]
theorem typed_all {l : List Rule} (hl : check l = 0) : ∀ (ks pre : Bs) (b b' : Buf), Typed l pre b → typedL l ks b = (b', true) → Typed l (pre ++ ks) b'
  | [], pre, b, b', h, hk => by
    injection hk with hk _
    subst hk
    rw [List.append_nil]; exact h
  | c :: ks, pre, b, b', h, hk => by
    rw [typedL] at hk
    split at hk
    · rename_i h0
      have := typed_all hl ks (pre ++ [c]) _ b' (h.key hl (Prod.ext rfl h0)) hk
      rwa [List.append_assoc] at this
    · injection hk with _ hk; cases hk
theorem run_mono {l : List Rule} (hl : check l = 0) (a b : Bs) : (UT.runes (Au.run l a).1).length ≤ (UT.runes (Au.run l (a ++ b)).1).length := by
  have h := Au.feed_app (Au.short_of hl) (Au.keysOf b) [] (Au.keysOf a)
  have hv := Au.feed_valid hl [] (Au.keysOf a) (fun c hc => by simp at hc) (Au.allKeys_of a)
  have hw := Au.feed_valid hl (Au.feed l [] (Au.keysOf a)).2 (Au.keysOf b) hv.2.2 (Au.allKeys_of b)
  unfold Au.run
  rw [Au.keysOf_app, h]
  dsimp only
  rw [(UT.valid_app hv.1 hw.1).2, List.length_append]
  omega
/-- no key is refused while the text is short -/
theorem key_goes {l : List Rule} (hl : check l = 0) {pre post : Bs} {b : Buf} {c : UInt8} (h : Typed l pre b) (hc : Au.isKey c = true) (hn : (UT.runes (Au.run l (pre ++ c :: post)).1).length ≤ 64) : (key l b c).2 = 0 := by
  have hr := Au.run_snoc hl pre c
  rw [← h.pend] at hr
  obtain ⟨s1, s2, s3⟩ := step_facts hl b.pend c
  have h8 : (Au.step l b.pend c).2.length ≤ 8 := by
    have hp := Au.run_pend (Au.short_of hl) (pre ++ [c])
    rw [hr] at hp
    dsimp only at hp
    rcases hp with hp | hp
    · rw [hp]; simp
    · obtain ⟨r, hrm, hlt, _⟩ := Au.longer_iff.1 hp
      have := (Au.rule_sizes hl hrm).2.1
      omega
  have h64 : b.items.length + (UT.runes (Au.step l b.pend c).1).length ≤ 64 := by
    have hm := run_mono hl (pre ++ [c]) post
    rw [List.append_assoc, List.singleton_append] at hm
    rw [hr] at hm
    dsimp only at hm
    rw [(UT.valid_app (Au.run_valid hl pre) s1).2, List.length_append, h.count] at hm
    omega
  unfold key
  rw [if_pos ⟨h.ok, hc⟩, if_pos h8, if_pos h64]
theorem typedL_snoc (l : List Rule) (c : UInt8) : ∀ (ks : Bs) (b b' : Buf), typedL l ks b = (b', true) → typedL l (ks ++ [c]) b = if (key l b' c).2 = 0 then ((key l b' c).1, true) else (b', false)
  | [], b, b', h => by
    injection h with h _
    subst h
    rfl
  | d :: ks, b, b', h => by
    rw [typedL] at h
    split at h
    · rename_i h0
      rw [List.cons_append, typedL, if_pos h0]
      exact typedL_snoc l c ks _ _ h
    · injection h with _ h; cases h
theorem typedL_bad (l : List Rule) : ∀ (ks post : Bs) (b b' : Buf), typedL l ks b = (b', false) → typedL l (ks ++ post) b = (b', false)
  | [], post, b, b', h => by injection h with _ h; cases h
  | d :: ks, post, b, b', h => by
    rw [typedL] at h
    rw [List.cons_append, typedL]
    split at h
    · rename_i h0
      rw [if_pos h0]
      exact typedL_bad l ks post _ _ h
    · rename_i h0
      rw [if_neg h0]; exact h
/-- what the laws of typing ask -/
theorem types_law {l : List Rule} (hl : check l = 0) {ks : Bs} {b : Buf} (h : typedL l ks zero = (b, true)) : valid b = true ∧ Small b ∧ b.caret = (b.items.length : Int) ∧ before b = (Au.run l ks).1 ∧ b.pend = (Au.run l ks).2 ∧ after b = [] := by
  have ht := typed_all hl ks [] zero b (Typed.zero l) h
  rw [List.nil_append] at ht
  have hn : b.caret.toNat = b.items.length := by rw [ht.caret]; omega
  refine ⟨ht.ok, ht.small, ht.caret, ?_, ht.pend, ?_⟩
  · unfold before; rw [hn, List.take_length]; exact ht.outs
  · unfold after; rw [hn, List.drop_length]; rfl
/-- Back at the end of a text -/
theorem back_end (xs : List Item) (i : Nat) (hi : i + 1 ≤ xs.length) (hv : valid ⟨xs.take (i + 1), ((i + 1 : Nat) : Int), []⟩ = true) : back ⟨xs.take (i + 1), ((i + 1 : Nat) : Int), []⟩ = ⟨xs.take i, (i : Int), []⟩ := by
  unfold back
  rw [if_pos hv, if_pos rfl, if_pos (by show (0 : Int) < ((i + 1 : Nat) : Int); omega)]
  unfold without
  have e : (((i + 1 : Nat) : Int) - 1).toNat = i := by omega
  dsimp only
  rw [e, List.take_take, Nat.min_eq_left (by omega), List.drop_eq_nil_of_le (by rw [List.length_take]; omega), List.append_nil, show ((i + 1 : Nat) : Int) - 1 = (i : Int) by omega]
/-- Back takes back what Put put -/
theorem undo_put {b b' : Buf} {c : Nat} (hc : UT.isCh c = true) (h : put b [] (Lib.encodeRune (c : Int)) = (b', 0)) : valid b' = true ∧ back b' = b := by
  have hv := (put_valid h).1
  refine ⟨hv, ?_⟩
  obtain ⟨h1, h2, h3, h4, h5, rfl⟩ := put_ok h
  have he := UT.runes_enc [c] (fun d hd => by simp at hd; subst hd; exact hc)
  rw [show UT.enc [c] = Lib.encodeRune (c : Int) from by show Lib.encodeRune (c : Int) ++ [] = _; rw [List.append_nil]] at he
  rw [he.1] at hv ⊢
  obtain ⟨v1, v2, v3, v4, v5, v6⟩ := valid_iff.1 h1
  have hlen : (mkItems [] [c]).length = 1 := rfl
  have hk : (b.caret + 1 - 1).toNat = (b.items.take b.caret.toNat).length := by rw [List.length_take]; omega
  unfold back
  rw [if_pos hv, if_pos (show (ins b (mkItems [] [c])).pend = [] from h3), if_pos (by show 0 < b.caret + ((mkItems [] [c]).length : Int); rw [hlen]; omega)]
  unfold without
  show (⟨(b.items.take b.caret.toNat ++ mkItems [] [c] ++ b.items.drop b.caret.toNat).take (b.caret + 1 - 1).toNat ++ (b.items.take b.caret.toNat ++ mkItems [] [c] ++ b.items.drop b.caret.toNat).drop ((b.caret + 1 - 1).toNat + 1), b.caret + 1 - 1, b.pend⟩ : Buf) = b
  rw [hk, List.append_assoc, List.take_left]
  have : (b.items.take b.caret.toNat ++ (mkItems [] [c] ++ b.items.drop b.caret.toNat)).drop ((b.items.take b.caret.toNat).length + 1) = b.items.drop b.caret.toNat := by
    rw [← List.append_assoc, show (b.items.take b.caret.toNat).length + 1 = (b.items.take b.caret.toNat ++ mkItems [] [c]).length by rw [List.length_append, hlen], List.drop_left]
  rw [this, List.take_append_drop, show b.caret + 1 - 1 = b.caret by omega]
/-- Delete behind a move to the left is Back -/
theorem undo_move {b : Buf} (hv : valid b = true) (hp : b.pend = []) (hc : b.caret ≠ 0) : del (move b (-1)) = back b := by
  obtain ⟨v1, v2, v3, v4, v5, v6⟩ := valid_iff.1 hv
  have hm : move b (-1) = { b with caret := b.caret - 1 } := by
    unfold move
    rw [if_pos ⟨hv, hp⟩]
    congr 1
    omega
  have hvm : valid { b with caret := b.caret - 1 } = true := valid_iff.2 ⟨v1, by show 0 ≤ b.caret - 1; omega, by show b.caret - 1 ≤ (b.items.length : Int); omega, v4, v5, v6⟩
  rw [hm]
  unfold del back
  rw [if_pos ⟨hvm, by show b.caret - 1 < (b.items.length : Int); omega⟩, if_pos hv, if_pos hp, if_pos (by omega)]
  rfl
end Cp
end Go.Proofs.YtgdcffahhpeibaaGreatDoor
namespace Go.Proofs.YtgdcffahhpeibaaGreatDoor
open Go.RowKit
/-- a function's rows: its argument at S, its answer at S + 1, still empty -/
structure Rows2 (T : TypeId) (S : Nat) (v : Value) (c : Int) (p : ByteArray) (w W : World) : Prop where
  b : Below S w W
  sz : S + 1 + 1 ≤ W.heap.size
  r0 : W.heap[S]? = some (.cells #[v, .int .i64 c, .string p] T (0, 0))
  r1 : W.heap[S + 1]? = some (.cells #[.slice none 0 0, .int .i64 0, .string ⟨#[]⟩] T (0, 0))
theorem Rows2.new (T : TypeId) (v : Value) (c : Int) (p : ByteArray) (w : World) {S : Nat} (hS : w.heap.size = S) : Rows2 T S v c p w ((w.alloc (.cells #[v, .int .i64 c, .string p] T)).alloc (.cells #[.slice none 0 0, .int .i64 0, .string ⟨#[]⟩] T)) where
  b := ((Below.refl S w).alloc (by omega) _).alloc (by simp; omega) _
  sz := by rw [World.size_alloc, World.size_alloc, hS]; exact Nat.le_refl _
  r0 := by rw [Lib.alloc_old _ _ _ (by rw [World.size_alloc]; omega), ← hS]; exact (MapKept.heap_alloc w _).1
  r1 := by
    have := (MapKept.heap_alloc (w.alloc (.cells #[v, .int .i64 c, .string p] T)) (.cells #[.slice none 0 0, .int .i64 0, .string ⟨#[]⟩] T)).1
    rw [World.size_alloc, hS] at this; exact this
variable {T : TypeId} {S : Nat} {v : Value} {c : Int} {p : ByteArray} {w W W' : World}
theorem Rows2.go (h : Rows2 T S v c p w W) (hb : Below (S + 1 + 1) W W') : Rows2 T S v c p w W' :=
  ⟨h.b.trans (hb.mono (by omega)), Nat.le_trans h.sz hb.size, by rw [hb.block S (by omega)]; exact h.r0, by rw [hb.block (S + 1) (by omega)]; exact h.r1⟩
theorem Rows2.keep (h : Rows2 T S v c p w W) (hb : Below W.heap.size W W') : Rows2 T S v c p w W' := h.go (hb.mono h.sz)
theorem Rows2.set0 (h : Rows2 T S v c p w W) (v' : Value) : Rows2 T S v' c p w (W.setCell ⟨S, 0, none⟩ v') :=
  ⟨h.b.setCell (p := ⟨S, 0, none⟩) (Nat.le_refl _) _, by have := h.sz; simpa using this, heap_setCell_same W S 0 _ _ _ h.r0, by rw [Below.heap_setCell _ _ _ _ (show S + 1 ≠ S by omega)]; exact h.r1⟩
theorem Rows2.set1 (h : Rows2 T S v c p w W) (c' : Int) : Rows2 T S v c' p w (W.setCell ⟨S, 1, none⟩ (.int .i64 c')) :=
  ⟨h.b.setCell (p := ⟨S, 1, none⟩) (Nat.le_refl _) _, by have := h.sz; simpa using this, heap_setCell_same W S 1 _ _ _ h.r0, by rw [Below.heap_setCell _ _ _ _ (show S + 1 ≠ S by omega)]; exact h.r1⟩
theorem Rows2.set2 (h : Rows2 T S v c p w W) (p' : ByteArray) : Rows2 T S v c p' w (W.setCell ⟨S, 2, none⟩ (.string p')) :=
  ⟨h.b.setCell (p := ⟨S, 2, none⟩) (Nat.le_refl _) _, by have := h.sz; simpa using this, heap_setCell_same W S 2 _ _ _ h.r0, by rw [Below.heap_setCell _ _ _ _ (show S + 1 ≠ S by omega)]; exact h.r1⟩
/-- the answer's row written -/
theorem Rows2.out (h : Rows2 T S v c p w W) (x : Value) (y : Int) (z : ByteArray) :
    (((W.setCell ⟨S + 1, 0, none⟩ x).setCell ⟨S + 1, 1, none⟩ (.int .i64 y)).setCell ⟨S + 1, 2, none⟩ (.string z)).heap[S + 1]? = some (.cells #[x, .int .i64 y, .string z] T (0, 0)) ∧
    Below S w (((W.setCell ⟨S + 1, 0, none⟩ x).setCell ⟨S + 1, 1, none⟩ (.int .i64 y)).setCell ⟨S + 1, 2, none⟩ (.string z)) :=
  ⟨three_set h.r1 x (.int .i64 y) (.string z), three_below h.b (by omega) _ _ _⟩
theorem three_own8 {w : World} {b B : Nat} {v : Value} {xs : List Cp.Item} {TI : TypeId} (h : OwnG itemE TI B v xs w) (hb : b < B) (x y z : Value) : OwnG itemE TI B v xs (((w.setCell ⟨b, 0, none⟩ x).setCell ⟨b, 1, none⟩ y).setCell ⟨b, 2, none⟩ z) :=
  own_set (own_set (own_set h b hb 0 x) b hb 1 y) b hb 2 z
/-- a buffer and an error -/
def PairR (T : TypeId) (B : Nat) (r : Cp.Buf × Int) (e : Ending) (w : World) : Prop := ∃ v, e = .returned (.tuple #[bufV v r.1.caret (ba r.1.pend), .int .i64 r.2]) ∧ OwnG itemE T B v r.1.items w
theorem insert8_full (v v2 : Value) (xs ys : List Cp.Item) (k : Nat) (p : ByteArray) (w : World) (h : LieG itemE v xs w) (h2 : LieG itemE v2 ys w) (hk : k ≤ xs.length) (hn : xs.length ≤ 64) (hm : ys.length ≤ 2000000) (hf : 64 < xs.length + ys.length) :
    Calls Tryz.prog 53 #[bufV v k p, v2] w fun e w' => e = .returned (.tuple #[bufV (.slice none 0 0) 0 ⟨#[]⟩, .bool false]) ∧ Below w.heap.size w w' :=
  (insert8_any v v2 xs ys k p w h h2 hk hn hm).mono fun e w' ⟨h, hb⟩ => ⟨by rcases h with ⟨_, h⟩ | ⟨h, _⟩ <;> first | exact h | omega, hb⟩
theorem insert8_fits (v v2 : Value) (xs ys : List Cp.Item) (k m : Nat) (p : ByteArray) (w : World) (h : LieG itemE v xs w) (h2 : LieG itemE v2 ys w) (hk : k ≤ xs.length) (hn : xs.length ≤ 64) (hm : ys.length = m) (hf : xs.length + m ≤ 64) :
    Calls Tryz.prog 53 #[bufV v k p, v2] w fun e w' => (∃ v', e = .returned (.tuple #[bufV v' ((k : Int) + (m : Int)) p, .bool true]) ∧ OwnG itemE 106 w.heap.size v' (xs.take k ++ (ys ++ xs.drop k)) w') ∧ Below w.heap.size w w' :=
  (insert8_any v v2 xs ys k p w h h2 hk hn (by omega)).mono fun e w' ⟨h, hb⟩ => ⟨by
    rcases h with ⟨h, _⟩ | ⟨_, h⟩
    · omega
    · rw [hm, Int.natCast_add] at h; exact h, hb⟩
theorem count_pos {l : List UInt8} : 1 ≤ UT.countZ l ↔ (l ≠ [] ∧ Lib.validD l = true) := by
  unfold UT.countZ
  constructor
  · intro h
    split at h
    · rename_i hv
      refine ⟨fun e => ?_, hv⟩
      rw [e, UT.runes_nil] at h
      simp at h
    · omega
  · rintro ⟨h, hv⟩
    rw [if_pos hv, UT.runes_step h, List.length_cons]
    omega
end Go.Proofs.YtgdcffahhpeibaaGreatDoor
namespace Go.Proofs.YtgdcffahhpeibaaGreatDoor
open Go.RowKit
set_option maxRecDepth 100000 in
set_option maxHeartbeats 16000000 in
theorem pput_any (v : Value) (xs : List Cp.Item) (c : Int) (p : ByteArray) (pl : List UInt8) (rb ob : ByteArray) (rl ol : List UInt8) (w : World) (h : LieG itemE v xs w) (hp : Is p pl) (hf : Fits xs pl) (hr : Is rb rl) (ho : Is ob ol) (hrz : rb.size ≤ 2000000) (hoz : ob.size ≤ 2000000) (ht : Tabs w) :
    Calls Tryz.prog 33 #[bufV v c p, .string rb, .string ob] w fun e w' => PairR 106 w.heap.size (Cp.put ⟨xs, c, pl⟩ rl ol) e w' ∧ Below w.heap.size w w' := by
  have HP := Lib.hid hp
  have HF := Lib.hid hf
  have HR5 := Lib.hid hr
  have HO := Lib.hid ho
  have HPB := Eqq.mk hp.ba
  obtain ⟨S, hS⟩ : ∃ S, w.heap.size = S := ⟨_, rfl⟩
  have HS := Eqq.mk hS
  have hw0 := Rows2.new 33 v c p w hS
  obtain ⟨W0, hW0⟩ : ∃ W0, (w.alloc (.cells #[v, .int .i64 c, .string p] 33)).alloc (.cells #[.slice none 0 0, .int .i64 0, .string ⟨#[]⟩] 33) = W0 := ⟨_, rfl⟩
  rw [hW0] at hw0
  have HW0 := Lib.hid hw0
  have HW := Eqq.mk hW0
  have HL0 := Lib.hid (h.below hw0.b (by omega))
  have HT := Lib.hid (fun (W : World) (hW : Below S w W) => ht.keep (show Below w.heap.size w W by rw [hS]; exact hW))
  obtain ⟨⟨c0, c1, c2⟩, _⟩ := three_cells hw0.r0
  obtain ⟨⟨m0, m1, m2⟩, g0, g1, g2⟩ := three_cells hw0.r1
  clear h hp hf ht hr ho hw0 hW0
  go_enter Tryz.func33, Tryz.ntmps33
  go_wp2_with fail
  try rw [hS]
  rw [HW.out]
  with_reducible refine (check8_any v xs c p pl W0 HL0.out HP.out HF.out (HT.out _ HW0.out.b)).mono ?_
  rintro e w1 ⟨rfl, hb⟩
  have HW1 := Lib.hid (HW0.out.keep hb)
  have HL1 := Lib.hid (HL0.out.keep hb)
  clear hb c0 c1 c2 m0 m1 m2 g0 g1 g2
  obtain ⟨⟨c0, c1, c2⟩, _⟩ := three_cells HW1.out.r0
  obtain ⟨⟨m0, m1, m2⟩, g0, g1, g2⟩ := three_cells HW1.out.r1
  obtain ⟨V, hV⟩ : ∃ V, Cp.valid ⟨xs, c, pl⟩ = V := ⟨_, rfl⟩
  have HV := Eqq.mk hV
  rw [hV]
  clear hV
  cases V
  · rw [if_neg (show ¬ (false = true) by simp)]
    have HD := Eqq.mk (show Cp.put ⟨xs, c, pl⟩ rl ol = (Cp.zero, 1) by unfold Cp.put; rw [if_neg (by rw [HV.out]; simp)])
    have HE := Lib.hid (HW1.out.out (.slice none 0 0) (0) (⟨#[]⟩))
    go_wp2_with fail
    (try simp only [Exit.inBlock, Exit.then])
    refine bodyPost_ret (results_row_tmp rfl _ _ (S + 1) 33 #[.slice none 0 0, .int .i64 (0), .string (⟨#[]⟩)] (0, 0) _ (.int .i64 1) (by rfl) (by rfl) HE.out.1 Tryz.underlying33 (by rfl) (by kernel_rfl)) rfl ?_
    rw [HD.out]
    try rw [HS.out]
    exact ⟨⟨_, rfl, OwnG.nil _ _ _⟩, HE.out.2⟩
  · rw [if_pos rfl]
    obtain ⟨h64, ⟨k, rfl, hk⟩, h8, _, _⟩ := valid_parts HV.out
    go_wp2_with fail
    with_reducible refine (within_any rb rl 32 32 rfl _ HR5.out (by omega)).mono ?_
    rintro e w2 ⟨rfl, hb⟩
    have HW2 := Lib.hid (HW1.out.keep hb)
    have HL2 := Lib.hid (HL1.out.keep hb)
    clear hb c0 c1 c2 m0 m1 m2 g0 g1 g2
    obtain ⟨⟨c0, c1, c2⟩, _⟩ := three_cells HW2.out.r0
    obtain ⟨⟨m0, m1, m2⟩, g0, g1, g2⟩ := three_cells HW2.out.r1
    obtain ⟨D, hD⟩ : ∃ D, Cp.okB 32 rl = D := ⟨_, rfl⟩
    have HDD := Eqq.mk hD
    rw [hD]
    clear hD
    cases D
    · have HD := Eqq.mk (show Cp.put ⟨xs, k, pl⟩ rl ol = (Cp.zero, 1) by unfold Cp.put; rw [if_neg (by rw [HDD.out]; simp)])
      have HE := Lib.hid (HW2.out.out (.slice none 0 0) (0) (⟨#[]⟩))
      go_wp2_with fail
      (try simp only [Exit.inBlock, Exit.then])
      refine bodyPost_ret (results_row_tmp rfl _ _ (S + 1) 33 #[.slice none 0 0, .int .i64 (0), .string (⟨#[]⟩)] (0, 0) _ (.int .i64 1) (by rfl) (by rfl) HE.out.1 Tryz.underlying33 (by rfl) (by kernel_rfl)) rfl ?_
      rw [HD.out]
      try rw [HS.out]
      exact ⟨⟨_, rfl, OwnG.nil _ _ _⟩, HE.out.2⟩
    · by_cases hqob : ol = []
      · subst hqob
        obtain rfl : ob = ⟨#[]⟩ := HO.out.eq (Is.mk [])
        have HD := Eqq.mk (show Cp.put ⟨xs, k, pl⟩ rl [] = (Cp.zero, 1) by unfold Cp.put; rw [if_neg (by rintro ⟨_, _, h⟩; exact (count_pos.1 h).1 rfl)])
        have HE := Lib.hid (HW2.out.out (.slice none 0 0) (0) (⟨#[]⟩))
        go_wp2_with fail
        (try simp only [Exit.inBlock, Exit.then])
        refine bodyPost_ret (results_row_tmp rfl _ _ (S + 1) 33 #[.slice none 0 0, .int .i64 (0), .string (⟨#[]⟩)] (0, 0) _ (.int .i64 1) (by rfl) (by rfl) HE.out.1 Tryz.underlying33 (by rfl) (by kernel_rfl)) rfl ?_
        rw [HD.out]
        try rw [HS.out]
        exact ⟨⟨_, rfl, OwnG.nil _ _ _⟩, HE.out.2⟩
      have n1ob : ¬ ob.toList = [] := by rw [HO.out.list]; exact hqob
      have n2ob : (ob.toList == []) = false := by rw [beq_eq_false_iff_ne]; exact n1ob
      go_wp2_with fail
      with_reducible refine (uvalid8_any ob ol _ HO.out (by omega) (HT.out _ HW2.out.b)).mono ?_
      rintro e w3 ⟨rfl, hb⟩
      have HW3 := Lib.hid (HW2.out.keep hb)
      have HL3 := Lib.hid (HL2.out.keep hb)
      clear hb c0 c1 c2 m0 m1 m2 g0 g1 g2
      obtain ⟨⟨c0, c1, c2⟩, _⟩ := three_cells HW3.out.r0
      obtain ⟨⟨m0, m1, m2⟩, g0, g1, g2⟩ := three_cells HW3.out.r1
      obtain ⟨D, hD⟩ : ∃ D, Lib.validD ol = D := ⟨_, rfl⟩
      have HVD := Eqq.mk hD
      rw [hD]
      clear hD
      cases D
      · have HD := Eqq.mk (show Cp.put ⟨xs, k, pl⟩ rl ol = (Cp.zero, 1) by unfold Cp.put; rw [if_neg (by rintro ⟨_, _, h⟩; have := (count_pos.1 h).2; rw [HVD.out] at this; cases this)])
        have HE := Lib.hid (HW3.out.out (.slice none 0 0) (0) (⟨#[]⟩))
        go_wp2_with fail
        (try simp only [Exit.inBlock, Exit.then])
        refine bodyPost_ret (results_row_tmp rfl _ _ (S + 1) 33 #[.slice none 0 0, .int .i64 (0), .string (⟨#[]⟩)] (0, 0) _ (.int .i64 1) (by rfl) (by rfl) HE.out.1 Tryz.underlying33 (by rfl) (by kernel_rfl)) rfl ?_
        rw [HD.out]
        try rw [HS.out]
        exact ⟨⟨_, rfl, OwnG.nil _ _ _⟩, HE.out.2⟩
      · have HC1 := Lib.hid (count_pos.2 ⟨hqob, HVD.out⟩)
        by_cases hqp : pl = []
        · subst hqp
          obtain rfl : p = ⟨#[]⟩ := HP.out.eq (Is.mk [])
          obtain ⟨ys, hys⟩ : ∃ ys, Cp.mkItems rl (UT.runes ol) = ys := ⟨_, rfl⟩
          have HYS := Eqq.mk hys
          obtain ⟨m, hm9⟩ : ∃ m, ys.length = m := ⟨_, rfl⟩
          have HM := Eqq.mk hm9
          have hmr : (UT.runes ol).length = m := by rw [← hm9, ← hys, mk_len]
          have HMR := Eqq.mk hmr
          have hm : m ≤ 2000000 := by have := UT.runes_len ol.length ol (Nat.le_refl _); have := HO.out.size; omega
          clear hys hm9 hmr
          by_cases hfu : 64 < xs.length + m
          · have HFU := Lib.hid hfu
            clear hfu
            have HD := Eqq.mk (show Cp.put ⟨xs, k, []⟩ rl ol = (Cp.zero, 7) by unfold Cp.put; rw [if_pos ⟨HV.out, HDD.out, HC1.out⟩, if_pos rfl, if_neg (by rw [HMR.out]; have := HFU.out; show ¬ xs.length + m ≤ 64; omega)])
            have hNS : S + 1 + 1 ≤ w3.heap.size := HW3.out.sz
            have HKP := Lib.hid (fun (W : World) (hW : Below (S + 1 + 1) w3 W) => (show (W.cell? ⟨S, 0, none⟩ = some v ∧ W.cell? ⟨S, 1, none⟩ = some (.int .i64 k) ∧ W.cell? ⟨S, 2, none⟩ = some (.string ⟨#[]⟩)) ∧ Below (S + 1 + 1) w3 W from ⟨(three_cells (HW3.out.go hW).r0).1, hW⟩))
            have HBR := Lib.hid (Below.refl (S + 1 + 1) w3)
            have HBA := Lib.hid ((HBR.out.alloc hNS (.cells #[.slice none 0 0, .int .i64 0, .string ⟨#[]⟩] 33)).drew)
            have HLR := Lib.hid (fun (W : World) (hW : Below w3.heap.size w3 W) => HL3.out.keep hW)
            go_wp2_with fail
            clear c0 c1 c2 m0 m1 m2 g0 g1 g2
            go_region_held3 (fun W => (W.cell? ⟨S, 0, none⟩ = some v ∧ W.cell? ⟨S, 1, none⟩ = some (.int .i64 k) ∧ W.cell? ⟨S, 2, none⟩ = some (.string ⟨#[]⟩)) ∧ Below (S + 1 + 1) w3 W)
              (first | exact HKP.out _ HBR.out | exact HKP.out _ HBR.out.drew | exact HKP.out _ HBA.out | exact HKP.out _ HBA.out.drew | exact HKP.out _ HB5.out | exact HKP.out _ HB5.out.drew | exact HKP.out _ HB5a.out | exact HKP.out _ HB6.out | exact HKP.out _ HB6.out.drew | exact HKP.out _ (HB6.out.alloc HZ6.out _) | exact HKP.out _ ((HB6.out.alloc HZ6.out _).drew) | exact HKP.out _ (three_below HB6.out HN6.out _ _ _) | exact HKP.out _ (three_below (HB6.out.alloc HZ6.out _) HZ6.out _ _ _) | go_keep)
              (first
               | (go_at_call 54; (with_reducible refine (items_any rb ob rl ol _ HR5.out HO.out hoz).mono ?_); rw [HYS.out]; rintro e w5 ⟨⟨v5, he, ho5⟩, hb5⟩; subst he; have HO5 := Lib.hid ho5.lie; have HB5 := Lib.hid (HBR.out.drew.trans (hb5.mono hNS)); have HX5 := Lib.hid (HLR.out _ (show Below w3.heap.size w3 w5 from (Below.refl _ _).drew.trans hb5)); have HZ5 := Lib.hid (show S + 1 + 1 ≤ w5.heap.size from Nat.le_trans hNS hb5.size); have HB5a := Lib.hid (HB5.out.alloc HZ5.out (.cells #[.slice none 0 0, .int .i64 0, .string ⟨#[]⟩] 33)); clear hb5 ho5)
               | (go_at_call 54; (with_reducible refine (items_any rb ob rl ol _ HR5.out HO.out hoz).mono ?_); rw [HYS.out]; rintro e w5 ⟨⟨v5, he, ho5⟩, hb5⟩; subst he; have HO5 := Lib.hid ho5.lie; have hs9 : (w3.alloc (.cells #[.slice none 0 0, .int .i64 0, .string ⟨#[]⟩] 33)).heap.size = w3.heap.size + 1 := World.size_alloc _ _; have hb7 : Below (w3.heap.size + 1) (w3.alloc (.cells #[.slice none 0 0, .int .i64 0, .string ⟨#[]⟩] 33)).drew w5 := hb5.mono (Nat.le_of_eq hs9.symm); have hs7 : w3.heap.size + 1 ≤ w5.heap.size := Nat.le_trans (Nat.le_of_eq hs9.symm) hb7.size; have HB5 := Lib.hid (HBA.out.trans (hb7.mono (Nat.le_succ_of_le hNS))); have HX5 := Lib.hid (HLR.out _ (show Below w3.heap.size w3 w5 from ((Below.refl _ _).alloc (Nat.le_refl _) (.cells #[.slice none 0 0, .int .i64 0, .string ⟨#[]⟩] 33)).drew.trans (hb7.mono (Nat.le_succ _)))); have HZ5 := Lib.hid (show S + 1 + 1 ≤ w5.heap.size from Nat.le_trans hNS (Nat.le_trans (Nat.le_succ _) hs7)); have HZA := Lib.hid (show w3.heap.size < w5.heap.size from hs7); have hnx : w5.heap[w3.heap.size]? = some (.cells #[.slice none 0 0, .int .i64 0, .string ⟨#[]⟩] 33 (0, 0)) := (by rw [hb7.block _ (Nat.lt_succ_self _)]; exact (MapKept.heap_alloc w3 _).1); obtain ⟨⟨e0, e1, e2⟩, f0, f1, f2⟩ := three_cells hnx; have HNW := Lib.hid hnx; clear hb5 ho5 hnx hb7 hs7 hs9)
               | (go_at_call 53; have hnw := HNW.out; (with_reducible refine (insert8_full v _ xs ys k _ _ HX5.out HO5.out hk h64 (by rw [HM.out]; exact hm) (by rw [HM.out]; exact HFU.out)).mono ?_); rintro e w6 ⟨he, hb6⟩; subst he; have HB6 := Lib.hid (HB5.out.trans (hb6.mono HZ5.out)); have HZ6 := Lib.hid (Nat.le_trans HZ5.out hb6.size); have HN6 := Lib.hid (show S + 1 + 1 ≤ w3.heap.size from hNS); have hnx : w6.heap[w3.heap.size]? = some (.cells #[.slice none 0 0, .int .i64 0, .string ⟨#[]⟩] 33 (0, 0)) := (by rw [hb6.block _ (heap_lt hnw)]; exact hnw); clear hnw e0 e1 e2 f0 f1 f2; obtain ⟨⟨e0, e1, e2⟩, f0, f1, f2⟩ := three_cells hnx; obtain ⟨FW, hFW⟩ : ∃ FW, (((w6.setCell ⟨w3.heap.size, 0, none⟩ (.slice none 0 0)).setCell ⟨w3.heap.size, 1, none⟩ (.int .i64 0)).setCell ⟨w3.heap.size, 2, none⟩ (.string ⟨#[]⟩)) = FW := ⟨_, rfl⟩; have HFW := Eqq.mk hFW; have HROW := Lib.hid (show FW.heap[w3.heap.size]? = some (.cells #[.slice none 0 0, .int .i64 0, .string ⟨#[]⟩] 33 (0, 0)) from by rw [← hFW]; exact three_set hnx (.slice none 0 0) (.int .i64 0) (.string ⟨#[]⟩)); have HBF := Lib.hid (show Below (S + 1 + 1) w3 FW from by rw [← hFW]; exact three_below HB6.out hNS _ _ _); clear hFW; clear hb6 hnx)
               | (go_at_call 53; (with_reducible refine (insert8_full v _ xs ys k _ _ (HX5.out.keep ((Below.refl _ _).alloc (Nat.le_refl _) (.cells #[.slice none 0 0, .int .i64 0, .string ⟨#[]⟩] 33))) (HO5.out.keep ((Below.refl _ _).alloc (Nat.le_refl _) (.cells #[.slice none 0 0, .int .i64 0, .string ⟨#[]⟩] 33))) hk h64 (by rw [HM.out]; exact hm) (by rw [HM.out]; exact HFU.out)).mono ?_); rintro e w6 ⟨he, hb6⟩; subst he; have hs9 : (w5.alloc (.cells #[.slice none 0 0, .int .i64 0, .string ⟨#[]⟩] 33)).heap.size = w5.heap.size + 1 := World.size_alloc _ _; have hb8 : Below (w5.heap.size + 1) (w5.alloc (.cells #[.slice none 0 0, .int .i64 0, .string ⟨#[]⟩] 33)) w6 := hb6.mono (Nat.le_of_eq hs9.symm); have hs8 : w5.heap.size + 1 ≤ w6.heap.size := Nat.le_trans (Nat.le_of_eq hs9.symm) hb8.size; have HB6 := Lib.hid (HB5a.out.trans (hb8.mono (Nat.le_succ_of_le HZ5.out))); have HZ6 := Lib.hid (Nat.le_trans HZ5.out (Nat.le_trans (Nat.le_succ _) hs8)); have HN6 := Lib.hid (show S + 1 + 1 ≤ w5.heap.size from HZ5.out); have hnx : w6.heap[w5.heap.size]? = some (.cells #[.slice none 0 0, .int .i64 0, .string ⟨#[]⟩] 33 (0, 0)) := (by rw [hb8.block _ (Nat.lt_succ_self _)]; exact (MapKept.heap_alloc w5 _).1); obtain ⟨⟨e0, e1, e2⟩, f0, f1, f2⟩ := three_cells hnx; obtain ⟨FW, hFW⟩ : ∃ FW, (((w6.setCell ⟨w5.heap.size, 0, none⟩ (.slice none 0 0)).setCell ⟨w5.heap.size, 1, none⟩ (.int .i64 0)).setCell ⟨w5.heap.size, 2, none⟩ (.string ⟨#[]⟩)) = FW := ⟨_, rfl⟩; have HFW := Eqq.mk hFW; have HROW := Lib.hid (show FW.heap[w5.heap.size]? = some (.cells #[.slice none 0 0, .int .i64 0, .string ⟨#[]⟩] 33 (0, 0)) from by rw [← hFW]; exact three_set hnx (.slice none 0 0) (.int .i64 0) (.string ⟨#[]⟩)); have HBF := Lib.hid (show Below (S + 1 + 1) w3 FW from by rw [← hFW]; exact three_below HB6.out HZ5.out _ _ _); clear hFW; clear hb6 hb8 hs8 hs9 hnx)
               | (go_at_call 53; (with_reducible refine (insert8_full v _ xs ys k _ _ HX5.out HO5.out hk h64 (by rw [HM.out]; exact hm) (by rw [HM.out]; exact HFU.out)).mono ?_); rintro e w6 ⟨he, hb6⟩; subst he; have HB6 := Lib.hid (HB5.out.trans (hb6.mono HZ5.out)); have HZ6 := Lib.hid (Nat.le_trans HZ5.out hb6.size); obtain ⟨FW, hFW⟩ : ∃ FW, (w6.alloc (.cells #[.slice none 0 0, .int .i64 0, .string ⟨#[]⟩] 33)) = FW := ⟨_, rfl⟩; have HFW := Eqq.mk hFW; have HROW := Lib.hid (show FW.heap[w6.heap.size]? = some (.cells #[.slice none 0 0, .int .i64 0, .string ⟨#[]⟩] 33 (0, 0)) from by rw [← hFW]; exact (MapKept.heap_alloc w6 _).1); have HBF := Lib.hid (show Below (S + 1 + 1) w3 FW from by rw [← hFW]; exact HB6.out.alloc HZ6.out _); clear hFW; clear hb6))
            all_goals
              (rename_i hHeld
               clear hHeld
               try rw [HFW.out]
               have HWF := Lib.hid (HW3.out.go HBF.out)
               try clear e0 e1 e2 f0 f1 f2
               obtain ⟨⟨m0, m1, m2⟩, g0, g1, g2⟩ := three_cells HWF.out.r1
               have HE := Lib.hid (HWF.out.out (.slice none 0 0) (0) (⟨#[]⟩))
               go_wp2_with fail
               (try simp only [Exit.inBlock, Exit.then])
               refine bodyPost_ret (results_row_tmp rfl _ _ (S + 1) 33 #[.slice none 0 0, .int .i64 (0), .string (⟨#[]⟩)] (0, 0) _ (.int .i64 7) (by rfl) (by rfl) HE.out.1 Tryz.underlying33 (by rfl) (by kernel_rfl)) rfl ?_
               rw [HD.out]
               try rw [HS.out]
               exact ⟨⟨_, rfl, OwnG.nil _ _ _⟩, HE.out.2⟩)
          · have HFU := Lib.hid (show xs.length + m ≤ 64 by omega)
            clear hfu
            have HD := Eqq.mk (show Cp.put ⟨xs, k, []⟩ rl ol = (⟨xs.take k ++ (ys ++ xs.drop k), ((k : Int) + (m : Int)), []⟩, 0) by unfold Cp.put; rw [if_pos ⟨HV.out, HDD.out, HC1.out⟩, if_pos rfl, if_pos (by rw [HMR.out]; exact HFU.out), HYS.out]; unfold Cp.ins; dsimp only; rw [Int.toNat_natCast, HM.out, List.append_assoc])
            have hNS : S + 1 + 1 ≤ w3.heap.size := HW3.out.sz
            have HKP := Lib.hid (fun (W : World) (hW : Below (S + 1 + 1) w3 W) => (show (W.cell? ⟨S, 0, none⟩ = some v ∧ W.cell? ⟨S, 1, none⟩ = some (.int .i64 k) ∧ W.cell? ⟨S, 2, none⟩ = some (.string ⟨#[]⟩)) ∧ Below (S + 1 + 1) w3 W from ⟨(three_cells (HW3.out.go hW).r0).1, hW⟩))
            have HBR := Lib.hid (Below.refl (S + 1 + 1) w3)
            have HBA := Lib.hid ((HBR.out.alloc hNS (.cells #[.slice none 0 0, .int .i64 0, .string ⟨#[]⟩] 33)).drew)
            have HLR := Lib.hid (fun (W : World) (hW : Below w3.heap.size w3 W) => HL3.out.keep hW)
            go_wp2_with fail
            clear c0 c1 c2 m0 m1 m2 g0 g1 g2
            go_region_held3 (fun W => (W.cell? ⟨S, 0, none⟩ = some v ∧ W.cell? ⟨S, 1, none⟩ = some (.int .i64 k) ∧ W.cell? ⟨S, 2, none⟩ = some (.string ⟨#[]⟩)) ∧ Below (S + 1 + 1) w3 W)
              (first | exact HKP.out _ HBR.out | exact HKP.out _ HBR.out.drew | exact HKP.out _ HBA.out | exact HKP.out _ HBA.out.drew | exact HKP.out _ HB5.out | exact HKP.out _ HB5.out.drew | exact HKP.out _ HB5a.out | exact HKP.out _ HB6.out | exact HKP.out _ HB6.out.drew | exact HKP.out _ (HB6.out.alloc HZ6.out _) | exact HKP.out _ ((HB6.out.alloc HZ6.out _).drew) | exact HKP.out _ (three_below HB6.out HN6.out _ _ _) | exact HKP.out _ (three_below (HB6.out.alloc HZ6.out _) HZ6.out _ _ _) | go_keep)
              (first
               | (go_at_call 54; (with_reducible refine (items_any rb ob rl ol _ HR5.out HO.out hoz).mono ?_); rw [HYS.out]; rintro e w5 ⟨⟨v5, he, ho5⟩, hb5⟩; subst he; have HO5 := Lib.hid ho5.lie; have HB5 := Lib.hid (HBR.out.drew.trans (hb5.mono hNS)); have HX5 := Lib.hid (HLR.out _ (show Below w3.heap.size w3 w5 from (Below.refl _ _).drew.trans hb5)); have HZ5 := Lib.hid (show S + 1 + 1 ≤ w5.heap.size from Nat.le_trans hNS hb5.size); have HB5a := Lib.hid (HB5.out.alloc HZ5.out (.cells #[.slice none 0 0, .int .i64 0, .string ⟨#[]⟩] 33)); clear hb5 ho5)
               | (go_at_call 54; (with_reducible refine (items_any rb ob rl ol _ HR5.out HO.out hoz).mono ?_); rw [HYS.out]; rintro e w5 ⟨⟨v5, he, ho5⟩, hb5⟩; subst he; have HO5 := Lib.hid ho5.lie; have hs9 : (w3.alloc (.cells #[.slice none 0 0, .int .i64 0, .string ⟨#[]⟩] 33)).heap.size = w3.heap.size + 1 := World.size_alloc _ _; have hb7 : Below (w3.heap.size + 1) (w3.alloc (.cells #[.slice none 0 0, .int .i64 0, .string ⟨#[]⟩] 33)).drew w5 := hb5.mono (Nat.le_of_eq hs9.symm); have hs7 : w3.heap.size + 1 ≤ w5.heap.size := Nat.le_trans (Nat.le_of_eq hs9.symm) hb7.size; have HB5 := Lib.hid (HBA.out.trans (hb7.mono (Nat.le_succ_of_le hNS))); have HX5 := Lib.hid (HLR.out _ (show Below w3.heap.size w3 w5 from ((Below.refl _ _).alloc (Nat.le_refl _) (.cells #[.slice none 0 0, .int .i64 0, .string ⟨#[]⟩] 33)).drew.trans (hb7.mono (Nat.le_succ _)))); have HZ5 := Lib.hid (show S + 1 + 1 ≤ w5.heap.size from Nat.le_trans hNS (Nat.le_trans (Nat.le_succ _) hs7)); have HZA := Lib.hid (show w3.heap.size < w5.heap.size from hs7); have hnx : w5.heap[w3.heap.size]? = some (.cells #[.slice none 0 0, .int .i64 0, .string ⟨#[]⟩] 33 (0, 0)) := (by rw [hb7.block _ (Nat.lt_succ_self _)]; exact (MapKept.heap_alloc w3 _).1); obtain ⟨⟨e0, e1, e2⟩, f0, f1, f2⟩ := three_cells hnx; have HNW := Lib.hid hnx; clear hb5 ho5 hnx hb7 hs7 hs9)
               | (go_at_call 53; have hnw := HNW.out; (with_reducible refine (insert8_fits v _ xs ys k m _ _ HX5.out HO5.out hk h64 HM.out HFU.out).mono ?_); rintro e w6 ⟨⟨v6, he, ho6⟩, hb6⟩; subst he; obtain ⟨a6, c6, hv6⟩ := ho6.frame; obtain ⟨n6, hn6⟩ : ∃ n6, (xs.take k ++ (ys ++ xs.drop k)).length = n6 := ⟨_, rfl⟩; rw [hn6] at hv6; subst hv6; have HB6 := Lib.hid (HB5.out.trans (hb6.mono HZ5.out)); have HZ6 := Lib.hid (Nat.le_trans HZ5.out hb6.size); have HN6 := Lib.hid (show S + 1 + 1 ≤ w3.heap.size from hNS); have hnx : w6.heap[w3.heap.size]? = some (.cells #[.slice none 0 0, .int .i64 0, .string ⟨#[]⟩] 33 (0, 0)) := (by rw [hb6.block _ (heap_lt hnw)]; exact hnw); clear hnw e0 e1 e2 f0 f1 f2; obtain ⟨⟨e0, e1, e2⟩, f0, f1, f2⟩ := three_cells hnx; obtain ⟨FW, hFW⟩ : ∃ FW, (((w6.setCell ⟨w3.heap.size, 0, none⟩ (.slice a6 n6 c6)).setCell ⟨w3.heap.size, 1, none⟩ (.int .i64 ((k : Int) + (m : Int)))).setCell ⟨w3.heap.size, 2, none⟩ (.string ⟨#[]⟩)) = FW := ⟨_, rfl⟩; have HFW := Eqq.mk hFW; have HROW := Lib.hid (show FW.heap[w3.heap.size]? = some (.cells #[.slice a6 n6 c6, .int .i64 ((k : Int) + (m : Int)), .string ⟨#[]⟩] 33 (0, 0)) from by rw [← hFW]; exact three_set hnx (.slice a6 n6 c6) (.int .i64 ((k : Int) + (m : Int))) (.string ⟨#[]⟩)); have HBF := Lib.hid (show Below (S + 1 + 1) w3 FW from by rw [← hFW]; exact three_below HB6.out hNS _ _ _); have HOX := Lib.hid (show OwnG itemE 106 (S + 1 + 1) (.slice a6 n6 c6) (xs.take k ++ (ys ++ xs.drop k)) FW from by rw [← hFW]; exact (three_own8 ho6 (show w3.heap.size < w5.heap.size from HZA.out) _ _ _).lower HZ5.out); clear hFW; clear hb6 hnx ho6)
               | (go_at_call 53; (with_reducible refine (insert8_fits v _ xs ys k m _ _ (HX5.out.keep ((Below.refl _ _).alloc (Nat.le_refl _) (.cells #[.slice none 0 0, .int .i64 0, .string ⟨#[]⟩] 33))) (HO5.out.keep ((Below.refl _ _).alloc (Nat.le_refl _) (.cells #[.slice none 0 0, .int .i64 0, .string ⟨#[]⟩] 33))) hk h64 HM.out HFU.out).mono ?_); rintro e w6 ⟨⟨v6, he, ho6⟩, hb6⟩; subst he; obtain ⟨a6, c6, hv6⟩ := ho6.frame; obtain ⟨n6, hn6⟩ : ∃ n6, (xs.take k ++ (ys ++ xs.drop k)).length = n6 := ⟨_, rfl⟩; rw [hn6] at hv6; subst hv6; have hs9 : (w5.alloc (.cells #[.slice none 0 0, .int .i64 0, .string ⟨#[]⟩] 33)).heap.size = w5.heap.size + 1 := World.size_alloc _ _; have hb8 : Below (w5.heap.size + 1) (w5.alloc (.cells #[.slice none 0 0, .int .i64 0, .string ⟨#[]⟩] 33)) w6 := hb6.mono (Nat.le_of_eq hs9.symm); have hs8 : w5.heap.size + 1 ≤ w6.heap.size := Nat.le_trans (Nat.le_of_eq hs9.symm) hb8.size; have HB6 := Lib.hid (HB5a.out.trans (hb8.mono (Nat.le_succ_of_le HZ5.out))); have HZ6 := Lib.hid (Nat.le_trans HZ5.out (Nat.le_trans (Nat.le_succ _) hs8)); have HN6 := Lib.hid (show S + 1 + 1 ≤ w5.heap.size from HZ5.out); have hnx : w6.heap[w5.heap.size]? = some (.cells #[.slice none 0 0, .int .i64 0, .string ⟨#[]⟩] 33 (0, 0)) := (by rw [hb8.block _ (Nat.lt_succ_self _)]; exact (MapKept.heap_alloc w5 _).1); obtain ⟨⟨e0, e1, e2⟩, f0, f1, f2⟩ := three_cells hnx; obtain ⟨FW, hFW⟩ : ∃ FW, (((w6.setCell ⟨w5.heap.size, 0, none⟩ (.slice a6 n6 c6)).setCell ⟨w5.heap.size, 1, none⟩ (.int .i64 ((k : Int) + (m : Int)))).setCell ⟨w5.heap.size, 2, none⟩ (.string ⟨#[]⟩)) = FW := ⟨_, rfl⟩; have HFW := Eqq.mk hFW; have HROW := Lib.hid (show FW.heap[w5.heap.size]? = some (.cells #[.slice a6 n6 c6, .int .i64 ((k : Int) + (m : Int)), .string ⟨#[]⟩] 33 (0, 0)) from by rw [← hFW]; exact three_set hnx (.slice a6 n6 c6) (.int .i64 ((k : Int) + (m : Int))) (.string ⟨#[]⟩)); have HBF := Lib.hid (show Below (S + 1 + 1) w3 FW from by rw [← hFW]; exact three_below HB6.out HZ5.out _ _ _); have HOX := Lib.hid (show OwnG itemE 106 (S + 1 + 1) (.slice a6 n6 c6) (xs.take k ++ (ys ++ xs.drop k)) FW from by rw [← hFW]; exact (three_own8 ho6 (show w5.heap.size < _ from Nat.lt_of_lt_of_le (Nat.lt_succ_self _) (Nat.le_of_eq hs9.symm)) _ _ _).lower (Nat.le_trans (Nat.le_succ_of_le HZ5.out) (Nat.le_of_eq hs9.symm))); clear hFW; clear hb6 hb8 hs8 hs9 hnx ho6)
               | (go_at_call 53; (with_reducible refine (insert8_fits v _ xs ys k m _ _ HX5.out HO5.out hk h64 HM.out HFU.out).mono ?_); rintro e w6 ⟨⟨v6, he, ho6⟩, hb6⟩; subst he; obtain ⟨a6, c6, hv6⟩ := ho6.frame; obtain ⟨n6, hn6⟩ : ∃ n6, (xs.take k ++ (ys ++ xs.drop k)).length = n6 := ⟨_, rfl⟩; rw [hn6] at hv6; subst hv6; have HB6 := Lib.hid (HB5.out.trans (hb6.mono HZ5.out)); have HZ6 := Lib.hid (Nat.le_trans HZ5.out hb6.size); obtain ⟨FW, hFW⟩ : ∃ FW, (w6.alloc (.cells #[.slice a6 n6 c6, .int .i64 ((k : Int) + (m : Int)), .string ⟨#[]⟩] 33)) = FW := ⟨_, rfl⟩; have HFW := Eqq.mk hFW; have HROW := Lib.hid (show FW.heap[w6.heap.size]? = some (.cells #[.slice a6 n6 c6, .int .i64 ((k : Int) + (m : Int)), .string ⟨#[]⟩] 33 (0, 0)) from by rw [← hFW]; exact (MapKept.heap_alloc w6 _).1); have HBF := Lib.hid (show Below (S + 1 + 1) w3 FW from by rw [← hFW]; exact HB6.out.alloc HZ6.out _); have HOX := Lib.hid (show OwnG itemE 106 (S + 1 + 1) (.slice a6 n6 c6) (xs.take k ++ (ys ++ xs.drop k)) FW from by rw [← hFW]; exact (ho6.alloc _).lower HZ5.out); clear hFW; clear hb6 ho6))
            all_goals
              (rename_i hHeld
               clear hHeld
               try rw [HFW.out]
               have HWF := Lib.hid (HW3.out.go HBF.out)
               try clear e0 e1 e2 f0 f1 f2
               obtain ⟨⟨m0, m1, m2⟩, g0, g1, g2⟩ := three_cells HWF.out.r1
               obtain ⟨⟨y0, y1, y2⟩, u0, u1, u2⟩ := three_cells HROW.out
               have HE := Lib.hid (HWF.out.out (.slice a6 n6 c6) (((k : Int) + (m : Int))) (⟨#[]⟩))
               go_wp2_with fail
               (try simp only [Exit.inBlock, Exit.then])
               refine bodyPost_ret (results_row_tmp rfl _ _ (S + 1) 33 #[.slice a6 n6 c6, .int .i64 (((k : Int) + (m : Int))), .string (⟨#[]⟩)] (0, 0) _ (.int .i64 0) (by rfl) (by rfl) HE.out.1 Tryz.underlying33 (by rfl) (by kernel_rfl)) rfl ?_
               rw [HD.out]
               try rw [HS.out]
               exact ⟨⟨_, rfl, (three_own HOX.out (show S + 1 < S + 1 + 1 by omega) (.slice a6 n6 c6) (.int .i64 ((k : Int) + (m : Int))) (.string ⟨#[]⟩)).lower (by omega)⟩, HE.out.2⟩)
        have n1p : ¬ p.toList = [] := by rw [HP.out.list]; exact hqp
        have n2p : (p.toList == []) = false := by rw [beq_eq_false_iff_ne]; exact n1p
        have HD := Eqq.mk (show Cp.put ⟨xs, k, pl⟩ rl ol = (Cp.zero, 8) by unfold Cp.put; rw [if_pos ⟨HV.out, HDD.out, HC1.out⟩, if_neg hqp])
        have HE := Lib.hid (HW3.out.out (.slice none 0 0) (0) (⟨#[]⟩))
        go_wp2_with fail
        (try simp only [Exit.inBlock, Exit.then])
        refine bodyPost_ret (results_row_tmp rfl _ _ (S + 1) 33 #[.slice none 0 0, .int .i64 (0), .string (⟨#[]⟩)] (0, 0) _ (.int .i64 8) (by rfl) (by rfl) HE.out.1 Tryz.underlying33 (by rfl) (by kernel_rfl)) rfl ?_
        rw [HD.out]
        try rw [HS.out]
        exact ⟨⟨_, rfl, OwnG.nil _ _ _⟩, HE.out.2⟩
end Go.Proofs.YtgdcffahhpeibaaGreatDoor
namespace Go.Proofs.YtgdcffahhpeibaaGreatDoor
open Go.RowKit
theorem trim_ends (s t : ByteArray) (l m : List UInt8) (hs : Is s l) (ht : Is t m) : (⟨(Lib.trimSuffix s.data.toList t.data.toList).toArray⟩ : ByteArray) = ba (Cp.ends l m) := by
  rw [hs.data, ht.data]
  show ba _ = _
  congr 1
  unfold Lib.trimSuffix Cp.ends Lib.hasSuffix
  by_cases h : m.isSuffixOf l = true
  · rw [if_pos h]
    have h2 := List.isSuffixOf_iff_suffix.1 h
    rw [if_pos ⟨h2.length_le, (List.suffix_iff_eq_drop.1 h2).symm⟩]
  · rw [if_neg h, if_neg]
    rintro ⟨_, h2⟩
    exact h (List.isSuffixOf_iff_suffix.2 (List.suffix_iff_eq_drop.2 h2.symm))
theorem encode_byte (c : UInt8) (h : c.toNat < 128) : Utf8.encode (c.toNat : Int) = ba [c] := by
  rw [encode_ba (by unfold UT.isCh; exact decide_eq_true ⟨by omega, by omega⟩), UT.bk_one h]
  congr 2
  exact UInt8.ofNat_toNat
theorem two_v (r : List UInt8 × List UInt8) (x y : ByteArray) (h1 : ba r.1 = x) (h2 : ba r.2 = y) : TwoV r = .returned (.tuple #[.string x, .string y]) := by unfold TwoV; rw [h1, h2]
set_option maxRecDepth 100000 in
set_option maxHeartbeats 16000000 in
theorem pkey_any (B a : Nat) (rs : List RuleB) (v : Value) (xs : List Cp.Item) (c : Int) (p : ByteArray) (pl : List UInt8) (ch : UInt8) (z : Int) (hz : z = (ch.toNat : Int)) (w : World) (h : LieG itemE v xs w) (hp : Is p pl) (hf : Fits xs pl) (ha : AutoIs B rs a w) (hBw : B ≤ w.heap.size) (ht : Tabs w) :
    Calls Tryz.prog 16 #[.pointer (some ⟨a, 0, none⟩), bufV v c p, .int .u8 z] w fun e w' => PairR 106 w.heap.size (Cp.key (rulesL rs) ⟨xs, c, pl⟩ ch) e w' ∧ Below w.heap.size w w' := by
  have HP := Lib.hid hp
  have HF := Lib.hid hf
  have HPB := Eqq.mk hp.ba
  have HOK := Eqq.mk ha.ok
  have HZ := Eqq.mk hz
  have hz0 : 0 ≤ z := by omega
  have hz9 : z ≤ 255 := by have := ch.toNat_lt; omega
  obtain ⟨S, hS⟩ : ∃ S, w.heap.size = S := ⟨_, rfl⟩
  have HS := Eqq.mk hS
  have hw0 := Rows2.new 33 v c p w hS
  obtain ⟨W0, hW0⟩ : ∃ W0, (w.alloc (.cells #[v, .int .i64 c, .string p] 33)).alloc (.cells #[.slice none 0 0, .int .i64 0, .string ⟨#[]⟩] 33) = W0 := ⟨_, rfl⟩
  rw [hW0] at hw0
  have HW0 := Lib.hid hw0
  have HW := Eqq.mk hW0
  have HL0 := Lib.hid (h.below hw0.b (by omega))
  have HT := Lib.hid (fun (W : World) (hW : Below S w W) => ht.keep (show Below w.heap.size w W by rw [hS]; exact hW))
  obtain ⟨⟨c0, c1, c2⟩, _⟩ := three_cells hw0.r0
  obtain ⟨⟨m0, m1, m2⟩, g0, g1, g2⟩ := three_cells hw0.r1
  have HAU := Lib.hid (fun (W : World) (hW : Below S w W) => (show AutoIs S rs a W from (ha.mono (show B ≤ S by omega)).below hW))
  clear h hp hf ht ha hw0 hW0
  go_enter Tryz.func16, Tryz.ntmps16
  go_wp2_with fail
  try rw [hS]
  rw [HW.out]
  with_reducible refine (check8_any v xs c p pl W0 HL0.out HP.out HF.out (HT.out _ HW0.out.b)).mono ?_
  rintro e w1 ⟨rfl, hb⟩
  have HW1 := Lib.hid (HW0.out.keep hb)
  have HL1 := Lib.hid (HL0.out.keep hb)
  clear hb c0 c1 c2 m0 m1 m2 g0 g1 g2
  obtain ⟨⟨c0, c1, c2⟩, _⟩ := three_cells HW1.out.r0
  obtain ⟨⟨m0, m1, m2⟩, g0, g1, g2⟩ := three_cells HW1.out.r1
  obtain ⟨V, hV⟩ : ∃ V, Cp.valid ⟨xs, c, pl⟩ = V := ⟨_, rfl⟩
  have HV := Eqq.mk hV
  rw [hV]
  clear hV
  cases V
  · rw [if_neg (show ¬ (false = true) by simp)]
    have HD := Eqq.mk (show Cp.key (rulesL rs) ⟨xs, c, pl⟩ ch = (Cp.zero, 1) by unfold Cp.key; rw [if_neg (by rw [HV.out]; simp)])
    have HE := Lib.hid (HW1.out.out (.slice none 0 0) (0) (⟨#[]⟩))
    go_wp2_with fail
    (try simp only [Exit.inBlock, Exit.then])
    refine bodyPost_ret (results_row_tmp rfl _ _ (S + 1) 33 #[.slice none 0 0, .int .i64 (0), .string (⟨#[]⟩)] (0, 0) _ (.int .i64 1) (by rfl) (by rfl) HE.out.1 Tryz.underlying33 (by rfl) (by kernel_rfl)) rfl ?_
    rw [HD.out]
    try rw [HS.out]
    exact ⟨⟨_, rfl, OwnG.nil _ _ _⟩, HE.out.2⟩
  · rw [if_pos rfl]
    obtain ⟨h64, ⟨k, rfl, hk⟩, h8, _, _⟩ := valid_parts HV.out
    by_cases h33 : z < 33
    · have d33 : decide (z < 33) = true := decide_eq_true h33
      have hnk := Au.isKey_no (c := ch) (.inl (by omega))
      have HNK := Eqq.mk hnk
      clear hnk
      have HD := Eqq.mk (show Cp.key (rulesL rs) ⟨xs, (k : Int), pl⟩ ch = (Cp.zero, 1) by unfold Cp.key; rw [if_neg (by rw [HNK.out]; simp)])
      have HE := Lib.hid (HW1.out.out (.slice none 0 0) (0) (⟨#[]⟩))
      go_wp2_with fail
      (try simp only [Exit.inBlock, Exit.then])
      refine bodyPost_ret (results_row_tmp rfl _ _ (S + 1) 33 #[.slice none 0 0, .int .i64 (0), .string (⟨#[]⟩)] (0, 0) _ (.int .i64 1) (by rfl) (by rfl) HE.out.1 Tryz.underlying33 (by rfl) (by kernel_rfl)) rfl ?_
      rw [HD.out]
      try rw [HS.out]
      exact ⟨⟨_, rfl, OwnG.nil _ _ _⟩, HE.out.2⟩
    have d33 : decide (z < 33) = false := decide_eq_false h33
    by_cases h126 : 126 < z
    · have d126 : decide (126 < z) = true := decide_eq_true h126
      have hnk := Au.isKey_no (c := ch) (.inr (by omega))
      have HNK := Eqq.mk hnk
      clear hnk
      have HD := Eqq.mk (show Cp.key (rulesL rs) ⟨xs, (k : Int), pl⟩ ch = (Cp.zero, 1) by unfold Cp.key; rw [if_neg (by rw [HNK.out]; simp)])
      have HE := Lib.hid (HW1.out.out (.slice none 0 0) (0) (⟨#[]⟩))
      go_wp2_with fail
      (try simp only [Exit.inBlock, Exit.then])
      refine bodyPost_ret (results_row_tmp rfl _ _ (S + 1) 33 #[.slice none 0 0, .int .i64 (0), .string (⟨#[]⟩)] (0, 0) _ (.int .i64 1) (by rfl) (by rfl) HE.out.1 Tryz.underlying33 (by rfl) (by kernel_rfl)) rfl ?_
      rw [HD.out]
      try rw [HS.out]
      exact ⟨⟨_, rfl, OwnG.nil _ _ _⟩, HE.out.2⟩
    have d126 : decide (126 < z) = false := decide_eq_false h126
    have hik := Au.isKey_yes (c := ch) (by omega) (by omega)
    have HIK := Eqq.mk hik
    have hpz : p.size ≤ 8 := by rw [HP.out.size]; exact h8
    have hen : Utf8.encode z = ba [ch] := by rw [hz]; exact encode_byte ch (by omega)
    obtain ⟨kb, hkb⟩ : ∃ kb, ba [ch] = kb := ⟨_, rfl⟩
    have HKB := Eqq.mk hkb
    have hkz : kb.size = 1 := by rw [← hkb, ba_size]; rfl
    rw [hkb] at hen
    have hwr : IntKind.i32.wrap z = z := by rw [IntWalk.i32_in _ (by omega)]
    obtain ⟨ab, hab⟩ : ∃ ab, p ++ kb = ab := ⟨_, rfl⟩
    have HAB := Lib.hid (show Is ab (pl ++ [ch]) by rw [← hab, ← hkb]; exact HP.out.append (is_ba [ch]))
    have hbig : ¬ 9223372036854775807 < p.size + kb.size := by omega
    have habz : ab.size ≤ 9 := by rw [← hab, ByteArray.size_append]; omega
    clear hkb hik hz
    obtain ⟨⟨ol, sl⟩, hst⟩ : ∃ q, Au.step (rulesL rs) pl ch = q := ⟨_, rfl⟩
    have HST := Eqq.mk hst
    obtain ⟨s1, s2, s3⟩ := Cp.step_facts HOK.out pl ch
    rw [hst] at s1 s2 s3
    dsimp only at s1 s2 s3
    have HVD := Eqq.mk s1
    obtain ⟨ob, hob⟩ : ∃ ob, ba ol = ob := ⟨_, rfl⟩
    obtain ⟨sb, hsb⟩ : ∃ sb, ba sl = sb := ⟨_, rfl⟩
    have HO := Lib.hid (show Is ob ol by rw [← hob]; exact is_ba ol)
    have HSL := Lib.hid (show Is sb sl by rw [← hsb]; exact is_ba sl)
    have hoz : ob.size ≤ 2000000 := by rw [HO.out.size]; omega
    have H2V := Eqq.mk (two_v (ol, sl) ob sb hob hsb)
    have HSB := Eqq.mk hsb
    clear hst hob hsb s1 s2 s3
    go_wp2_with fail
    with_reducible refine (step_any S a rs p pl ch z HZ.out w1 (HAU.out _ HW1.out.b) (by have := HW1.out.sz; omega) HP.out (by omega)).mono ?_
    rw [HST.out, H2V.out]
    rintro e w2 ⟨rfl, hb⟩
    have HW2 := Lib.hid (HW1.out.keep hb)
    have HL2 := Lib.hid (HL1.out.keep hb)
    clear hb c0 c1 c2 m0 m1 m2 g0 g1 g2
    obtain ⟨⟨c0, c1, c2⟩, _⟩ := three_cells HW2.out.r0
    obtain ⟨⟨m0, m1, m2⟩, g0, g1, g2⟩ := three_cells HW2.out.r1
    by_cases h9 : 8 < sb.size
    · have d9 : decide ((8 : Int) < (sb.size : Int)) = true := decide_eq_true (by omega)
      have H9 := Lib.hid h9
      clear h9
      have HD := Eqq.mk (show Cp.key (rulesL rs) ⟨xs, (k : Int), pl⟩ ch = (Cp.zero, 1) by unfold Cp.key; rw [if_pos ⟨HV.out, HIK.out⟩, if_neg (by dsimp only; rw [HST.out]; have h1 := H9.out; have h2 := HSL.out.size; dsimp only; omega)])
      have HE := Lib.hid (HW2.out.out (.slice none 0 0) (0) (⟨#[]⟩))
      go_wp2_with fail
      (try simp only [Exit.inBlock, Exit.then])
      refine bodyPost_ret (results_row_tmp rfl _ _ (S + 1) 33 #[.slice none 0 0, .int .i64 (0), .string (⟨#[]⟩)] (0, 0) _ (.int .i64 1) (by rfl) (by rfl) HE.out.1 Tryz.underlying33 (by rfl) (by kernel_rfl)) rfl ?_
      rw [HD.out]
      try rw [HS.out]
      exact ⟨⟨_, rfl, OwnG.nil _ _ _⟩, HE.out.2⟩
    · have d9 : decide ((8 : Int) < (sb.size : Int)) = false := decide_eq_false (by omega)
      have H9 := Lib.hid (show sl.length ≤ 8 by have := HSL.out.size; omega)
      clear h9
      go_wp2_with fail
      with_reducible refine (uvalid8_any ob ol _ HO.out (by omega) (HT.out _ HW2.out.b)).mono ?_
      rw [HVD.out]
      rintro e w3 ⟨rfl, hb⟩
      have HW3 := Lib.hid (HW2.out.keep hb)
      have HL3 := Lib.hid (HL2.out.keep hb)
      clear hb c0 c1 c2 m0 m1 m2 g0 g1 g2
      obtain ⟨⟨c0, c1, c2⟩, _⟩ := three_cells HW3.out.r0
      obtain ⟨⟨m0, m1, m2⟩, g0, g1, g2⟩ := three_cells HW3.out.r1
      obtain ⟨ul, hul⟩ : ∃ ul, Cp.ends (pl ++ [ch]) sl = ul := ⟨_, rfl⟩
      have HUL := Eqq.mk hul
      obtain ⟨ub, hub⟩ : ∃ ub, ba ul = ub := ⟨_, rfl⟩
      have HR5 := Lib.hid (show Is ub ul by rw [← hub]; exact is_ba ul)
      have HTS := Eqq.mk (show (⟨(Lib.trimSuffix ab.data.toList sb.data.toList).toArray⟩ : ByteArray) = ub by rw [trim_ends ab sb _ _ HAB.out HSL.out, hul, hub])
      obtain ⟨ys, hys⟩ : ∃ ys, Cp.mkItems ul (UT.runes ol) = ys := ⟨_, rfl⟩
      have HYS := Eqq.mk hys
      obtain ⟨m, hm9⟩ : ∃ m, ys.length = m := ⟨_, rfl⟩
      have HM := Eqq.mk hm9
      have hmr : (UT.runes ol).length = m := by rw [← hm9, ← hys, mk_len]
      have HMR := Eqq.mk hmr
      have hm : m ≤ 2000000 := by have := UT.runes_len ol.length ol (Nat.le_refl _); have := HO.out.size; omega
      clear hys hm9 hmr hul hub
      by_cases hfu : 64 < xs.length + m
      · have HFU := Lib.hid hfu
        clear hfu
        have HD := Eqq.mk (show Cp.key (rulesL rs) ⟨xs, (k : Int), pl⟩ ch = (Cp.zero, 7) by unfold Cp.key; rw [if_pos ⟨HV.out, HIK.out⟩]; dsimp only; rw [HST.out]; dsimp only; rw [if_pos H9.out, if_neg (by rw [HMR.out]; have := HFU.out; omega)])
        have hNS : S + 1 + 1 ≤ w3.heap.size := HW3.out.sz
        have HKP := Lib.hid (fun (W : World) (hW : Below (S + 1 + 1) w3 W) => (show (W.cell? ⟨S, 0, none⟩ = some v ∧ W.cell? ⟨S, 1, none⟩ = some (.int .i64 k) ∧ W.cell? ⟨S, 2, none⟩ = some (.string p)) ∧ Below (S + 1 + 1) w3 W from ⟨(three_cells (HW3.out.go hW).r0).1, hW⟩))
        have HBR := Lib.hid (Below.refl (S + 1 + 1) w3)
        have HBA := Lib.hid ((HBR.out.alloc hNS (.cells #[.slice none 0 0, .int .i64 0, .string ⟨#[]⟩] 33)).drew)
        have HLR := Lib.hid (fun (W : World) (hW : Below w3.heap.size w3 W) => HL3.out.keep hW)
        go_wp2_with fail
        clear c0 c1 c2 m0 m1 m2 g0 g1 g2
        go_region_held3 (fun W => (W.cell? ⟨S, 0, none⟩ = some v ∧ W.cell? ⟨S, 1, none⟩ = some (.int .i64 k) ∧ W.cell? ⟨S, 2, none⟩ = some (.string p)) ∧ Below (S + 1 + 1) w3 W)
          (first | exact HKP.out _ HBR.out | exact HKP.out _ HBR.out.drew | exact HKP.out _ HBA.out | exact HKP.out _ HBA.out.drew | exact HKP.out _ HB5.out | exact HKP.out _ HB5.out.drew | exact HKP.out _ HB5a.out | exact HKP.out _ HB6.out | exact HKP.out _ HB6.out.drew | exact HKP.out _ (HB6.out.alloc HZ6.out _) | exact HKP.out _ ((HB6.out.alloc HZ6.out _).drew) | exact HKP.out _ (three_below HB6.out HN6.out _ _ _) | exact HKP.out _ (three_below (HB6.out.alloc HZ6.out _) HZ6.out _ _ _) | go_keep)
          (first
           | (go_at_call 55; (with_reducible refine (Tryz.strings_TrimSuffix ab sb _ (by omega)).mono ?_); rw [HTS.out]; rintro e w9 ⟨he, hw⟩; subst he; subst hw)
           | (go_at_call 54; (with_reducible refine (items_any ub ob ul ol _ HR5.out HO.out hoz).mono ?_); rw [HYS.out]; rintro e w5 ⟨⟨v5, he, ho5⟩, hb5⟩; subst he; have HO5 := Lib.hid ho5.lie; have HB5 := Lib.hid (HBR.out.drew.trans (hb5.mono hNS)); have HX5 := Lib.hid (HLR.out _ (show Below w3.heap.size w3 w5 from (Below.refl _ _).drew.trans hb5)); have HZ5 := Lib.hid (show S + 1 + 1 ≤ w5.heap.size from Nat.le_trans hNS hb5.size); have HB5a := Lib.hid (HB5.out.alloc HZ5.out (.cells #[.slice none 0 0, .int .i64 0, .string ⟨#[]⟩] 33)); clear hb5 ho5)
           | (go_at_call 54; (with_reducible refine (items_any ub ob ul ol _ HR5.out HO.out hoz).mono ?_); rw [HYS.out]; rintro e w5 ⟨⟨v5, he, ho5⟩, hb5⟩; subst he; have HO5 := Lib.hid ho5.lie; have hs9 : (w3.alloc (.cells #[.slice none 0 0, .int .i64 0, .string ⟨#[]⟩] 33)).heap.size = w3.heap.size + 1 := World.size_alloc _ _; have hb7 : Below (w3.heap.size + 1) (w3.alloc (.cells #[.slice none 0 0, .int .i64 0, .string ⟨#[]⟩] 33)).drew w5 := hb5.mono (Nat.le_of_eq hs9.symm); have hs7 : w3.heap.size + 1 ≤ w5.heap.size := Nat.le_trans (Nat.le_of_eq hs9.symm) hb7.size; have HB5 := Lib.hid (HBA.out.trans (hb7.mono (Nat.le_succ_of_le hNS))); have HX5 := Lib.hid (HLR.out _ (show Below w3.heap.size w3 w5 from ((Below.refl _ _).alloc (Nat.le_refl _) (.cells #[.slice none 0 0, .int .i64 0, .string ⟨#[]⟩] 33)).drew.trans (hb7.mono (Nat.le_succ _)))); have HZ5 := Lib.hid (show S + 1 + 1 ≤ w5.heap.size from Nat.le_trans hNS (Nat.le_trans (Nat.le_succ _) hs7)); have HZA := Lib.hid (show w3.heap.size < w5.heap.size from hs7); have hnx : w5.heap[w3.heap.size]? = some (.cells #[.slice none 0 0, .int .i64 0, .string ⟨#[]⟩] 33 (0, 0)) := (by rw [hb7.block _ (Nat.lt_succ_self _)]; exact (MapKept.heap_alloc w3 _).1); obtain ⟨⟨e0, e1, e2⟩, f0, f1, f2⟩ := three_cells hnx; have HNW := Lib.hid hnx; clear hb5 ho5 hnx hb7 hs7 hs9)
           | (go_at_call 53; have hnw := HNW.out; (with_reducible refine (insert8_full v _ xs ys k _ _ HX5.out HO5.out hk h64 (by rw [HM.out]; exact hm) (by rw [HM.out]; exact HFU.out)).mono ?_); rintro e w6 ⟨he, hb6⟩; subst he; have HB6 := Lib.hid (HB5.out.trans (hb6.mono HZ5.out)); have HZ6 := Lib.hid (Nat.le_trans HZ5.out hb6.size); have HN6 := Lib.hid (show S + 1 + 1 ≤ w3.heap.size from hNS); have hnx : w6.heap[w3.heap.size]? = some (.cells #[.slice none 0 0, .int .i64 0, .string ⟨#[]⟩] 33 (0, 0)) := (by rw [hb6.block _ (heap_lt hnw)]; exact hnw); clear hnw e0 e1 e2 f0 f1 f2; obtain ⟨⟨e0, e1, e2⟩, f0, f1, f2⟩ := three_cells hnx; obtain ⟨FW, hFW⟩ : ∃ FW, (((w6.setCell ⟨w3.heap.size, 0, none⟩ (.slice none 0 0)).setCell ⟨w3.heap.size, 1, none⟩ (.int .i64 0)).setCell ⟨w3.heap.size, 2, none⟩ (.string ⟨#[]⟩)) = FW := ⟨_, rfl⟩; have HFW := Eqq.mk hFW; have HROW := Lib.hid (show FW.heap[w3.heap.size]? = some (.cells #[.slice none 0 0, .int .i64 0, .string ⟨#[]⟩] 33 (0, 0)) from by rw [← hFW]; exact three_set hnx (.slice none 0 0) (.int .i64 0) (.string ⟨#[]⟩)); have HBF := Lib.hid (show Below (S + 1 + 1) w3 FW from by rw [← hFW]; exact three_below HB6.out hNS _ _ _); clear hFW; clear hb6 hnx)
           | (go_at_call 53; (with_reducible refine (insert8_full v _ xs ys k _ _ (HX5.out.keep ((Below.refl _ _).alloc (Nat.le_refl _) (.cells #[.slice none 0 0, .int .i64 0, .string ⟨#[]⟩] 33))) (HO5.out.keep ((Below.refl _ _).alloc (Nat.le_refl _) (.cells #[.slice none 0 0, .int .i64 0, .string ⟨#[]⟩] 33))) hk h64 (by rw [HM.out]; exact hm) (by rw [HM.out]; exact HFU.out)).mono ?_); rintro e w6 ⟨he, hb6⟩; subst he; have hs9 : (w5.alloc (.cells #[.slice none 0 0, .int .i64 0, .string ⟨#[]⟩] 33)).heap.size = w5.heap.size + 1 := World.size_alloc _ _; have hb8 : Below (w5.heap.size + 1) (w5.alloc (.cells #[.slice none 0 0, .int .i64 0, .string ⟨#[]⟩] 33)) w6 := hb6.mono (Nat.le_of_eq hs9.symm); have hs8 : w5.heap.size + 1 ≤ w6.heap.size := Nat.le_trans (Nat.le_of_eq hs9.symm) hb8.size; have HB6 := Lib.hid (HB5a.out.trans (hb8.mono (Nat.le_succ_of_le HZ5.out))); have HZ6 := Lib.hid (Nat.le_trans HZ5.out (Nat.le_trans (Nat.le_succ _) hs8)); have HN6 := Lib.hid (show S + 1 + 1 ≤ w5.heap.size from HZ5.out); have hnx : w6.heap[w5.heap.size]? = some (.cells #[.slice none 0 0, .int .i64 0, .string ⟨#[]⟩] 33 (0, 0)) := (by rw [hb8.block _ (Nat.lt_succ_self _)]; exact (MapKept.heap_alloc w5 _).1); obtain ⟨⟨e0, e1, e2⟩, f0, f1, f2⟩ := three_cells hnx; obtain ⟨FW, hFW⟩ : ∃ FW, (((w6.setCell ⟨w5.heap.size, 0, none⟩ (.slice none 0 0)).setCell ⟨w5.heap.size, 1, none⟩ (.int .i64 0)).setCell ⟨w5.heap.size, 2, none⟩ (.string ⟨#[]⟩)) = FW := ⟨_, rfl⟩; have HFW := Eqq.mk hFW; have HROW := Lib.hid (show FW.heap[w5.heap.size]? = some (.cells #[.slice none 0 0, .int .i64 0, .string ⟨#[]⟩] 33 (0, 0)) from by rw [← hFW]; exact three_set hnx (.slice none 0 0) (.int .i64 0) (.string ⟨#[]⟩)); have HBF := Lib.hid (show Below (S + 1 + 1) w3 FW from by rw [← hFW]; exact three_below HB6.out HZ5.out _ _ _); clear hFW; clear hb6 hb8 hs8 hs9 hnx)
           | (go_at_call 53; (with_reducible refine (insert8_full v _ xs ys k _ _ HX5.out HO5.out hk h64 (by rw [HM.out]; exact hm) (by rw [HM.out]; exact HFU.out)).mono ?_); rintro e w6 ⟨he, hb6⟩; subst he; have HB6 := Lib.hid (HB5.out.trans (hb6.mono HZ5.out)); have HZ6 := Lib.hid (Nat.le_trans HZ5.out hb6.size); obtain ⟨FW, hFW⟩ : ∃ FW, (w6.alloc (.cells #[.slice none 0 0, .int .i64 0, .string ⟨#[]⟩] 33)) = FW := ⟨_, rfl⟩; have HFW := Eqq.mk hFW; have HROW := Lib.hid (show FW.heap[w6.heap.size]? = some (.cells #[.slice none 0 0, .int .i64 0, .string ⟨#[]⟩] 33 (0, 0)) from by rw [← hFW]; exact (MapKept.heap_alloc w6 _).1); have HBF := Lib.hid (show Below (S + 1 + 1) w3 FW from by rw [← hFW]; exact HB6.out.alloc HZ6.out _); clear hFW; clear hb6))
        all_goals
          (rename_i hHeld
           clear hHeld
           try rw [HFW.out]
           have HWF := Lib.hid (HW3.out.go HBF.out)
           try clear e0 e1 e2 f0 f1 f2
           obtain ⟨⟨m0, m1, m2⟩, g0, g1, g2⟩ := three_cells HWF.out.r1
           have HE := Lib.hid (HWF.out.out (.slice none 0 0) (0) (⟨#[]⟩))
           go_wp2_with fail
           (try simp only [Exit.inBlock, Exit.then])
           refine bodyPost_ret (results_row_tmp rfl _ _ (S + 1) 33 #[.slice none 0 0, .int .i64 (0), .string (⟨#[]⟩)] (0, 0) _ (.int .i64 7) (by rfl) (by rfl) HE.out.1 Tryz.underlying33 (by rfl) (by kernel_rfl)) rfl ?_
           rw [HD.out]
           try rw [HS.out]
           exact ⟨⟨_, rfl, OwnG.nil _ _ _⟩, HE.out.2⟩)
      · have HFU := Lib.hid (show xs.length + m ≤ 64 by omega)
        clear hfu
        have HD := Eqq.mk (show Cp.key (rulesL rs) ⟨xs, (k : Int), pl⟩ ch = (⟨xs.take k ++ (ys ++ xs.drop k), ((k : Int) + (m : Int)), sl⟩, 0) by unfold Cp.key; rw [if_pos ⟨HV.out, HIK.out⟩]; dsimp only; rw [HST.out]; dsimp only; rw [if_pos H9.out, if_pos (by rw [HMR.out]; exact HFU.out), HUL.out, HYS.out]; unfold Cp.ins; dsimp only; rw [Int.toNat_natCast, HM.out, List.append_assoc])
        have hNS : S + 1 + 1 ≤ w3.heap.size := HW3.out.sz
        have HKP := Lib.hid (fun (W : World) (hW : Below (S + 1 + 1) w3 W) => (show (W.cell? ⟨S, 0, none⟩ = some v ∧ W.cell? ⟨S, 1, none⟩ = some (.int .i64 k) ∧ W.cell? ⟨S, 2, none⟩ = some (.string p)) ∧ Below (S + 1 + 1) w3 W from ⟨(three_cells (HW3.out.go hW).r0).1, hW⟩))
        have HBR := Lib.hid (Below.refl (S + 1 + 1) w3)
        have HBA := Lib.hid ((HBR.out.alloc hNS (.cells #[.slice none 0 0, .int .i64 0, .string ⟨#[]⟩] 33)).drew)
        have HLR := Lib.hid (fun (W : World) (hW : Below w3.heap.size w3 W) => HL3.out.keep hW)
        go_wp2_with fail
        clear c0 c1 c2 m0 m1 m2 g0 g1 g2
        go_region_held3 (fun W => (W.cell? ⟨S, 0, none⟩ = some v ∧ W.cell? ⟨S, 1, none⟩ = some (.int .i64 k) ∧ W.cell? ⟨S, 2, none⟩ = some (.string p)) ∧ Below (S + 1 + 1) w3 W)
          (first | exact HKP.out _ HBR.out | exact HKP.out _ HBR.out.drew | exact HKP.out _ HBA.out | exact HKP.out _ HBA.out.drew | exact HKP.out _ HB5.out | exact HKP.out _ HB5.out.drew | exact HKP.out _ HB5a.out | exact HKP.out _ HB6.out | exact HKP.out _ HB6.out.drew | exact HKP.out _ (HB6.out.alloc HZ6.out _) | exact HKP.out _ ((HB6.out.alloc HZ6.out _).drew) | exact HKP.out _ (three_below HB6.out HN6.out _ _ _) | exact HKP.out _ (three_below (HB6.out.alloc HZ6.out _) HZ6.out _ _ _) | go_keep)
          (first
           | (go_at_call 55; (with_reducible refine (Tryz.strings_TrimSuffix ab sb _ (by omega)).mono ?_); rw [HTS.out]; rintro e w9 ⟨he, hw⟩; subst he; subst hw)
           | (go_at_call 54; (with_reducible refine (items_any ub ob ul ol _ HR5.out HO.out hoz).mono ?_); rw [HYS.out]; rintro e w5 ⟨⟨v5, he, ho5⟩, hb5⟩; subst he; have HO5 := Lib.hid ho5.lie; have HB5 := Lib.hid (HBR.out.drew.trans (hb5.mono hNS)); have HX5 := Lib.hid (HLR.out _ (show Below w3.heap.size w3 w5 from (Below.refl _ _).drew.trans hb5)); have HZ5 := Lib.hid (show S + 1 + 1 ≤ w5.heap.size from Nat.le_trans hNS hb5.size); have HB5a := Lib.hid (HB5.out.alloc HZ5.out (.cells #[.slice none 0 0, .int .i64 0, .string ⟨#[]⟩] 33)); clear hb5 ho5)
           | (go_at_call 54; (with_reducible refine (items_any ub ob ul ol _ HR5.out HO.out hoz).mono ?_); rw [HYS.out]; rintro e w5 ⟨⟨v5, he, ho5⟩, hb5⟩; subst he; have HO5 := Lib.hid ho5.lie; have hs9 : (w3.alloc (.cells #[.slice none 0 0, .int .i64 0, .string ⟨#[]⟩] 33)).heap.size = w3.heap.size + 1 := World.size_alloc _ _; have hb7 : Below (w3.heap.size + 1) (w3.alloc (.cells #[.slice none 0 0, .int .i64 0, .string ⟨#[]⟩] 33)).drew w5 := hb5.mono (Nat.le_of_eq hs9.symm); have hs7 : w3.heap.size + 1 ≤ w5.heap.size := Nat.le_trans (Nat.le_of_eq hs9.symm) hb7.size; have HB5 := Lib.hid (HBA.out.trans (hb7.mono (Nat.le_succ_of_le hNS))); have HX5 := Lib.hid (HLR.out _ (show Below w3.heap.size w3 w5 from ((Below.refl _ _).alloc (Nat.le_refl _) (.cells #[.slice none 0 0, .int .i64 0, .string ⟨#[]⟩] 33)).drew.trans (hb7.mono (Nat.le_succ _)))); have HZ5 := Lib.hid (show S + 1 + 1 ≤ w5.heap.size from Nat.le_trans hNS (Nat.le_trans (Nat.le_succ _) hs7)); have HZA := Lib.hid (show w3.heap.size < w5.heap.size from hs7); have hnx : w5.heap[w3.heap.size]? = some (.cells #[.slice none 0 0, .int .i64 0, .string ⟨#[]⟩] 33 (0, 0)) := (by rw [hb7.block _ (Nat.lt_succ_self _)]; exact (MapKept.heap_alloc w3 _).1); obtain ⟨⟨e0, e1, e2⟩, f0, f1, f2⟩ := three_cells hnx; have HNW := Lib.hid hnx; clear hb5 ho5 hnx hb7 hs7 hs9)
           | (go_at_call 53; have hnw := HNW.out; (with_reducible refine (insert8_fits v _ xs ys k m _ _ HX5.out HO5.out hk h64 HM.out HFU.out).mono ?_); rintro e w6 ⟨⟨v6, he, ho6⟩, hb6⟩; subst he; obtain ⟨a6, c6, hv6⟩ := ho6.frame; obtain ⟨n6, hn6⟩ : ∃ n6, (xs.take k ++ (ys ++ xs.drop k)).length = n6 := ⟨_, rfl⟩; rw [hn6] at hv6; subst hv6; have HB6 := Lib.hid (HB5.out.trans (hb6.mono HZ5.out)); have HZ6 := Lib.hid (Nat.le_trans HZ5.out hb6.size); have HN6 := Lib.hid (show S + 1 + 1 ≤ w3.heap.size from hNS); have hnx : w6.heap[w3.heap.size]? = some (.cells #[.slice none 0 0, .int .i64 0, .string ⟨#[]⟩] 33 (0, 0)) := (by rw [hb6.block _ (heap_lt hnw)]; exact hnw); clear hnw e0 e1 e2 f0 f1 f2; obtain ⟨⟨e0, e1, e2⟩, f0, f1, f2⟩ := three_cells hnx; obtain ⟨NX, hNX⟩ : ∃ NX, w3.heap.size = NX := ⟨_, rfl⟩; have HNN := Eqq.mk hNX; have HNS := Lib.hid (show S + 1 + 1 ≤ NX from by rw [← hNX]; exact hNS); obtain ⟨FW, hFW⟩ : ∃ FW, (((w6.setCell ⟨w3.heap.size, 0, none⟩ (.slice a6 n6 c6)).setCell ⟨w3.heap.size, 1, none⟩ (.int .i64 ((k : Int) + (m : Int)))).setCell ⟨w3.heap.size, 2, none⟩ (.string p)) = FW := ⟨_, rfl⟩; have HFW := Eqq.mk hFW; have HROW := Lib.hid (show FW.heap[NX]? = some (.cells #[.slice a6 n6 c6, .int .i64 ((k : Int) + (m : Int)), .string p] 33 (0, 0)) from by rw [← hNX]; rw [← hFW]; exact three_set hnx (.slice a6 n6 c6) (.int .i64 ((k : Int) + (m : Int))) (.string p)); have HBF := Lib.hid (show Below (S + 1 + 1) w3 FW from by rw [← hFW]; exact three_below HB6.out hNS _ _ _); have HOX := Lib.hid (show OwnG itemE 106 (S + 1 + 1) (.slice a6 n6 c6) (xs.take k ++ (ys ++ xs.drop k)) FW from by rw [← hFW]; exact (three_own8 ho6 (show w3.heap.size < w5.heap.size from HZA.out) _ _ _).lower HZ5.out); have HOY := Lib.hid (fun (o : Nat) (u : Value) => show OwnG itemE 106 (S + 1 + 1) (.slice a6 n6 c6) (xs.take k ++ (ys ++ xs.drop k)) (FW.setCell ⟨NX, o, none⟩ u) from by rw [← hFW, ← hNX]; exact (own_set (three_own8 ho6 (show w3.heap.size < w5.heap.size from HZA.out) _ _ _) _ HZA.out o u).lower HZ5.out); clear hFW; clear hNX; clear hb6 hnx ho6)
           | (go_at_call 53; (with_reducible refine (insert8_fits v _ xs ys k m _ _ (HX5.out.keep ((Below.refl _ _).alloc (Nat.le_refl _) (.cells #[.slice none 0 0, .int .i64 0, .string ⟨#[]⟩] 33))) (HO5.out.keep ((Below.refl _ _).alloc (Nat.le_refl _) (.cells #[.slice none 0 0, .int .i64 0, .string ⟨#[]⟩] 33))) hk h64 HM.out HFU.out).mono ?_); rintro e w6 ⟨⟨v6, he, ho6⟩, hb6⟩; subst he; obtain ⟨a6, c6, hv6⟩ := ho6.frame; obtain ⟨n6, hn6⟩ : ∃ n6, (xs.take k ++ (ys ++ xs.drop k)).length = n6 := ⟨_, rfl⟩; rw [hn6] at hv6; subst hv6; have hs9 : (w5.alloc (.cells #[.slice none 0 0, .int .i64 0, .string ⟨#[]⟩] 33)).heap.size = w5.heap.size + 1 := World.size_alloc _ _; have hb8 : Below (w5.heap.size + 1) (w5.alloc (.cells #[.slice none 0 0, .int .i64 0, .string ⟨#[]⟩] 33)) w6 := hb6.mono (Nat.le_of_eq hs9.symm); have hs8 : w5.heap.size + 1 ≤ w6.heap.size := Nat.le_trans (Nat.le_of_eq hs9.symm) hb8.size; have HB6 := Lib.hid (HB5a.out.trans (hb8.mono (Nat.le_succ_of_le HZ5.out))); have HZ6 := Lib.hid (Nat.le_trans HZ5.out (Nat.le_trans (Nat.le_succ _) hs8)); have HN6 := Lib.hid (show S + 1 + 1 ≤ w5.heap.size from HZ5.out); have hnx : w6.heap[w5.heap.size]? = some (.cells #[.slice none 0 0, .int .i64 0, .string ⟨#[]⟩] 33 (0, 0)) := (by rw [hb8.block _ (Nat.lt_succ_self _)]; exact (MapKept.heap_alloc w5 _).1); obtain ⟨⟨e0, e1, e2⟩, f0, f1, f2⟩ := three_cells hnx; obtain ⟨NX, hNX⟩ : ∃ NX, w5.heap.size = NX := ⟨_, rfl⟩; have HNN := Eqq.mk hNX; have HNS := Lib.hid (show S + 1 + 1 ≤ NX from by rw [← hNX]; exact HZ5.out); obtain ⟨FW, hFW⟩ : ∃ FW, (((w6.setCell ⟨w5.heap.size, 0, none⟩ (.slice a6 n6 c6)).setCell ⟨w5.heap.size, 1, none⟩ (.int .i64 ((k : Int) + (m : Int)))).setCell ⟨w5.heap.size, 2, none⟩ (.string p)) = FW := ⟨_, rfl⟩; have HFW := Eqq.mk hFW; have HROW := Lib.hid (show FW.heap[NX]? = some (.cells #[.slice a6 n6 c6, .int .i64 ((k : Int) + (m : Int)), .string p] 33 (0, 0)) from by rw [← hNX]; rw [← hFW]; exact three_set hnx (.slice a6 n6 c6) (.int .i64 ((k : Int) + (m : Int))) (.string p)); have HBF := Lib.hid (show Below (S + 1 + 1) w3 FW from by rw [← hFW]; exact three_below HB6.out HZ5.out _ _ _); have HOX := Lib.hid (show OwnG itemE 106 (S + 1 + 1) (.slice a6 n6 c6) (xs.take k ++ (ys ++ xs.drop k)) FW from by rw [← hFW]; exact (three_own8 ho6 (show w5.heap.size < _ from Nat.lt_of_lt_of_le (Nat.lt_succ_self _) (Nat.le_of_eq hs9.symm)) _ _ _).lower (Nat.le_trans (Nat.le_succ_of_le HZ5.out) (Nat.le_of_eq hs9.symm))); have HOY := Lib.hid (fun (o : Nat) (u : Value) => show OwnG itemE 106 (S + 1 + 1) (.slice a6 n6 c6) (xs.take k ++ (ys ++ xs.drop k)) (FW.setCell ⟨NX, o, none⟩ u) from by rw [← hFW, ← hNX]; exact (own_set (three_own8 ho6 (show w5.heap.size < _ from Nat.lt_of_lt_of_le (Nat.lt_succ_self _) (Nat.le_of_eq hs9.symm)) _ _ _) _ (show w5.heap.size < _ from Nat.lt_of_lt_of_le (Nat.lt_succ_self _) (Nat.le_of_eq hs9.symm)) o u).lower (Nat.le_trans (Nat.le_succ_of_le HZ5.out) (Nat.le_of_eq hs9.symm))); clear hFW; clear hNX; clear hb6 hb8 hs8 hs9 hnx ho6)
           | (go_at_call 53; (with_reducible refine (insert8_fits v _ xs ys k m _ _ HX5.out HO5.out hk h64 HM.out HFU.out).mono ?_); rintro e w6 ⟨⟨v6, he, ho6⟩, hb6⟩; subst he; obtain ⟨a6, c6, hv6⟩ := ho6.frame; obtain ⟨n6, hn6⟩ : ∃ n6, (xs.take k ++ (ys ++ xs.drop k)).length = n6 := ⟨_, rfl⟩; rw [hn6] at hv6; subst hv6; have HB6 := Lib.hid (HB5.out.trans (hb6.mono HZ5.out)); have HZ6 := Lib.hid (Nat.le_trans HZ5.out hb6.size); obtain ⟨NX, hNX⟩ : ∃ NX, w6.heap.size = NX := ⟨_, rfl⟩; have HNN := Eqq.mk hNX; have HNS := Lib.hid (show S + 1 + 1 ≤ NX from by rw [← hNX]; exact HZ6.out); obtain ⟨FW, hFW⟩ : ∃ FW, (w6.alloc (.cells #[.slice a6 n6 c6, .int .i64 ((k : Int) + (m : Int)), .string p] 33)) = FW := ⟨_, rfl⟩; have HFW := Eqq.mk hFW; have HROW := Lib.hid (show FW.heap[NX]? = some (.cells #[.slice a6 n6 c6, .int .i64 ((k : Int) + (m : Int)), .string p] 33 (0, 0)) from by rw [← hNX]; rw [← hFW]; exact (MapKept.heap_alloc w6 _).1); have HBF := Lib.hid (show Below (S + 1 + 1) w3 FW from by rw [← hFW]; exact HB6.out.alloc HZ6.out _); have HOX := Lib.hid (show OwnG itemE 106 (S + 1 + 1) (.slice a6 n6 c6) (xs.take k ++ (ys ++ xs.drop k)) FW from by rw [← hFW]; exact (ho6.alloc _).lower HZ5.out); have HOY := Lib.hid (fun (o : Nat) (u : Value) => show OwnG itemE 106 (S + 1 + 1) (.slice a6 n6 c6) (xs.take k ++ (ys ++ xs.drop k)) (FW.setCell ⟨NX, o, none⟩ u) from by rw [← hFW, ← hNX]; exact (ho6.keep (((Below.refl w6.heap.size w6).alloc (Nat.le_refl _) _).setCell (p := ⟨w6.heap.size, o, none⟩) (Nat.le_refl _) u)).lower HZ5.out); clear hFW; clear hNX; clear hb6 ho6))
        all_goals
          (rename_i hHeld
           clear hHeld
           try rw [HFW.out]
           rw [HNN.out]
           have HWF := Lib.hid (HW3.out.go HBF.out)
           try clear e0 e1 e2 f0 f1 f2
           obtain ⟨⟨m0, m1, m2⟩, g0, g1, g2⟩ := three_cells HWF.out.r1
           obtain ⟨⟨y0, y1, y2⟩, u0, u1, u2⟩ := three_cells HROW.out
           have hr2 := heap_setCell_same FW NX 2 _ _ (.string sb) HROW.out
           have hw2 := HWF.out.go (show Below (S + 1 + 1) FW (FW.setCell ⟨NX, 2, none⟩ (.string sb)) from (Below.refl _ _).setCell (p := ⟨NX, 2, none⟩) HNS.out _)
           have ho2 := HOY.out 2 (.string sb)
           obtain ⟨FX, hFX⟩ : ∃ FX, FW.setCell ⟨NX, 2, none⟩ (.string sb) = FX := ⟨_, rfl⟩
           rw [hFX] at hr2 hw2 ho2
           have HWX := Lib.hid hw2
           have HOZ := Lib.hid ho2
           have HRX := Lib.hid (show FX.heap[NX]? = some (.cells #[.slice a6 n6 c6, .int .i64 ((k : Int) + (m : Int)), .string sb] 33 (0, 0)) from hr2)
           clear hr2 hw2 ho2 m0 m1 m2 g0 g1 g2
           obtain ⟨⟨x0, x1, x2⟩, _⟩ := three_cells HRX.out
           obtain ⟨⟨m0, m1, m2⟩, g0, g1, g2⟩ := three_cells HWX.out.r1
           have HE := Lib.hid (HWX.out.out (.slice a6 n6 c6) ((k : Int) + (m : Int)) sb)
           go_wp2_with fail
           (try simp only [Exit.inBlock, Exit.then])
           refine bodyPost_ret (results_row_tmp rfl _ _ (S + 1) 33 #[.slice a6 n6 c6, .int .i64 ((k : Int) + (m : Int)), .string sb] (0, 0) _ (.int .i64 0) (by rfl) (by rfl) HE.out.1 Tryz.underlying33 (by rfl) (by kernel_rfl)) rfl ?_
           rw [HD.out]
           try rw [HS.out]
           exact ⟨⟨_, by rw [HSB.out], (three_own8 HOZ.out (show S + 1 < S + 1 + 1 by omega) (.slice a6 n6 c6) (.int .i64 ((k : Int) + (m : Int))) (.string sb)).lower (by omega)⟩, HE.out.2⟩)
end Go.Proofs.YtgdcffahhpeibaaGreatDoor
