/-
  The forms of a day are distinct, and the two without a year are not read, as plain facts on lists of bytes. No condition.
-/
import Derived.Test.YtnpkcobapckhdaaGreatDoorCalParse
namespace Go.Proofs.YtnpkcobapckhdaaGreatDoor
namespace CF
open Num (Bs digs isD)
theorem dig_byte {n : Nat} (h : n < 10000) {c : UInt8} (hc : c ∈ digs n) : 48 ≤ c.toNat ∧ c.toNat ≤ 57 := by
  have := List.all_eq_true.1 (Num.digs_all n h) c hc
  exact ⟨(val_eq this).1, (val_eq this).2.1⟩
theorem pad_byte {k n : Nat} (h : n < 10000) {c : UInt8} (hc : c ∈ pad k n) : 48 ≤ c.toNat ∧ c.toNat ≤ 57 := by
  have := List.all_eq_true.1 (pad_all k n h) c hc
  exact ⟨(val_eq this).1, (val_eq this).2.1⟩
theorem tok3_byte {t : Bs} (h : Ru.tok3 t = true) {c : UInt8} (hc : c ∈ t) : 128 ≤ c.toNat := by
  have h3 := tok3_tk h
  unfold Ru.tok3 at h
  split at h
  · rename_i a b e
    have h4 : 224 ≤ a.toNat ∧ 128 ≤ b.toNat ∧ b.toNat < 192 ∧ 128 ≤ e.toNat ∧ e.toNat < 192 := h3
    simp at hc
    rcases hc with rfl | rfl | rfl <;> omega
  · cases h
theorem kan_byte {n : Nat} (h : n < 10000) (h0 : n ≠ 0) {c : UInt8} (hc : c ∈ kan n) : 128 ≤ c.toNat := by
  have hv := Num.digs_valid n h
  have hz : (digs n == [48]) = false := by rw [Num.digs_zero n h]; exact decide_eq_false h0
  obtain ⟨_, b, _, _, e⟩ := Num.valid_parts hv hz
  have : kan n = (Num.wrT false (digs n) false).flatten := by rw [Num.wrT_flat]; unfold kan; rw [Num.writ_long false _ hz]
  rw [this] at hc
  obtain ⟨t, ht, hct⟩ := List.mem_flatten.1 hc
  exact tok3_byte (Num.wrT_tok false (digs n) false e b t ht) hct
theorem wd_byte {k : Nat} {c : UInt8} (hc : c ∈ wd k) : 128 ≤ c.toNat := by
  unfold wd at hc
  repeat' split at hc
  all_goals
    simp at hc
    rcases hc with rfl | rfl | rfl <;> decide
/-- a byte that is no digit does not lie in a number's digits -/
theorem not_digs {n : Nat} (h : n < 10000) {c : UInt8} (hc : c.toNat < 48 ∨ 57 < c.toNat) : c ∉ digs n := fun hm => by have := dig_byte h hm; omega
theorem not_pad {k n : Nat} (h : n < 10000) {c : UInt8} (hc : c.toNat < 48 ∨ 57 < c.toNat) : c ∉ pad k n := fun hm => by have := pad_byte h hm; omega
theorem not_kan {n : Nat} (h : n < 10000) (h0 : n ≠ 0) {c : UInt8} (hc : c.toNat < 128) : c ∉ kan n := fun hm => by have := kan_byte h h0 hm; omega
theorem not_wd {k : Nat} {c : UInt8} (hc : c.toNat < 128) : c ∉ wd k := fun hm => by have := wd_byte hm; omega
/-- what tells the forms apart -/
def key (l : Bs) : Nat :=
  if 40 ∈ l then 1 else if 45 ∈ l then 3 else if 47 ∈ l then (if l.length ≤ 5 then 7 else 2)
  else if l.all (fun c => decide (128 ≤ c.toNat)) = true then 5 else if 128 ≤ (l.headD 0).toNat then 4 else if 229 ∈ l then 0 else 6
theorem key1 {l : Bs} (h : 40 ∈ l) : key l = 1 := by unfold key; rw [if_pos h]
theorem key3 {l : Bs} (h0 : 40 ∉ l) (h : 45 ∈ l) : key l = 3 := by unfold key; rw [if_neg h0, if_pos h]
theorem key2 {l : Bs} (h0 : 40 ∉ l) (h1 : 45 ∉ l) (h : 47 ∈ l) (h2 : 5 < l.length) : key l = 2 := by unfold key; rw [if_neg h0, if_neg h1, if_pos h, if_neg (by omega)]
theorem key7 {l : Bs} (h0 : 40 ∉ l) (h1 : 45 ∉ l) (h : 47 ∈ l) (h2 : l.length ≤ 5) : key l = 7 := by unfold key; rw [if_neg h0, if_neg h1, if_pos h, if_pos h2]
theorem key5 {l : Bs} (h : ∀ c ∈ l, 128 ≤ c.toNat) : key l = 5 := by
  have n (x : UInt8) (hx : x.toNat < 128) : x ∉ l := fun hm => by have := h x hm; omega
  unfold key
  rw [if_neg (n 40 (by decide)), if_neg (n 45 (by decide)), if_neg (n 47 (by decide)), if_pos (by rw [List.all_eq_true]; intro c hc; exact decide_eq_true (h c hc))]
theorem not_all {l : Bs} {c : UInt8} (hc : c ∈ l) (hb : c.toNat < 128) : ¬ l.all (fun c => decide (128 ≤ c.toNat)) = true := by
  intro h; have := List.all_eq_true.1 h c hc; have := of_decide_eq_true this; omega
theorem key4 {l : Bs} {c : UInt8} (h0 : 40 ∉ l) (h1 : 45 ∉ l) (h2 : 47 ∉ l) (hc : c ∈ l) (hb : c.toNat < 128) (hh : 128 ≤ (l.headD 0).toNat) : key l = 4 := by
  unfold key; rw [if_neg h0, if_neg h1, if_neg h2, if_neg (not_all hc hb), if_pos hh]
theorem key0 {l : Bs} {c : UInt8} (h0 : 40 ∉ l) (h1 : 45 ∉ l) (h2 : 47 ∉ l) (hc : c ∈ l) (hb : c.toNat < 128) (hh : (l.headD 0).toNat < 128) (h : 229 ∈ l) : key l = 0 := by
  unfold key; rw [if_neg h0, if_neg h1, if_neg h2, if_neg (not_all hc hb), if_neg (by omega), if_pos h]
theorem key6 {l : Bs} {c : UInt8} (h0 : 40 ∉ l) (h1 : 45 ∉ l) (h2 : 47 ∉ l) (hc : c ∈ l) (hb : c.toNat < 128) (hh : (l.headD 0).toNat < 128) (h : 229 ∉ l) : key l = 6 := by
  unfold key; rw [if_neg h0, if_neg h1, if_neg h2, if_neg (not_all hc hb), if_neg (by omega), if_neg h]
/-- some digit of a number -/
theorem dig_some (n : Nat) (h : n < 10000) : ∃ c r, digs n = c :: r ∧ 48 ≤ c.toNat ∧ c.toNat ≤ 57 := by
  cases e : digs n with
  | nil => exact absurd e (digs_nil n)
  | cons c r => exact ⟨c, r, rfl, dig_byte h (by rw [e]; simp)⟩
theorem head_app {a : Bs} {c : UInt8} {r : Bs} (h : a = c :: r) (b : Bs) : (a ++ b).headD 0 = c := by rw [h]; rfl
theorem yearA_byte {k : Nat} (h : k < 10000) {c : UInt8} (hc : c ∈ yearA k) : 48 ≤ c.toNat ∧ c.toNat ≤ 57 ∨ 128 ≤ c.toNat := by
  unfold yearA at hc
  split at hc
  · simp [gan] at hc; rcases hc with rfl | rfl | rfl <;> exact .inr (by decide)
  · exact .inl (dig_byte h hc)
theorem yearB_byte {k : Nat} (h : k < 10000) (h0 : k ≠ 0) {c : UInt8} (hc : c ∈ yearB k) : 128 ≤ c.toNat := by
  unfold yearB at hc
  split at hc
  · simp [gan] at hc; rcases hc with rfl | rfl | rfl <;> decide
  · exact kan_byte h h0 hc
theorem key_form1 {y m d : Nat} (hy : y < 10000) (hm : m < 10000) (hd : d < 10000) : key (form1 y m d) = 0 := by
  obtain ⟨c, r, e, h1, h2⟩ := dig_some y hy
  have n40 : ∀ n, n < 10000 → (40 : UInt8) ∉ digs n := fun n h => not_digs h (.inl (by decide))
  have n45 : ∀ n, n < 10000 → (45 : UInt8) ∉ digs n := fun n h => not_digs h (.inl (by decide))
  have n47 : ∀ n, n < 10000 → (47 : UInt8) ∉ digs n := fun n h => not_digs h (.inl (by decide))
  refine key0 (c := c) ?_ ?_ ?_ ?_ (by omega) ?_ ?_
  · simp [form1, short, nen, gatsu, nichi, n40 y hy, n40 m hm, n40 d hd]
  · simp [form1, short, nen, gatsu, nichi, n45 y hy, n45 m hm, n45 d hd]
  · simp [form1, short, nen, gatsu, nichi, n47 y hy, n47 m hm, n47 d hd]
  · simp [form1, e]
  · unfold form1; rw [List.append_assoc, head_app e]; omega
  · simp [form1, nen]
theorem key_short {m d : Nat} (hm : m < 10000) (hd : d < 10000) : key (short m d) = 6 := by
  obtain ⟨c, r, e, h1, h2⟩ := dig_some m hm
  have n40 : ∀ n, n < 10000 → (40 : UInt8) ∉ digs n := fun n h => not_digs h (.inl (by decide))
  have n45 : ∀ n, n < 10000 → (45 : UInt8) ∉ digs n := fun n h => not_digs h (.inl (by decide))
  have n47 : ∀ n, n < 10000 → (47 : UInt8) ∉ digs n := fun n h => not_digs h (.inl (by decide))
  have n229 : ∀ n, n < 10000 → (229 : UInt8) ∉ digs n := fun n h => not_digs h (.inr (by decide))
  refine key6 (c := c) ?_ ?_ ?_ ?_ (by omega) ?_ ?_
  · simp [short, gatsu, nichi, n40 m hm, n40 d hd]
  · simp [short, gatsu, nichi, n45 m hm, n45 d hd]
  · simp [short, gatsu, nichi, n47 m hm, n47 d hd]
  · simp [short, e]
  · unfold short; rw [List.append_assoc, List.append_assoc, head_app e]; omega
  · simp [short, gatsu, nichi, n229 m hm, n229 d hd]
theorem key_form2 {n y m d : Nat} : key (form2 n y m d) = 1 := key1 (by simp [form2])
theorem key_form3 {y m d : Nat} (hy : y < 10000) (hm : m < 10000) (hd : d < 10000) : key (form3 y m d) = 2 := by
  have p4 : (pad 4 y).length = 4 := by
    unfold pad; rw [List.length_append, List.length_replicate]; have := (Num.digs_len y).2; omega
  have n40 : ∀ k n, n < 10000 → (40 : UInt8) ∉ pad k n := fun k n h => not_pad h (.inl (by decide))
  have n45 : ∀ k n, n < 10000 → (45 : UInt8) ∉ pad k n := fun k n h => not_pad h (.inl (by decide))
  refine key2 ?_ ?_ ?_ ?_
  · simp [form3, n40 4 y hy, n40 2 m hm, n40 2 d hd]
  · simp [form3, n45 4 y hy, n45 2 m hm, n45 2 d hd]
  · simp [form3]
  · unfold form3; simp only [List.length_append, p4]; have : ([47] : Bs).length = 1 := rfl; omega
theorem key_form4 {y m d : Nat} (hy : y < 10000) (hm : m < 10000) (hd : d < 10000) : key (form4 y m d) = 3 := by
  have n40 : ∀ k n, n < 10000 → (40 : UInt8) ∉ pad k n := fun k n h => not_pad h (.inl (by decide))
  refine key3 ?_ ?_
  · simp [form4, n40 4 y hy, n40 2 m hm, n40 2 d hd]
  · simp [form4]
theorem key_md {m d : Nat} (hm : m < 100) (hd : d < 100) : key (digs m ++ [47] ++ digs d) = 7 := by
  have l2 : ∀ n, n < 100 → (digs n).length ≤ 2 := by
    intro n h
    by_cases h1 : n < 10
    · rw [Num.digs_small n h1]; exact Nat.le_succ _
    · rw [Num.digs_rec n (by omega) (by omega), Num.digs_small (n / 10) (by omega), Num.digs_small (n % 10) (by omega)]; exact Nat.le_refl _
  refine key7 ?_ ?_ ?_ ?_
  · simp [not_digs (n := m) (by omega) (c := 40) (.inl (by decide)), not_digs (n := d) (by omega) (c := 40) (.inl (by decide))]
  · simp [not_digs (n := m) (by omega) (c := 45) (.inl (by decide)), not_digs (n := d) (by omega) (c := 45) (.inl (by decide))]
  · simp
  · have := l2 m hm; have := l2 d hd; simp only [List.length_append]; have : ([47] : Bs).length = 1 := rfl; omega
/-- an era's name: six bytes that are no signs -/
def EName (e : Bs) : Prop := e = reiwaL ∨ e = heiseiL ∨ e = showaL ∨ e = taishoL ∨ e = meijiL
theorem ename_byte {e : Bs} (h : EName e) {c : UInt8} (hc : c ∈ e) : 128 ≤ c.toNat := by
  rcases h with rfl | rfl | rfl | rfl | rfl <;>
  · simp [reiwaL, heiseiL, showaL, taishoL, meijiL] at hc
    rcases hc with rfl | rfl | rfl | rfl | rfl | rfl <;> decide
theorem key_form5 {e : Bs} {k m d : Nat} (he : EName e) (hk : k < 10000) (hm : m < 10000) (hd : d < 10000) : key (form5 e k m d) = 4 := by
  obtain ⟨c, r, ed, h1, h2⟩ := dig_some d hd
  have nn : ∀ x : UInt8, x.toNat < 48 → x ∉ form5 e k m d := by
    intro x hx hmem
    have hb : ∀ c ∈ form5 e k m d, 48 ≤ c.toNat := by
      intro c hc
      simp only [form5, short, List.mem_append] at hc
      rcases hc with ((hc | hc) | hc) | (((hc | hc) | hc) | hc)
      · have := ename_byte he hc; omega
      · have := yearA_byte hk hc; omega
      · simp [nen] at hc; rcases hc with rfl | rfl | rfl <;> decide
      · exact (dig_byte hm hc).1
      · simp [gatsu] at hc; rcases hc with rfl | rfl | rfl <;> decide
      · exact (dig_byte hd hc).1
      · simp [nichi] at hc; rcases hc with rfl | rfl | rfl <;> decide
    have := hb x hmem; omega
  refine key4 (c := c) (nn 40 (by decide)) (nn 45 (by decide)) (nn 47 (by decide)) ?_ (by omega) ?_
  · simp [form5, short, ed]
  · unfold form5
    rcases he with rfl | rfl | rfl | rfl | rfl <;> simp [reiwaL, heiseiL, showaL, taishoL, meijiL]
theorem key_form6 {e : Bs} {k m d : Nat} (he : EName e) (hk : k < 10000) (hm : m < 10000) (hd : d < 10000) (k0 : k ≠ 0) (m0 : m ≠ 0) (d0 : d ≠ 0) : key (form6 e k m d) = 5 := by
  refine key5 fun c hc => ?_
  simp only [form6, List.mem_append] at hc
  rcases hc with (((((hc | hc) | hc) | hc) | hc) | hc) | hc
  · exact ename_byte he hc
  · exact yearB_byte hk k0 hc
  · simp [nen] at hc; rcases hc with rfl | rfl | rfl <;> decide
  · exact kan_byte hm m0 hc
  · simp [gatsu] at hc; rcases hc with rfl | rfl | rfl <;> decide
  · exact kan_byte hd d0 hc
  · simp [nichi] at hc; rcases hc with rfl | rfl | rfl <;> decide
theorem era_name {n : Nat} {e : Bs} {b : Nat} (h : era n = some (e, b)) : EName e := by
  unfold era at h
  unfold EName
  repeat' split at h
  all_goals first
  | (injection h with h; injection h with h1 h2; subst h1; simp [reiwaL, heiseiL, showaL, taishoL, meijiL])
  | cases h
theorem nodup_of_key {l : List Bs} (h : (l.map key).Nodup) : l.Nodup :=
  List.Pairwise.of_map key (fun a b hab e => hab (by rw [e])) h
/-- the forms of a day are distinct -/
theorem forms_nodup {n y m d : Nat} (hok : Cal.ok y m d = true) (hnum : Cal.num y m d = n) : (formsL n y m d).Nodup := by
  have hk := (Cal.ok_iff y m d).1 hok
  have hl := Cal.mlen_bd y m
  have hy : y < 10000 := by omega
  have hm : m < 10000 := by omega
  have hd : d < 10000 := by omega
  refine nodup_of_key ?_
  unfold formsL withYear
  cases he : era n with
  | none =>
    simp only [List.append_nil, List.map_append, List.map_cons, List.map_nil, key_form1 hy hm hd, key_form2, key_form3 hy hm hd, key_form4 hy hm hd, key_short hm hd, key_md (m := m) (d := d) (by omega) (by omega)]
    decide
  | some eb =>
    obtain ⟨e, b⟩ := eb
    have hb : (b : Int) + 1 ≤ y := era_year hok (by rw [hnum]; exact he)
    simp only [List.map_append, List.map_cons, List.map_nil, key_form1 hy hm hd, key_form2, key_form3 hy hm hd, key_form4 hy hm hd, key_short hm hd, key_md (m := m) (d := d) (by omega) (by omega), key_form5 (era_name he) (k := y - b) (by omega) hm hd, key_form6 (era_name he) (k := y - b) (by omega) hm hd (by omega) (by omega) (by omega)]
    decide

/-! ### the forms without a year are not read -/
theorem noEra_digs (n : Nat) (h : n < 10000) (r : Bs) : NoEra (digs n ++ r) := noEra_of r (freeE_of (all_digs n h)) (digs_nil n)
theorem prog_none {s t : Bs} (h1 : txt s = t) (h2 : eraCut t = (t, 1)) (a : ptr 1 t nen gatsu = none) (b : ptr 1 t [47] [47] = none) (c : ptr 1 t [45] [45] = none) : progCal s = (0, false) := by
  unfold progCal
  rw [h1, h2]
  simp only [a, b, c, firstHit]
theorem prog_short {m d : Nat} (hm : m < 10000) (hd : d < 10000) : progCal (short m d) = (0, false) := by
  have fG : ∀ S : Bs, gatsu ≠ S → Free S gatsu := fun S h => Free.one tk_gatsu h
  have e : short m d = (digs m ++ (gatsu ++ digs d)) ++ nichi := by unfold short; simp only [List.append_assoc]
  have f : ∀ S : Bs, (S = nen ∨ S = gatsu ∨ S = [40] ∨ S = [47] ∨ S = [45] ∨ S = [228, 187, 164] ∨ S = [229, 185, 179] ∨ S = [230, 152, 173] ∨ S = [229, 164, 167] ∨ S = [230, 152, 142]) → gatsu ≠ S → Free S (digs m ++ (gatsu ++ digs d)) :=
    fun S hS hg => (all_digs m hm S hS).append ((fG S hg).append (all_digs d hd S hS))
  have ht : txt (short m d) = digs m ++ (gatsu ++ digs d) := by
    rw [e]; exact txt_end _ ((f [40] (by simp) (by decide)).append (Free.one tk_nichi (by decide)))
  refine prog_none ht (eraCut_none (noEra_digs m hm _)) ?_ ?_ ?_
  · exact (tr_none tk_nen gatsu 1 0 (f nen (by simp) (by decide))).1
  · exact (tr_none tk_sl [47] 1 0 (f [47] (by simp) (by decide))).1
  · exact (tr_none tk_mi [45] 1 0 (f [45] (by simp) (by decide))).1
theorem prog_md {m d : Nat} (hm : m < 10000) (hd : d < 10000) : progCal (digs m ++ [47] ++ digs d) = (0, false) := by
  have f47 : ∀ S : Bs, [47] ≠ S → Free S [47] := fun S h => Free.one tk_sl h
  have f : ∀ S : Bs, (S = nen ∨ S = gatsu ∨ S = [40] ∨ S = [47] ∨ S = [45] ∨ S = [228, 187, 164] ∨ S = [229, 185, 179] ∨ S = [230, 152, 173] ∨ S = [229, 164, 167] ∨ S = [230, 152, 142]) → [47] ≠ S → Free S (digs m ++ ([47] ++ digs d)) :=
    fun S hS hg => (all_digs m hm S hS).append ((f47 S hg).append (all_digs d hd S hS))
  have e : digs m ++ [47] ++ digs d = digs m ++ ([47] ++ digs d) := List.append_assoc _ _ _
  have ht : txt (digs m ++ ([47] ++ digs d)) = digs m ++ ([47] ++ digs d) := by
    unfold txt
    rw [(f [40] (by simp) (by decide)).cut_none tk_par]
    obtain ⟨a, c, hac, hc⟩ := last_dig (Num.digs_all d hd) (digs_nil d)
    rw [hac]
    have : digs m ++ ([47] ++ (a ++ [c])) = (digs m ++ ([47] ++ a)) ++ [c] := by simp only [List.append_assoc]
    rw [this]
    exact trim_not _ c hc
  rw [e]
  refine prog_none ht (eraCut_none (noEra_digs m hm _)) ?_ ?_ ?_
  · exact (tr_none tk_nen gatsu 1 0 (f nen (by simp) (by decide))).1
  · unfold ptr
    rw [(all_digs m hm [47] (by simp)).cut tk_sl, (all_digs d hd [47] (by simp)).cut_none tk_sl]
    rfl
  · exact (tr_none tk_mi [45] 1 0 (f [45] (by simp) (by decide))).1
end CF
end Go.Proofs.YtnpkcobapckhdaaGreatDoor
