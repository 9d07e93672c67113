/-
  What Of returns is without repetitions, valid, and none of it is empty; a number is in its own list. No condition.
-/
import Derived.Test.YtnpkcobapckhdaaGreatDoorSpecMore
import Derived.Test.YtnpkcobapckhdaaGreatDoorCalUniq
namespace Go.Proofs.YtnpkcobapckhdaaGreatDoor
open Go.RowKit
open Num (Bs digs isD)
/-- valid and not empty -/
def Vne (x : List UInt8) : Prop := Lib.validD x = true ∧ x ≠ []
theorem vapp {a b : Bs} (ha : Lib.validD a = true) (hb : Lib.validD b = true) : Lib.validD (a ++ b) = true := by
  have e1 := UT.enc_runes a.length a (Nat.le_refl _) ha
  have e2 := UT.enc_runes b.length b (Nat.le_refl _) hb
  have c1 := UT.runes_ch a.length a (Nat.le_refl _)
  have c2 := UT.runes_ch b.length b (Nat.le_refl _)
  have := (UT.runes_enc (UT.runes a ++ UT.runes b) (fun c hc => by
    rcases List.mem_append.1 hc with h | h
    · exact c1 c h
    · exact c2 c h)).2
  have e3 : UT.enc (UT.runes a ++ UT.runes b) = UT.enc (UT.runes a) ++ UT.enc (UT.runes b) := by unfold UT.enc; rw [List.flatMap_append]
  rw [e3, e1, e2] at this
  exact this
theorem vdig : ∀ l : Bs, l.all isD = true → Lib.validD l = true
  | [], _ => rfl
  | c :: r, h => by
    rw [List.all_cons, Bool.and_eq_true] at h
    have hb := CF.val_eq h.1
    rw [Lib.validD_cons c r (by omega)]
    exact vdig r h.2
theorem vasc : ∀ l : Bs, (∀ c ∈ l, c.toNat < 128) → Lib.validD l = true
  | [], _ => rfl
  | c :: r, h => by
    rw [Lib.validD_cons c r (h c (List.mem_cons_self ..))]
    exact vasc r (fun d hd => h d (List.mem_cons_of_mem _ hd))
theorem vne_app {a b : Bs} (ha : Vne a) (hb : Lib.validD b = true) : Vne (a ++ b) := ⟨vapp ha.1 hb, by simp [ha.2]⟩
theorem vdch (f : Bool) (n : Nat) : Lib.validD (Num.dch f n) = true := by
  unfold Num.dch
  rcases Nat.lt_or_ge n 10 with h | h
  · revert n; revert f; decide +kernel
  · rw [List.getD_eq_getElem?_getD, List.getElem?_eq_none (by cases f <;> simp [Num.dg, Num.dgP, Num.dgF] <;> omega)]; rfl
theorem vuch (f : Bool) (n : Nat) : Lib.validD (Num.uch f n) = true := by
  unfold Num.uch
  rcases Nat.lt_or_ge n 4 with h | h
  · revert n; revert f; decide +kernel
  · rw [List.getD_eq_getElem?_getD, List.getElem?_eq_none (by cases f <;> simp [Num.un, Num.unP, Num.unF] <;> omega)]; rfl
theorem vgch (n : Nat) : Lib.validD (Num.gch n) = true := by
  unfold Num.gch
  rcases Nat.lt_or_ge n 5 with h | h
  · revert n; decide +kernel
  · rw [List.getD_eq_getElem?_getD, List.getElem?_eq_none (by simp [Num.grp]; omega)]; rfl
theorem vstepOut (f : Bool) (n p : Nat) : Lib.validD (Num.stepOut f n p) = true := by
  unfold Num.stepOut
  split
  · rfl
  · refine vapp ?_ (vuch _ _)
    split
    · exact vdch _ _
    · rfl
theorem vstepG (n p : Nat) (s : Bool) : Lib.validD (Num.stepG n p s) = true := by
  unfold Num.stepG
  split
  · exact vgch _
  · rfl
theorem vwr (f : Bool) : ∀ (l : Bs) (s : Bool), Lib.validD (Num.wr f l s) = true
  | [], _ => rfl
  | c :: r, s => by
    rw [Num.wr]
    exact vapp (vapp (vstepOut _ _ _) (vstepG _ _ _)) (vwr f r _)
theorem vwrit (f : Bool) (l : Bs) : Lib.validD (Num.writ f l) = true := by
  unfold Num.writ
  split
  · decide +kernel
  · exact vwr f l _
theorem vpos : ∀ l : Bs, Lib.validD (Num.pos l) = true
  | [] => rfl
  | c :: r => by rw [Num.pos]; exact vapp (vdch _ _) (vpos r)
theorem vcom : ∀ (l : Bs) (f : Bool), l.all isD = true → Lib.validD (Num.com f l) = true
  | [], _, _ => rfl
  | c :: r, f, h => by
    rw [List.all_cons, Bool.and_eq_true] at h
    rw [Num.com]
    refine vapp (by split <;> rfl) ?_
    have hb := CF.val_eq h.1
    rw [Lib.validD_cons c _ (by omega)]
    exact vcom r _ h.2
theorem vwide : ∀ l : Bs, l.all isD = true → Lib.validD (Num.wide l) = true
  | [], _ => rfl
  | c :: r, h => by
    rw [List.all_cons, Bool.and_eq_true] at h
    have hb := CF.val_eq h.1
    show Lib.validD (wideCh (Num.val c) ++ Num.wide r) = true
    refine vapp ?_ (vwide r h.2)
    have : ∀ n, n < 10 → Lib.validD (wideCh n) = true := by decide +kernel
    exact this _ (by omega)
theorem head_ne {l : Bs} {c : UInt8} (h : l.head? = some c) : l ≠ [] := by intro e; rw [e] at h; cases h
theorem vne_four {d : Bs} (h : Num.valid d = true) : ∀ x ∈ d :: Num.wide d :: Num.four d, Vne x := by
  have hv := (Num.valid_iff d).1 h
  obtain ⟨c, r, hd⟩ : ∃ c r, d = c :: r := by cases d with | nil => exact absurd rfl hv.1 | cons c r => exact ⟨c, r, rfl⟩
  intro x hx
  simp only [Num.four, List.mem_cons, List.not_mem_nil, or_false] at hx
  rcases hx with rfl | rfl | rfl | rfl | rfl | rfl
  · exact ⟨vdig _ hv.2.2.1, hv.1⟩
  · exact ⟨vwide _ hv.2.2.1, by rw [hd]; unfold Num.wide; rw [mapD]; simp [wideCh]⟩
  · exact ⟨vcom _ _ hv.2.2.1, by rw [hd, Num.com]; simp⟩
  · obtain ⟨c', hc', _⟩ := CF.first_pos d h
    exact ⟨vpos _, head_ne hc'⟩
  · obtain ⟨c', hc', _⟩ := CF.first_big false d h
    exact ⟨vwrit _ _, head_ne hc'⟩
  · obtain ⟨c', hc', _⟩ := CF.first_big true d h
    exact ⟨vwrit _ _, head_ne hc'⟩
theorem addU_nodup {L : List Bs} (h : L.Nodup) (x : Bs) : (Num.addU L x).Nodup := by
  unfold Num.addU
  split
  · exact h
  · rename_i hx
    exact List.nodup_append.2 ⟨h, by simp, fun a ha b hb => by simp at hb; subst hb; intro e; exact hx (e ▸ ha)⟩
theorem addU_mem {L : List Bs} {x y : Bs} (h : y ∈ Num.addU L x) : y ∈ L ∨ y = x := by
  unfold Num.addU at h
  split at h
  · exact .inl h
  · rcases List.mem_append.1 h with h | h
    · exact .inl h
    · exact .inr (by simpa using h)
theorem addU_sub {L : List Bs} (x : Bs) {y : Bs} (h : y ∈ L) : y ∈ Num.addU L x := by
  unfold Num.addU
  split
  · exact h
  · exact List.mem_append_left _ h
theorem foldU_nodup : ∀ (M L : List Bs), L.Nodup → (M.foldl Num.addU L).Nodup
  | [], _, h => h
  | x :: M, _, h => foldU_nodup M _ (addU_nodup h x)
theorem foldU_mem : ∀ (M L : List Bs) (y : Bs), y ∈ M.foldl Num.addU L → y ∈ L ∨ y ∈ M
  | [], _, _, h => .inl h
  | x :: M, _, y, h => by
    rcases foldU_mem M _ y h with h | h
    · rcases addU_mem h with h | rfl
      · exact .inl h
      · exact .inr (List.mem_cons_self ..)
    · exact .inr (List.mem_cons_of_mem _ h)
theorem foldU_sub : ∀ (M L : List Bs) (y : Bs), y ∈ L → y ∈ M.foldl Num.addU L
  | [], _, _, h => h
  | x :: M, _, y, h => foldU_sub M _ y (addU_sub x h)
theorem forms_once (l : Bs) : (Num.forms l).Nodup ∧ ∀ x ∈ Num.forms l, Vne x := by
  unfold Num.forms
  split
  · exact ⟨List.nodup_nil, fun x hx => by simp at hx⟩
  · rename_i d _
    split
    · rename_i hv
      have hv' := (Num.valid_iff d).1 hv
      refine ⟨foldU_nodup _ _ ?_, fun x hx => vne_four hv x ?_⟩
      · rw [List.nodup_cons]
        refine ⟨?_, by simp⟩
        simp
        exact fun e => Num.wide_ne d hv'.1 e.symm
      · rcases foldU_mem _ _ x hx with h | h
        · simp only [List.mem_cons, List.not_mem_nil, or_false] at h ⊢
          rcases h with h | h
          · exact .inl h
          · exact .inr (.inl h)
        · exact List.mem_cons_of_mem _ (List.mem_cons_of_mem _ h)
    · exact ⟨List.nodup_nil, fun x hx => by simp at hx⟩
theorem vdigs {n : Nat} (h : n < 10000) : Vne (digs n) := ⟨vdig _ (Num.digs_all n h), by intro e; have := Num.digs_len n; rw [e] at this; simp at this⟩
theorem vpad (k : Nat) {n : Nat} (h : n < 10000) : Vne (CF.pad k n) := ⟨vdig _ (CF.pad_all k n h), by unfold CF.pad; intro e; exact (vdigs h).2 (List.append_eq_nil_iff.1 e).2⟩
theorem vshort {m d : Nat} (hm : m < 10000) (hd : d < 10000) : Vne (CF.short m d) := by
  unfold CF.short
  exact vne_app (vne_app (vne_app (vdigs hm) (by decide +kernel)) (vdigs hd).1) (by decide +kernel)
theorem vename {e : Bs} (h : CF.EName e) : Vne e := by
  rcases h with rfl | rfl | rfl | rfl | rfl <;> exact ⟨by decide +kernel, by decide⟩
theorem vwd (k : Nat) : Lib.validD (CF.wd k) = true := by
  unfold CF.wd
  repeat' split
  all_goals decide +kernel
theorem vkan (n : Nat) : Lib.validD (CF.kan n) = true := vwrit _ _
theorem formsL_once {n y m d : Nat} (hok : Cal.ok y m d = true) (hnum : Cal.num y m d = n) : (CF.formsL n y m d).Nodup ∧ ∀ x ∈ CF.formsL n y m d, Vne x := by
  refine ⟨CF.forms_nodup hok hnum, fun x hx => ?_⟩
  have hb : y < 10000 ∧ m < 10000 ∧ d < 10000 := by
    have := (Cal.ok_iff y m d).1 hok
    have hd := Cal.mlen_bd y m
    omega
  obtain ⟨hy, hm, hd⟩ := hb
  unfold CF.formsL CF.withYear at hx
  simp only [List.mem_append, List.mem_cons, List.not_mem_nil, or_false] at hx
  have h1 : Vne (CF.form1 y m d) := vne_app (vne_app (vdigs hy) (by decide +kernel)) (vshort hm hd).1
  rcases hx with ((rfl | rfl | rfl | rfl) | hx) | (rfl | rfl)
  · exact h1
  · exact vne_app (vne_app (vne_app h1 (by decide +kernel)) (vwd _)) (by decide +kernel)
  · exact vne_app (vne_app (vne_app (vne_app (vpad 4 hy) (by decide +kernel)) (vpad 2 hm).1) (by decide +kernel)) (vpad 2 hd).1
  · exact vne_app (vne_app (vne_app (vne_app (vpad 4 hy) (by decide +kernel)) (vpad 2 hm).1) (by decide +kernel)) (vpad 2 hd).1
  · cases he : CF.era n with
    | none => rw [he] at hx; simp at hx
    | some p =>
      obtain ⟨e, b⟩ := p
      rw [he] at hx
      have hen := vename (CF.era_name he)
      simp only [List.mem_cons, List.not_mem_nil, or_false] at hx
      rcases hx with rfl | rfl
      · refine vne_app (vne_app (vne_app hen ?_) (by decide +kernel)) (vshort hm hd).1
        unfold CF.yearA
        split
        · decide +kernel
        · exact (vdigs (by omega)).1
      · refine vne_app (vne_app (vne_app (vne_app (vne_app (vne_app hen ?_) (by decide +kernel)) (vkan _)) (by decide +kernel)) (vkan _)) (by decide +kernel)
        unfold CF.yearB
        split
        · decide +kernel
        · exact vkan _
  · exact vshort hm hd
  · exact vne_app (vne_app (vdigs hm) (by decide +kernel)) (vdigs hd).1
theorem dayL_once (n : Int) : (dayL n).Nodup ∧ ∀ x ∈ dayL n, Vne x := by
  by_cases h : n < 1 ∨ 3652059 < n
  · rw [dayL_out h]; exact ⟨List.nodup_nil, fun x hx => by simp at hx⟩
  · obtain ⟨k, rfl⟩ : ∃ k : Nat, n = k := ⟨n.toNat, by omega⟩
    obtain ⟨y, m, d, h3, h4⟩ := date_exists k (by omega) (by omega)
    rw [dayL_eq h3 h4]
    exact formsL_once h3 h4
theorem forms_hira (l : Bs) : Num.forms l = Num.forms (UT.hira l) := by
  have hch := UT.runes_ch l.length l (Nat.le_refl _)
  by_cases hv : Lib.validD l = true
  · have e2 : UT.hira l = UT.enc ((UT.runes l).map UT.hf) := by unfold UT.hira; rw [if_pos hv]
    have e1 := UT.enc_runes l.length l (Nat.le_refl _) hv
    have hh : ∀ c, Num.ndc c = Num.ndc (UT.hf c) := by
      intro c
      unfold Num.ndc UT.hf
      repeat' split
      all_goals first | (exfalso; omega) | exact congrArg some (by omega) | rfl
    have e3 := Num.narC_congr (fun c => c) UT.hf hh (UT.runes l)
    rw [List.map_id'] at e3
    unfold Num.forms
    rw [e2, Num.nar_enc _ (fun c hc => by obtain ⟨d, hd, rfl⟩ := List.mem_map.1 hc; exact UT.hf_ch (hch d hd)), ← e3, ← Num.nar_enc _ hch, e1]
  · have e2 : UT.hira l = l := by unfold UT.hira; rw [if_neg hv]
    rw [e2]
theorem rows_day : ∀ y ∈ dayTab, Num.forms y.1.data.toList = [] ∧ (symRow y.1).isNone = true := by decide +kernel
theorem rows_sym : ∀ y ∈ symTab, Num.forms y.1.data.toList = [] ∧ ((pieces y.2).map (·.data.toList)).Nodup ∧ ∀ x ∈ (pieces y.2).map (·.data.toList), Lib.validD x = true ∧ x ≠ [] := by decide +kernel
theorem row_name {α : Type} {t : List (ByteArray × α)} {l : Bs} {y : ByteArray × α} (h : t.find? (fun y => y.1.toList == (⟨l.toArray⟩ : ByteArray).toList) = some y) : y ∈ t ∧ y.1 = ⟨l.toArray⟩ ∧ y.1.data.toList = l := by
  have h1 := List.mem_of_find?_eq_some h
  have h2 := List.find?_some h
  have h3 := eq_of_beq h2
  rw [Lib.toList_data, Lib.toList_data] at h3
  exact ⟨h1, ByteArray.ext (Array.toList_inj.1 h3), h3⟩
theorem ofL_once (l : Bs) (day : Int) : (ofL l day).Nodup ∧ ∀ x ∈ ofL l day, Vne x := by
  unfold ofL
  rw [forms_hira l]
  obtain ⟨x, hx⟩ : ∃ x, UT.hira l = x := ⟨_, rfl⟩
  rw [hx]
  cases hd : dayRow ⟨x.toArray⟩ with
  | some y =>
    obtain ⟨hm, hy, hn⟩ := row_name hd
    have hr := rows_day y hm
    rw [hn] at hr
    have hs : symPart ⟨x.toArray⟩ = [] := by
      have := hr.2
      rw [hy] at this
      unfold symPart
      cases h : symRow ⟨x.toArray⟩ with
      | none => rfl
      | some z => rw [h] at this; cases this
    rw [hr.1, hs, List.nil_append, List.append_nil]
    unfold dayPart
    rw [hd]
    dsimp only
    split
    · exact dayL_once _
    · exact ⟨List.nodup_nil, fun x hx => by simp at hx⟩
  | none =>
    have hdp : dayPart ⟨x.toArray⟩ day = [] := by unfold dayPart; rw [hd]
    rw [hdp, List.append_nil]
    cases hs : symRow ⟨x.toArray⟩ with
    | some y =>
      obtain ⟨hm, hy, hn⟩ := row_name hs
      have hr := rows_sym y hm
      rw [hn] at hr
      have hsp : symPart ⟨x.toArray⟩ = (pieces y.2).map (·.data.toList) := by unfold symPart; rw [hs]
      rw [hr.1, List.nil_append, hsp]
      exact hr.2
    | none =>
      have hsp : symPart ⟨x.toArray⟩ = [] := by unfold symPart; rw [hs]
      rw [hsp, List.append_nil]
      exact forms_once x
theorem forms_small (l : Bs) : ∀ x ∈ Num.forms l, x.length ≤ 1000 := by
  unfold Num.forms
  split
  · intro x hx; simp at hx
  · rename_i d _
    split
    · rename_i hv
      have hv' := (Num.valid_iff d).1 hv
      intro x hx
      have h1 := Num.mapD_len3 d
      have h2 := Num.com_len true d
      have h3 := Num.pos_len d
      have h4 : ∀ f, (Num.writ f d).length ≤ 200 := by
        intro f
        unfold Num.writ
        split
        · decide
        · have := Num.wr_len f d false; omega
      have h5 := h4 false
      have h6 := h4 true
      have hm : x ∈ d :: Num.wide d :: Num.four d := by
        rcases foldU_mem _ _ x hx with h | h
        · simp only [List.mem_cons, List.not_mem_nil, or_false] at h ⊢
          rcases h with h | h
          · exact .inl h
          · exact .inr (.inl h)
        · exact List.mem_cons_of_mem _ (List.mem_cons_of_mem _ h)
      simp only [Num.four, List.mem_cons, List.not_mem_nil, or_false] at hm
      have h7 : (Num.wide d).length = 3 * d.length := h1
      rcases hm with rfl | rfl | rfl | rfl | rfl | rfl <;> omega
    · intro x hx; simp at hx
theorem formsL_small {n y m d : Nat} : ∀ x ∈ CF.formsL n y m d, x.length ≤ 1000 := by
  intro x hx
  have a1 := (Num.digs_len y).2; have a2 := (Num.digs_len m).2; have a3 := (Num.digs_len d).2
  have b1 := CF.short_len m d
  have c1 := CF.pad_len 4 y; have c2 := CF.pad_len 2 m; have c3 := CF.pad_len 2 d
  have d1 := CF.kan_len m; have d2 := CF.kan_len d
  have e1 := CF.wd_len (n % 7)
  unfold CF.formsL CF.withYear at hx
  simp only [List.mem_append, List.mem_cons, List.not_mem_nil, or_false] at hx
  rcases hx with ((rfl | rfl | rfl | rfl) | hx) | (rfl | rfl)
  · simp only [CF.form1, List.length_append, CF.nen, List.length_cons, List.length_nil]; omega
  · simp only [CF.form2, List.length_append, CF.nen, List.length_cons, List.length_nil]; omega
  · simp only [CF.form3, List.length_append, List.length_cons, List.length_nil]; omega
  · simp only [CF.form4, List.length_append, List.length_cons, List.length_nil]; omega
  · cases he : CF.era n with
    | none => rw [he] at hx; simp at hx
    | some p =>
      obtain ⟨e, b⟩ := p
      rw [he] at hx
      have hel : e.length ≤ 6 := by rcases CF.era_name he with rfl | rfl | rfl | rfl | rfl <;> decide
      have f1 := (Num.digs_len (y - b)).2
      have f2 := CF.kan_len (y - b)
      have g1 : (CF.yearA (y - b)).length ≤ 4 := by unfold CF.yearA; split; decide; exact f1
      have g2 : (CF.yearB (y - b)).length ≤ 40 := by unfold CF.yearB; split; decide; exact f2
      simp only [List.mem_cons, List.not_mem_nil, or_false] at hx
      rcases hx with rfl | rfl
      · simp only [CF.form5, List.length_append, CF.nen, List.length_cons, List.length_nil]; omega
      · simp only [CF.form6, List.length_append, CF.nen, CF.gatsu, CF.nichi, List.length_cons, List.length_nil]; omega
  · omega
  · simp only [List.length_append, List.length_cons, List.length_nil]; omega
theorem dayL_small (n : Int) : ∀ x ∈ dayL n, x.length ≤ 1000 := by
  unfold dayL
  split
  · exact formsL_small
  · intro x hx; simp at hx
theorem ofL_small (l : Bs) (day : Int) : ∀ x ∈ ofL l day, x.length ≤ 1000 := by
  intro x hx
  unfold ofL at hx
  rcases List.mem_append.1 hx with hx | hx
  · rcases List.mem_append.1 hx with hx | hx
    · exact forms_small l x hx
    · unfold dayPart at hx
      split at hx
      · split at hx
        · exact dayL_small _ x hx
        · simp at hx
      · simp at hx
  · unfold symPart at hx
    split at hx
    · rename_i y hy
      have : ∀ y ∈ symTab, ∀ x ∈ (pieces y.2).map (·.data.toList), x.length ≤ 1000 := by decide +kernel
      exact this y (row_name hy).1 x hx
    · simp at hx
theorem runes_pos {l : Bs} (h : Vne l) : 1 ≤ (UT.runes l).length := by
  rw [UT.runes_step h.2]; simp
/-! ### numbers -/
theorem narF_dig : ∀ (l : Bs) (n : Nat), l.all isD = true → l.length ≤ n → Num.narF n l = some l
  | [], 0, _, _ => rfl
  | [], n + 1, _, _ => by rw [Num.narF, if_pos rfl]
  | c :: r, 0, _, h => by simp at h
  | c :: r, n + 1, h, hl => by
    rw [List.all_cons, Bool.and_eq_true] at h
    have hb := CF.val_eq h.1
    have hn : Num.nd (c :: r) = some (c.toNat - 48, 1) := by
      unfold Num.nd
      rw [if_neg (by simp), if_pos (by show 48 ≤ c.toNat ∧ c.toNat ≤ 57; omega)]; rfl
    rw [Num.narF, if_neg (by simp), hn]
    dsimp only
    rw [show (c :: r).drop 1 = r from rfl, narF_dig r n h.2 (by simp at hl; omega)]
    show some (UInt8.ofNat (48 + (c.toNat - 48)) :: r) = _
    rw [show 48 + (c.toNat - 48) = c.toNat by omega]
    simp
theorem forms_valid {d : Bs} (h : Num.valid d = true) : Num.forms d = Num.formsOf d := by
  have hv := (Num.valid_iff d).1 h
  unfold Num.forms Num.nar
  rw [narF_dig d _ hv.2.2.1 (Nat.le_refl _)]
  dsimp only
  rw [if_pos h]
theorem number_in {d : Bs} (h : Num.valid d = true) (day : Int) : d ∈ ofL d day ∧ Num.wide d ∈ ofL d day := by
  unfold ofL
  rw [forms_valid h]
  unfold Num.formsOf
  exact ⟨List.mem_append_left _ (List.mem_append_left _ (foldU_sub _ _ _ (List.mem_cons_self ..))), List.mem_append_left _ (List.mem_append_left _ (foldU_sub _ _ _ (List.mem_cons_of_mem _ (List.mem_cons_self ..))))⟩
theorem runes_dig : ∀ l : Bs, l.all isD = true → UT.runes l = l.map UInt8.toNat
  | [], _ => rfl
  | c :: r, h => by
    rw [List.all_cons, Bool.and_eq_true] at h
    have hb := CF.val_eq h.1
    have hd : Lib.decodeL (c :: r) = (c.toNat, 1) := by
      rw [Lib.decodeL_N]
      unfold Lib.decodeN
      rw [if_pos (by show c.toNat < 128; omega)]; rfl
    rw [UT.runes_step (by simp), hd]
    dsimp only
    rw [show (c :: r).drop 1 = r from rfl, runes_dig r h.2]; rfl
theorem wide_dig (l : Bs) (h : l.all isD = true) : UT.wideL l = Num.wide l := by
  unfold UT.wideL
  rw [if_pos (vdig l h), runes_dig l h]
  induction l with
  | nil => rfl
  | cons c r ih =>
    rw [List.all_cons, Bool.and_eq_true] at h
    have hb := CF.val_eq h.1
    rw [List.map_cons, List.map_cons, UT.enc_cons, ih h.2]
    show _ = wideCh (Num.val c) ++ Num.wide r
    congr 1
    have hw : UT.wf c.toNat = 65296 + (c.toNat - 48) := by unfold UT.wf; rw [if_neg (by omega), if_pos (by omega)]; omega
    rw [hw, hb.2.2]
    have : ∀ n, n < 10 → Lib.encodeRune ((65296 + n : Nat) : Int) = wideCh n := by decide +kernel
    exact this _ (by omega)
end Go.Proofs.YtnpkcobapckhdaaGreatDoor
