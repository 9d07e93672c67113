/-
  henkanref03.Parse by its contract. No condition but the string's own bound.
-/
import Derived.Test.YtnpkcobapckhdaaGreatDoorNumGuess
import Derived.Test.YtnpkcobapckhdaaGreatDoorNumDw
namespace Go.Proofs.YtnpkcobapckhdaaGreatDoor
open Go.RowKit

theorem ite_len (b : Bool) (x : List UInt8) (n : Nat) (h : x.length ≤ n) : (if b = true then x else []).length ≤ n := by split; exact h; simp
theorem wrt_len (f : Bool) (l : List UInt8) : (wrt f l).length ≤ 180 := by
  unfold wrt
  split
  · rename_i h
    have h20 := ((Num.valid_iff l).1 h).2.1
    unfold Num.writ
    split
    · decide
    · have := Num.wr_len f l false; omega
  · simp
theorem beq_is {t s : ByteArray} {a l : List UInt8} (h : Is t a) (h' : Is s l) : (t.toList == s.toList) = decide (a = l) := by
  rw [h.list, h'.list]
  by_cases e : a = l
  · rw [decide_eq_true e, e]; exact beq_self_eq_true _
  · rw [decide_eq_false e, beq_eq_false_iff_ne]; exact e
theorem dwF_len : ∀ (n : Nat) (l : List UInt8), (Num.dwF n l).length ≤ l.length
  | 0, l => by simp [Num.dwF]
  | n + 1, l => by
    have ih := dwF_len n (l.drop 3)
    have a : (Num.dw1 (l.take 3)).length ≤ 1 := by unfold Num.dw1; split <;> simp
    rw [Num.dwF]
    split
    · simp
    · rw [List.length_append, List.length_drop] at *; omega
theorem strip_len : ∀ l : List UInt8, (Num.strip l).length ≤ l.length
  | [] => by simp [Num.strip]
  | [c] => by simp [Num.strip]
  | c :: d :: r => by
    have := strip_len (d :: r)
    rw [Num.strip]
    split
    · simp at *; omega
    · simp
theorem guess_len (l : List UInt8) : (Num.guess l).length ≤ 20 := by
  unfold Num.guess Num.gsOut
  refine Nat.le_trans (strip_len _) (by simp)

set_option maxRecDepth 100000 in
set_option maxHeartbeats 2000000 in
theorem rparse_any (s : ByteArray) (l : List UInt8) (w : World) (h : Is s l) (hs : s.size ≤ 140737488351232) :
    Calls Tryz.prog 130 #[.string s] w (Gives (Num.refParse l).2 (Num.refParse l).1 w) := by
  have HI := Lib.hid h
  have hlen := h.size
  have HL := Lib.hid hlen
  clear h hlen
  go_enter Tryz.func130, Tryz.ntmps130
  go_wp2_with fail
  refine (digitwise_any s l _ HI.out hs).mono ?_
  rintro e w1 ⟨⟨d, hd, rfl⟩, hb1⟩
  have HD := Lib.hid hd
  have HB1 := Lib.hid hb1
  have hdz : d.size ≤ s.size := by rw [hd.size, HL.out]; exact dwF_len _ _
  clear hd hb1
  go_wp2_with fail
  refine (rpositional_any d (Num.dwr l) _ HD.out (by omega)).mono ?_
  rintro e w2 ⟨t, ht, rfl, hb2⟩
  have HT := Lib.hid ht
  have HB2 := Lib.hid (HB1.out.trans (hb2.mono HB1.out.size))
  clear ht hb2
  by_cases h1 : Num.digOk (Num.dwr l) l
  · have HR := Lib.hid (show Num.refParse l = (Num.dwr l, true) by unfold Num.refParse; rw [if_pos h1])
    have hv := h1.1
    have heq : (t.toList == s.toList) = true := by
      rw [beq_is HT.out HI.out, decide_eq_true_iff, if_pos h1.1]; exact h1.2
    clear h1
    rw [hv]
    go_wp2_with fail
    go_ret2
    exact ⟨d, by rw [HR.out]; exact HD.out, by rw [HR.out]; rfl, HB2.out⟩
  · have hng : (Num.valid (Num.dwr l) && (t.toList == s.toList)) = false := by
      cases hv : Num.valid (Num.dwr l)
      · rfl
      · rw [Bool.true_and, beq_is HT.out HI.out, decide_eq_false_iff_not, if_pos hv]
        exact fun e => h1 ⟨hv, e⟩
    have HN := Lib.hid hng
    have H1 := Lib.hid h1
    clear hng h1
    have key : ∀ ok : Bool, (ok && (t.toList == s.toList)) = false → ok = false ∨ (ok = true ∧ (t.toList == s.toList) = false) := by intro ok; cases ok <;> simp
    have KK := Lib.hid (key _ HN.out)
    clear key
    obtain ⟨ok, hok⟩ : ∃ ok, Num.valid (Num.dwr l) = ok := ⟨_, rfl⟩
    rw [hok]
    have KK2 := Lib.hid (show ok = false ∨ (ok = true ∧ (t.toList == s.toList) = false) by rw [← hok]; exact KK.out)
    clear hok KK HN
    have fin : ∀ (P : Prop), (ok = false → P) → (ok = true → (t.toList == s.toList) = false → P) → P := fun P a b => KK2.out.elim a (fun h => b h.1 h.2)
    refine fin _ (fun ha => ?_) (fun ha hb => ?_)
    all_goals
      subst ha
      clear fin
      go_wp2_with fail
      refine (guess_any s l _ HI.out hs).mono ?_
      rintro e w3 ⟨⟨g, hg, rfl⟩, hb3⟩
      have HG := Lib.hid hg
      have hgz : g.size ≤ 20 := by rw [hg.size]; exact guess_len l
      have HB3 := Lib.hid (HB2.out.trans (hb3.mono HB2.out.size))
      clear hg hb3
      go_wp2_with fail
      refine (rkanji_any g (Num.guess l) _ HG.out (by omega)).mono ?_
      rintro e w4 ⟨k, hk, rfl, hb4⟩
      have HK := Lib.hid hk
      have HB4 := Lib.hid (HB3.out.trans (hb4.mono HB3.out.size))
      clear hk hb4
      go_wp2_with fail
      refine (rformal_any g (Num.guess l) _ HG.out (by omega)).mono ?_
      rintro e w5 ⟨u, hu, rfl, hb5⟩
      have HU := Lib.hid hu
      have HB5 := Lib.hid (HB4.out.trans (hb5.mono HB4.out.size))
      clear hu hb5
      by_cases c1 : Num.wrt0 false (Num.guess l) = l
      · have HR := Lib.hid (show Num.refParse l = (Num.guess l, true) by unfold Num.refParse; rw [if_neg H1.out, if_pos (Or.inl c1)])
        have e1 : (k.toList == s.toList) = true := by rw [beq_is HK.out HI.out, decide_eq_true_iff]; exact c1
        clear c1
        go_wp2_with fail
        go_ret2
        exact ⟨g, by rw [HR.out]; exact HG.out, by rw [HR.out]; rfl, HB5.out⟩
      · have e1 : (k.toList == s.toList) = false := by rw [beq_is HK.out HI.out, decide_eq_false_iff_not]; exact c1
        by_cases c2 : Num.wrt0 true (Num.guess l) = l
        · have HR := Lib.hid (show Num.refParse l = (Num.guess l, true) by unfold Num.refParse; rw [if_neg H1.out, if_pos (Or.inr c2)])
          have e2 : (u.toList == s.toList) = true := by rw [beq_is HU.out HI.out, decide_eq_true_iff]; exact c2
          clear c1 c2
          go_wp2_with fail
          go_ret2
          exact ⟨g, by rw [HR.out]; exact HG.out, by rw [HR.out]; rfl, HB5.out⟩
        · have HR := Lib.hid (show Num.refParse l = ([], false) by unfold Num.refParse; rw [if_neg H1.out, if_neg (fun h => h.elim c1 c2)])
          have e2 : (u.toList == s.toList) = false := by rw [beq_is HU.out HI.out, decide_eq_false_iff_not]; exact c2
          clear c1 c2
          go_wp2_with fail
          go_ret2
          exact ⟨⟨#[]⟩, by rw [HR.out]; exact Is.mk [], by rw [HR.out]; rfl, HB5.out⟩
end Go.Proofs.YtnpkcobapckhdaaGreatDoor
