/-
  henkanref03.narrow by its contract. No condition but the string's own bound.
-/
import Derived.Test.YtnpkcobapckhdaaGreatDoorFormMath
import Derived.Test.YtnpkcobapckhdaaGreatDoorNumCom
import Derived.Test.YtnpkcobapckhdaaGreatDoorNumIdx
import Derived.Test.YtnpkcobapckhdaaGreatDoorLawMath
namespace Go.Proofs.YtnpkcobapckhdaaGreatDoor
open Go.RowKit

theorem ten_cut (g : Nat) (h : g < 10) : Is ((⟨#[48, 49, 50, 51, 52, 53, 54, 55, 56, 57]⟩ : ByteArray).extract g (g + 1)) [UInt8.ofNat (48 + g)] := by
  have h1 : g = 0 ∨ g = 1 ∨ g = 2 ∨ g = 3 ∨ g = 4 ∨ g = 5 ∨ g = 6 ∨ g = 7 ∨ g = 8 ∨ g = 9 := by omega
  rcases h1 with rfl | rfl | rfl | rfl | rfl | rfl | rfl | rfl | rfl | rfl <;> (unfold Is; decide)
/-- what narrow hands back -/
def NarP (l : List UInt8) (w : World) (e : Ending) (w' : World) : Prop :=
  ∃ (b : ByteArray) (ok : Bool), e = .returned (.tuple #[.string b, .bool ok]) ∧ w = w' ∧ (match Num.nar l with | none => ok = false | some d => Is b d ∧ ok = Num.valid d)
theorem drop_getD {s : ByteArray} {l : List UInt8} (h : Is s l) (pos j p : Nat) (hp : pos + j = p) (hj : p < s.size) : (l.drop pos).getD j 0 = s[p]'hj := by
  rw [List.getD_eq_getElem?_getD, List.getElem?_drop, hp, h.get p hj]; rfl
theorem cut_at {t : ByteArray} {l : List UInt8} (h : Is t l) (k : Nat) (x : UInt8) (hx : l[k]? = some x) : Is (t.extract k (k + 1)) [x] := by
  have hk : k < l.length := by
    rcases Nat.lt_or_ge k l.length with h' | h'
    · exact h'
    · rw [List.getElem?_eq_none h'] at hx; cases hx
  unfold Is at *
  rw [Lib.extract_data, h, show k + 1 - k = 1 by omega, List.drop_eq_getElem_cons hk]
  rw [List.getElem?_eq_getElem hk] at hx
  rw [Option.some.inj hx]
  rfl
theorem narP_none {l : List UInt8} {w : World} (h : Num.nar l = none) : NarP l w (.returned (.tuple #[.string ⟨#[]⟩, .bool false])) w :=
  ⟨_, _, rfl, rfl, by rw [h]⟩

set_option maxRecDepth 100000 in
set_option maxHeartbeats 4000000 in
theorem narrow_any (s : ByteArray) (l : List UInt8) (w : World) (h : Is s l) (hs : s.size ≤ 140737488351232) :
    Calls Tryz.prog 80 #[.string s] w (NarP l w) := by
  have HI := Lib.hid h
  have HL := Lib.hid h.size
  clear h
  go_enter Tryz.func80, Tryz.ntmps80
  go_wp2_with fail
  go_loop [4, 5] (fun ov iv => ∃ (pos fuel : Nat) (acc : List UInt8) (t : ByteArray), iv = .int .i64 pos ∧ ov = .string t ∧ Is t acc ∧ acc.length ≤ pos ∧ pos ≤ s.size ∧ Num.NarL l acc fuel pos ∧ s.size ≤ pos + fuel) (fun _ iv => s.size - (intOf iv).toNat)
  case atStart => exact ⟨0, s.size, [], ⟨#[]⟩, rfl, rfl, Is.mk [], by simp, by omega, by rw [HL.out]; exact Num.narL_start l, by omega⟩
  case round =>
    obtain ⟨pos, fuel, acc, t, rfl, rfl, ht, hacc, hps, hleft, hfu⟩ := hrel
    have HT := Lib.hid ht
    have htz : t.size ≤ pos := by rw [ht.size]; exact hacc
    have HN := Lib.hid hleft
    clear ht hleft
    by_cases hp : pos < s.size
    · have hg := HI.out.get pos hp
      have HCUT := Lib.hid (cut_at HI.out pos _ hg)
      have hcz : (s.extract pos (pos + 1)).size ≤ 1 := by rw [HCUT.out.size]; simp
      have e0 := drop_getD HI.out pos 0 pos rfl hp
      have hne : l.drop pos ≠ [] := by intro e; have := congrArg List.length e; rw [List.length_drop] at this; have := HL.out; simp at *; omega
      have hpl : pos < l.length := by rw [← HL.out]; exact hp
      have hfl : l.length ≤ pos + fuel := by rw [← HL.out]; exact hfu
      have hlen : (l.drop pos).length = s.size - pos := by rw [List.length_drop, HL.out]
      by_cases hA : 48 ≤ s[pos].toNat ∧ s[pos].toNat ≤ 57
      · have hnd : Num.nd (l.drop pos) = some (s[pos].toNat - 48, 1) := by
          unfold Num.nd; rw [if_neg hne, e0, if_pos hA]
        have hst := Num.narL_step HN.out hnd hfl
        have hby : UInt8.ofNat (48 + (s[pos].toNat - 48)) = s[pos] := by
          apply UInt8.toNat_inj.1; rw [UInt8.toNat_ofNat']; have := s[pos].toNat_lt; omega
        rw [hby] at hst
        have HST := Lib.hid hst
        have a1 : (48 : Int) ≤ (s[pos].toNat : Int) := by omega
        have a2 : (s[pos].toNat : Int) ≤ 57 := by omega
        clear hg e0 hne hlen hA hnd hst hby
        go_wp2_with fail
        go_round
        case rel => exact ⟨pos + 1, fuel - 1, acc ++ [s[pos]], _, by go_num, rfl, HT.out.append HCUT.out, by rw [List.length_append]; show acc.length + 1 ≤ pos + 1; omega, by omega, HST.out, by omega⟩
        case measure => simp [intOf]; omega
      · have fin : ∀ P : Prop, ((48 : Int) ≤ (s[pos].toNat : Int) → ¬ (s[pos].toNat : Int) ≤ 57 → P) → (¬ (48 : Int) ≤ (s[pos].toNat : Int) → P) → P := by
          intro P a b
          by_cases h : (48 : Int) ≤ (s[pos].toNat : Int)
          · exact a h (by omega)
          · exact b h
        by_cases h3 : s.size < pos + 3
        · have b1 : (s.size : Int) < (pos : Int) + 3 := by omega
          have hnd : Num.nd (l.drop pos) = none := by
            unfold Num.nd; rw [if_neg hne, e0, if_neg hA, if_neg (fun h => by have := h.1; omega)]
          have HNO := Lib.hid (Num.narL_none HN.out hnd hpl hfl)
          clear hnd hg e0 hne hlen hA hpl hfl 
          refine fin _ (fun z1 z2 => ?_) (fun z1 => ?_)
          all_goals
            clear fin
            go_wp2_with fail
            go_ret2
            exact narP_none HNO.out
        have b1 : ¬ (s.size : Int) < (pos : Int) + 3 := by omega
        by_cases hc0 : s[pos].toNat = 239
        · have b2 : ((s[pos].toNat : Int) != 239) = false := by rw [hc0]; rfl
          have z1 : (48 : Int) ≤ (s[pos].toNat : Int) := by omega
          have z2 : ¬ (s[pos].toNat : Int) ≤ 57 := by omega
          clear fin
          have fin : ∀ P : Prop, ((48 : Int) ≤ (s[pos].toNat : Int) → ¬ (s[pos].toNat : Int) ≤ 57 → P) → P := fun P h => h z1 z2
          have hp1 : pos + 1 < s.size := by omega
          have hp2 : pos + 2 < s.size := by omega
          have e1 := drop_getD HI.out pos 1 (pos + 1) rfl hp1
          have e2 := drop_getD HI.out pos 2 (pos + 2) rfl hp2
          have HC0 := Lib.hid hc0
          by_cases hc1 : s[pos + 1].toNat = 188
          · have b3 : ((s[pos + 1].toNat : Int) != 188) = false := by rw [hc1]; rfl
            by_cases hc2 : s[pos + 2].toNat < 144
            · have b4 : (s[pos + 2].toNat : Int) < 144 := by omega
              have hnd : Num.nd (l.drop pos) = none := by
                unfold Num.nd; rw [if_neg hne, e0, if_neg hA, if_neg (fun h => by have h2 := h.2.2.2.1; rw [e2] at h2; omega)]
              have HNO := Lib.hid (Num.narL_none HN.out hnd hpl hfl)
              clear hnd hg e0 hne hlen hA hpl hfl hc0 hc1 hc2 e1 e2 fin
              skip
              all_goals
                skip
                go_wp2_with fail
                go_ret2
                exact narP_none HNO.out
            · have b4 : ¬ (s[pos + 2].toNat : Int) < 144 := by omega
              by_cases hc3 : 153 < s[pos + 2].toNat
              · have b5 : 153 < (s[pos + 2].toNat : Int) := by omega
                have hnd : Num.nd (l.drop pos) = none := by
                  unfold Num.nd; rw [if_neg hne, e0, if_neg hA, if_neg (fun h => by have h2 := h.2.2.2.2; rw [e2] at h2; omega)]
                have HNO := Lib.hid (Num.narL_none HN.out hnd hpl hfl)
                clear hnd hg e0 hne hlen hA hpl hfl hc0 hc1 hc2 hc3 e1 e2 fin
                skip
                all_goals
                  skip
                  go_wp2_with fail
                  go_ret2
                  exact narP_none HNO.out
              · have b5 : ¬ 153 < (s[pos + 2].toNat : Int) := by omega
                have hnd : Num.nd (l.drop pos) = some (s[pos + 2].toNat - 144, 3) := by
                  unfold Num.nd; rw [if_neg hne, e0, if_neg hA, e1, e2, if_pos ⟨by omega, hc0, hc1, by omega, by omega⟩]
                obtain ⟨m, hm⟩ : ∃ m, s[pos + 2].toNat - 144 = m := ⟨_, rfl⟩
                rw [hm] at hnd
                have HST := Lib.hid (Num.narL_step HN.out hnd hfl)
                have hm10 : m < 10 := by omega
                have hmI : (s[pos + 2].toNat : Int) = (m : Int) + 144 := by omega
                have HTEN := Lib.hid (ten_cut m hm10)
                have htn : ((⟨#[48, 49, 50, 51, 52, 53, 54, 55, 56, 57]⟩ : ByteArray).extract m (m + 1)).size ≤ 1 := by rw [HTEN.out.size]; simp
                clear hnd hg e0 hne hlen hA hpl hfl hc0 hc1 hc2 hc3 e1 e2 fin b4 b5 hm
                skip
                go_wp2_with fail
                go_round
                case rel => exact ⟨pos + 3, fuel - 1, acc ++ [UInt8.ofNat (48 + m)], _, by go_num, rfl, HT.out.append HTEN.out, by rw [List.length_append]; show acc.length + 1 ≤ pos + 3; omega, by omega, HST.out, by omega⟩
                case measure => simp [intOf]; omega
          · have b3 : ((s[pos + 1].toNat : Int) != 188) = true := by rw [bne_iff_ne]; omega
            have hnd : Num.nd (l.drop pos) = none := by
              unfold Num.nd; rw [if_neg hne, e0, if_neg hA, if_neg (fun h => by have h2 := h.2.2.1; rw [e1] at h2; omega)]
            have HNO := Lib.hid (Num.narL_none HN.out hnd hpl hfl)
            clear hnd hg e0 hne hlen hA hpl hfl hc0 hc1 e1 e2 fin
            skip
            all_goals
              skip
              go_wp2_with fail
              go_ret2
              exact narP_none HNO.out
        · have b2 : ((s[pos].toNat : Int) != 239) = true := by rw [bne_iff_ne]; omega
          have hnd : Num.nd (l.drop pos) = none := by
            unfold Num.nd; rw [if_neg hne, e0, if_neg hA, if_neg (fun h => hc0 h.2.1)]
          have HNO := Lib.hid (Num.narL_none HN.out hnd hpl hfl)
          clear hnd hg e0 hne hlen hA hpl hfl hc0
          refine fin _ (fun z1 z2 => ?_) (fun z1 => ?_)
          all_goals
            clear fin
            go_wp2_with fail
            go_ret2
            exact narP_none HNO.out
    · have HE := Lib.hid (Num.narL_end HN.out (by rw [← HL.out]; exact hp))
      go_wp2_with fail
      refine (digits_any t acc _ HT.out (by omega)).mono ?_
      rintro e w2 ⟨rfl, rfl⟩
      go_wp2_with fail
      go_ret2
      exact ⟨_, _, rfl, rfl, by rw [HE.out]; exact ⟨HT.out, rfl⟩⟩
end Go.Proofs.YtnpkcobapckhdaaGreatDoor
