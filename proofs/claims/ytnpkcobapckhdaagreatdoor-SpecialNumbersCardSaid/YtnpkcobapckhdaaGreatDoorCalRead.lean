/-
  caldate.number by its contract; what the readings want of a world. No condition but the string's own bound.
-/
import Derived.Test.YtnpkcobapckhdaaGreatDoorCalTools
import Derived.Test.YtnpkcobapckhdaaGreatDoorNumParse
import Derived.Test.YtnpkcobapckhdaaGreatDoorCutMath
import Derived.Lib.SmallJoins
import Derived.Outline
namespace Go.Proofs.YtnpkcobapckhdaaGreatDoor
open Go.RowKit

theorem below_cell {B : Nat} {w w' : World} {p : Addr} {v : Value} (h : w.cell? p = some v) (hb : Below B w w') (hB : w.heap.size ≤ B) : w'.cell? p = some v := by
  rw [hb.cell (Nat.lt_of_lt_of_le (World.block_lt_of_cell? w p h) hB)]; exact h
/-- the tables, and the variables that the readings read -/
structure PTabs (w : World) : Prop where
  cal : CTabs w
  syn : ∃ te pe, w.cell? ⟨6, 0, none⟩ = some (.iface te pe)
  ran : ∃ te pe, w.cell? ⟨7, 0, none⟩ = some (.iface te pe)
  mx : ∃ m, w.cell? ⟨3, 0, none⟩ = some (.int .i64 m)
theorem PTabs.below {B : Nat} {w w' : World} (h : PTabs w) (hb : Below B w w') (hB : w.heap.size ≤ B) : PTabs w' :=
  ⟨h.cal.below hb hB, let ⟨a, b, c⟩ := h.syn; ⟨a, b, below_cell c hb hB⟩, let ⟨a, b, c⟩ := h.ran; ⟨a, b, below_cell c hb hB⟩, let ⟨a, c⟩ := h.mx; ⟨a, below_cell c hb hB⟩⟩
theorem PTabs.keep {w w' : World} (h : PTabs w) (hb : Below w.heap.size w w') : PTabs w' := h.below hb (Nat.le_refl _)

/-- what strconv.Atoi answers -/
def AtoiOf (l : List UInt8) (w : World) (e : Ending) (w' : World) : Prop :=
  Below w.heap.size w w' ∧ ((∃ n, Lib.atoiAll l = .ok n ∧ e = .returned (.tuple #[.int .i64 n, .nilIface])) ∨
    (∃ n te pe, (∀ k, Lib.atoiAll l ≠ .ok k) ∧ e = .returned (.tuple #[.int .i64 n, .iface te pe])))
theorem atoi_any (s : ByteArray) (l : List UInt8) (w : World) (h : Is s l) (hs : s.size ≤ 281474976710656) (ht : PTabs w) :
    Calls Tryz.prog 98 #[.string s] w (AtoiOf l w) := by
  have hl := h.data
  obtain ⟨t1, p1, c1⟩ := ht.syn
  obtain ⟨t2, p2, c2⟩ := ht.ran
  cases ha : Lib.atoiAll l with
  | ok v =>
    refine (Tryz.strconv_Atoi_ok s (by omega) v (by rw [hl]; exact ha) w).mono ?_
    rintro e w' ⟨rfl, hw⟩
    refine ⟨?_, .inl ⟨v, ha, rfl⟩⟩
    rcases hw with rfl | ⟨t, rfl⟩
    · exact Below.refl _ _
    · exact Go.Joins.below_bytesWorld _ _ _ _ (Nat.le_refl _)
  | _ =>
    first
    | (refine (Tryz.strconv_Atoi_syntax s hs (by rw [hl]; exact ha) _ w c1 (.inr ⟨_, _, rfl⟩)).mono ?_
       rintro e w' ⟨N, rfl, _, _, hb⟩
       exact ⟨hb, .inr ⟨_, _, _, (fun k hk => by rw [ha] at hk; cases hk), rfl⟩⟩)
    | (refine (Tryz.strconv_Atoi_range s hs (by rw [hl]; exact ha) _ w c2 (.inr ⟨_, _, rfl⟩)).mono ?_
       rintro e w' ⟨N, rfl, _, _, hb⟩
       exact ⟨hb, .inr ⟨_, _, _, (fun k hk => by rw [ha] at hk; cases hk), rfl⟩⟩)
theorem prog_len (l : List UInt8) : (Num.progParse l).1.length ≤ 20 := by
  unfold Num.progParse
  split
  · rename_i h; exact ((Num.valid_iff _).1 h.1).2.1
  · split
    · rename_i h; exact ((Num.valid_iff _).1 (Num.rd_sound false _ h).1).2.1
    · split
      · rename_i h; exact ((Num.valid_iff _).1 (Num.rd_sound true _ h).1).2.1
      · exact Nat.zero_le _

/-- a number handed back -/
def GivesI (n : Int) (w : World) (e : Ending) (w' : World) : Prop := e = .returned (.int .i64 n) ∧ Below w.heap.size w w'
/-- the number's last part: a text read as digits -/
def fin (t : List UInt8) : Int := match Lib.atoiAll t with
  | .ok n => if n < 0 ∨ 9999 < n then 0 else n
  | _ => 0
theorem fin_ok {t : List UInt8} {n : Int} (h : Lib.atoiAll t = .ok n) : fin t = if n < 0 ∨ 9999 < n then 0 else n := by unfold fin; rw [h]
theorem fin_no {t : List UInt8} (h : ∀ k, Lib.atoiAll t ≠ .ok k) : fin t = 0 := by
  unfold fin
  split
  · rename_i n hn; exact absurd hn (h n)
  · rfl
set_option maxRecDepth 100000 in
set_option maxHeartbeats 2000000 in
theorem number_any (s : ByteArray) (l : List UInt8) (w : World) (h : Is s l) (hs : s.size ≤ 140737488351232) (ht : PTabs w) :
    Calls Tryz.prog 48 #[.string s] w (GivesI (CF.pnum l) w) := by
  by_cases hg : l = CF.gan
  · have hsg : s = ⟨#[229, 133, 131]⟩ := by
      have := h.data
      rw [hg] at this
      exact ByteArray.ext (Array.toList_inj.1 this)
    subst hsg
    have HP := Lib.hid (show CF.pnum l = 1 by unfold CF.pnum; rw [if_pos hg])
    clear h hg ht hs
    go_enter Tryz.func48, Tryz.ntmps48
    go_wp2_with fail
    go_ret
    exact ⟨by rw [HP.out]; rfl, Below.refl _ _⟩
  · have d2 : (s.toList == [229, 133, 131]) = false := by
      rw [h.list]
      exact beq_eq_false_iff_ne.2 hg
    have HP := Lib.hid (show CF.pnum l = fin (if (Num.progParse l).2 = true then (Num.progParse l).1 else l) by unfold CF.pnum; rw [if_neg hg]; rfl)
    have HI := Lib.hid h
    have HT := Lib.hid ht
    have HPL := Lib.hid (prog_len l)
    clear h hg ht
    go_enter Tryz.func48, Tryz.ntmps48
    go_wp2_with fail
    refine (parse_any s l _ HI.out hs HT.out.cal.num).mono ?_
    rintro e w1 ⟨b, hb, rfl, hb1⟩
    have HB := Lib.hid hb
    have HB1 := Lib.hid hb1
    have HT1 := Lib.hid (HT.out.keep hb1)
    have hbz : b.size ≤ 20 := by rw [hb.size]; exact HPL.out
    clear hb hb1
    obtain ⟨ok, hok⟩ : ∃ ok, (Num.progParse l).2 = ok := ⟨_, rfl⟩
    have HOK := Lib.hid hok
    rw [hok]
    clear hok
    cases ok
    · have HX := Lib.hid (show CF.pnum l = fin (l) by rw [HP.out, HOK.out, if_neg (by simp)])
      go_wp2_with fail
      refine (atoi_any s (l) _ HI.out (by omega) HT1.out).mono ?_
      rintro e w2 ⟨hb2, ⟨n, hn, rfl⟩ | ⟨n, te, pe, hn, rfl⟩⟩
      · have HN := Lib.hid (fin_ok hn)
        have HB2 := Lib.hid (HB1.out.trans (hb2.mono HB1.out.size))
        clear hb2 hn
        by_cases c1 : n < 0
        · go_wp2_with fail
          go_ret
          exact ⟨by rw [HX.out, HN.out, if_pos (.inl c1)]; rfl, HB2.out⟩
        · by_cases c2 : 9999 < n
          · go_wp2_with fail
            go_ret
            exact ⟨by rw [HX.out, HN.out, if_pos (.inr c2)]; rfl, HB2.out⟩
          · go_wp2_with fail
            go_ret
            exact ⟨by rw [HX.out, HN.out, if_neg (by omega)]; rfl, HB2.out⟩
      · have HN := Lib.hid (fin_no hn)
        have HB2 := Lib.hid (HB1.out.trans (hb2.mono HB1.out.size))
        clear hb2 hn
        go_wp2_with fail
        go_ret
        exact ⟨by rw [HX.out, HN.out]; rfl, HB2.out⟩
    · have HX := Lib.hid (show CF.pnum l = fin ((Num.progParse l).1) by rw [HP.out, HOK.out, if_pos rfl])
      go_wp2_with fail
      refine (atoi_any b ((Num.progParse l).1) _ HB.out (by omega) HT1.out).mono ?_
      rintro e w2 ⟨hb2, ⟨n, hn, rfl⟩ | ⟨n, te, pe, hn, rfl⟩⟩
      · have HN := Lib.hid (fin_ok hn)
        have HB2 := Lib.hid (HB1.out.trans (hb2.mono HB1.out.size))
        clear hb2 hn
        by_cases c1 : n < 0
        · go_wp2_with fail
          go_ret
          exact ⟨by rw [HX.out, HN.out, if_pos (.inl c1)]; rfl, HB2.out⟩
        · by_cases c2 : 9999 < n
          · go_wp2_with fail
            go_ret
            exact ⟨by rw [HX.out, HN.out, if_pos (.inr c2)]; rfl, HB2.out⟩
          · go_wp2_with fail
            go_ret
            exact ⟨by rw [HX.out, HN.out, if_neg (by omega)]; rfl, HB2.out⟩
      · have HN := Lib.hid (fin_no hn)
        have HB2 := Lib.hid (HB1.out.trans (hb2.mono HB1.out.size))
        clear hb2 hn
        go_wp2_with fail
        go_ret
        exact ⟨by rw [HX.out, HN.out]; rfl, HB2.out⟩
end Go.Proofs.YtnpkcobapckhdaaGreatDoor
