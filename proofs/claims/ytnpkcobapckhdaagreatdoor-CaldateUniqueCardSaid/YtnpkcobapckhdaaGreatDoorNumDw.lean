/-
  henkanref03.digitwise by its contract. No condition but the string's own bound.
-/
import Derived.Test.YtnpkcobapckhdaaGreatDoorNumIdx
namespace Go.Proofs.YtnpkcobapckhdaaGreatDoor
open Go.RowKit

theorem dg10 : ∀ j, j < 10 → Num.dgP.getD j [] = [] ∨ (Num.dgP.getD j []).length = 3 := by
  intro j hj
  have h1 : j = 0 ∨ j = 1 ∨ j = 2 ∨ j = 3 ∨ j = 4 ∨ j = 5 ∨ j = 6 ∨ j = 7 ∨ j = 8 ∨ j = 9 := by omega
  rcases h1 with rfl | rfl | rfl | rfl | rfl | rfl | rfl | rfl | rfl | rfl <;> exact Or.inr rfl

theorem ten_at (g : Nat) (h : g < 10) : Is ((⟨#[48, 49, 50, 51, 52, 53, 54, 55, 56, 57]⟩ : ByteArray).extract g (g + 1)) [UInt8.ofNat (48 + g)] := by
  have h1 : g = 0 ∨ g = 1 ∨ g = 2 ∨ g = 3 ∨ g = 4 ∨ g = 5 ∨ g = 6 ∨ g = 7 ∨ g = 8 ∨ g = 9 := by omega
  rcases h1 with rfl | rfl | rfl | rfl | rfl | rfl | rfl | rfl | rfl | rfl <;> (unfold Is; decide)
set_option maxHeartbeats 1000000 in
theorem digitwise_any (s : ByteArray) (l : List UInt8) (w : World) (h : Is s l) (hs : s.size ≤ 140737488351232) :
    Calls Tryz.prog 164 #[.string s] w fun e w' => (∃ b, Is b (Num.dwr l) ∧ e = .returned (.string b)) ∧ Below w.heap.size w w' := by
  have HI := Lib.hid h
  clear h
  go_enter Tryz.func164, Tryz.ntmps164
  go_wp2_with fail
  go_loopw [3, 4] (fun ov av wr => ∃ (o : ByteArray) (acc : List UInt8) (pos fuel : Nat), ov = .string o ∧ av = .int .i64 pos ∧ Is o acc ∧ acc ++ Num.dwF fuel (l.drop pos) = Num.dwr l ∧ l.length ≤ pos + fuel ∧ acc.length ≤ pos ∧ pos ≤ s.size ∧ Below w.heap.size w wr) (fun _ av _ => s.size - (intOf av).toNat)
  case atStart => exact ⟨⟨#[]⟩, [], 0, l.length, rfl, rfl, Is.mk [], by rw [List.drop_zero]; rfl, by omega, by simp, by omega, Below.refl _ _⟩
  case round =>
    obtain ⟨o, acc, pos, fuel, rfl, rfl, ho, hl, hf, ha, hps, hb⟩ := hrel
    have HO := Lib.hid ho
    have HL := Lib.hid hl
    have HB := Lib.hid hb
    have hsz := hb.size
    have hlz := HI.out.size
    clear ho hl hb
    by_cases hp : pos + 3 ≤ s.size
    · obtain ⟨E, hE⟩ : ∃ E : Nat, E = pos + 3 := ⟨_, rfl⟩
      have hwE : wrap64 ((pos : Int) + 3) = (E : Int) := by rw [hE]; unfold wrap64; omega
      have hE2 : E ≤ s.size := by omega
      obtain ⟨T, hT⟩ : ∃ T, (l.drop pos).take 3 = T := ⟨_, rfl⟩
      have HE := Lib.hid hE
      have HT := Lib.hid hT
      clear hE hT
      go_wp2_with fail
      refine (rdigP_any _).mono ?_
      rintro e w1 ⟨rfl, rfl⟩
      go_wp2_with fail
      refine (rindex_any wr.heap.size 10 10 Num.dgP s l T pos _ HI.out hs rfl (by decide) hp HT.out dg10 (fun j hj => ?_)).mono ?_
      · rw [Row.cell ⟨_, _, (MapKept.heap_alloc wr _).1⟩ j, List.getElem?_toArray]
        unfold strC
        rw [List.getElem?_map, List.getD_eq_getElem?_getD, List.getElem?_eq_getElem (by exact hj)]
        rfl
      rintro e w2 ⟨rfl, hb2⟩
      have HB2 := Lib.hid ((HB.out.alloc hsz (.cells (strC Num.dgP).toArray 9)).trans (hb2.mono (by simp; omega)))
      clear hb2
      have hxb : -1 ≤ Num.ix Num.dgP T ∧ Num.ix Num.dgP T < 10 := ix_dg false T
      have HS := Lib.hid (show acc ++ Num.dw1 T ++ Num.dwF (fuel - 1) (l.drop (pos + 3)) = Num.dwr l by
        obtain ⟨m, rfl⟩ : ∃ m, fuel = m + 1 := ⟨fuel - 1, by omega⟩
        rw [← HL.out, Num.dwF, if_neg (by rw [List.length_drop]; omega), HT.out, List.drop_drop, List.append_assoc, Nat.add_sub_cancel])
      obtain ⟨k, hk⟩ : ∃ k, Num.ix Num.dgP T = k := ⟨_, rfl⟩
      rw [hk]
      rw [hk] at hxb
      by_cases hk0 : 0 ≤ k
      · obtain ⟨g, rfl⟩ : ∃ g : Nat, k = (g : Int) := ⟨k.toNat, by omega⟩
        have hg10 : g < 10 := Int.ofNat_lt.1 hxb.2
        have HD := Lib.hid (show Num.dw1 T = [UInt8.ofNat (48 + g)] by unfold Num.dw1; rw [hk, if_pos hk0]; rfl)
        obtain ⟨x, hx⟩ : ∃ x : ByteArray, (⟨#[48, 49, 50, 51, 52, 53, 54, 55, 56, 57]⟩ : ByteArray).extract g (g + 1) = x := ⟨_, rfl⟩
        have hix : Is x [UInt8.ofNat (48 + g)] := by rw [← hx]; exact ten_at g hg10
        have hxz : x.size = 1 := by rw [hix.size]; rfl
        have hoz : o.size = acc.length := HO.out.size
        have HX := Lib.hid hix
        clear hk hk0 hxb hix
        go_wp2_with fail
        go_roundw
        case rel => exact ⟨o ++ x, acc ++ Num.dw1 T, pos + 3, fuel - 1, rfl, by go_num, by rw [HD.out]; exact HO.out.append HX.out, HS.out, by omega, by rw [HD.out, List.length_append]; show acc.length + 1 ≤ pos + 3; omega, by omega, HB2.out⟩
        case measure => simp [intOf]; omega
      · have HD := Lib.hid (show Num.dw1 T = [] by unfold Num.dw1; rw [hk, if_neg hk0])
        obtain rfl : k = -1 := by omega
        clear hk hk0 hxb
        go_wp2_with fail
        go_roundw
        case rel => exact ⟨o, acc, pos + 3, fuel - 1, rfl, by go_num, HO.out, by have := HS.out; rwa [HD.out, List.append_nil] at this, by omega, by omega, by omega, HB2.out⟩
        case measure => simp [intOf]; omega
    · have HR := Lib.hid (show acc = Num.dwr l by
        rw [← HL.out]
        have : Num.dwF fuel (l.drop pos) = [] := by
          cases fuel with
          | zero => rfl
          | succ m => rw [Num.dwF, if_pos (by rw [List.length_drop]; omega)]
        rw [this, List.append_nil])
      go_wp2_with fail
      go_ret
      exact ⟨⟨o, by rw [← HR.out]; exact HO.out, rfl⟩, HB.out⟩
end Go.Proofs.YtnpkcobapckhdaaGreatDoor
