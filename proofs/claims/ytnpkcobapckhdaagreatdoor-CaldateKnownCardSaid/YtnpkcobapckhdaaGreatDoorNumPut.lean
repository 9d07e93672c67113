/-
  henkanref03.put, text by their contracts. No condition but the ranges named.
-/
import Derived.Test.YtnpkcobapckhdaaGreatDoorNumRead
import Derived.Test.YtnpkcobapckhdaaGreatDoorNumCom
import Derived.Lib.SlBytesConst
import Derived.Lib.SlBytesRow
namespace Go.Proofs.YtnpkcobapckhdaaGreatDoor
open Go.RowKit

/-- twenty ASCII digits, the highest first -/
def rv (D : Nat → Nat) : Nat → Nat := fun i => 48 + D (19 - i)
theorem dC_congr {n : Nat} {d d' : Nat → Nat} (h : ∀ q, q < n → d q = d' q) : dC n d = dC n d' := by
  apply Array.ext_getElem?
  intro i
  by_cases hi : i < n
  · rw [dC_get _ _ _ hi, dC_get _ _ _ hi, h i hi]
  · rw [Array.getElem?_eq_none (by rw [dC_size]; omega), Array.getElem?_eq_none (by rw [dC_size]; omega)]
theorem rv_upd (D : Nat → Nat) (p n : Nat) (hp : p < 20) : dC 20 (Num.upd (rv D) (19 - p) (48 + n)) = dC 20 (rv (Num.upd D p n)) := by
  refine dC_congr fun q hq => ?_
  unfold rv Num.upd
  by_cases h : q = 19 - p
  · rw [if_pos h, if_pos (by omega)]
  · rw [if_neg h, if_neg (by omega)]

set_option maxHeartbeats 1000000 in
theorem put_as (bd c : Nat) (D D2 : Nat → Nat) (p : Nat) (w : World) (hp : p < 20) (hD2 : (if D p = 0 then Num.upd D p 1 else D) = D2) (hd : w.heap[bd]? = some (.cells (dC 20 (rv D)) 5 (20, 21))) :
    Calls Tryz.prog 184 #[.slice (some ⟨bd, 0, none⟩) 20 c, .int .i64 p, .int .i64 1] w fun e w' => (∃ ok : Bool, e = .returned (.bool ok)) ∧ w'.heap[bd]? = some (.cells (dC 20 (rv D2)) 5 (20, 21)) ∧ w.grownBy w' (some bd) := by
  have HD := Lib.hid hd
  have cn : w.cell? ⟨bd, 19 - p, none⟩ = some (.int .u8 (rv D (19 - p))) := by rw [Lib.cell_of_heap hd]; exact dC_get 20 _ _ (by omega)
  have cf : w.frozen? ⟨bd, 19 - p, none⟩ = false := by simp [World.frozen?, hd]; omega
  have hv : rv D (19 - p) = 48 + D p := by unfold rv; rw [show 19 - (19 - p) = p by omega]
  rw [hv] at cn
  clear hd hv
  by_cases h0 : D p = 0
  · rw [h0] at cn
    have HS := Lib.hid (row_set HD.out (19 - p) (.int .u8 ((49 : Nat) : Int)))
    have HE := Lib.hid (show dC 20 (Num.upd (rv D) (19 - p) 49) = dC 20 (rv D2) by rw [show 49 = 48 + 1 from rfl, rv_upd D p 1 hp, ← hD2, if_pos h0])
    clear h0 hD2
    go_enter Tryz.func184, Tryz.ntmps184
    go_wp2_with fail
    go_ret
    refine ⟨⟨_, rfl⟩, ?_, grown_set (grown_refl _ _) _ _⟩
    rw [← HE.out, ← dC_set]
    exact HS.out
  · obtain ⟨v, hv⟩ : ∃ v : Nat, v = 48 + D p := ⟨_, rfl⟩
    have hv48 : ((v : Int) != 48) = true := by rw [bne_iff_ne]; omega
    rw [← hv] at cn
    have HE := Lib.hid (show D = D2 by rw [← hD2, if_neg h0])
    clear h0 hv hD2
    go_enter Tryz.func184, Tryz.ntmps184
    go_wp2_with fail
    go_ret
    exact ⟨⟨_, rfl⟩, by rw [← HE.out]; exact HD.out, grown_refl _ _⟩

/-- what the loop of text leaves: from k on -/
theorem strip_at (l : List UInt8) (k : Nat) (h : k + 1 < l.length) (h0 : l[k]? = some 48) : Num.strip (l.drop k) = Num.strip (l.drop (k + 1)) := by
  have hk : k < l.length := by omega
  have e1 : l.drop k = 48 :: l.drop (k + 1) := by
    rw [List.drop_eq_getElem_cons hk]
    congr 1
    rw [List.getElem?_eq_getElem hk] at h0
    exact Option.some.inj h0
  have e2 : l.drop (k + 1) = l[k + 1] :: l.drop (k + 1 + 1) := List.drop_eq_getElem_cons h
  rw [e1, e2, Num.strip, if_pos rfl]
theorem strip_end (l : List UInt8) (k : Nat) (h : k < l.length) (h0 : k + 1 = l.length ∨ l[k]? ≠ some 48) : Num.strip (l.drop k) = l.drop k := by
  have e1 : l.drop k = l[k] :: l.drop (k + 1) := List.drop_eq_getElem_cons h
  rw [e1]
  rcases h0 with h0 | h0
  · rw [List.drop_eq_nil_of_le (by omega)]; rfl
  · cases e : l.drop (k + 1) with
    | nil => rfl
    | cons d r => rw [Num.strip, if_neg (by intro e; apply h0; rw [List.getElem?_eq_getElem h, e])]
/-- the bytes of the row -/
def rvL (D : Nat → Nat) : List UInt8 := (List.range 20).map fun i => UInt8.ofNat (48 + D (19 - i))
theorem rvL_len (D : Nat → Nat) : (rvL D).length = 20 := by simp [rvL]
theorem rvL_get (D : Nat → Nat) (i : Nat) (h : i < 20) : (rvL D)[i]? = some (UInt8.ofNat (48 + D (19 - i))) := by
  unfold rvL
  rw [List.getElem?_map, List.getElem?_range h]; rfl
/-- the row as a string -/
def rvS (D : Nat → Nat) : ByteArray := ⟨(rvL D).toArray⟩
theorem rvS_is (D : Nat → Nat) : Is (rvS D) (rvL D) := Is.mk _
theorem rvS_size (D : Nat → Nat) : (rvS D).size = 20 := by rw [(rvS_is D).size, rvL_len]
theorem rvS_bytes (D : Nat → Nat) (hD : ∀ q, D q < 10) (bd : Nat) (w : World) (hd : w.heap[bd]? = some (.cells (dC 20 (rv D)) 5 (20, 21))) : Lib.Bytes w bd 0 (rvS D) := by
  intro i hi
  have h20 : i < 20 := by rw [rvS_size] at hi; exact hi
  rw [Lib.cell_of_heap hd, Nat.zero_add, dC_get 20 _ _ h20]
  have h1 := (rvS_is D).get i hi
  rw [rvL_get D i h20] at h1
  rw [← Option.some.inj h1]
  have h2 := hD (19 - i)
  unfold rv
  rw [UInt8.toNat_ofNat']
  congr 3
  omega

set_option maxHeartbeats 1000000 in
theorem text_any (bd : Nat) (D : Nat → Nat) (w : World) (hD : ∀ q, D q < 10) (hd : w.heap[bd]? = some (.cells (dC 20 (rv D)) 5 (20, 21))) :
    Calls Tryz.prog 185 #[.slice (some ⟨bd, 0, none⟩) 20 20] w fun e w' => (∃ b, Is b (Num.strip (rvL D)) ∧ e = .returned (.string b)) ∧ w = w' := by
  have HB := Lib.hid (rvS_bytes D hD bd w hd)
  have HD := Lib.hid hd
  have HS := Lib.hid hD
  clear hd hD
  go_enter Tryz.func185, Tryz.ntmps185
  go_wp2_with fail
  go_loop [3] (fun i => ∃ k : Nat, k < 20 ∧ i = .int .i64 k ∧ Num.strip ((rvL D).drop k) = Num.strip (rvL D)) (fun i => 20 - (intOf i).toNat)
  case atStart => exact ⟨0, by omega, rfl, rfl⟩
  case round =>
    obtain ⟨k, hk, rfl, hr⟩ := hrel
    have HR := Lib.hid hr
    clear hr
    have hcell : w.cell? ⟨bd, k, none⟩ = some (.int .u8 (rv D k)) := by rw [Lib.cell_of_heap HD.out]; exact dC_get 20 _ _ hk
    have hv : rv D k = 48 + D (19 - k) := rfl
    have hx : ∀ (c : Nat), (Go.convert 84 9 (.slice (some ⟨bd, k, none⟩) (20 - k) c)).run Tryz.prog w = .ok (.string ((rvS D).extract k 20)) w := by
      intro c
      have := Lib.run_convert_window (P := Tryz.prog) w 84 5 9 Tryz.underlying84 Tryz.underlying5 Tryz.underlying9 bd 0 (rvS D) HB.out k (20 - k) c (by rw [rvS_size]; omega)
      rw [Nat.zero_add, show k + (20 - k) = 20 by omega] at this
      exact this
    have HI := Lib.hid (show Is ((rvS D).extract k 20) ((rvL D).drop k) by have := (rvS_is D).from k; rw [rvS_size] at this; exact this)
    by_cases h19 : k < 19
    · by_cases h0 : D (19 - k) = 0
      · rw [hv, h0] at hcell
        have HN := Lib.hid (strip_at (rvL D) k (by rw [rvL_len]; omega) (by rw [rvL_get D k hk, h0]; rfl))
        clear h0 hv
        go_wp2_with fail
        go_round
        case rel => exact ⟨k + 1, by omega, by go_num, by rw [← HN.out]; exact HR.out⟩
        case measure => simp [intOf]; omega
      · obtain ⟨v, hv2⟩ : ∃ v : Nat, v = 48 + D (19 - k) := ⟨_, rfl⟩
        have hv48 : ((v : Int) == 48) = false := by rw [beq_eq_false_iff_ne]; omega
        rw [hv, ← hv2] at hcell
        have HE := Lib.hid (strip_end (rvL D) k (by rw [rvL_len]; omega) (Or.inr (by
          rw [rvL_get D k hk]
          intro e
          have e2 := congrArg UInt8.toNat (Option.some.inj e)
          rw [UInt8.toNat_ofNat'] at e2
          have h10 := HS.out (19 - k)
          have : (48 : UInt8).toNat = 48 := rfl
          omega)))
        clear h0 hv hv2
        go_wp2_with fail
        go_ret
        exact ⟨⟨_, by rw [← HR.out, HE.out]; exact HI.out, rfl⟩, rfl⟩
    · obtain rfl : k = 19 := by omega
      have HE := Lib.hid (strip_end (rvL D) 19 (by rw [rvL_len]; omega) (Or.inl (by rw [rvL_len])))
      go_wp2_with fail
      go_ret
      exact ⟨⟨_, by rw [← HR.out, HE.out]; exact HI.out, rfl⟩, rfl⟩
end Go.Proofs.YtnpkcobapckhdaaGreatDoor
