/-
  numeral.copy4 by its contract; rows of digits in memory. No condition beyond the ranges named.
-/
import Derived.Test.YtnpkcobapckhdaaGreatDoorNumPos
import Derived.Test.YtnpkcobapckhdaaGreatDoorParseMath
namespace Go.Proofs.YtnpkcobapckhdaaGreatDoor
open Go.RowKit

/-- n digits as cells -/
def dC (n : Nat) (d : Nat → Nat) : Array Value := ((List.range n).map fun q => Value.int .u8 (d q)).toArray
theorem dC_size (n : Nat) (d : Nat → Nat) : (dC n d).size = n := by simp [dC]
theorem dC_get (n : Nat) (d : Nat → Nat) (i : Nat) (h : i < n) : (dC n d)[i]? = some (.int .u8 (d i)) := by
  unfold dC
  rw [List.getElem?_toArray, List.getElem?_map, List.getElem?_range h]
  rfl
theorem dC_set (n : Nat) (d : Nat → Nat) (i v : Nat) : (dC n d).setIfInBounds i (.int .u8 v) = dC n (Num.upd d i v) := by
  apply Array.ext_getElem?
  intro j
  rw [Array.getElem?_setIfInBounds]
  by_cases hj : j < n
  · rw [dC_get _ _ _ hj, dC_get _ _ _ hj]
    by_cases h : i = j
    · subst h; rw [if_pos rfl, if_pos (by rw [dC_size]; exact hj), Num.upd_same]
    · rw [if_neg h, Num.upd_other _ _ _ _ (fun e => h e.symm)]
  · have e1 : (dC n (Num.upd d i v))[j]? = none := Array.getElem?_eq_none (by rw [dC_size]; omega)
    have e2 : (dC n d)[j]? = none := Array.getElem?_eq_none (by rw [dC_size]; omega)
    rw [e1, e2]
    split
    · rw [if_neg (by rw [dC_size]; omega)]
    · rfl
theorem row_set {w : World} {b : Nat} {cs : Array Value} {t : TypeId} {fr : Nat × Nat} (h : w.heap[b]? = some (.cells cs t fr)) (i : Nat) (v : Value) : (w.setCell ⟨b, i, none⟩ v).heap[b]? = some (.cells (cs.setIfInBounds i v) t fr) := by
  rw [setCell_eq_setRow w b i cs t fr v h]
  exact setRow_heap w b cs _ t fr h
theorem grown_set {w w1 : World} {b : Nat} (h : w.grownBy w1 (some b)) (i : Nat) (v : Value) : w.grownBy (w1.setCell ⟨b, i, none⟩ v) (some b) :=
  ⟨h.os, h.tape, h.output, by have := h.size; simp [World.setCell]; omega, fun k hk hne => by
    rw [Below.heap_setCell _ _ _ _ (fun e => hne (by rw [e]))]; exact h.block k hk hne⟩
theorem grown_refl (w : World) (r : Option Nat) : w.grownBy w r := ⟨rfl, rfl, rfl, Nat.le_refl _, fun _ _ _ => rfl⟩

theorem ix4_0 (a b c d : Value) (w : World) : (Instr.index 145 (.agg #[a, b, c, d]) (.int .i64 0)).run Tryz.prog w = .ok a w := by kernel_rfl
theorem ix4_1 (a b c d : Value) (w : World) : (Instr.index 145 (.agg #[a, b, c, d]) (.int .i64 1)).run Tryz.prog w = .ok b w := by kernel_rfl
theorem ix4_2 (a b c d : Value) (w : World) : (Instr.index 145 (.agg #[a, b, c, d]) (.int .i64 2)).run Tryz.prog w = .ok c w := by kernel_rfl
theorem ix4_3 (a b c d : Value) (w : World) : (Instr.index 145 (.agg #[a, b, c, d]) (.int .i64 3)).run Tryz.prog w = .ok d w := by kernel_rfl
theorem ix4 (n : Nat → Nat) (k : Nat) (hk : k < 4) (w : World) : (Instr.index 145 (.agg #[.int .u8 (n 0), .int .u8 (n 1), .int .u8 (n 2), .int .u8 (n 3)]) (.int .i64 (k : Int))).run Tryz.prog w = .ok (.int .u8 (n k)) w := by
  have h : k = 0 ∨ k = 1 ∨ k = 2 ∨ k = 3 := by omega
  rcases h with rfl | rfl | rfl | rfl
  · exact ix4_0 _ _ _ _ w
  · exact ix4_1 _ _ _ _ w
  · exact ix4_2 _ _ _ _ w
  · exact ix4_3 _ _ _ _ w
/-- the first k of four are copied -/
def putK (d now : Nat → Nat) (g k : Nat) : Nat → Nat := fun q => if q / 4 = g ∧ q % 4 < k then now (q % 4) else d q
theorem putK_0 (d now : Nat → Nat) (g : Nat) : putK d now g 0 = d := by funext q; unfold putK; rw [if_neg (by omega)]
theorem putK_4 (d now : Nat → Nat) (g : Nat) : putK d now g 4 = Num.put4 d now g := by
  funext q; unfold putK Num.put4
  by_cases h : q / 4 = g
  · rw [if_pos h, if_pos ⟨h, by omega⟩]
  · rw [if_neg h, if_neg (fun x => h x.1)]
theorem putK_s (d now : Nat → Nat) (g k : Nat) (hk : k < 4) : Num.upd (putK d now g k) (4 * g + k) (now k) = putK d now g (k + 1) := by
  funext q
  unfold Num.upd putK
  by_cases h : q = 4 * g + k
  · rw [if_pos h, if_pos (by omega), show q % 4 = k by omega]
  · rw [if_neg h]
    by_cases h2 : q / 4 = g ∧ q % 4 < k
    · rw [if_pos h2, if_pos (by omega)]
    · rw [if_neg h2, if_neg (by omega)]

set_option maxHeartbeats 1000000 in
theorem copy4_any (bd : Nat) (d now : Nat → Nat) (g : Nat) (w : World) (hg : g < 5) (hd : w.heap[bd]? = some (.cells (dC 20 d) 144 (0, 0))) :
    Calls Tryz.prog 157 #[.pointer (some ⟨bd, 0, none⟩), .agg #[.int .u8 (now 0), .int .u8 (now 1), .int .u8 (now 2), .int .u8 (now 3)], .int .i64 g] w fun e w' => e = .returned (.tuple #[]) ∧ w'.heap[bd]? = some (.cells (dC 20 (Num.put4 d now g)) 144 (0, 0)) ∧ w.grownBy w' (some bd) := by
  have hlt := heap_lt hd
  have HD := Lib.hid hd
  clear hd
  have X := ix4 now
  have HX := Lib.hid X
  clear X
  have hcs : (w.alloc (.cells #[.int .u8 (now 0), .int .u8 (now 1), .int .u8 (now 2), .int .u8 (now 3)] 145)).heap[w.heap.size]? = some (.cells #[.int .u8 (now 0), .int .u8 (now 1), .int .u8 (now 2), .int .u8 (now 3)] 145 (0, 0)) := (MapKept.heap_alloc w _).1
  have HC := Lib.hid hcs
  clear hcs
  go_enter Tryz.func157, Tryz.ntmps157
  go_wp2_with (refine wpList_load_row rfl 145 _ rfl w.heap.size rfl 145 _ _ _ HC.out Tryz.underlying145 rfl (by kernel_rfl) ?_)
  go_loopw [9] (fun i wr => ∃ k : Nat, k ≤ 4 ∧ i = .int .i64 k ∧ wr.heap[bd]? = some (.cells (dC 20 (putK d now g k)) 144 (0, 0)) ∧ w.grownBy wr (some bd)) (fun i _ => 4 - (intOf i).toNat)
  case atStart => exact ⟨0, by omega, rfl, by rw [putK_0, Below.heap_alloc _ _ _ hlt]; exact HD.out, World.grownBy_alloc _ _ _⟩
  case round =>
    obtain ⟨k, hk, rfl, hr, hgr⟩ := hrel
    have HR := Lib.hid hr
    have HG := Lib.hid hgr
    by_cases h4 : k < 4
    · have hx := HX.out k h4
      have hc : wr.cell? ⟨bd, 4 * g + k, none⟩ = some (.int .u8 (putK d now g k (4 * g + k))) := by rw [Lib.cell_of_heap hr]; exact dC_get 20 _ _ (by omega)
      have hf : wr.frozen? ⟨bd, 4 * g + k, none⟩ = false := Lib.frozen_of_heap hr _
      clear hr hgr
      go_wp2_with fail
      go_roundw
      case rel => exact ⟨k + 1, by omega, by go_num, by rw [row_set HR.out, dC_set, putK_s d now g k h4], grown_set HG.out _ _⟩
      case measure => simp [intOf]; omega
    · obtain rfl : k = 4 := by omega
      clear hr hgr
      go_wp2_with fail
      go_end0
      exact ⟨rfl, by rw [← putK_4]; exact HR.out, HG.out⟩
end Go.Proofs.YtnpkcobapckhdaaGreatDoor
