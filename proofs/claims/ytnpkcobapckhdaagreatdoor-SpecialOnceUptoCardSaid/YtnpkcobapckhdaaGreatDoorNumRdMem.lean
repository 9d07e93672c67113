/-
  (numeral.style).read by its contract. No condition but the string's own bound and the tables.
-/
import Derived.Test.YtnpkcobapckhdaaGreatDoorNumRead
import Derived.Outline
import Derived.BigCall
namespace Go.Proofs.YtnpkcobapckhdaaGreatDoor
open Go.RowKit

theorem idx_ix (t : List UInt8) (x : ByteArray) (hx : Is x t) : ∀ (L : List (List UInt8)) (i : Nat), Lib.idxFromS (L.map fun b => ⟨b.toArray⟩) x i = Num.ixF L t i
  | [], _ => rfl
  | z :: L, i => by
    rw [List.map_cons, Lib.idxFromS, Num.ixF, idx_ix t x hx L (i + 1)]
    by_cases h : z = t
    · rw [if_pos h, if_pos ((Is.mk z).eq (by rw [h]; exact hx))]
    · rw [if_neg h, if_neg (fun e => h (by have := (Is.mk z).data; rw [e, hx.data] at this; exact this.symm))]
theorem index_any (b off n c : Nat) (L : List (List UInt8)) (x : ByteArray) (t : List UInt8) (w : World) (hx : Is x t) (hn : L.length = n) (h9 : n ≤ 9223372036854775807)
    (hc : ∀ j, j < n → w.cell? ⟨b, off + j, none⟩ = some (.string ⟨(L.getD j []).toArray⟩)) :
    Calls Tryz.prog 112 #[.slice (some ⟨b, off, none⟩) n c, .string x] w fun e w' => e = .returned (.int .i64 (Num.ix L t)) ∧ w' = w := by
  subst hn
  refine (Tryz.slices_Index_string b off L.length c (L.map fun b => ⟨b.toArray⟩) x w (by simp) h9 (fun j hj => ?_)).mono ?_
  · rw [List.length_map] at hj
    rw [hc j hj, List.getD_eq_getElem?_getD, List.getD_eq_getElem?_getD, List.getElem?_map]
    rw [List.getElem?_eq_getElem hj]
    rfl
  · rintro e w' ⟨rfl, rfl⟩
    refine ⟨?_, rfl⟩
    rw [List.take_of_length_le (by simp)]
    show _ = Ending.returned (.int .i64 (Num.ixF L t 0))
    rw [← idx_ix t x hx L 0]
    rfl
/-- everything is a digit -/
structure Small (st : Num.RS) : Prop where
  d : ∀ q, st.d q < 10
  now : ∀ j, st.now j < 10
  lo : -1 ≤ st.dig
  hi : st.dig < 10
theorem ixF_bd (t : List UInt8) : ∀ (L : List (List UInt8)) (i : Nat), -1 ≤ Num.ixF L t i ∧ Num.ixF L t i < i + L.length
  | [], i => by simp [Num.ixF]; omega
  | z :: L, i => by
    have := ixF_bd t L (i + 1)
    unfold Num.ixF
    rw [List.length_cons]
    split <;> omega
theorem ix_bd (L : List (List UInt8)) (t : List UInt8) : -1 ≤ Num.ix L t ∧ Num.ix L t < L.length := by
  have := ixF_bd t L 0
  unfold Num.ix; omega
theorem pend_small {now : Nat → Nat} {dig : Int} (h1 : ∀ j, now j < 10) (h2 : dig < 10) (j : Nat) : Num.pend now dig j < 10 := by
  unfold Num.pend
  split
  · unfold Num.upd; split
    · omega
    · exact h1 j
  · exact h1 j
theorem put4_small {d now : Nat → Nat} (h1 : ∀ q, d q < 10) (h2 : ∀ j, now j < 10) (g q : Nat) : Num.put4 d now g q < 10 := by
  unfold Num.put4
  split
  · exact h2 _
  · exact h1 _
theorem upd_small {d : Nat → Nat} (h1 : ∀ q, d q < 10) (i v : Nat) (hv : v < 10) (q : Nat) : Num.upd d i v q < 10 := by
  unfold Num.upd
  split
  · exact hv
  · exact h1 q
theorem small_0 : Small Num.rs0 := ⟨fun _ => by show 0 < 10; omega, fun _ => by show 0 < 10; omega, by show (-1 : Int) ≤ -1; omega, by show (-1 : Int) < 10; omega⟩
theorem small_step (f : Bool) (st : Num.RS) (t : List UInt8) (h : Small st) : Small (Num.rdStep f st t) := by
  have e := ix_bd (Num.dg f) t
  have e2 : (Num.dg f).length = 10 := by cases f <;> rfl
  unfold Num.rdStep
  split
  · exact ⟨put4_small h.d (pend_small h.now h.hi) _, fun _ => by show 0 < 10; omega, by show (-1 : Int) ≤ -1; omega, by show (-1 : Int) < 10; omega⟩
  · split
    · exact ⟨h.d, upd_small h.now _ _ (by have := h.hi; split <;> omega), by show (-1 : Int) ≤ -1; omega, by show (-1 : Int) < 10; omega⟩
    · exact ⟨h.d, h.now, e.1, by show Num.ix _ _ < 10; omega⟩

/-- what is left of the string -/
def Left (f : Bool) (l : List UInt8) (st : Num.RS) (fuel pos : Nat) : Prop := (Ru.toksF fuel (l.drop pos)).foldl (Num.rdStep f) st = (Ru.toks l).foldl (Num.rdStep f) Num.rs0
set_option maxRecDepth 100000 in
theorem left_step {f : Bool} {l : List UInt8} {s : ByteArray} {st : Num.RS} {fuel pos : Nat} (hs : Is s l) (h : Left f l st fuel pos) (hp : pos < s.size) (hf : s.size ≤ pos + fuel) :
    Left f l (Num.rdStep f st (Utf8.encode ((Utf8.decode s pos).1 : Int)).data.toList) (fuel - 1) (pos + (Utf8.decode s pos).2) := by
  unfold Left at *
  have hz := hs.size
  obtain ⟨n, rfl⟩ : ∃ n, fuel = n + 1 := ⟨fuel - 1, by omega⟩
  have hne : l.drop pos ≠ [] := by
    intro e
    have := congrArg List.length e
    rw [List.length_drop] at this
    simp at this
    omega
  have hd : Lib.decodeL (l.drop pos) = Utf8.decode s pos := by rw [← hs.data]; exact Lib.decodeL_drop s pos
  rw [Ru.toksF, if_neg hne, List.foldl_cons, hd, List.drop_drop] at h
  rw [Nat.add_sub_cancel, ← h]
  unfold Ru.enc
  rfl
theorem left_end {f : Bool} {l : List UInt8} {s : ByteArray} {st : Num.RS} {fuel pos : Nat} (hs : Is s l) (h : Left f l st fuel pos) (hp : ¬ pos < s.size) : st = (Ru.toks l).foldl (Num.rdStep f) Num.rs0 := by
  unfold Left at h
  have hz := hs.size
  rw [List.drop_eq_nil_of_le (by omega), Ru.toksF_nil] at h
  exact h


theorem zero20 : (#[.int .u8 0, .int .u8 0, .int .u8 0, .int .u8 0, .int .u8 0, .int .u8 0, .int .u8 0, .int .u8 0, .int .u8 0, .int .u8 0, .int .u8 0, .int .u8 0, .int .u8 0, .int .u8 0, .int .u8 0, .int .u8 0, .int .u8 0, .int .u8 0, .int .u8 0, .int .u8 0] : Array Value) = dC 20 (fun _ => 0) := rfl
theorem zero4 : (#[.int .u8 0, .int .u8 0, .int .u8 0, .int .u8 0] : Array Value) = dC 4 (fun _ => 0) := rfl
theorem dC4 (n : Nat → Nat) : dC 4 n = #[.int .u8 (n 0), .int .u8 (n 1), .int .u8 (n 2), .int .u8 (n 3)] := rfl

/-- the memory of read's loop: the two rows, the iterator; w0 is the world behind the box -/
structure Mem (b : Nat) (s : ByteArray) (st : Num.RS) (pos : Nat) (w0 wr : World) : Prop where
  d : wr.heap[b + 1]? = some (.cells (dC 20 st.d) 144 (0, 0))
  now : wr.heap[b + 1 + 1]? = some (.cells (dC 4 st.now) 145 (0, 0))
  it : wr.heap[b + 1 + 1 + 1]? = some (.stringIter s pos)
  frame : Below (b + 1) w0 wr


theorem grp_cells (w : World) (h : Row 2 groupsC w) : ∀ j, j < 4 → w.cell? ⟨2, 1 + j, none⟩ = some (.string ⟨(Num.grp.tail.getD j []).toArray⟩) := by
  intro j hj
  rw [h.cell]
  have h1 : j = 0 ∨ j = 1 ∨ j = 2 ∨ j = 3 := by omega
  rcases h1 with rfl | rfl | rfl | rfl <;> rfl
theorem un_cells (f : Bool) (w : World) (b : Nat) (h : Row b (styleC f) w) : ∀ j, j < 3 → w.cell? ⟨b, 11 + j, none⟩ = some (.string ⟨((Num.un f).tail.getD j []).toArray⟩) := by
  intro j hj
  rw [h.cell]
  have h1 : j = 0 ∨ j = 1 ∨ j = 2 := by omega
  cases f <;> rcases h1 with rfl | rfl | rfl <;> rfl
theorem dg_cells (f : Bool) (w : World) (b : Nat) (h : Row b (styleC f) w) : ∀ j, j < 10 → w.cell? ⟨b, 0 + j, none⟩ = some (.string ⟨((Num.dg f).getD j []).toArray⟩) := by
  intro j hj
  rw [h.cell]
  have h1 : j = 0 ∨ j = 1 ∨ j = 2 ∨ j = 3 ∨ j = 4 ∨ j = 5 ∨ j = 6 ∨ j = 7 ∨ j = 8 ∨ j = 9 := by omega
  cases f <;> rcases h1 with rfl | rfl | rfl | rfl | rfl | rfl | rfl | rfl | rfl | rfl <;> rfl
end Go.Proofs.YtnpkcobapckhdaaGreatDoor
