/-
  What roman.Default adds, piece by piece, in plain lists of bytes. No condition.
-/
import Derived.Test.YtgdcffahhpeibaaGreatDoorDefSort
import Derived.Test.YtgdcffahhpeibaaGreatDoorRoCut
import Derived.Test.YtgdcffahhpeibaaGreatDoorShelf
namespace Go.Proofs.YtgdcffahhpeibaaGreatDoor
open Go.RowKit
namespace Ro
open UT (Bs)
/-- a rule as byte arrays -/
def toB (r : Rule) : RuleB := (ba r.1, ba r.2.1, ba r.2.2)
theorem rulesL_toB (l : List Rule) : rulesL (l.map toB) = l := by
  unfold rulesL
  rw [List.map_map]
  exact (List.map_congr_left (fun r _ => by show ruleL (toB r) = r; rfl)).trans (List.map_id l)
def outI (i : Nat) : List Rule := (defLines.take i).flatMap fun l => lineRules (pieces 32 l)
def vowJ (ps : List Bs) (j : Nat) : List Rule := vowRules (ps.getD 0 []) 0 ((ps.drop 1).take j)
theorem outI_succ (i : Nat) (l : Bs) (h : defLines[i]? = some l) : outI (i + 1) = outI i ++ lineRules (pieces 32 l) := by
  unfold outI
  have hi : i < defLines.length := by
    rcases Nat.lt_or_ge i defLines.length with h' | h'
    · exact h'
    · rw [List.getElem?_eq_none h'] at h; cases h
  rw [List.getElem?_eq_getElem hi] at h
  injection h with h
  rw [List.take_succ_eq_append_getElem hi, List.flatMap_append, h]
  simp
theorem outI_all : outI 25 = tableSeq := by
  unfold outI tableSeq
  rw [List.take_of_length_le (by rw [defLines_len]; exact Nat.le_refl _)]
theorem vow_app (w : Bs) : ∀ (i : Nat) (a b : List Bs), vowRules w i (a ++ b) = vowRules w i a ++ vowRules w (i + a.length) b
  | i, [], b => rfl
  | i, k :: a, b => by
    rw [List.cons_append, vowRules, vowRules, vow_app w (i + 1) a b, List.append_assoc, List.length_cons, show i + 1 + a.length = i + (a.length + 1) by omega]
theorem vowJ_succ (ps : List Bs) (j : Nat) (k : Bs) (h : ps[j + 1]? = some k) : vowJ ps (j + 1) = vowJ ps j ++ (if k = dash then [] else [(ps.getD 0 [] ++ vowel.getD j [], k, [])]) := by
  unfold vowJ
  have h' : (ps.drop 1)[j]? = some k := by rw [List.getElem?_drop, Nat.add_comm]; exact h
  have hj : j < (ps.drop 1).length := by
    rcases Nat.lt_or_ge j (ps.drop 1).length with h2 | h2
    · exact h2
    · rw [List.getElem?_eq_none h2] at h'; cases h'
  rw [List.getElem?_eq_getElem hj] at h'
  injection h' with h'
  rw [List.take_succ_eq_append_getElem hj, vow_app, h', List.length_take, Nat.min_eq_left (by omega), Nat.zero_add, vowRules, vowRules, List.append_nil]
  rfl
theorem vowJ_all (ps : List Bs) (h : ps.length = 6) : vowJ ps 5 = vowRules (ps.getD 0 []) 0 (ps.drop 1) := by
  unfold vowJ
  rw [List.take_of_length_le (by rw [List.length_drop]; omega)]
theorem vow_len (w : Bs) : ∀ (i : Nat) (a : List Bs), (vowRules w i a).length ≤ a.length
  | _, [] => Nat.le_refl _
  | i, k :: a => by
    rw [vowRules, List.length_append, List.length_cons]
    have := vow_len w (i + 1) a
    split <;> simp <;> omega
theorem vowJ_len (ps : List Bs) (j : Nat) : (vowJ ps j).length ≤ j := by
  unfold vowJ
  have := vow_len (ps.getD 0 []) 0 ((ps.drop 1).take j)
  rw [List.length_take] at this
  omega
theorem line_len (ps : List Bs) (h : ps.length = 6) : (lineRules ps).length ≤ 8 := by
  unfold lineRules
  rw [List.length_append]
  have := vow_len (ps.getD 0 []) 0 (ps.drop 1)
  rw [List.length_drop] at this
  split
  · show _ + 3 ≤ _; omega
  · show _ + 0 ≤ _; omega
theorem outI_len (i : Nat) : (outI i).length ≤ 8 * i := by
  unfold outI
  rw [List.length_flatMap]
  have h : ∀ l ∈ (defLines.take i).map (fun l => (lineRules (pieces 32 l)).length), l ≤ 8 := fun n hn => by
    obtain ⟨l, hl, rfl⟩ := List.mem_map.1 hn
    exact line_len _ (def_lines6 l (List.mem_of_mem_take hl)).1
  have h2 : ∀ (L : List Nat), (∀ n ∈ L, n ≤ 8) → L.sum ≤ 8 * L.length := by
    intro L
    induction L with
    | nil => intro _; simp
    | cons a L ih =>
      intro hL
      have := ih (fun n hn => hL n (List.mem_cons_of_mem _ hn))
      have := hL a (List.mem_cons_self ..)
      rw [List.sum_cons, List.length_cons]
      omega
  have := h2 _ h
  rw [List.length_map, List.length_take] at this
  omega
/-- of each line: it is asked whether its letter is one of twelve -/
theorem cons_is : ∀ l ∈ defLines, (decide (((pieces 32 l).getD 0 []).length = 1) && Lib.contains consB ((pieces 32 l).getD 0 [])) = isCons ((pieces 32 l).getD 0 []) := by decide +kernel
theorem pieces_short : ∀ l ∈ defLines, ∀ p ∈ pieces 32 l, p.length ≤ 40 := by decide +kernel
theorem rows_len : (pieces 10 rowsB).length = 26 ∧ rowsB.length ≤ 2000 := by decide +kernel
end Ro
theorem ba_data (x : ByteArray) : ba x.data.toList = x := ByteArray.ext (by simp [ba])
/-- the pieces of a string, as they lie -/
theorem split_list (c : UInt8) (l : List UInt8) : Lib.splitB ⟨#[c]⟩ 0 (Lib.countB (ba l) ⟨#[c]⟩) (ba l) = (Ro.pieces c l).map ba ∧ Lib.countB (ba l) ⟨#[c]⟩ + 1 = (Ro.pieces c l).length := by
  obtain ⟨h1, h2⟩ := Ro.splitB_pieces c (ba l)
  have hd : (ba l).data.toList = l := (is_ba l).data
  rw [hd] at h1
  refine ⟨?_, by rw [← h1, List.length_map, h2]⟩
  rw [← h1, List.map_map]
  exact ((List.map_congr_left (fun x _ => ba_data x)).trans (List.map_id _)).symm
theorem split_any (l : List UInt8) (c : UInt8) (s : ByteArray) (hs : s = ba l) (sep : ByteArray) (hsep : sep = ⟨#[c]⟩) (hl : l.length ≤ 2000) (n : Nat) (hn : (Ro.pieces c l).length = n) (w : World) (ht : Tabs w) :
    Calls Tryz.prog 44 #[.string s, .string sep] w fun e w' => e = .returned (.slice (some ⟨w.heap.size, 0, none⟩) n n) ∧ w' = w.alloc (.cells ((Ro.pieces c l).map fun p => Value.string (ba p)).toArray 9) := by
  subst hs hsep
  obtain ⟨m, hm⟩ := ht.mx
  obtain ⟨h1, h2⟩ := split_list c l
  refine (Tryz.strings_Split (ba l) ⟨#[c]⟩ m w (by rw [ba_size]; omega) hm (by show 1 ≤ 1; omega)).mono ?_
  rintro e w' ⟨rfl, rfl⟩
  rw [h1, h2, hn, List.map_map]
  exact ⟨rfl, rfl⟩
end Go.Proofs.YtgdcffahhpeibaaGreatDoor
