/-
  The reference's table and the order in which its rules are put, as plain lists of bytes. No condition.
-/
import Derived.Test.YtgdcffahhpeibaaDoorRoPut
import Derived.Test.YtgdcffahhpeibaaDoorRuleG
import Derived.Test.YtgdcffahhpeibaaDoorAuRef
namespace Go.Proofs.YtgdcffahhpeibaaDoor
open Go.RowKit
namespace Ro
open UT (Bs)
abbrev Row := Bs × Bs × Bs × Bs × Bs × Bs
def kan (r : Row) : Nat → Bs
  | 0 => r.2.1
  | 1 => r.2.2.1
  | 2 => r.2.2.2.1
  | 3 => r.2.2.2.2.1
  | _ => r.2.2.2.2.2
def tab : List Row := [([], [227, 129, 130], [227, 129, 132], [227, 129, 134], [227, 129, 136], [227, 129, 138]), ([107], [227, 129, 139], [227, 129, 141], [227, 129, 143], [227, 129, 145], [227, 129, 147]), ([115], [227, 129, 149], [227, 129, 151], [227, 129, 153], [227, 129, 155], [227, 129, 157]), ([115, 104], [227, 129, 151, 227, 130, 131], [227, 129, 151], [227, 129, 151, 227, 130, 133], [227, 129, 151, 227, 129, 135], [227, 129, 151, 227, 130, 135]), ([116], [227, 129, 159], [227, 129, 161], [227, 129, 164], [227, 129, 166], [227, 129, 168]), ([99, 104], [227, 129, 161, 227, 130, 131], [227, 129, 161], [227, 129, 161, 227, 130, 133], [227, 129, 161, 227, 129, 135], [227, 129, 161, 227, 130, 135]), ([116, 115], [], [], [227, 129, 164], [], []), ([110], [227, 129, 170], [227, 129, 171], [227, 129, 172], [227, 129, 173], [227, 129, 174]), ([104], [227, 129, 175], [227, 129, 178], [227, 129, 181], [227, 129, 184], [227, 129, 187]), ([102], [227, 129, 181, 227, 129, 129], [227, 129, 181, 227, 129, 131], [227, 129, 181], [227, 129, 181, 227, 129, 135], [227, 129, 181, 227, 129, 137]), ([109], [227, 129, 190], [227, 129, 191], [227, 130, 128], [227, 130, 129], [227, 130, 130]), ([121], [227, 130, 132], [], [227, 130, 134], [], [227, 130, 136]), ([114], [227, 130, 137], [227, 130, 138], [227, 130, 139], [227, 130, 140], [227, 130, 141]), ([119], [227, 130, 143], [], [], [], [227, 130, 146]), ([103], [227, 129, 140], [227, 129, 142], [227, 129, 144], [227, 129, 146], [227, 129, 148]), ([122], [227, 129, 150], [227, 129, 152], [227, 129, 154], [227, 129, 156], [227, 129, 158]), ([106], [227, 129, 152, 227, 130, 131], [227, 129, 152], [227, 129, 152, 227, 130, 133], [227, 129, 152, 227, 129, 135], [227, 129, 152, 227, 130, 135]), ([100], [227, 129, 160], [227, 129, 162], [227, 129, 165], [227, 129, 167], [227, 129, 169]), ([98], [227, 129, 176], [227, 129, 179], [227, 129, 182], [227, 129, 185], [227, 129, 188]), ([112], [227, 129, 177], [227, 129, 180], [227, 129, 183], [227, 129, 186], [227, 129, 189]), ([118], [], [], [227, 130, 148], [], []), ([120], [227, 129, 129], [227, 129, 131], [227, 129, 133], [227, 129, 135], [227, 129, 137]), ([120, 121], [227, 130, 131], [], [227, 130, 133], [], [227, 130, 135]), ([120, 116], [], [], [227, 129, 163], [], []), ([120, 116, 115], [], [], [227, 129, 163], [], [])]
def rowSeq (r : Row) (k : Nat) : List Rule := (List.range k).flatMap fun j => if kan r j = [] then [] else [(r.1 ++ vowel.getD j [], kan r j, [])]
def yPart (r : Row) : List Rule := if isCons r.1 = true then yRules r.1 (kan r 1) else []
def rowAll (r : Row) : List Rule := rowSeq r 5 ++ yPart r
def rowsSeq (i : Nat) : List Rule := (tab.take i).flatMap rowAll
def acc (L : List Rule) : List Rule := L.foldl putL []
theorem acc_snoc (L : List Rule) (r : Rule) : acc (L ++ [r]) = putL (acc L) r := by unfold acc; rw [List.foldl_append]; rfl
theorem rowSeq_succ (r : Row) (k : Nat) : rowSeq r (k + 1) = rowSeq r k ++ (if kan r k = [] then [] else [(r.1 ++ vowel.getD k [], kan r k, [])]) := by
  unfold rowSeq
  rw [List.range_succ, List.flatMap_append]
  simp
theorem tab_len : tab.length = 25 := rfl
theorem rowsSeq_succ (i : Nat) (r : Row) (h : tab[i]? = some r) : rowsSeq (i + 1) = rowsSeq i ++ rowAll r := by
  unfold rowsSeq
  have hi : i < tab.length := by
    rcases Nat.lt_or_ge i tab.length with h' | h'
    · exact h'
    · rw [List.getElem?_eq_none h'] at h; cases h
  rw [List.getElem?_eq_getElem hi] at h
  injection h with h
  rw [List.take_succ_eq_append_getElem hi, List.flatMap_append, h]
  simp
theorem rowsSeq_all : rowsSeq 25 = tableSeq := by decide +kernel
theorem acc_all : acc (tableSeq ++ (tailSeq ++ doubleSeq)) = defL := def_puts
theorem putL_len (r : Rule) : ∀ l : List Rule, (putL l r).length = l.length + 1
  | [] => rfl
  | x :: l => by
    rw [putL]
    split
    · rfl
    · rw [List.length_cons, putL_len r l, List.length_cons]
theorem foldl_len : ∀ (L A : List Rule), (L.foldl putL A).length = A.length + L.length
  | [], _ => rfl
  | r :: L, A => by rw [List.foldl_cons, foldl_len L, putL_len, List.length_cons]; omega
theorem acc_len (L : List Rule) : (acc L).length = L.length := by unfold acc; rw [foldl_len]; simp
theorem rowSeq_len (r : Row) : ∀ k, (rowSeq r k).length ≤ k
  | 0 => Nat.le_refl _
  | k + 1 => by
    have := rowSeq_len r k
    rw [rowSeq_succ, List.length_append]
    split <;> simp <;> omega
theorem rowAll_len (r : Row) : (rowAll r).length ≤ 8 := by
  unfold rowAll yPart
  have := rowSeq_len r 5
  rw [List.length_append]
  split
  · show _ + 3 ≤ _; omega
  · show _ + 0 ≤ _; omega
theorem rowsSeq_len (i : Nat) : (rowsSeq i).length ≤ 8 * i := by
  unfold rowsSeq
  rw [List.length_flatMap]
  have h : ∀ n ∈ (tab.take i).map (fun r => (rowAll r).length), n ≤ 8 := fun n hn => by
    obtain ⟨r, _, rfl⟩ := List.mem_map.1 hn
    exact rowAll_len r
  have h2 : ∀ (L : List Nat), (∀ n ∈ L, n ≤ 8) → L.sum ≤ 8 * L.length := by
    intro L
    induction L with
    | nil => intro _; simp
    | cons a L ih =>
      intro hL
      have := ih (fun n hn => hL n (List.mem_cons_of_mem _ hn))
      have := hL a (List.mem_cons_self ..)
      rw [List.sum_cons, List.length_cons]
      omega
  have := h2 _ h
  rw [List.length_map, List.length_take] at this
  omega
theorem tab_short : ∀ r ∈ tab, r.1.length ≤ 20 ∧ ∀ j, j < 5 → (kan r j).length ≤ 20 := by decide +kernel
theorem cons_cases (w : Bs) (h : isCons w = true) : w = [107] ∨ w = [115] ∨ w = [116] ∨ w = [110] ∨ w = [104] ∨ w = [109] ∨ w = [114] ∨ w = [103] ∨ w = [122] ∨ w = [100] ∨ w = [98] ∨ w = [112] := by
  match w, h with
  | [c], h =>
    have h' : c ∈ consB := List.contains_iff_mem.1 h
    unfold consB at h'
    simp only [List.mem_cons, List.not_mem_nil, or_false] at h'
    rcases h' with rfl | rfl | rfl | rfl | rfl | rfl | rfl | rfl | rfl | rfl | rfl | rfl <;> simp
theorem cons_no (w : Bs) (h : isCons w = false) (c : UInt8) (hc : consB.contains c = true) : w ≠ [c] := by
  rintro rfl
  have : isCons [c] = consB.contains c := rfl
  rw [this, hc] at h
  cases h
end Ro
/-- a row of the table, as it lies -/
def rowE : Enc Ro.Row where
  k := 6
  enc := fun r => [.string (ba r.1), .string (ba r.2.1), .string (ba r.2.2.1), .string (ba r.2.2.2.1), .string (ba r.2.2.2.2.1), .string (ba r.2.2.2.2.2)]
  pos := by decide
  len := fun _ => rfl
  one := fun c u hu => by
    simp only [List.mem_cons, List.not_mem_nil, or_false] at hu
    rcases hu with rfl | rfl | rfl | rfl | rfl | rfl <;> rfl
theorem row_kan (r : Ro.Row) (k : Nat) (hk : k < 5) : (rowE.enc r)[1 + k]? = some (.string (ba (Ro.kan r k))) := by
  rcases (show k = 0 ∨ k = 1 ∨ k = 2 ∨ k = 3 ∨ k = 4 by omega) with rfl | rfl | rfl | rfl | rfl <;> rfl
def tabC : List Value := rowE.cells Ro.tab
theorem tabC_at (i : Nat) (r : Ro.Row) (h : Ro.tab[i]? = some r) : tabC[i * 6]? = some (.string (ba r.1)) ∧ ∀ k, k < 5 → tabC[i * 6 + 1 + k]? = some (.string (ba (Ro.kan r k))) := by
  refine ⟨?_, fun k hk => ?_⟩
  · have := rowE.cells_at Ro.tab i r 0 h (by decide)
    exact this
  · have := rowE.cells_at Ro.tab i r (1 + k) h (by show 1 + k < 6; omega)
    rw [row_kan r k hk] at this
    show (rowE.cells Ro.tab)[i * 6 + 1 + k]? = _
    rw [Nat.add_assoc]
    exact this
end Go.Proofs.YtgdcffahhpeibaaDoor
