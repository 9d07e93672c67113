/-
  What RomanKnown asks, as plain lists of bytes: the refused texts, the list of 500 rules, the long texts. No condition.
-/
import Derived.Test.YtgdcffahhpeibaaDoorRoMath
namespace Go.Proofs.YtgdcffahhpeibaaDoor
namespace Ro
open UT (Bs)
def badL : List Bs := [[107, 97], [107, 97, 9, 227, 129, 139, 9], [107, 97, 32], [75, 65, 9, 227, 129, 139], [107, 121, 97, 97, 97, 9, 227, 129, 139], [107, 97, 9, 227, 130, 171], [107, 9], [107, 9, 9, 107], [107, 97, 9, 227, 129, 139, 9, 107, 9, 107], [9, 227, 129, 139], [107, 97, 9, 227, 129, 139, 227, 129, 139, 227, 129, 139, 227, 129, 139, 227, 129, 139], [107, 97, 9, 255], [107, 97, 9, 227, 129, 139, 13]]
theorem bad_parse : ∀ b ∈ badL, parse b = ([], 1, 50) := by decide +kernel
theorem bad_short : ∀ b ∈ badL, b.length ≤ 100 := by decide +kernel
theorem ex1_parse : parse [97, 9, 227, 129, 130, 10, 10, 97, 9, 227, 129, 132] = ([], 3, 50) := by decide +kernel
theorem ex2_parse : parse [107, 107, 9, 9, 107, 10, 35, 32, 255, 10, 10, 35] = ([([107, 107], [], [107])], 0, 0) := by decide +kernel
theorem ex3_parse : parse [] = ([], 0, 0) := by decide +kernel
def numB (i : Nat) : Bs := [UInt8.ofNat (97 + i / 26), UInt8.ofNat (97 + i % 26)]
def kr (i : Nat) : Rule := (numB i, [227, 130, 147], [])
def kL (n : Nat) : List Rule := (List.range n).map kr
theorem kL_succ (n : Nat) : kL (n + 1) = kL n ++ [kr n] := by unfold kL; rw [List.range_succ, List.map_append]; rfl
theorem kL_len (n : Nat) : (kL n).length = n := by unfold kL; rw [List.length_map, List.length_range]
theorem text_snoc (l : List Rule) (r : Rule) : text (l ++ [r]) = text l ++ (ruleLine r ++ [10]) := by unfold text; rw [List.flatMap_append]; simp
theorem k_line (i : Nat) : ruleLine (kr i) ++ [10] = numB i ++ [9, 227, 130, 147, 10] := by unfold ruleLine kr; simp
theorem kText_succ (n : Nat) : text (kL (n + 1)) = text (kL n) ++ (numB n ++ [9, 227, 130, 147, 10]) := by rw [kL_succ, text_snoc, k_line]
theorem kText_len : ∀ n, (text (kL n)).length = 7 * n
  | 0 => rfl
  | n + 1 => by rw [kText_succ, List.length_append, kText_len n]; show 7 * n + 7 = _; omega
theorem k_check : check (kL 500) = 0 := by decide +kernel
theorem k_parse : parse (text (kL 500)) = (kL 500, 0, 0) := parse_text _ k_check
theorem text_pieces_app : ∀ l : List Rule, (∀ r ∈ l, allowed r = true) → ∀ x : Bs, (10 : UInt8) ∉ x → pieces 10 (text l ++ x) = l.map ruleLine ++ [x]
  | [], _, x, hx => pieces_none 10 x hx
  | r :: l, h, x, hx => by
    have ih := text_pieces_app l (fun a ha => h a (List.mem_cons_of_mem _ ha)) x hx
    have e : text (r :: l) ++ x = ruleLine r ++ 10 :: (text l ++ x) := by
      show ((ruleLine r ++ [10]) ++ text l) ++ x = _
      simp
    rw [e, pieces_app 10 _ _ (ruleLine_free (h r (List.mem_cons_self ..))), ih]
    rfl
theorem k_go : parseGo ((kL 500).map ruleLine) 0 [] = (kL 500, 0, 0) := by
  have hg := ((check_zero _).1 k_check).2
  have h := parseGo_lines (kL 500) 0 [] (by simpa using hg) (by rw [List.nil_append, kL_len]; exact Nat.le_refl _)
  rw [parseGo_app, List.nil_append] at h
  by_cases hz : (parseGo ((kL 500).map ruleLine) 0 []).2.2 = 0
  · rw [if_pos hz] at h
    rw [parseGo_cons, if_pos (by rfl)] at h
    rcases parseGo_inv ((kL 500).map ruleLine) 0 [] Fine.nil with ⟨m, h1, _⟩ | ⟨n, _, _, h3⟩
    · rw [h1] at h ⊢
      have h' : ([] ++ m, 0, 0) = (kL 500, 0, 0) := h
      exact h'
    · rw [h3] at hz; cases hz
  · rw [if_neg hz] at h
    rw [h] at hz
    exact absurd rfl hz
theorem k_full : parse (text (kL 500) ++ [122, 122, 9, 227, 130, 147]) = ([], 501, 50) := by
  have hg := (good_iff _).1 ((check_zero _).1 k_check).2
  unfold parse
  rw [if_neg (by rw [List.length_append, kText_len]; simp), text_pieces_app _ hg.1 _ (by decide), parseGo_app, k_go, if_pos rfl]
  dsimp only
  rw [parseGo_cons, if_neg (by decide)]
  have hn : lineStep [122, 122, 9, 227, 130, 147] (kL 500) = none := by
    cases hs : lineStep [122, 122, 9, 227, 130, 147] (kL 500) with
    | none => rfl
    | some o =>
      obtain ⟨r, ho, _, _, _, hlt⟩ := lineStep_some hs
      rw [kL_len] at hlt
      omega
  rw [hn]
  show ([], 0 + ((kL 500).map ruleLine).length + 1, 50) = _
  rw [List.length_map, kL_len]
theorem k_long : check (kL 500 ++ [([], [], [])]) = 2 := by
  unfold check
  rw [if_pos (by rw [List.length_append, kL_len]; simp)]
theorem parse_hash (n : Nat) (hn : 0 < n) : parse (List.replicate n 35) = if 1048576 < n then ([], 0, 2) else ([], 0, 0) := by
  unfold parse
  rw [List.length_replicate]
  split
  · rfl
  · rw [pieces_none 10 _ (by intro h; have := List.eq_of_mem_replicate h; cases this), parseGo_cons]
    obtain ⟨m, rfl⟩ : ∃ m, n = m + 1 := ⟨n - 1, by omega⟩
    rw [if_pos (by rw [List.replicate_succ]; rfl)]
    rfl
end Ro
end Go.Proofs.YtgdcffahhpeibaaDoor
