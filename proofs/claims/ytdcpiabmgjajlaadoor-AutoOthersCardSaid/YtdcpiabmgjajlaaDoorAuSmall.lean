/-
  The rules of the second table of examples: what they write. No condition.
-/
import Derived.Test.YtdcpiabmgjajlaaDoorAuType
namespace Go.Proofs.YtdcpiabmgjajlaaDoor
namespace Au
open UT (Bs)
open Ro (Rule find longer check)
def small : List Rule := [([97], [227, 129, 130], []), ([110], [227, 130, 147], []), ([110, 97], [227, 129, 170], []), ([110, 110], [227, 130, 147], []), ([120, 121], [], [97])]
theorem small_ok : check small = 0 := by decide +kernel
def smallC : List UInt8 := [97, 110, 120, 121]
theorem small_other : ∀ n, n < 256 → isKey (UInt8.ofNat n) = true → UInt8.ofNat n ∉ smallC → ∀ r ∈ small, UInt8.ofNat n ∉ r.1 := by decide +kernel
theorem small_tries (s : Bs) (hs : ∀ c ∈ s, isKey c = false) : Tries small s (fun _ => smallC) := by
  refine tries_of small_ok (fun _ => by decide +kernel) (fun x c hc hn => ⟨?_, fun hm => ?_⟩)
  · have h := small_other c.toNat c.toNat_lt
    rw [UInt8.ofNat_toNat] at h
    exact h hc hn
  · rw [hs c (List.mem_of_mem_drop hm)] at hc
    cases hc
theorem small_type (s : Bs) (hs : ∀ c ∈ s, isKey c = false) (r : Option Bs) (h : bfs small s (fun _ => smallC) 8 [((0, []), [])] [((0, []), [])] = some r) : TypeRes small s r :=
  bfs_right (small_tries s hs) 8 0 _ _ r (Inv.start small s) h
theorem small_na : TypeRes small [227, 129, 170] (some [110, 97]) := small_type _ (by decide +kernel) _ (by decide +kernel)
theorem small_nna : TypeRes small [227, 130, 147, 227, 129, 130] (some [110, 110, 97]) := small_type _ (by decide +kernel) _ (by decide +kernel)
theorem small_nn : TypeRes small [227, 130, 147] (some [110, 110]) := small_type _ (by decide +kernel) _ (by decide +kernel)
theorem small_ka : TypeRes small [227, 129, 139] none := small_type _ (by decide +kernel) _ (by decide +kernel)
theorem small_empty : TypeRes small [] (some []) := small_type _ (by decide +kernel) _ (by decide +kernel)
theorem small_run1 : run small [110, 110, 97] = ([227, 130, 147, 227, 129, 130], []) := by decide +kernel
theorem small_run2 : run small [120, 121, 97] = ([227, 129, 130, 227, 129, 130], []) := by decide +kernel
theorem small_run3 : run small [120, 98] = ([120, 98], []) := by decide +kernel
theorem small_run4 : run small [107, 65] = ([107, 65], []) := by decide +kernel
theorem small_step : step small [110] 107 = ([227, 130, 147, 107], []) := by decide +kernel
theorem small_flush : flush small [110] = [227, 130, 147] := by decide +kernel
end Au
end Go.Proofs.YtdcpiabmgjajlaaDoor
