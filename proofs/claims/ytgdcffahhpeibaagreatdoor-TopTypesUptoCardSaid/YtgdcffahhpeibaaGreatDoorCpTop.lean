/-
  How long the least keys of a short text are; what a count says of a text. No condition.
-/
import Derived.Test.YtgdcffahhpeibaaGreatDoorCpMore
import Derived.Test.YtgdcffahhpeibaaGreatDoorAuPType
import Derived.Test.YtgdcffahhpeibaaGreatDoorAuLaws
namespace Go.Proofs.YtgdcffahhpeibaaGreatDoor
open Go.RowKit
namespace Au
open UT (Bs)
open Ro (Rule)
def keysFrom (bs : Bs) (n : Nat) : Bs := ((List.range n).map fun j => UInt8.ofNat (33 + j)).filter fun c => bs.contains c
theorem keysFrom_succ (bs : Bs) (n : Nat) : keysFrom bs (n + 1) = keysFrom bs n ++ (if bs.contains (UInt8.ofNat (33 + n)) = true then [UInt8.ofNat (33 + n)] else []) := by
  unfold keysFrom
  rw [List.range_succ, List.map_append, List.filter_append, List.map_singleton]
  congr 1
  by_cases h : bs.contains (UInt8.ofNat (33 + n)) = true
  · rw [if_pos h, List.filter_cons, if_pos h]; rfl
  · rw [if_neg h, List.filter_cons, if_neg h]; rfl
theorem keysFrom_len (bs : Bs) (n : Nat) : (keysFrom bs n).length ≤ n := by
  unfold keysFrom
  have := List.length_filter_le (fun c => bs.contains c) ((List.range n).map fun j => UInt8.ofNat (33 + j))
  rwa [List.length_map, List.length_range] at this
theorem keysFrom_mem (bs : Bs) (c : UInt8) : c ∈ keysFrom bs 94 ↔ (isKey c = true ∧ c ∈ bs) := by
  unfold keysFrom
  rw [List.mem_filter, List.mem_map, List.contains_iff_mem]
  constructor
  · rintro ⟨⟨j, hj, rfl⟩, h⟩
    rw [List.mem_range] at hj
    refine ⟨?_, h⟩
    have : (UInt8.ofNat (33 + j)).toNat = 33 + j := by rw [UInt8.toNat_ofNat', Nat.mod_eq_of_lt (by omega)]
    exact isKey_yes (by omega) (by omega)
  · rintro ⟨hk, h⟩
    refine ⟨⟨c.toNat - 33, ?_, ?_⟩, h⟩
    · have := key_byte hk
      rw [List.mem_range]; omega
    · have := key_byte hk
      rw [show 33 + (c.toNat - 33) = c.toNat by omega, UInt8.ofNat_toNat]
theorem used_tries {l : List Rule} (h : Ro.check l = 0) (s : Bs) : Tries l s (fun _ => keysFrom (s ++ bytesOf l) 94) := by
  refine tries_of h (fun x c hc => ((keysFrom_mem _ c).1 hc).1) (fun x c hk hn => ⟨fun r hr hm => ?_, fun hm => ?_⟩)
  · exact hn ((keysFrom_mem _ c).2 ⟨hk, List.mem_append_right _ ((bytes_mem l c).2 ⟨r, hr, hm⟩)⟩)
  · exact hn ((keysFrom_mem _ c).2 ⟨hk, List.mem_append_left _ (List.mem_of_mem_drop hm)⟩)
theorem res_lenG {l : List Ro.Rule} (hl : Ro.check l = 0) {s k : UT.Bs} (hr : TypeRes l s (some k)) (hs : s.length ≤ 400) : ∀ (g n : Nat) (old last : List Ent), Head l s n old last → 2 * (900000 - old.length) + (if last = [] then 0 else 1) ≤ g → k.length ≤ 802401 := by
  intro g
  induction g with
  | zero =>
    intro n old last h hg
    have hb := h.bound hl hs
    omega
  | succ g ih =>
    intro n old last h hg
    have hb := h.bound hl hs
    by_cases hz : last = []
    · subst hz
      have := hr.eq h.empty
      cases this
    · cases ho : lookS old (goal s) with
      | some m =>
        have e := hr.eq (h.found ho)
        injection e with e
        subst e
        have hm := lookS_mem (show lookS last (goal s) = some k by rw [h.last_goal, ho])
        have := (h.ent hl hm).1
        omega
      | none =>
        rw [if_neg hz] at hg
        have hn := h.next (used_tries hl s) ho hz rfl
        have hlen : 0 < last.length := List.length_pos_iff.2 hz
        refine ih _ _ _ hn ?_
        have hbn := (hn.bound hl hs).1
        rw [List.length_append] at hbn ⊢
        by_cases hR : insAll [] (roundC l s (fun _ => keysFrom (s ++ bytesOf l) 94) (old.map (·.1)) last) = []
        · rw [if_pos hR, hR]; simp; omega
        · rw [if_neg hR]
          have := List.length_pos_iff.2 hR
          omega
theorem res_len {l : List Ro.Rule} (hl : Ro.check l = 0) {s k : UT.Bs} (hr : TypeRes l s (some k)) (hs : s.length ≤ 400) : k.length ≤ 802401 := res_lenG hl hr hs _ _ _ _ (Head.start l s) (Nat.le_refl _)
end Au
theorem valid_of_count {l : List UInt8} (h : 0 ≤ UT.countZ l) : Lib.validD l = true ∧ UT.countZ l = ((UT.runes l).length : Int) := by
  unfold UT.countZ at h ⊢
  by_cases hv : Lib.validD l = true
  · rw [if_pos hv]; exact ⟨hv, rfl⟩
  · rw [if_neg hv] at h; omega
end Go.Proofs.YtgdcffahhpeibaaGreatDoor
