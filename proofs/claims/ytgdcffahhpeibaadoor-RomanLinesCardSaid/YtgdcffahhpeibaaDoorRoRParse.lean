/-
  henkanref05.Parse by its contract. No condition.
-/
import Derived.Test.YtgdcffahhpeibaaDoorRoRPieces
namespace Go.Proofs.YtgdcffahhpeibaaDoor
open Go.RowKit
namespace Ro
open UT (Bs)
theorem line_none {L : List Bs} {k : Nat} {x : Bs} {out : List Rule} {R : List Rule × Nat × Nat} (hx : L[k]? = some x) (h : parseGo (L.drop k) k out = R) (hs : skip x = false) (hl : out.length ≤ 500) (hn : lineStep x out = none) : R = ([], k + 1, 50) :=
  go_none hx h hs hl (by rw [prog_step x out hl]; exact hn)
theorem line_some {L : List Bs} {k : Nat} {x : Bs} {out out' : List Rule} {R : List Rule × Nat × Nat} (hx : L[k]? = some x) (h : parseGo (L.drop k) k out = R) (hs : skip x = false) (hl : out.length ≤ 500) (hn : lineStep x out = some out') : parseGo (L.drop (k + 1)) (k + 1) out' = R :=
  go_some hx h hs hl (by rw [prog_step x out hl]; exact hn)
theorem step_of {x : Bs} {out : List Rule} {r : Rule} (h : lineRule x = some r) : lineStep x out = if (out.map (·.1)).contains r.1 || !allowed r || decide (500 ≤ out.length) then none else some (out ++ [r]) := by
  unfold lineStep; rw [h]
theorem step_nope {x : Bs} {out : List Rule} (h : lineRule x = none) : lineStep x out = none := by unfold lineStep; rw [h]
end Ro
/-- a list of strings that a call made, not empty: where it lies -/
theorem Strs.spot {B : Nat} {v : Value} {xs : List ByteArray} {w : World} (h : Strs B v xs w) (h0 : xs ≠ []) : ∃ g cap, v = .slice (some ⟨g, 0, none⟩) xs.length cap ∧ xs.length ≤ cap ∧ ∀ (k : Nat) x, xs[k]? = some x → w.cell? ⟨g, k, none⟩ = some (.string x) := by
  obtain ⟨g, cap, hv, hB, hg, hc, hcell, _⟩ := h.at h0
  exact ⟨g, cap, hv, hc, hcell⟩
end Go.Proofs.YtgdcffahhpeibaaDoor
