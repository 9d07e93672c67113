/-
  henkanlaw05.Few for every list. No condition.
-/
import Derived.Test.YtgdcffahhpeibaaDoorRoOpen
namespace Go.Proofs.YtgdcffahhpeibaaDoor
open Go.RowKit
theorem Few3.short {xs : List RuleB} (h : Few3 xs) : Short3 xs := fun r hr => by
  obtain ⟨a, b, c⟩ := h r hr
  exact ⟨by omega, by omega, by omega⟩
end Go.Proofs.YtgdcffahhpeibaaDoor
