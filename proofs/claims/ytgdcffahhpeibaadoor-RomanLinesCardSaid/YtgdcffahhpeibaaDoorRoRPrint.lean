/-
  henkanref05.Print by its contract. No condition but the list's and the strings' own bound.
-/
import Derived.Test.YtgdcffahhpeibaaDoorRoFew
namespace Go.Proofs.YtgdcffahhpeibaaDoor
open Go.RowKit
theorem Is.cat {a b : ByteArray} {x y : List UInt8} (h : Is a x) (h' : Is b y) : Is (a ++ b) (x ++ y) := h.append h'
end Go.Proofs.YtgdcffahhpeibaaDoor
