/-
  The calendar's readings, tables and lists in one place. No condition.
-/
import Derived.Test.YtnpkcobapckhdaaGreatDoorCalPParse
import Derived.Test.YtnpkcobapckhdaaGreatDoorCalLaw
import Derived.Test.YtnpkcobapckhdaaGreatDoorCalUniq
