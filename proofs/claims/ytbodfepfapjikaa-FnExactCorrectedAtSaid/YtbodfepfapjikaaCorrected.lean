/-
  CorrectedAt, reference and program, side by side.
-/
import Derived.Test.YtbodfepfapjikaaCorS
import Derived.Test.YtbodfepfapjikaaCorI
