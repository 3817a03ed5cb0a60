/-
  Searches in a list of integers: where a value lies first (l03Find, slices.Index), whether it lies there (l00Has), where the least one lies (l03Lowest), by contracts.
-/
import Derived.Test.YtmafkkpdcajfoaaSlices
import Derived.Test.YtmafkkpdcajfoaaMinL
import Derived.Test.YtmafkkpdcajfoaaAsc
namespace Go.Proofs.Ytmafkkpdcajfoaa
open Go.RowKit
set_option linter.unusedVariables false
set_option linter.unusedSimpArgs false

/-- Where the least of the first n lies, the first such place. -/
def lowN (x : List Int) : Nat → Nat
  | 0 => 0
  | n + 1 => if x.getD n 0 < x.getD (lowN x n) 0 then n else lowN x n
end Go.Proofs.Ytmafkkpdcajfoaa
