/-
  Sieves: valid ones, by contracts.
-/
import Derived.Test.YtmafkkpdcajfoaaNum
import Derived.Test.YtmafkkpdcajfoaaOpen
namespace Go.Proofs.Ytmafkkpdcajfoaa
open Go.RowKit
set_option linter.unusedVariables false

/-- A sieve is valid. -/
def vSieve (r s : Int) (n : Nat) : Bool := inB r 1 8 && inB s 0 4294967295 && decide ((1 : Int) ≤ n) && decide ((n : Int) ≤ 512)

end Go.Proofs.Ytmafkkpdcajfoaa
