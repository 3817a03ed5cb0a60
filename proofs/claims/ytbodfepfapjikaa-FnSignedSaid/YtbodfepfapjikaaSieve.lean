/-
  Sieves: valid ones, by contracts.
-/
import Derived.Test.YtbodfepfapjikaaNum
import Derived.Test.YtbodfepfapjikaaOpen
namespace Go.Proofs.Ytbodfepfapjikaa
open Go.RowKit
set_option linter.unusedVariables false

/-- A sieve is valid. -/
def vSieve (r s : Int) (n : Nat) : Bool := inB r 1 8 && inB s 0 4294967295 && decide ((1 : Int) ≤ n) && decide ((n : Int) ≤ 512)

end Go.Proofs.Ytbodfepfapjikaa
