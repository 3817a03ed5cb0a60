/-
  Cells: valid ones, by contracts.
-/
import Derived.Test.YtbodfepfapjikaaDoorWithin
namespace Go.Proofs.YtbodfepfapjikaaDoor
open Go.RowKit
set_option linter.unusedVariables false

/-- Cells are valid. -/
def vCells (a0 a1 a2 : Int) (xs : List Int) : Bool := inB a0 2 64 && inB a1 1 6 && inB a2 0 4294967295 && decide ((xs.length : Int) = a0 * a1) && allB xs (-1000000000000) 1000000000000
theorem mul_sides {a b : Int} (h1 : inB a 2 64 = true) (h2 : inB b 1 6 = true) : 2 ≤ a * b ∧ a * b ≤ 384 := by
  rw [inB_iff] at h1 h2
  have h3 : 2 * 1 ≤ a * b := Int.mul_le_mul h1.1 h2.1 (by omega) (by omega)
  have h4 : a * b ≤ 64 * 6 := Int.mul_le_mul h1.2 h2.2 (by omega) (by omega)
  omega

end Go.Proofs.YtbodfepfapjikaaDoor
