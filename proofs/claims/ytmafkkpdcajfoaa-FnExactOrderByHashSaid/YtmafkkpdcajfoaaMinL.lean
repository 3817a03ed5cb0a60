/-
  The least one of a list; slices.Min, by contract.
-/
import Derived.Test.YtmafkkpdcajfoaaSlices
namespace Go.Proofs.Ytmafkkpdcajfoaa
open Go.RowKit
set_option linter.unusedVariables false

/-- The least one; 0 if there is none. -/
def minL : List Int → Int
  | [] => 0
  | a :: l => l.foldl min a
theorem minL_one (a : Int) : minL [a] = a := rfl
theorem minL_snoc {l : List Int} (a : Int) (h : l ≠ []) : minL (l ++ [a]) = min (minL l) a := by
  cases l with
  | nil => exact absurd rfl h
  | cons b l => simp [minL, List.foldl_append]
end Go.Proofs.Ytmafkkpdcajfoaa
