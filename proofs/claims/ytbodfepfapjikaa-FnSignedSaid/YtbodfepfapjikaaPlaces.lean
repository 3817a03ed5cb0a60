/-
  The places of a key: the reference's l04Places and the program's spots, by contracts.
-/
import Derived.Test.YtbodfepfapjikaaHash
import Derived.Test.YtbodfepfapjikaaRet
namespace Go.Proofs.Ytbodfepfapjikaa
open Go.RowKit
set_option linter.unusedVariables false

/-- The places of a key. -/
def spotsL (key salt size n : Nat) : List Int := (List.range n).map fun (j : Nat) => (belowN key (saltN salt j) size : Int)
theorem spotsL_succ (key salt size n : Nat) : (spotsL key salt size n).map (Value.int .i64) ++ [Value.int .i64 (belowN key (saltN salt n) size)] = (spotsL key salt size (n + 1)).map (Value.int .i64) := by
  simp [spotsL, List.range_succ]
theorem spotsL_length (key salt size n : Nat) : (spotsL key salt size n).length = n := by simp [spotsL]
theorem spotsL_mem {key salt size n : Nat} (hs : 0 < size) {x : Int} (h : x ∈ spotsL key salt size n) : ∃ m : Nat, x = m ∧ m < size := by
  simp only [spotsL, List.mem_map, List.mem_range] at h
  obtain ⟨j, _, rfl⟩ := h
  exact ⟨_, rfl, belowN_lt _ _ _ hs⟩

end Go.Proofs.Ytbodfepfapjikaa
