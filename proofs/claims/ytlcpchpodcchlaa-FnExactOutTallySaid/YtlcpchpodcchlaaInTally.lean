/-
  The least count at the places of a key: reference and program, by contracts.
-/
import Derived.Test.YtlcpchpodcchlaaPlaces
import Derived.Test.YtlcpchpodcchlaaTally
namespace Go.Proofs.Ytlcpchpodcchlaa
open Go.RowKit
set_option linter.unusedVariables false

/-- The least one of the counts at the listed places, and of 1000000. -/
def minAt (x : List Int) (l : List Int) : Int := l.foldl (fun a p => min a (x.getD p.toNat 0)) 1000000
theorem minAt_snoc {x l : List Int} {k m : Nat} {y : Int} (hl : Hid (l[k]? = some (m : Int))) (hx : Hid (x[m]? = some y)) : minAt x (l.take (k + 1)) = min (minAt x (l.take k)) y := by
  unfold minAt
  rw [List.take_add_one, hl.out]
  simp only [Option.toList_some, List.foldl_append, List.foldl_cons, List.foldl_nil, Int.toNat_natCast]
  rw [List.getD_eq_getElem?_getD, hx.out]; rfl
/-- What InTally returns. -/
def pInTally (r s : Int) (x : List Int) (key : Int) : Int × Bool :=
  if vTally r s x = true ∧ inB key 0 4294967295 = true then (minAt x (spotsL key.toNat s.toNat x.length r.toNat), true) else (0, false)
theorem vTally_iff {r s : Int} {x : List Int} (h : vTally r s x = true) : (1 ≤ r ∧ r ≤ 8) ∧ (0 ≤ s ∧ s ≤ 4294967295) ∧ (1 ≤ x.length ∧ x.length ≤ 512) ∧ ∀ y ∈ x, 0 ≤ y ∧ y ≤ 1000000 := by
  simp [vTally, inB, allB] at h
  refine ⟨by omega, by omega, by omega, fun y hy => h.2 y hy⟩

end Go.Proofs.Ytlcpchpodcchlaa
