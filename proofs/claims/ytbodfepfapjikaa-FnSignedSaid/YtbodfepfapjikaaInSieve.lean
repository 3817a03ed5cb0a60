/-
  Is a key in a sieve? Reference and program, by contracts.
-/
import Derived.Test.YtbodfepfapjikaaPlaces
import Derived.Test.YtbodfepfapjikaaSieve
namespace Go.Proofs.Ytbodfepfapjikaa
open Go.RowKit
set_option linter.unusedVariables false

/-- The bits at all listed places are true. -/
def allAt (x : List Bool) (l : List Int) : Bool := l.all fun p => x.getD p.toNat false
theorem allAt_snoc {x : List Bool} {l : List Int} {k m : Nat} (h : Hid (allAt x (l.take k) = true)) (hl : Hid (l[k]? = some (m : Int))) (hx : Hid (x[m]? = some true)) : allAt x (l.take (k + 1)) = true := by
  have h0 := h.out
  unfold allAt at h0 ⊢
  rw [List.take_add_one, hl.out]
  simp only [Option.toList_some, List.all_append, h0, List.all_cons, List.all_nil, Bool.and_true, Bool.true_and, Int.toNat_natCast]
  rw [List.getD_eq_getElem?_getD, hx.out]; rfl
theorem allAt_no {x : List Bool} {l : List Int} {k m : Nat} (hl : Hid (l[k]? = some (m : Int))) (hx : Hid (x[m]? = some false)) : allAt x l = false := by
  unfold allAt
  rw [List.all_eq_false]
  refine ⟨m, List.mem_of_getElem? hl.out, ?_⟩
  rw [List.getD_eq_getElem?_getD, Int.toNat_natCast, hx.out]; simp
/-- What InSieve returns. -/
def pInSieve (r s : Int) (x : List Bool) (key : Int) : Bool × Bool :=
  if vSieve r s x.length = true ∧ inB key 0 4294967295 = true then (allAt x (spotsL key.toNat s.toNat x.length r.toNat), true) else (false, false)
theorem vSieve_iff {r s : Int} {n : Nat} (h : vSieve r s n = true) : (1 ≤ r ∧ r ≤ 8) ∧ (0 ≤ s ∧ s ≤ 4294967295) ∧ 1 ≤ n ∧ n ≤ 512 := by
  simp [vSieve, inB] at h; omega

end Go.Proofs.Ytbodfepfapjikaa
