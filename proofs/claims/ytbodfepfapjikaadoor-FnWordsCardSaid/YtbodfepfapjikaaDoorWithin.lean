/-
  All elements of a list lie between two numbers: the program's areWithin, areAllKeys and the reference's loops, by contracts.
-/
import Derived.Test.YtbodfepfapjikaaDoorSlices
import Derived.Test.YtbodfepfapjikaaDoorNum
import Derived.Test.YtbodfepfapjikaaDoorOpen
namespace Go.Proofs.YtbodfepfapjikaaDoor
open Go.RowKit
set_option linter.unusedVariables false

/-- All elements lie from lo to hi. -/
def allB (xs : List Int) (lo hi : Int) : Bool := xs.all fun x => inB x lo hi
theorem allB_not_any {xs : List Int} {lo hi : Int} : (!xs.any fun x => !inB x lo hi) = allB xs lo hi := by
  unfold allB
  rw [List.all_eq_not_any_not]
theorem allB_no {xs : List Int} {k : Nat} {x lo hi : Int} (hx : Hid (xs[k]? = some x)) (h : inB x lo hi = false) : allB xs lo hi = false := by
  unfold allB
  rw [List.all_eq_false]
  exact ⟨x, List.mem_of_getElem? hx.out, by simp [h]⟩
theorem allB_snoc {xs : List Int} {k : Nat} {x lo hi : Int} (h0 : Hid (allB (xs.take k) lo hi = true)) (hx : Hid (xs[k]? = some x)) (h : inB x lo hi = true) : allB (xs.take (k + 1)) lo hi = true := by
  have := h0.out
  unfold allB at this ⊢
  rw [List.take_add_one, hx.out]
  simp only [Option.toList_some, List.all_append, this, List.all_cons, h, List.all_nil, Bool.and_self]

end Go.Proofs.YtbodfepfapjikaaDoor
