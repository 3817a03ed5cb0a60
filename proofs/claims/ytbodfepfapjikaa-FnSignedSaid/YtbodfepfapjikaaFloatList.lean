/-
  Lists of float32 by their order: the middle one, and how the program compares two.
-/
import Derived.Test.YtbodfepfapjikaaAppF
import Derived.Test.YtbodfepfapjikaaIns
import Derived.Test.YtbodfepfapjikaaCountP
import Derived.Shelf.SlSortCmp.Insertion
namespace Go.Proofs.Ytbodfepfapjikaa
open Go.RowKit Go.Shelf Go.Sort Ieee
set_option linter.unusedVariables false
set_option linter.unusedSimpArgs false

def ltF (a b : Nat) : Bool := single.order a b == some .lt
/-- The middle one. -/
def medF (x : List Nat) : Nat := (isrt ltF x).getD ((x.length - 1) / 2) 0
theorem medF_at (x : List Nat) (hp : 0 < x.length) : (isrt ltF x)[(x.length - 1) / 2]? = some (medF x) := by
  unfold medF
  rw [List.getD_eq_getElem?_getD]
  have h : (x.length - 1) / 2 < (isrt ltF x).length := by rw [isrt_length]; omega
  rw [List.getElem?_eq_getElem h]; rfl
def cfF (a b : Nat) : Int := if ltF a b = true then -1 else if single.order a b == some .gt then 1 else 0
theorem ltOf_cfF : ltOf cfF = ltF := by
  funext a b
  unfold ltOf cfF
  cases h : ltF a b with
  | true => rfl
  | false =>
    simp only [Bool.false_eq_true, if_false]
    cases (single.order a b == some .gt) <;> rfl
set_option maxHeartbeats 800000 in
theorem cmpF_any (a b : Nat) (w : World) : Calls Try.prog 130 #[.float .f32 a, .float .f32 b] w fun e w' => e = .returned (.int .i64 (cfF a b)) ∧ w' = w := by
  cases h : (single.order a b == some .lt) with
  | true =>
    have hc : cfF a b = -1 := by unfold cfF ltF; rw [h]; rfl
    have h1 : (FloatKind.f32.format.order a b == some .lt) = true := h
    rw [hc]
    clear h hc
    go_enter Try.func130, Try.ntmps130
    go_wp2
    go_ret
    exact ⟨rfl, rfl⟩
  | false =>
    have h1 : (FloatKind.f32.format.order a b == some .lt) = false := h
    cases h2 : (single.order a b == some .gt) with
    | true =>
      have hc : cfF a b = 1 := by unfold cfF ltF; rw [h, h2]; rfl
      have h3 : (FloatKind.f32.format.order a b == some .gt) = true := h2
      rw [hc]
      clear h h2 hc
      go_enter Try.func130, Try.ntmps130
      go_wp2
      go_ret
      exact ⟨rfl, rfl⟩
    | false =>
      have hc : cfF a b = 0 := by unfold cfF ltF; rw [h, h2]; rfl
      have h3 : (FloatKind.f32.format.order a b == some .gt) = false := h2
      rw [hc]
      clear h h2 hc
      go_enter Try.func130, Try.ntmps130
      go_wp2
      go_ret
      exact ⟨rfl, rfl⟩
end Go.Proofs.Ytbodfepfapjikaa
