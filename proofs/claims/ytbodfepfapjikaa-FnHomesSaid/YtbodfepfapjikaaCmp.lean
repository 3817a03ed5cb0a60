/-
  cmp.Compare of two integers, by contract.
-/
import Derived.Test.YtbodfepfapjikaaNum
import Derived.Test.YtbodfepfapjikaaMem
namespace Go.Proofs.Ytbodfepfapjikaa
open Go.RowKit
set_option linter.unusedVariables false
set_option linter.unusedSimpArgs false

/-- How two integers compare. -/
def cmpI (a b : Int) : Int := if a < b then -1 else if b < a then 1 else 0
theorem isNaN_any (a : Int) (w : World) : Calls Try.prog 132 #[.int .i64 a] w fun e w' => e = .returned (.bool false) ∧ w = w' := by
  go_enter Try.func132, Try.ntmps132
  go_wp2
  go_ret
  exact ⟨by simp, rfl⟩
set_option maxHeartbeats 1600000 in
theorem compare_any (a b : Int) (w : World) : Calls Try.prog 95 #[.int .i64 a, .int .i64 b] w fun e w' => e = .returned (.int .i64 (cmpI a b)) ∧ w = w' := by
  rcases Int.lt_trichotomy a b with h | h | h
  · have hv : cmpI a b = -1 := by unfold cmpI; rw [if_pos h]
    rw [hv]
    clear hv
    go_enter Try.func95, Try.ntmps95
    go_wp2_with (go_at_call 132; refine (isNaN_any _ _).mono ?_; rintro e w' ⟨rfl, rfl⟩)
    go_ret
    exact ⟨rfl, rfl⟩
  · subst h
    have hv : cmpI a a = 0 := by unfold cmpI; rw [if_neg (by omega), if_neg (by omega)]
    rw [hv]
    clear hv
    go_enter Try.func95, Try.ntmps95
    go_wp2_with (go_at_call 132; refine (isNaN_any _ _).mono ?_; rintro e w' ⟨rfl, rfl⟩)
    go_ret
    exact ⟨rfl, rfl⟩
  · have hv : cmpI a b = 1 := by unfold cmpI; rw [if_neg (by omega), if_pos h]
    have h2 : ¬ a < b := by omega
    rw [hv]
    clear hv
    go_enter Try.func95, Try.ntmps95
    go_wp2_with (go_at_call 132; refine (isNaN_any _ _).mono ?_; rintro e w' ⟨rfl, rfl⟩)
    go_ret
    exact ⟨rfl, rfl⟩
end Go.Proofs.Ytbodfepfapjikaa
