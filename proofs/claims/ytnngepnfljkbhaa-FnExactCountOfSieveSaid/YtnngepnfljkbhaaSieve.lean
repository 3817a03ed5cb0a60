/-
  Sieves: valid ones, by contracts.
-/
import Derived.Test.YtnngepnfljkbhaaNum
import Derived.Test.YtnngepnfljkbhaaOpen
namespace Go.Proofs.Ytnngepnfljkbhaa
open Go.RowKit
set_option linter.unusedVariables false

/-- A sieve is valid. -/
def vSieve (r s : Int) (n : Nat) : Bool := inB r 1 8 && inB s 0 4294967295 && decide ((1 : Int) ≤ n) && decide ((n : Int) ≤ 512)

set_option maxHeartbeats 400000 in
theorem l04Is_any (b o n c : Nat) (A : Option Addr) (r s : Int) (w : World) (h0 : w.cell? ⟨b, o, none⟩ = some (.int .i64 r)) (h1 : w.cell? ⟨b, o + 1, none⟩ = some (.int .i64 s))
    (h2 : w.cell? ⟨b, o + 2, none⟩ = some (.slice A n c)) :
    Calls Try.prog 63 #[.pointer (some ⟨b, o, none⟩)] w fun e w' => e = .returned (.bool (vSieve r s n)) ∧ w = w' := by
  have key : ∀ x y, inB r 1 8 = x → inB s 0 4294967295 = y → Calls Try.prog 63 #[.pointer (some ⟨b, o, none⟩)] w fun e w' => e = .returned (.bool (x && y && decide ((1 : Int) ≤ n) && decide ((n : Int) ≤ 512))) ∧ w = w' := by
    intro x y hx hy
    rcases three n 1 512 (by omega) with ⟨h3, h4⟩ | ⟨h3, h4⟩ | ⟨h3, h4⟩ <;> cases x <;> cases y <;>
    · go_enter Try.func63, Try.ntmps63
      go_wp2_with (first | (go_at_call 106; refine (l00In_any _ _ _ _).mono ?_; rintro e w' ⟨rfl, rfl⟩) | (go_at_call 96; refine (l02Key_any _ _).mono ?_; rintro e w' ⟨rfl, rfl⟩))
      go_ret
      exact ⟨by simp; try omega, rfl⟩
  exact key _ _ rfl rfl
set_option maxHeartbeats 400000 in
theorem iValidSieve_any (r s : Int) (A : Option Addr) (c : Nat) (x : List Bool) (w : World) (hr : W64 r) (hs : W64 s) (hx : RdL Value.bool w A x) (hn : x.length ≤ 1048576) :
    Calls Try.prog 66 #[.agg #[.int .i64 r, .int .i64 s, .slice A x.length c]] w fun e w' => e = .returned (.bool (vSieve r s x.length)) ∧ Below w.heap.size w w' := by
  clear hr hs hx
  have key : ∀ u y, inB r 1 8 = u → inB s 0 4294967295 = y → Calls Try.prog 66 #[.agg #[.int .i64 r, .int .i64 s, .slice A x.length c]] w fun e w' => e = .returned (.bool (u && y && decide ((1 : Int) ≤ x.length) && decide ((x.length : Int) ≤ 512))) ∧ Below w.heap.size w w' := by
    intro u y hu hy
    rcases three x.length 1 512 (by omega) with ⟨h3, h4⟩ | ⟨h3, h4⟩ | ⟨h3, h4⟩ <;> cases u <;> cases y <;>
    · go_enter Try.func66, Try.ntmps66
      go_wp2_with (first | (go_at_call 124; refine (areRounds_any _ _).mono ?_; rintro e w' ⟨rfl, rfl⟩) | (go_at_call 89; refine (IsKey_any _ _).mono ?_; rintro e w' ⟨rfl, rfl⟩))
      go_ret
      exact ⟨by simp; try omega, below_a1 _ _⟩
  exact key _ _ rfl rfl
end Go.Proofs.Ytnngepnfljkbhaa
