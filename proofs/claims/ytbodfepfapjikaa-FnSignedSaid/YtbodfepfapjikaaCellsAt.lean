/-
  The least cell of a key, and the cells of a key: reference and program, by contracts.
-/
import Derived.Test.YtbodfepfapjikaaCellPlace
namespace Go.Proofs.Ytbodfepfapjikaa
open Go.RowKit
set_option linter.unusedVariables false

theorem quiet_moreN {P : Program} {f : FuncId} {args : Array Value} {w : World} {a n : Nat} {v : Value}
    (h : Calls P f args (w.drewN (a + n)) fun e w' => e = .returned v ∧ ∃ m, w' = (w.drewN (a + n)).drewN m) : Calls P f args (w.drewN (a + n)) fun e w'' => e = .returned v ∧ ∃ m, w'' = w.drewN (a + m) :=
  h.mono fun _ _ ⟨he, m, hm⟩ => ⟨he, n + m, by rw [hm, World.drewN_drewN, Nat.add_assoc]⟩
theorem vCells_iff {a0 a1 a2 : Int} {x : List Int} (h : vCells a0 a1 a2 x = true) : (2 ≤ a0 ∧ a0 ≤ 64) ∧ (1 ≤ a1 ∧ a1 ≤ 6) ∧ (0 ≤ a2 ∧ a2 ≤ 4294967295) ∧ (x.length : Int) = a0 * a1 ∧ ∀ y ∈ x, -1000000000000 ≤ y ∧ y ≤ 1000000000000 := by
  simp only [vCells, Bool.and_eq_true, decide_eq_true_eq, inB_iff] at h
  refine ⟨h.1.1.1.1, h.1.1.1.2, h.1.1.2, h.1.2, fun y hy => ?_⟩
  have := h.2
  unfold allB at this
  rw [List.all_eq_true] at this
  exact inB_iff.1 (this y hy)

/-- The least one of the cells at the listed places, and of M. -/
def minAtM (M : Int) (x : List Int) (l : List Int) : Int := l.foldl (fun a p => min a (x.getD p.toNat 0)) M
theorem minAtM_snoc {M : Int} {x l : List Int} {k m : Nat} {y : Int} (hl : Hid (l[k]? = some (m : Int))) (hx : Hid (x[m]? = some y)) : minAtM M x (l.take (k + 1)) = min (minAtM M x (l.take k)) y := by
  unfold minAtM
  rw [List.take_add_one, hl.out]
  simp only [Option.toList_some, List.foldl_append, List.foldl_cons, List.foldl_nil, Int.toNat_natCast]
  rw [List.getD_eq_getElem?_getD, hx.out]; rfl
theorem cellsL_at {wd s key dp k : Nat} (h : k < dp) : (cellsL wd s key dp)[k]? = some (placeN wd s key k : Int) := by simp [cellsL, h]

theorem l00Min_any' (a b : Int) (w : World) : Calls Try.prog 90 #[.int .i64 a, .int .i64 b] w fun e w' => e = .returned (.int .i64 (min a b)) ∧ w = w' := by
  by_cases h : a < b <;>
  · go_enter Try.func90, Try.ntmps90
    go_wp2
    go_ret
    exact ⟨ret_int (by omega), rfl⟩
end Go.Proofs.Ytbodfepfapjikaa
