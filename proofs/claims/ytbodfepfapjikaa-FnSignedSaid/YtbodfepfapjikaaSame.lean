/-
  Two structs are the same: reference and program, by contracts. Printed by gen_same.py.
-/
import Derived.Test.YtbodfepfapjikaaSlices
import Derived.Test.YtbodfepfapjikaaOpen
namespace Go.Proofs.Ytbodfepfapjikaa
open Go.RowKit
set_option linter.unusedVariables false

/-- Both Sieve are the same. -/
def sameSieve (a0 b0 : Int) (a1 b1 : Int) (x2 y2 : List Bool) : Bool := decide (a0 = b0) && decide (a1 = b1) && decide (x2 = y2)

/-- Both Cells are the same. -/
def sameCells (a0 b0 : Int) (a1 b1 : Int) (a2 b2 : Int) (x3 y3 : List Int) : Bool := decide (a0 = b0) && decide (a1 = b1) && decide (a2 = b2) && decide (x3 = y3)
set_option maxHeartbeats 1000000 in
theorem iSameCells_any (a0 : Int) (a1 : Int) (a2 : Int) (A3 : Option Addr) (c3 : Nat) (x3 : List Int) (b0 : Int) (b1 : Int) (b2 : Int) (B3 : Option Addr) (d3 : Nat) (y3 : List Int) (w : World) (hw0 : W64 a0) (hw1 : W64 a1) (hw2 : W64 a2) (hx3 : RdL (Value.int .i64) w A3 x3) (hn3 : x3.length ≤ 1048576) (he3 : ∀ y ∈ x3, W64 y) (gw0 : W64 b0) (gw1 : W64 b1) (gw2 : W64 b2) (gx3 : RdL (Value.int .i64) w B3 y3) (gn3 : y3.length ≤ 1048576) (ge3 : ∀ y ∈ y3, W64 y) :
    Calls Try.prog 55 #[.agg #[.int .i64 a0, .int .i64 a1, .int .i64 a2, .slice A3 x3.length c3], .agg #[.int .i64 b0, .int .i64 b1, .int .i64 b2, .slice B3 y3.length d3]] w fun e w' => e = .returned (.bool (sameCells a0 b0 a1 b1 a2 b2 x3 y3)) ∧ Below w.heap.size w w' := by
  clear hw0 gw0
  clear hw1 gw1
  clear hw2 gw2
  have HX3 := hid hx3
  have HY3 := hid gx3
  clear hx3 gx3 he3 ge3
  by_cases e0 : a0 = b0
  · have t0 : (a0 == b0) = true := by simp [e0]
    by_cases e1 : a1 = b1
    · have t1 : (a1 == b1) = true := by simp [e1]
      by_cases e2 : a2 = b2
      · have t2 : (a2 == b2) = true := by simp [e2]
        cases t3 : decide (x3 = y3)
        · skip
          have hv := hid (show sameCells a0 b0 a1 b1 a2 b2 x3 y3 = false by simp [sameCells, *])
          clear e0 e1 e2
          go_enter Try.func55, Try.ntmps55
          go_wp2_with fail
          refine (slEqInt64S_any A3 B3 c3 d3 x3 y3 _ (HX3.out.below (below_a2 _ _ _)) (HY3.out.below (below_a2 _ _ _)) hn3).mono ?_
          rintro e w3 ⟨rfl, m3, rfl⟩
          go_wp2
          go_ret
          exact ⟨ret_bool hv.out.symm, below_drewN (below_a2 _ _ _) _⟩
        · skip
          have hv := hid (show sameCells a0 b0 a1 b1 a2 b2 x3 y3 = true by simp [sameCells, *])
          clear e0 e1 e2
          go_enter Try.func55, Try.ntmps55
          go_wp2_with fail
          refine (slEqInt64S_any A3 B3 c3 d3 x3 y3 _ (HX3.out.below (below_a2 _ _ _)) (HY3.out.below (below_a2 _ _ _)) hn3).mono ?_
          rintro e w3 ⟨rfl, m3, rfl⟩
          go_wp2
          go_ret
          exact ⟨ret_bool hv.out.symm, below_drewN (below_a2 _ _ _) _⟩
      · have t2 : (a2 == b2) = false := by simp [e2]
        have hv := hid (show sameCells a0 b0 a1 b1 a2 b2 x3 y3 = false by simp [sameCells, *])
        clear e0 e1 e2
        go_enter Try.func55, Try.ntmps55
        go_wp2
        go_ret
        exact ⟨ret_bool hv.out.symm, below_a2 _ _ _⟩
    · have t1 : (a1 == b1) = false := by simp [e1]
      have hv := hid (show sameCells a0 b0 a1 b1 a2 b2 x3 y3 = false by simp [sameCells, *])
      clear e0 e1
      go_enter Try.func55, Try.ntmps55
      go_wp2
      go_ret
      exact ⟨ret_bool hv.out.symm, below_a2 _ _ _⟩
  · have t0 : (a0 == b0) = false := by simp [e0]
    have hv := hid (show sameCells a0 b0 a1 b1 a2 b2 x3 y3 = false by simp [sameCells, *])
    clear e0
    go_enter Try.func55, Try.ntmps55
    go_wp2
    go_ret
    exact ⟨ret_bool hv.out.symm, below_a2 _ _ _⟩

/-- Both Tops are the same. -/
def sameTops (a0 b0 : Int) (x1 y1 : List Int) (x2 y2 : List Int) (x3 y3 : List Int) : Bool := decide (a0 = b0) && decide (x1 = y1) && decide (x2 = y2) && decide (x3 = y3)

end Go.Proofs.Ytbodfepfapjikaa
