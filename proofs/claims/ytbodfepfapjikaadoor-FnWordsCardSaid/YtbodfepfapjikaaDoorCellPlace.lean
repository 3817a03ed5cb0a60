/-
  The cells of a key: reference and program, by contracts.
-/
import Derived.Test.YtbodfepfapjikaaDoorPlaces
import Derived.Test.YtbodfepfapjikaaDoorCells
import Derived.Deep.AppendLies
namespace Go.Proofs.YtbodfepfapjikaaDoor
open Go.RowKit
set_option linter.unusedVariables false

/-- The index of the cell of a key in row i. -/
def placeN (wd s key i : Nat) : Nat := i * wd + belowN key (saltN s i) wd
theorem placeN_lt {wd s key i dp : Nat} (hw : 0 < wd) (hi : i < dp) : placeN wd s key i < wd * dp := by
  have h1 := belowN_lt key (saltN s i) wd hw
  have h2 : (i + 1) * wd ≤ dp * wd := Nat.mul_le_mul_right wd hi
  rw [Nat.add_mul] at h2
  rw [Nat.mul_comm wd dp]
  unfold placeN
  omega
theorem mul_le6 {i wd : Nat} (hi : i ≤ 6) (hw : wd ≤ 64) : (i : Int) * (wd : Int) ≤ 384 ∧ 0 ≤ (i : Int) * (wd : Int) := by
  have h : i * wd ≤ 6 * 64 := Nat.mul_le_mul hi hw
  have h2 : ((i * wd : Nat) : Int) = (i : Int) * (wd : Int) := Int.natCast_mul _ _
  omega
theorem place_cast (wd s key i : Nat) : ((placeN wd s key i : Nat) : Int) = (i : Int) * (wd : Int) + (belowN key (saltN s i) wd : Int) := by
  unfold placeN
  rw [Int.natCast_add, Int.natCast_mul]

/-- An empty row of the call's own, behind a box. -/
theorem row_start1 (w : World) (o : Obj) (e : TypeId) : ((w.alloc o).alloc (.cells #[] e)).ownsRow (w.heap.size + 1) e 1 (.slice (some ⟨w.heap.size + 1, 0, none⟩) 0 0) 0 [] := by
  have h := World.ownsRow_made (base := w.heap.size + 1) (size := 1) (e := e) (w.alloc o) #[] 0 (by simp) (Nat.zero_le _) rfl
  rwa [World.size_alloc] at h

/-- The cells of a key in the first n rows. -/
def cellsL (wd s key n : Nat) : List Int := (List.range n).map fun i => (placeN wd s key i : Int)
theorem cellsL_succ (wd s key n : Nat) : (cellsL wd s key n).map (Value.int .i64) ++ [Value.int .i64 (placeN wd s key n)] = (cellsL wd s key (n + 1)).map (Value.int .i64) := by
  simp [cellsL, List.range_succ]
theorem cellsL_length (wd s key n : Nat) : (cellsL wd s key n).length = n := by simp [cellsL]
theorem cellsL_mem {wd s key dp : Nat} (hw : 0 < wd) {x : Int} (h : x ∈ cellsL wd s key dp) : ∃ m : Nat, x = m ∧ m < wd * dp := by
  simp only [cellsL, List.mem_map, List.mem_range] at h
  obtain ⟨j, hj, rfl⟩ := h
  exact ⟨_, rfl, placeN_lt hw hj⟩


end Go.Proofs.YtbodfepfapjikaaDoor
