/-
  CellsAt and PlacesOf, reference and program, by contracts.
-/
import Derived.Test.YtmafkkpdcajfoaaCellsAt
namespace Go.Proofs.Ytmafkkpdcajfoaa
open Go.RowKit
set_option linter.unusedVariables false

/-- What CellsAt returns. -/
def pCellsAt (a0 a1 a2 : Int) (x : List Int) (key : Int) : Int × Bool :=
  if vCells a0 a1 a2 x = true ∧ inB key 0 4294967295 = true then (minAtM 1000000000000 x (cellsL a0.toNat a2.toNat key.toNat a1.toNat), true) else (0, false)
/-- What PlacesOf returns. -/
def pPlacesOf (a0 a1 a2 : Int) (x : List Int) (key : Int) : List Int × Bool :=
  if vCells a0 a1 a2 x = true ∧ inB key 0 4294967295 = true then (cellsL a0.toNat a2.toNat key.toNat a1.toNat, true) else ([], false)
/-- It hands back a slice of its own and a bool. -/
def RetLB {α : Type} (f : α → Value) (t : TypeId) (w : World) (r : List α × Bool) (e : Ending) (w' : World) : Prop :=
  ∃ A c, e = .returned (.tuple #[.slice A r.1.length c, .bool r.2]) ∧ OwnS f w' w.heap.size t A r.1 ∧ r.1.length ≤ 1048576 ∧ Below w.heap.size w w'
end Go.Proofs.Ytmafkkpdcajfoaa
