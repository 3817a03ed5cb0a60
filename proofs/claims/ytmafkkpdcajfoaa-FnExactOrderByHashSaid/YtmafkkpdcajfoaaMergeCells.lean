/-
  Cells that are alike, merged cells: reference and program, by contracts. Printed by gen_merge.py.
-/
import Derived.Test.YtmafkkpdcajfoaaPutCells
namespace Go.Proofs.Ytmafkkpdcajfoaa
open Go.RowKit
set_option linter.unusedVariables false

/-- Two cells are valid and have equal sides and salts. -/
def alikeC (a0 a1 a2 : Int) (x : List Int) (b0 b1 b2 : Int) (y : List Int) : Bool := vCells a0 a1 a2 x && vCells b0 b1 b2 y && (a0 == b0) && (a1 == b1) && (a2 == b2)
theorem alikeC_iff {a0 a1 a2 : Int} {x : List Int} {b0 b1 b2 : Int} {y : List Int} (h : alikeC a0 a1 a2 x b0 b1 b2 y = true) : vCells a0 a1 a2 x = true ∧ vCells b0 b1 b2 y = true ∧ a0 = b0 ∧ a1 = b1 ∧ a2 = b2 := by
  simp only [alikeC, Bool.and_eq_true, beq_iff_eq] at h
  exact ⟨h.1.1.1.1, h.1.1.1.2, h.1.1.2, h.1.2, h.2⟩
/-- What MergeCells returns. -/
def pMergeCells (a0 a1 a2 : Int) (x : List Int) (b0 b1 b2 : Int) (y : List Int) : (Int × Int × Int × List Int) × Bool :=
  if alikeC a0 a1 a2 x b0 b1 b2 y = true then giveP a0 a1 a2 (List.zipWith (fun a b => a + b) x y) else ((0, 0, 0, []), false)
theorem pMergeCells_no {a0 a1 a2 : Int} {x : List Int} {b0 b1 b2 : Int} {y : List Int} (h : alikeC a0 a1 a2 x b0 b1 b2 y = false) : pMergeCells a0 a1 a2 x b0 b1 b2 y = ((0, 0, 0, []), false) := by simp [pMergeCells, h]
theorem pMergeCells_yes {a0 a1 a2 : Int} {x : List Int} {b0 b1 b2 : Int} {y : List Int} (h : alikeC a0 a1 a2 x b0 b1 b2 y = true) : pMergeCells a0 a1 a2 x b0 b1 b2 y = giveP a0 a1 a2 (List.zipWith (fun a b => a + b) x y) := by simp [pMergeCells, h]
theorem zipI_at {f : Int → Int → Int} {x y : List Int} {k : Nat} {a b : Int} (h : Hid (x[k]? = some a)) (h' : Hid (y[k]? = some b)) : (List.zipWith f x y)[k]? = some (f a b) := by
  rw [List.getElem?_zipWith, h.out, h'.out]
theorem zipAdd_w64 {x y : List Int} (hx : ∀ z ∈ x, -1000000000000 ≤ z ∧ z ≤ 1000000000000) (hy : ∀ z ∈ y, -1000000000000 ≤ z ∧ z ≤ 1000000000000) : ∀ z ∈ List.zipWith (fun a b => a + b) x y, W64 z := by
  intro z hz
  rw [List.mem_iff_getElem?] at hz
  obtain ⟨i, hi⟩ := hz
  rw [List.getElem?_zipWith] at hi
  cases hxa : x[i]? with
  | none => rw [hxa] at hi; cases hi
  | some a =>
    cases hyb : y[i]? with
    | none => rw [hxa, hyb] at hi; cases hi
    | some b =>
      rw [hxa, hyb] at hi
      injection hi with hi
      have h1 := hx a (List.mem_of_getElem? hxa)
      have h2 := hy b (List.mem_of_getElem? hyb)
      subst hi
      exact w64_of_bounds (by omega)




end Go.Proofs.Ytmafkkpdcajfoaa
