/-
  The rows of cells: reference and program, by contracts.
-/
import Derived.Test.YtmafkkpdcajfoaaCellsAt
namespace Go.Proofs.Ytmafkkpdcajfoaa
open Go.RowKit
set_option linter.unusedVariables false

theorem ret_slice {A : Option Addr} {n n' c : Nat} (h : n = n') : Ending.returned (.slice A n c) = .returned (.slice A n' c) := by rw [h]
/-- Row i. -/
def rowL (x : List Int) (wd i : Nat) : List Int := (x.drop (i * wd)).take wd
theorem rowL_length {x : List Int} {wd dp i : Nat} (hl : x.length = wd * dp) (hi : i < dp) : (rowL x wd i).length = wd := by
  have h2 : (i + 1) * wd ≤ dp * wd := Nat.mul_le_mul_right wd hi
  rw [Nat.add_mul] at h2
  rw [Nat.mul_comm wd dp] at hl
  simp only [rowL, List.length_take, List.length_drop]
  omega
theorem rowL_at {x : List Int} {wd i k : Nat} (hk : k < wd) : (rowL x wd i)[k]? = x[i * wd + k]? := by
  simp only [rowL, List.getElem?_take, if_pos hk, List.getElem?_drop]
theorem rowL_mem {x : List Int} {wd i : Nat} {y : Int} (h : y ∈ rowL x wd i) : y ∈ x := List.mem_of_mem_drop (List.mem_of_mem_take h)
theorem rowL_rd {x : List Int} {wd i : Nat} {w : World} {b o : Nat} (h : RdL (Value.int .i64) w (some ⟨b, o, none⟩) x) : RdL (Value.int .i64) w (some ⟨b, o + i * wd, none⟩) (rowL x wd i) := fun j hj => by
  have hlen : j < wd ∧ i * wd + j < x.length := by
    simp only [rowL, List.length_take, List.length_drop] at hj; omega
  obtain ⟨b', o', hA, hc⟩ := h (i * wd + j) hlen.2
  injection hA with hA; injection hA with h1 h2
  subst h1 h2
  refine ⟨b, o + i * wd, rfl, ?_⟩
  rw [Nat.add_assoc, hc]
  have := rowL_at (x := x) (i := i) hlen.1
  rw [List.getElem?_eq_getElem hj, List.getElem?_eq_getElem hlen.2] at this
  injection this with this
  rw [this]
theorem sum_snoc {l : List Int} {k : Nat} {y : Int} (h : Hid (l[k]? = some y)) : (l.take (k + 1)).sum = (l.take k).sum + y := by
  rw [List.take_add_one, h.out]; simp
theorem sum_bound {l : List Int} {M : Int} (hM : 0 ≤ M) (h : ∀ y ∈ l, -M ≤ y ∧ y ≤ M) : ∀ k, -(k * M) ≤ (l.take k).sum ∧ (l.take k).sum ≤ k * M := by
  intro k
  induction k with
  | zero => simp
  | succ k ih =>
    have e : ((k + 1 : Nat) : Int) * M = k * M + M := by rw [Int.natCast_add, Int.add_mul]; simp
    rcases Nat.lt_or_ge k l.length with hk | hk
    · rw [sum_snoc (show Hid (l[k]? = some l[k]) from List.getElem?_eq_getElem hk), e]
      have := h l[k] (List.getElem_mem hk)
      omega
    · rw [List.take_of_length_le (by omega)] at ih ⊢
      rw [e]; omega


/-- What CellsTotal returns. -/
def pCellsTotal (a0 a1 a2 : Int) (x : List Int) : Int × Bool := if vCells a0 a1 a2 x = true then ((rowL x a0.toNat 0).sum, true) else (0, false)
end Go.Proofs.Ytmafkkpdcajfoaa
