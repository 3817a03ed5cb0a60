/-
  The rows of cells: reference and program, by contracts.
-/
import Derived.Test.YtnngepnfljkbhaaCellsAt
namespace Go.Proofs.Ytnngepnfljkbhaa
open Go.RowKit
set_option linter.unusedVariables false

theorem ret_slice {A : Option Addr} {n n' c : Nat} (h : n = n') : Ending.returned (.slice A n c) = .returned (.slice A n' c) := by rw [h]
/-- Row i. -/
def rowL (x : List Int) (wd i : Nat) : List Int := (x.drop (i * wd)).take wd
theorem rowL_length {x : List Int} {wd dp i : Nat} (hl : x.length = wd * dp) (hi : i < dp) : (rowL x wd i).length = wd := by
  have h2 : (i + 1) * wd ≤ dp * wd := Nat.mul_le_mul_right wd hi
  rw [Nat.add_mul] at h2
  rw [Nat.mul_comm wd dp] at hl
  simp only [rowL, List.length_take, List.length_drop]
  omega
theorem rowL_at {x : List Int} {wd i k : Nat} (hk : k < wd) : (rowL x wd i)[k]? = x[i * wd + k]? := by
  simp only [rowL, List.getElem?_take, if_pos hk, List.getElem?_drop]
theorem rowL_mem {x : List Int} {wd i : Nat} {y : Int} (h : y ∈ rowL x wd i) : y ∈ x := List.mem_of_mem_drop (List.mem_of_mem_take h)
theorem rowL_rd {x : List Int} {wd i : Nat} {w : World} {b o : Nat} (h : RdL (Value.int .i64) w (some ⟨b, o, none⟩) x) : RdL (Value.int .i64) w (some ⟨b, o + i * wd, none⟩) (rowL x wd i) := fun j hj => by
  have hlen : j < wd ∧ i * wd + j < x.length := by
    simp only [rowL, List.length_take, List.length_drop] at hj; omega
  obtain ⟨b', o', hA, hc⟩ := h (i * wd + j) hlen.2
  injection hA with hA; injection hA with h1 h2
  subst h1 h2
  refine ⟨b, o + i * wd, rfl, ?_⟩
  rw [Nat.add_assoc, hc]
  have := rowL_at (x := x) (i := i) hlen.1
  rw [List.getElem?_eq_getElem hj, List.getElem?_eq_getElem hlen.2] at this
  injection this with this
  rw [this]
theorem sum_snoc {l : List Int} {k : Nat} {y : Int} (h : Hid (l[k]? = some y)) : (l.take (k + 1)).sum = (l.take k).sum + y := by
  rw [List.take_add_one, h.out]; simp
theorem sum_bound {l : List Int} {M : Int} (hM : 0 ≤ M) (h : ∀ y ∈ l, -M ≤ y ∧ y ≤ M) : ∀ k, -(k * M) ≤ (l.take k).sum ∧ (l.take k).sum ≤ k * M := by
  intro k
  induction k with
  | zero => simp
  | succ k ih =>
    have e : ((k + 1 : Nat) : Int) * M = k * M + M := by rw [Int.natCast_add, Int.add_mul]; simp
    rcases Nat.lt_or_ge k l.length with hk | hk
    · rw [sum_snoc (show Hid (l[k]? = some l[k]) from List.getElem?_eq_getElem hk), e]
      have := h l[k] (List.getElem_mem hk)
      omega
    · rw [List.take_of_length_le (by omega)] at ih ⊢
      rw [e]; omega

set_option maxHeartbeats 800000 in
theorem irow_any (wd dp s i n c b o : Nat) (w : World) (hw1 : 2 ≤ wd) (hw2 : wd ≤ 64) (hi : i < dp) (hd2 : dp ≤ 6) (hl : n = wd * dp) (hc : n ≤ c) (hc2 : c ≤ 1048576) :
    Calls Try.prog 74 #[.agg #[.int .i64 wd, .int .i64 dp, .int .i64 s, .slice (some ⟨b, o, none⟩) n c], .int .i64 i] w fun e w' => ∃ c', e = .returned (.slice (some ⟨b, o + i * wd, none⟩) wd c') ∧ wd ≤ c' ∧ Below w.heap.size w w' := by
  have hm := mul_le6 (show i ≤ 6 by omega) hw2
  have hm2 := mul_le6 (show i + 1 ≤ 6 by omega) hw2
  have h2 : (i + 1) * wd ≤ dp * wd := Nat.mul_le_mul_right wd hi
  rw [Nat.mul_comm dp wd, ← hl] at h2
  have e0 : ((i : Int) + 1) * (wd : Int) = (i : Int) * (wd : Int) + (wd : Int) := by rw [Int.add_mul, Int.one_mul]
  have ec : ((i * wd : Nat) : Int) = (i : Int) * (wd : Int) := Int.natCast_mul _ _
  have ed : (i + 1) * wd = i * wd + wd := by rw [Nat.add_mul, Nat.one_mul]
  have h5 : 0 ≤ (i : Int) * (wd : Int) + (wd : Int) ∧ (i : Int) * (wd : Int) + (wd : Int) ≤ (c : Int) := by rw [ed] at h2; omega
  have hne : ¬ c = i * wd := by rw [ed] at h2; omega
  have hlast : wd ≤ c - i * wd := by rw [ed] at h2; omega
  clear hl ed h2 hm2 ec
  go_enter Try.func74, Try.ntmps74
  go_wp2
  go_ret
  exact ⟨_, ret_slice (by omega), hlast, below_a1 _ _⟩

/-- What CellsTotal returns. -/
def pCellsTotal (a0 a1 a2 : Int) (x : List Int) : Int × Bool := if vCells a0 a1 a2 x = true then ((rowL x a0.toNat 0).sum, true) else (0, false)
end Go.Proofs.Ytnngepnfljkbhaa
