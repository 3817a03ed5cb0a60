/-
  A change at each of the listed places of a list, one after the other. No program in sight.
-/
import Derived.Test.YtbodfepfapjikaaMem
namespace Go.Proofs.Ytbodfepfapjikaa
open Go.RowKit

/-- The first k listed places are changed, the one at place j by f j. -/
def stepL (f : Nat → Int → Int) (x l : List Int) : Nat → List Int
  | 0 => x
  | k + 1 => (stepL f x l k).set (l.getD k 0).toNat (f k ((stepL f x l k).getD (l.getD k 0).toNat 0))
theorem stepL_length (f : Nat → Int → Int) (x l : List Int) (k : Nat) : (stepL f x l k).length = x.length := by
  induction k with
  | zero => rfl
  | succ k ih => rw [stepL, List.length_set, ih]
theorem stepL_succ {f : Nat → Int → Int} {x l : List Int} {k m : Nat} {u : Int} (h : Hid (l[k]? = some (m : Int))) (hu : Hid ((stepL f x l k)[m]? = some u)) : (stepL f x l k).set m (f k u) = stepL f x l (k + 1) := by
  rw [stepL, List.getD_eq_getElem?_getD, h.out, Option.getD_some, Int.toNat_natCast, List.getD_eq_getElem?_getD, hu.out, Option.getD_some]
theorem mem_set {y : List Int} {i : Nat} {v z : Int} (h : z ∈ y.set i v) : z ∈ y ∨ (i < y.length ∧ z = v) := by
  by_cases hi : i < y.length
  · rcases List.mem_or_eq_of_mem_set h with h | h
    · exact .inl h
    · exact .inr ⟨hi, h⟩
  · rw [List.set_eq_of_length_le (by omega)] at h
    exact .inl h
theorem stepL_bound {f : Nat → Int → Int} {lo hi D : Int} {x l : List Int} (hx : ∀ y ∈ x, lo ≤ y ∧ y ≤ hi) (hD : 0 ≤ D) (hf : ∀ k u, f k u ≤ max u hi + D ∧ min u lo - D ≤ f k u) (k : Nat) : ∀ y ∈ stepL f x l k, lo - D * (k : Int) ≤ y ∧ y ≤ hi + D * (k : Int) := by
  induction k with
  | zero => intro y hy; have := hx y hy; simp; omega
  | succ k ih =>
    intro y hy
    have h0 : 0 ≤ D * (k : Int) := Int.mul_nonneg hD (by omega)
    have h3 : D * ((k + 1 : Nat) : Int) = D * (k : Int) + D := by rw [Int.natCast_add]; simp [Int.mul_add]
    rw [h3]
    rw [stepL] at hy
    rcases mem_set hy with h | ⟨hi', h⟩
    · have := ih y h; omega
    · have hm : (stepL f x l k).getD (l.getD k 0).toNat 0 ∈ stepL f x l k := by rw [List.getD_eq_getElem?_getD, List.getElem?_eq_getElem hi', Option.getD_some]; exact List.getElem_mem _
      have h1 := ih _ hm
      have h2 := hf k ((stepL f x l k).getD (l.getD k 0).toNat 0)
      omega
end Go.Proofs.Ytbodfepfapjikaa
