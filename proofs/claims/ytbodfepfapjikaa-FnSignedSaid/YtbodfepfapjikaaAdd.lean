/-
  Numbers added at places of a list. No program in sight.
-/
import Derived.Test.YtbodfepfapjikaaMem
namespace Go.Proofs.Ytbodfepfapjikaa
open Go.RowKit

/-- d is added at all listed places. -/
def addAt (d : Int) (x l : List Int) : List Int := l.foldl (fun x p => x.set p.toNat (x.getD p.toNat 0 + d)) x
theorem addAt_length (d : Int) (x l : List Int) : (addAt d x l).length = x.length := by
  unfold addAt
  induction l generalizing x with
  | nil => rfl
  | cons a l ih => rw [List.foldl_cons, ih]; simp
theorem addAt_zero (d : Int) (x l : List Int) : addAt d x (l.take 0) = x := by simp [addAt]
theorem addAt_succ {d : Int} {x l : List Int} {k m : Nat} {u : Int} (h : Hid (l[k]? = some (m : Int))) (hu : Hid ((addAt d x (l.take k))[m]? = some u)) : (addAt d x (l.take k)).set m (u + d) = addAt d x (l.take (k + 1)) := by
  have hu' := hu.out
  unfold addAt at hu' ⊢
  rw [List.take_add_one, h.out, List.foldl_append]
  simp only [Option.toList_some, List.foldl_cons, List.foldl_nil, Int.toNat_natCast]
  rw [List.getD_eq_getElem?_getD, hu']
  rfl
theorem addAt_bound {lo hi D d : Int} {x l : List Int} (hx : ∀ y ∈ x, lo ≤ y ∧ y ≤ hi) (hd : -D ≤ d ∧ d ≤ D) (hD : 0 ≤ D) : ∀ y ∈ addAt d x l, lo - D * (l.length : Int) ≤ y ∧ y ≤ hi + D * (l.length : Int) := by
  induction l generalizing x lo hi with
  | nil =>
    intro y hy
    have := hx y hy
    simp only [List.length_nil, Int.natCast_zero, Int.mul_zero]
    omega
  | cons a l ih =>
    have h1 : ∀ y ∈ x.set a.toNat (x.getD a.toNat 0 + d), lo - D ≤ y ∧ y ≤ hi + D := by
      intro y hy
      by_cases hlt : a.toNat < x.length
      · rcases List.mem_or_eq_of_mem_set hy with h | h
        · have := hx y h; omega
        · subst h
          have hm : x.getD a.toNat 0 ∈ x := by rw [List.getD_eq_getElem?_getD, List.getElem?_eq_getElem hlt]; simp
          have := hx _ hm
          omega
      · rw [List.set_eq_of_length_le (by omega)] at hy
        have := hx y hy; omega
    intro y hy
    have h2 := ih h1 y (by simpa [addAt] using hy)
    have h3 : D * ((l.length + 1 : Nat) : Int) = D * (l.length : Int) + D := by rw [Int.natCast_add]; simp [Int.mul_add]
    rw [List.length_cons, h3]
    omega
end Go.Proofs.Ytbodfepfapjikaa
