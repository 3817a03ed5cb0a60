/-
  How full a sieve is: reference and program, by contracts.
-/
import Derived.Test.YtmafkkpdcajfoaaFloat
import Derived.Test.YtmafkkpdcajfoaaSieve
import Derived.Test.YtmafkkpdcajfoaaRet
import Derived.Laws.Cover2
namespace Go.Proofs.Ytmafkkpdcajfoaa
open Go.RowKit Ieee
set_option linter.unusedVariables false
set_option linter.unusedSimpArgs false

/-- How many are true. -/
def countT (x : List Bool) : Nat := x.countP id
theorem countT_le (x : List Bool) : countT x ≤ x.length := List.countP_le_length
theorem countT_snoc {x : List Bool} {k : Nat} {b : Bool} (h : Hid (x[k]? = some b)) : countT (x.take (k + 1)) = countT (x.take k) + b.toNat := by
  unfold countT
  rw [List.take_add_one, h.out]
  cases b <;> simp
/-- How full. -/
def fullB (x : List Bool) : Nat := shareB (countT x) x.length
theorem fullB_spec {x : List Bool} (h0 : 0 < x.length) (h1 : x.length ≤ 1048576) : floatBits .quo .f32 (floatOfInt .f32 (countT x : Int)) (floatOfInt .f32 (x.length : Int)) = some (fullB x) ∧ Lg (fullB x) 1 :=
  shareB_spec (countT_le x) h0 (by omega)
theorem nn_zero : NN single 0 := ⟨false, .inl ⟨0, -149, read_low 0 (by omega)⟩⟩
/-- What FullOfSieve returns. -/
def pFullOfSieve (r s : Int) (x : List Bool) : Nat × Bool := if vSieve r s x.length = true then (fullB x, true) else (0, false)
theorem vSieve_len {r s : Int} {n : Nat} (h : vSieve r s n = true) : 0 < n ∧ n ≤ 512 ∧ 1 ≤ r ∧ r ≤ 8 := by
  simp only [vSieve, Bool.and_eq_true, inB_iff, decide_eq_true_eq] at h
  omega
theorem nn_FullOfSieve (r s : Int) (x : List Bool) : NN single (pFullOfSieve r s x).1 := by
  unfold pFullOfSieve
  split
  · rename_i h
    obtain ⟨h1, h2, _⟩ := vSieve_len h
    exact (fullB_spec h1 (by omega)).2.sg.nn
  · exact nn_zero
/-- What FalseShare returns. -/
def pFalseShare (r s : Int) (x : List Bool) : Nat × Bool := if vSieve r s x.length = true then (powB (fullB x) (r.toNat - 1), true) else (0, false)
theorem nn_FalseShare (r s : Int) (x : List Bool) : NN single (pFalseShare r s x).1 := by
  unfold pFalseShare
  split
  · rename_i h
    obtain ⟨h1, h2, _, h3⟩ := vSieve_len h
    exact (powB_spec (fullB_spec h1 (by omega)).2 (r.toNat - 1) (by omega)).1.sg.nn
  · exact nn_zero
end Go.Proofs.Ytmafkkpdcajfoaa
