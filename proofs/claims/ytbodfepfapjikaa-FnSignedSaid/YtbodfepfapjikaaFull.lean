/-
  How full a sieve is: reference and program, by contracts.
-/
import Derived.Test.YtbodfepfapjikaaFloat
import Derived.Test.YtbodfepfapjikaaSieve
import Derived.Test.YtbodfepfapjikaaRet
import Derived.Laws.Cover2
namespace Go.Proofs.Ytbodfepfapjikaa
open Go.RowKit Ieee
set_option linter.unusedVariables false
set_option linter.unusedSimpArgs false

set_option maxHeartbeats 1600000 in
set_option maxRecDepth 100000 in
theorem sameFloat_refl (d : Nat) (w : World) (h : NN double d) : Calls Try.prog 38 #[.float .f64 d, .float .f64 d] w fun e w' => e = .returned (.bool true) ∧ w = w' := by
  have ho : FloatKind.f64.format.order d d = some .eq := order_self h
  cases hz : (FloatKind.f64.format.order d 0 == some .eq) with
  | true =>
    obtain ⟨r, hr⟩ := one_quo_zero h (beq_iff_eq.1 hz)
    have hq : ∀ t w, (binOp .quo t (.float .f64 4607182418800017408) (.float .f64 d)).run Try.prog w = .ok (.float .f64 r) w := fun t w => run_float_arith w .quo t .f64 _ _ r hr
    have HH := hid h
    clear h hr
    go_enter Try.func38, Try.ntmps38
    go_wp2_with (simp only [hq])
    go_ret
    exact ⟨ret_bool (by simp), rfl⟩
  | false =>
    have HH := hid h
    clear h
    go_enter Try.func38, Try.ntmps38
    go_wp2
    go_ret
    exact ⟨ret_bool (by simp [ho]), rfl⟩
/-- How many are true. -/
def countT (x : List Bool) : Nat := x.countP id
theorem countT_le (x : List Bool) : countT x ≤ x.length := List.countP_le_length
theorem countT_snoc {x : List Bool} {k : Nat} {b : Bool} (h : Hid (x[k]? = some b)) : countT (x.take (k + 1)) = countT (x.take k) + b.toNat := by
  unfold countT
  rw [List.take_add_one, h.out]
  cases b <;> simp
/-- How full. -/
def fullB (x : List Bool) : Nat := shareB (countT x) x.length
theorem fullB_spec {x : List Bool} (h0 : 0 < x.length) (h1 : x.length ≤ 1048576) : floatBits .quo .f32 (floatOfInt .f32 (countT x : Int)) (floatOfInt .f32 (x.length : Int)) = some (fullB x) ∧ Lg (fullB x) 1 :=
  shareB_spec (countT_le x) h0 (by omega)
theorem nn_zero : NN single 0 := ⟨false, .inl ⟨0, -149, read_low 0 (by omega)⟩⟩
/-- What FullOfSieve returns. -/
def pFullOfSieve (r s : Int) (x : List Bool) : Nat × Bool := if vSieve r s x.length = true then (fullB x, true) else (0, false)
theorem vSieve_len {r s : Int} {n : Nat} (h : vSieve r s n = true) : 0 < n ∧ n ≤ 512 ∧ 1 ≤ r ∧ r ≤ 8 := by
  simp only [vSieve, Bool.and_eq_true, inB_iff, decide_eq_true_eq] at h
  omega
theorem nn_FullOfSieve (r s : Int) (x : List Bool) : NN single (pFullOfSieve r s x).1 := by
  unfold pFullOfSieve
  split
  · rename_i h
    obtain ⟨h1, h2, _⟩ := vSieve_len h
    exact (fullB_spec h1 (by omega)).2.sg.nn
  · exact nn_zero
/-- What FalseShare returns. -/
def pFalseShare (r s : Int) (x : List Bool) : Nat × Bool := if vSieve r s x.length = true then (powB (fullB x) (r.toNat - 1), true) else (0, false)
theorem nn_FalseShare (r s : Int) (x : List Bool) : NN single (pFalseShare r s x).1 := by
  unfold pFalseShare
  split
  · rename_i h
    obtain ⟨h1, h2, _, h3⟩ := vSieve_len h
    exact (powB_spec (fullB_spec h1 (by omega)).2 (r.toNat - 1) (by omega)).1.sg.nn
  · exact nn_zero
end Go.Proofs.Ytbodfepfapjikaa
