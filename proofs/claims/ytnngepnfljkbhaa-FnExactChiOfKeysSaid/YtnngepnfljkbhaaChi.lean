/-
  The sum of ChiOfKeys: every operation yields, and the sum is not below 0. No program in sight.
-/
import Derived.Test.YtnngepnfljkbhaaFloat2
import Derived.Test.YtnngepnfljkbhaaFull
namespace Go.Proofs.Ytnngepnfljkbhaa
open Go.RowKit Ieee
set_option linter.unusedVariables false

/-- What an operation yields. -/
def fop (op : BinOp) (x y : Nat) : Nat := (floatBits op .f32 x y).getD 0
theorem fop_eq {op : BinOp} {x y r : Nat} (h : floatBits op .f32 x y = some r) : fop op x y = r := by unfold fop; rw [h]; rfl
/-- How far a count is from what is expected. -/
def chiZ (c : List Int) (e k : Nat) : Nat := fop .sub (floatOfInt .f32 (c.getD k 0)) e
/-- The sum over the first counts. -/
def chiTo (c : List Int) (e : Nat) : Nat → Nat
  | 0 => 0
  | k + 1 => fop .add (chiTo c e k) (fop .quo (fop .mul (chiZ c e k) (chiZ c e k)) e)
theorem sg_zero : Sg single false 0 := .inl ⟨0, -149, read_low 0 (by omega)⟩
theorem chi_ops {c : List Int} {e k : Nat} {a b : Int} (he : Nm e a b) (h0 : 0 ≤ c.getD k 0) (h1 : c.getD k 0 ≤ 1048576) (hs : Sg single false (chiTo c e k)) :
    floatBits .sub .f32 (floatOfInt .f32 (c.getD k 0)) e = some (chiZ c e k) ∧
    floatBits .mul .f32 (chiZ c e k) (chiZ c e k) = some (fop .mul (chiZ c e k) (chiZ c e k)) ∧
    floatBits .quo .f32 (fop .mul (chiZ c e k) (chiZ c e k)) e = some (fop .quo (fop .mul (chiZ c e k) (chiZ c e k)) e) ∧
    floatBits .add .f32 (chiTo c e k) (fop .quo (fop .mul (chiZ c e k) (chiZ c e k)) e) = some (chiTo c e (k + 1)) ∧ Sg single false (chiTo c e (k + 1)) := by
  obtain ⟨n, hn⟩ := Int.eq_ofNat_of_zero_le h0
  obtain ⟨m, j, hm, _⟩ := ofInt_read (n := n) (by omega)
  obtain ⟨me, je, hre, hm1, _⟩ := he
  obtain ⟨z, hz, hzn⟩ := sub_nn (x := floatOfInt .f32 (c.getD k 0)) (y := e) ⟨false, m, j, by rw [hn]; exact hm⟩ ⟨false, me, je, hre⟩
  have ez : chiZ c e k = z := fop_eq hz
  rw [ez]
  obtain ⟨q, hq, hqs⟩ := sq_pos hzn
  rw [fop_eq hq]
  obtain ⟨d, hd, hds⟩ := quo_sg (t := false) hqs ⟨me, je, hre, by omega⟩
  rw [fop_eq hd]
  obtain ⟨r, hr, hrs⟩ := add_pos hs (show Sg single false d from hds)
  have er : chiTo c e (k + 1) = r := by
    rw [chiTo, ez, fop_eq hq, fop_eq hd]
    exact fop_eq hr
  rw [er]
  exact ⟨hz, hq, hd, hr, hrs⟩
theorem chi_sg {c : List Int} {e : Nat} {a b : Int} (he : Nm e a b) (hc : ∀ y ∈ c, 0 ≤ y ∧ y ≤ 1048576) : ∀ k, k ≤ c.length → Sg single false (chiTo c e k) := by
  intro k
  induction k with
  | zero => intro _; exact sg_zero
  | succ k ih =>
    intro hk
    have hm : c.getD k 0 ∈ c := by
      rw [List.getD_eq_getElem?_getD, List.getElem?_eq_getElem (by omega), Option.getD_some]
      exact List.getElem_mem _
    have hb := hc _ hm
    exact (chi_ops he hb.1 hb.2 (ih (by omega))).2.2.2.2
end Go.Proofs.Ytnngepnfljkbhaa
