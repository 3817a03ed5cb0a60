/-
  Of how many keys a list of least hashes is: reference and program, by contracts.
-/
import Derived.Test.YtmafkkpdcajfoaaFloat2
import Derived.Test.YtmafkkpdcajfoaaFull
import Derived.Test.YtmafkkpdcajfoaaWithin
namespace Go.Proofs.Ytmafkkpdcajfoaa
open Go.RowKit Ieee
set_option linter.unusedVariables false
set_option linter.unusedSimpArgs false

/-- The first n elements ascend strictly. -/
def incTo (x : List Int) (n : Nat) : Bool := (List.range n).all fun k => decide (k = 0 ∨ x.getD (k - 1) 0 < x.getD k 0)
theorem incTo_succ (x : List Int) (n : Nat) : incTo x (n + 1) = (incTo x n && decide (n = 0 ∨ x.getD (n - 1) 0 < x.getD n 0)) := by
  simp [incTo, List.range_succ]
theorem incTo_no {x : List Int} {k n : Nat} (h : incTo x (k + 1) = false) (hk : k < n) : incTo x n = false := by
  induction n with
  | zero => omega
  | succ n ih =>
    rcases (show k = n ∨ k < n by omega) with rfl | h1
    · exact h
    · rw [incTo_succ, ih h1]; rfl
theorem getD_of {x : List Int} {k : Nat} {y : Int} (h : Hid (x[k]? = some y)) : x.getD k 0 = y := by rw [List.getD_eq_getElem?_getD, h.out]; rfl
/-- A list of least hashes is valid. -/
def vLeast (x : List Int) (room : Int) : Bool := inB room 1 256 && decide ((x.length : Int) ≤ room) && allB x 0 4294967295 && incTo x x.length

/-- The number that is told. -/
def leastV (n : Nat) (last room : Int) : Nat :=
  if (n : Int) < room then floatOfInt .f32 (n : Int)
  else (floatBits .quo .f32 (floatOfInt .f32 (room - 1)) ((floatBits .quo .f32 (floatOfInt .f32 (last + 1)) 1333788672).getD 0)).getD 0
/-- What CountOfLeast returns. -/
def pCountOfLeast (x : List Int) (room : Int) : Nat × Bool := if vLeast x room = true then (leastV x.length (x.getD (x.length - 1) 0) room, true) else (0, false)

theorem all_nm : Nm 1333788672 32 32 := ⟨8388608, 9, by decide +kernel, by omega, by omega, by omega, by omega⟩
/-- It is a number, not below 0. -/
def Fin0 (r : Nat) : Prop := ∃ m e, single.read r = .number false m e
theorem Fin0.nn {r : Nat} (h : Fin0 r) : NN single r := by
  obtain ⟨m, e, h⟩ := h
  exact ⟨false, .inl ⟨m, e, h⟩⟩
theorem zero_quo {y : Nat} {c d : Int} (hy : Nm y c d) : floatBits .quo .f32 (floatOfInt .f32 0) y = some 0 := by
  obtain ⟨n, j, hy, n1, _⟩ := hy
  have h0 : single.read (floatOfInt .f32 0) = .number false 0 (-149) := by decide +kernel
  show single.div _ y = _
  unfold Format.div
  rw [h0, hy]
  simp only [Datum.quotient, if_neg (show n ≠ 0 by omega), Option.map_some, Bool.xor_self, Nat.zero_shiftLeft, Nat.zero_div, Nat.zero_mod]
  show some (single.nearest false _ _) = _
  congr 1
theorem log2_le_of {n k : Nat} (h : n < 2 ^ (k + 1)) : n.log2 ≤ k := by
  have := log2_lt_of h (by omega)
  omega
theorem least_spec {last room : Int} (hl0 : 0 ≤ last) (hl : last ≤ 4294967295) (hr0 : 1 ≤ room) (hr : room ≤ 256) :
    ∃ q r, floatBits .quo .f32 (floatOfInt .f32 (last + 1)) 1333788672 = some q ∧ floatBits .quo .f32 (floatOfInt .f32 (room - 1)) q = some r ∧ Fin0 r := by
  obtain ⟨l, rfl⟩ := Int.eq_ofNat_of_zero_le hl0
  have h1 : (l : Int) + 1 = ((l + 1 : Nat) : Int) := by omega
  have hlog : (l + 1).log2 ≤ 32 := log2_le_of (k := 32) (by omega)
  have hn := ofInt_nm (n := l + 1) (by omega) (by omega)
  obtain ⟨q, hq, hqn⟩ := quo_nm hn all_nm (by omega) (by omega)
  rw [h1]
  refine ⟨q, ?_⟩
  rcases (show room = 1 ∨ 2 ≤ room by omega) with rfl | h2
  · exact ⟨0, hq, zero_quo hqn, 0, -149, read_low 0 (by omega)⟩
  · obtain ⟨k, hk⟩ := Int.eq_ofNat_of_zero_le (show 0 ≤ room - 1 by omega)
    have hkl : k.log2 ≤ 8 := log2_le_of (k := 8) (by omega)
    have hkn := ofInt_nm (n := k) (by omega) (by omega)
    obtain ⟨r, hr, hrn⟩ := quo_nm hkn hqn (by omega) (by omega)
    rw [hk]
    obtain ⟨m, e, hre, _⟩ := hrn
    exact ⟨r, hq, hr, m, e, hre⟩
theorem vLeast_iff {x : List Int} {room : Int} (h : vLeast x room = true) : (1 ≤ room ∧ room ≤ 256) ∧ (x.length : Int) ≤ room ∧ (∀ y ∈ x, 0 ≤ y ∧ y ≤ 4294967295) ∧ incTo x x.length = true := by
  simp only [vLeast, Bool.and_eq_true, decide_eq_true_eq, inB_iff] at h
  refine ⟨h.1.1.1, h.1.1.2, fun y hy => ?_, h.2⟩
  have := h.1.2
  unfold allB at this
  rw [List.all_eq_true] at this
  exact inB_iff.1 (this y hy)
theorem last_mem {x : List Int} (h : 0 < x.length) : x.getD (x.length - 1) 0 ∈ x := by
  rw [List.getD_eq_getElem?_getD, List.getElem?_eq_getElem (by omega), Option.getD_some]
  exact List.getElem_mem _
theorem fin_ofNat {n : Nat} (h : n ≤ 256) : Fin0 (floatOfInt .f32 (n : Int)) := by
  obtain ⟨m, e, h, _⟩ := ofInt_read (n := n) (by omega)
  exact ⟨m, e, h⟩
theorem leastV_eq {n : Nat} {last room : Int} {q r : Nat} (h : ¬ (n : Int) < room) (hq : floatBits .quo .f32 (floatOfInt .f32 (last + 1)) 1333788672 = some q) (hr : floatBits .quo .f32 (floatOfInt .f32 (room - 1)) q = some r) : leastV n last room = r := by
  unfold leastV
  rw [if_neg h, hq, Option.getD_some, hr, Option.getD_some]
theorem nn_CountOfLeast (x : List Int) (room : Int) : NN single (pCountOfLeast x room).1 := by
  unfold pCountOfLeast
  split
  · rename_i h
    obtain ⟨⟨h1, h2⟩, h3, h4, _⟩ := vLeast_iff h
    by_cases hlt : (x.length : Int) < room
    · show NN single (leastV _ _ _)
      unfold leastV
      rw [if_pos hlt]
      exact (fin_ofNat (by omega)).nn
    · have hb := h4 _ (last_mem (x := x) (by omega))
      obtain ⟨q, r, hq, hr, hf⟩ := least_spec hb.1 hb.2 h1 h2
      show NN single (leastV _ _ _)
      rw [leastV_eq hlt hq hr]
      exact hf.nn
  · exact nn_zero
theorem sub_self_fin {r : Nat} (h : Fin0 r) : floatBits .sub .f32 r r = some 0 := by
  obtain ⟨m, e, h⟩ := h
  show single.sub r r = _
  unfold Format.sub
  rw [h]
  simp only [Datum.opposite, Datum.sum, Option.map_some]
  have hz : ∀ a : Nat, signed false m a + signed true m a = 0 := fun a => by
    show (((m <<< a : Nat) : Int)) + -((m <<< a : Nat) : Int) = 0
    omega
  simp [hz]
  show single.nearest _ _ _ = 0
  unfold Format.nearest
  simp [word_false]
end Go.Proofs.Ytmafkkpdcajfoaa
