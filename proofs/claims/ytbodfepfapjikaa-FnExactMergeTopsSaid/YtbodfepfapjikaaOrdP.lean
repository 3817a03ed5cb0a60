/-
  The places of a row in ascending order of its elements: plain. No program in sight.
-/
import Derived.Test.YtbodfepfapjikaaStabP
import Derived.Test.YtbodfepfapjikaaCmp
namespace Go.Proofs.Ytbodfepfapjikaa
open Go.RowKit
set_option linter.unusedVariables false

/-- The places 0 to n - 1. -/
def idxL (n : Nat) : List Int := (List.range n).map fun (k : Nat) => (k : Int)
theorem idxL_length (n : Nat) : (idxL n).length = n := by simp [idxL]
theorem idxL_succ (n : Nat) : idxL (n + 1) = idxL n ++ [(n : Int)] := by simp [idxL, List.range_succ]
theorem idxL_mem {n : Nat} {y : Int} (h : y ∈ idxL n) : ∃ k : Nat, y = k ∧ k < n := by
  obtain ⟨k, hk, rfl⟩ := List.mem_map.1 h
  exact ⟨k, rfl, List.mem_range.1 hk⟩
def atR (row : List Int) (a : Int) : Int := row.getD a.toNat 0
/-- How two places compare, by what lies there. -/
def cfR (row : List Int) (a b : Int) : Int := cmpI (atR row a) (atR row b)
def ltR (row : List Int) (a b : Int) : Bool := decide (atR row a < atR row b)
theorem cfR_lt (row : List Int) (a b : Int) : decide (cfR row a b < 0) = ltR row a b := by
  unfold cfR ltR cmpI
  by_cases h : atR row a < atR row b
  · rw [if_pos h, decide_eq_true h]; rfl
  · rw [if_neg h, decide_eq_false h]
    by_cases h2 : atR row b < atR row a
    · rw [if_pos h2]; rfl
    · rw [if_neg h2]; rfl
/-- Ahead: what lies there is less, or the same, and the place is less. -/
def RelR (row : List Int) (a b : Int) : Prop := atR row a < atR row b ∨ (atR row a = atR row b ∧ a < b)
theorem RelR.tr (row : List Int) : ∀ a b c, RelR row a b → RelR row b c → RelR row a c := by
  intro a b c h1 h2
  unfold RelR at *
  omega
theorem RelR.as (row : List Int) : ∀ a b, RelR row a b → RelR row b a → False := by
  intro a b h1 h2
  unfold RelR at *
  omega
theorem idxL_cr (row : List Int) (n : Nat) : (idxL n).Pairwise (Cr (ltR row) (RelR row)) := by
  have h : (idxL n).Pairwise (· < ·) := by
    unfold idxL
    rw [List.pairwise_map]
    exact List.Pairwise.imp (fun h => by omega) List.pairwise_lt_range
  refine List.Pairwise.imp (fun {a b} h => ?_) h
  unfold Cr ltR RelR
  refine ⟨fun h1 => ?_, fun h1 => ?_⟩
  · have := of_decide_eq_true h1; omega
  · have := of_decide_eq_false h1; omega
/-- The places in ascending order. -/
def ordL (row : List Int) (n : Nat) : List Int := isrt (ltR row) (idxL n)
theorem ordL_length (row : List Int) (n : Nat) : (ordL row n).length = n := by rw [ordL, isrt_length, idxL_length]
theorem ordL_of {row M : List Int} {n : Nat} (h : Mg (RelR row) (idxL n) M) : M = ordL row n := mg_isrt (RelR.tr row) (RelR.as row) (idxL_cr row n) h
end Go.Proofs.Ytbodfepfapjikaa
