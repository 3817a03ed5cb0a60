/-
  Go's own slices package, as far as the program calls it: Equal, IndexFunc, ContainsFunc, by contracts.
-/
import Derived.Test.YtbodfepfapjikaaDoorHelp
namespace Go.Proofs.YtbodfepfapjikaaDoor
open Go.RowKit
set_option linter.unusedVariables false

/-- The first index of an element with p; -1 where there is none. -/
def idxP (p : Int → Bool) (xs : List Int) : Int := match xs.findIdx? p with | some i => i | none => -1
theorem idxP_at {p : Int → Bool} {xs : List Int} {k : Nat} {x : Int} (h : Hid ((xs.take k).any p = false)) (hx : Hid (xs[k]? = some x)) (hp : p x = true) : idxP p xs = k := by
  have hk : k < xs.length := by
    rcases Nat.lt_or_ge k xs.length with h1 | h1
    · exact h1
    · have := hx.out; rw [List.getElem?_eq_none h1] at this; cases this
  have hs : xs = xs.take k ++ x :: xs.drop (k + 1) := by
    have hx' := hx.out
    rw [List.getElem?_eq_getElem hk] at hx'
    injection hx' with hx'
    rw [← hx']
    conv => lhs; rw [← List.take_append_drop k xs, List.drop_eq_getElem_cons hk]
  have h1 : (xs.take k).findIdx? p = none := by
    rw [List.findIdx?_eq_none_iff]
    have := h.out
    simpa using this
  unfold idxP
  rw [hs, List.findIdx?_append, h1, List.findIdx?_cons]
  simp [hp]
  omega
theorem idxP_none {p : Int → Bool} {xs : List Int} (h : xs.any p = false) : idxP p xs = -1 := by
  have h1 : xs.findIdx? p = none := by
    rw [List.findIdx?_eq_none_iff]
    simpa using h
  unfold idxP
  rw [h1]
theorem any_snoc {p : Int → Bool} {xs : List Int} {k : Nat} {x : Int} (h : Hid ((xs.take k).any p = false)) (hx : Hid (xs[k]? = some x)) (hp : p x = false) : (xs.take (k + 1)).any p = false := by
  rw [List.take_add_one, hx.out]
  simp only [Option.toList_some, List.any_append, h.out, List.any_cons, hp, List.any_nil, Bool.or_self]
theorem mem_of_at {xs : List Int} {k : Nat} {x : Int} (hx : Hid (xs[k]? = some x)) : x ∈ xs := List.mem_of_getElem? hx.out
theorem idxP_ge {p : Int → Bool} {xs : List Int} : decide (0 ≤ idxP p xs) = xs.any p := by
  cases h : xs.any p with
  | false => rw [idxP_none h]; rfl
  | true =>
    unfold idxP
    cases h1 : xs.findIdx? p with
    | some i => simp
    | none =>
      rw [List.findIdx?_eq_none_iff] at h1
      obtain ⟨x, hx, hp⟩ := List.any_eq_true.1 h
      rw [h1 x hx] at hp
      cases hp

end Go.Proofs.YtbodfepfapjikaaDoor
