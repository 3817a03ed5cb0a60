/-
  The least one of a list; slices.Min, by contract.
-/
import Derived.Test.YtbodfepfapjikaaSlices
namespace Go.Proofs.Ytbodfepfapjikaa
open Go.RowKit
set_option linter.unusedVariables false

/-- The least one; 0 if there is none. -/
def minL : List Int → Int
  | [] => 0
  | a :: l => l.foldl min a
theorem minL_one (a : Int) : minL [a] = a := rfl
theorem minL_snoc {l : List Int} (a : Int) (h : l ≠ []) : minL (l ++ [a]) = min (minL l) a := by
  cases l with
  | nil => exact absurd rfl h
  | cons b l => simp [minL, List.foldl_append]
set_option maxHeartbeats 1000000 in
theorem slMin_any (A : Option Addr) (c : Nat) (x : List Int) (w : World) (hx : RdL (Value.int .i64) w A x) (hn : x.length ≤ 1048576) (hp : 0 < x.length) :
    Calls Try.prog 119 #[.slice A x.length c] w fun e w' => e = .returned (.int .i64 (minL x)) ∧ w = w' := by
  have HX := hid hx
  clear hx
  obtain ⟨b, o, y0, rfl, hy0, hym0⟩ := HX.out.at_ hp
  have hs : Hid (minL (x.take 1) = y0) := by
    show _ = _
    rw [show x.take 1 = x.take (0 + 1) from rfl, List.take_add_one, hym0.out]
    simp [minL]
  have hy0' : w.cell? ⟨b, o, none⟩ = some (.int .i64 y0) := by simpa using hy0
  go_enter Try.func119, Try.ntmps119
  go_wp2
  go_loop [3, 4] (fun v i => ∃ k : Nat, 1 ≤ k ∧ k ≤ x.length ∧ i = .int .i64 k ∧ ∃ z : Int, v = .int .i64 z ∧ Hid (minL (x.take k) = z)) (fun v i => x.length - (intOf i).toNat)
  case atStart => exact ⟨1, Nat.le_refl _, hp, rfl, _, rfl, hs⟩
  case round =>
    obtain ⟨k, hk1, hk, rfl, z, rfl, hh⟩ := hrel
    by_cases hlt : k < x.length
    · have hi : (k : Int) < (x.length : Int) := by omega
      obtain ⟨b', o', y, hA', hcy, hym⟩ := HX.out.at_ hlt
      obtain ⟨rfl, rfl⟩ : b = b' ∧ o = o' := by injection hA' with hA'; injection hA' with h1 h2; exact ⟨h1, h2⟩
      have hne : x.take k ≠ [] := by
        intro h
        have h2 : (x.take k).length = k := by simp; omega
        rw [h] at h2; simp at h2; omega
      have he : Hid (minL (x.take (k + 1)) = min z y) := by
        show _ = _
        rw [List.take_add_one, hym.out, Option.toList_some, minL_snoc y hne, hh.out]
      clear hA' hne
      by_cases hzy : z ≤ y
      · rw [show min z y = z by omega] at he
        go_wp2
        exact ⟨⟨k + 1, by omega, by omega, by go_num, _, rfl, he⟩, by simp [intOf]; omega⟩
      · rw [show min z y = y by omega] at he
        have hyz : y < z := by omega
        clear hzy
        go_wp2
        exact ⟨⟨k + 1, by omega, by omega, by go_num, _, rfl, he⟩, by simp [intOf]; omega⟩
    · have hi : ¬ (k : Int) < (x.length : Int) := by omega
      go_wp2
      go_ret
      have he := hh.out
      rw [List.take_of_length_le (by omega)] at he
      exact ⟨ret_int he.symm, rfl⟩
end Go.Proofs.Ytbodfepfapjikaa
