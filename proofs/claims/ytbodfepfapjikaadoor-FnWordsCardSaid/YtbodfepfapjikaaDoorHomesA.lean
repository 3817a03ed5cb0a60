/-
  What the laws of this set draw from bytes (r8): by contracts.
-/
import Derived.Test.YtbodfepfapjikaaDoorB10
namespace Go.Proofs.YtbodfepfapjikaaDoor
open Go.RowKit
set_option linter.unusedVariables false
set_option linter.unusedSimpArgs false

set_option maxHeartbeats 800000 in
theorem r8Long_any (A A' : Option Addr) (n n' c c' : Nat) (w : World) : Calls Tryd.prog 10 #[.slice A n c, .slice A' n' c'] w fun e w' => e = .returned (.bool (decide (48 < n ∨ 48 < n'))) ∧ w = w' := by
  by_cases h : (48 : Int) < (n : Int)
  · have hd : decide (48 < n ∨ 48 < n') = true := decide_eq_true (.inl (by omega))
    rw [hd]
    clear hd
    go_enter Tryd.func10, Tryd.ntmps10
    go_wp2
    go_ret
    exact ⟨rfl, rfl⟩
  · by_cases h' : (48 : Int) < (n' : Int)
    · have hd : decide (48 < n ∨ 48 < n') = true := decide_eq_true (.inr (by omega))
      rw [hd]
      clear hd
      go_enter Tryd.func10, Tryd.ntmps10
      go_wp2
      go_ret
      exact ⟨rfl, rfl⟩
    · have hd : decide (48 < n ∨ 48 < n') = false := decide_eq_false (by omega)
      rw [hd]
      clear hd
      go_enter Tryd.func10, Tryd.ntmps10
      go_wp2
      go_ret
      exact ⟨rfl, rfl⟩
set_option maxHeartbeats 800000 in
theorem r8At_any (A : Option Addr) (c : Nat) (x : List Int) (i n : Int) (w : World) (hx : RdL (Value.int .u8) w A x) (hb : Byt x) (hn : x.length ≤ 1048576) (hi0 : 0 ≤ i) (hi1 : i ≤ 1000) (hn1 : 1 < n) (hn2 : n ≤ 256) :
    Calls Tryd.prog 11 #[.slice A x.length c, .int .i64 i, .int .i64 n] w fun e w' => (∃ r, e = .returned (.int .i64 r) ∧ 0 ≤ r ∧ r < n) ∧ w = w' := by
  have HX := hid hx
  have HB := hid hb
  clear hx hb
  obtain ⟨k, rfl⟩ := Int.eq_ofNat_of_zero_le hi0
  have hn1' : ¬ n ≤ 1 := by omega
  have hnz : (n == 0) = false := beq_eq_false_iff_ne.2 (by omega)
  have hnz' : n ≠ 0 := by omega
  by_cases hlt : k < x.length
  · have hi : ¬ (x.length : Int) ≤ (k : Int) := by omega
    have hi2 : (k : Int) < (x.length : Int) := by omega
    obtain ⟨b, o, y, rfl, hc, hy⟩ := HX.out.at_ hlt
    have hyb := HB.out y (List.mem_of_getElem? hy.out)
    have v1 : IntKind.i64.wrap y = y := by rw [IntKind.wrap_i64]; omega
    go_enter Tryd.func11, Tryd.ntmps11
    go_wp2
    go_ret
    exact ⟨⟨_, rfl, Int.emod_nonneg _ hnz', Int.emod_lt_of_pos _ (by omega)⟩, rfl⟩
  · have hi : (x.length : Int) ≤ (k : Int) := by omega
    go_enter Tryd.func11, Tryd.ntmps11
    go_wp2
    go_ret
    exact ⟨⟨_, rfl, by omega, by omega⟩, rfl⟩
end Go.Proofs.YtbodfepfapjikaaDoor
