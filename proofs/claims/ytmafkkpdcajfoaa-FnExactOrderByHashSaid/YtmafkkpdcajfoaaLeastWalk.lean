/-
  CountOfLeast: reference and program, by contracts.
-/
import Derived.Test.YtmafkkpdcajfoaaLeast
import Derived.Test.YtmafkkpdcajfoaaNum
namespace Go.Proofs.Ytmafkkpdcajfoaa
open Go.RowKit Ieee
set_option linter.unusedVariables false
set_option linter.unusedSimpArgs false

set_option maxHeartbeats 1000000 in
theorem l02Keys_any (A : Option Addr) (c : Nat) (x : List Int) (w : World) (hx : RdL (Value.int .i64) w A x) (hn : x.length ≤ 256) :
    Calls Try.prog 35 #[.slice A x.length c] w fun e w' => e = .returned (.bool (allB x 0 4294967295)) ∧ w = w' := by
  have HX := hid hx
  clear hx
  have hn' : (x.length : Int) ≤ 256 := by omega
  go_enter Try.func35, Try.ntmps35
  go_wp2
  go_loop [3] (fun i => ∃ k : Nat, k ≤ x.length ∧ i = .int .i64 k ∧ Hid (allB (x.take k) 0 4294967295 = true)) (fun i => x.length - (intOf i).toNat)
  case atStart => exact ⟨0, Nat.zero_le _, rfl, rfl⟩
  case round =>
    obtain ⟨k, hk, rfl, hh⟩ := hrel
    by_cases hlt : k < x.length
    · have hi : (k : Int) < (x.length : Int) := by omega
      obtain ⟨b', o', z, rfl, hc, hxk⟩ := HX.out.at_ hlt
      cases hb : inB z 0 4294967295 with
      | true =>
        have he := hid (allB_snoc hh hxk hb)
        go_wp2_with ((go_at_call 36; refine (l02Key_any _ _).mono ?_; rintro e w' ⟨rfl, rfl⟩))
        exact ⟨⟨k + 1, by omega, by go_num, he⟩, by simp [intOf]; omega⟩
      | false =>
        have he := hid (allB_no hxk hb)
        go_wp2_with ((go_at_call 36; refine (l02Key_any _ _).mono ?_; rintro e w' ⟨rfl, rfl⟩))
        go_ret
        exact ⟨ret_bool he.out.symm, rfl⟩
    · have hi : ¬ (k : Int) < (x.length : Int) := by omega
      have he := hh.out
      rw [List.take_of_length_le (by omega)] at he
      have HE := hid he
      clear he
      go_wp2
      go_ret
      exact ⟨ret_bool (by first | (rw [HE.out]; done) | (rw [HE.out]; simp; omega)), rfl⟩
set_option maxHeartbeats 400000 in
theorem l02Keys_no (A : Option Addr) (c : Nat) (x : List Int) (w : World) (hx : RdL (Value.int .i64) w A x) (hn : 256 < x.length) :
    Calls Try.prog 35 #[.slice A x.length c] w fun e w' => e = .returned (.bool false) ∧ w = w' := by
  have hn' : (256 : Int) < (x.length : Int) := by omega
  have hp : (0 : Int) < (x.length : Int) := by omega
  have hd : decide ((x.length : Int) ≤ 256) = false := decide_eq_false (by omega)
  clear hx
  go_enter Try.func35, Try.ntmps35
  go_wp2
  go_loop [3] (fun i => i = .int .i64 0) (fun i => 0)
  case atStart => rfl
  case round =>
    obtain rfl := hrel
    go_wp2
    go_ret
    exact ⟨rfl, rfl⟩
end Go.Proofs.Ytmafkkpdcajfoaa
