/-
  At most 256 keys: the reference's l02Keys and the program's AreKeys, by contracts.
-/
import Derived.Test.YtbodfepfapjikaaDoorOwn
import Derived.Test.YtbodfepfapjikaaDoorNum
import Derived.Test.YtbodfepfapjikaaDoorWithin
namespace Go.Proofs.YtbodfepfapjikaaDoor
open Go.RowKit
set_option linter.unusedVariables false
set_option linter.unusedSimpArgs false

/-- At most 256 keys. -/
def keysQ (x : List Int) : Bool := decide ((x.length : Int) ≤ 256) && allB x 0 4294967295
theorem keysQ_iff {x : List Int} (h : keysQ x = true) : x.length ≤ 256 ∧ ∀ y ∈ x, 0 ≤ y ∧ y ≤ 4294967295 := by
  simp only [keysQ, Bool.and_eq_true, decide_eq_true_eq] at h
  refine ⟨by omega, fun y hy => ?_⟩
  have := h.2
  unfold allB at this
  rw [List.all_eq_true] at this
  exact inB_iff.1 (this y hy)
set_option maxHeartbeats 1000000 in
theorem l02Keys_some (A : Option Addr) (c : Nat) (x : List Int) (w : World) (hx : RdL (Value.int .i64) w A x) (hn : x.length ≤ 256) :
    Calls Tryd.prog 17 #[.slice A x.length c] w fun e w' => e = .returned (.bool (allB x 0 4294967295)) ∧ w = w' := by
  have HX := hid hx
  clear hx
  have hn' : (x.length : Int) ≤ 256 := by omega
  go_enter Tryd.func17, Tryd.ntmps17
  go_wp2
  go_loop [3] (fun i => ∃ k : Nat, k ≤ x.length ∧ i = .int .i64 k ∧ Hid (allB (x.take k) 0 4294967295 = true)) (fun i => x.length - (intOf i).toNat)
  case atStart => exact ⟨0, Nat.zero_le _, rfl, rfl⟩
  case round =>
    obtain ⟨k, hk, rfl, hh⟩ := hrel
    by_cases hlt : k < x.length
    · have hi : (k : Int) < (x.length : Int) := by omega
      obtain ⟨b', o', z, rfl, hc, hxk⟩ := HX.out.at_ hlt
      cases hb : inB z 0 4294967295 with
      | true =>
        have he := hid (allB_snoc hh hxk hb)
        go_wp2_with ((go_at_call 22; refine (l02Key_any _ _).mono ?_; rintro e w' ⟨rfl, rfl⟩))
        exact ⟨⟨k + 1, by omega, by go_num, he⟩, by simp [intOf]; omega⟩
      | false =>
        have he := hid (allB_no hxk hb)
        go_wp2_with ((go_at_call 22; refine (l02Key_any _ _).mono ?_; rintro e w' ⟨rfl, rfl⟩))
        go_ret
        exact ⟨ret_bool he.out.symm, rfl⟩
    · have hi : ¬ (k : Int) < (x.length : Int) := by omega
      have he := hh.out
      rw [List.take_of_length_le (by omega)] at he
      have HE := hid he
      clear he
      go_wp2
      go_ret
      exact ⟨ret_bool (by first | (rw [HE.out]; done) | (rw [HE.out]; simp; omega)), rfl⟩
set_option maxHeartbeats 400000 in
theorem l02Keys_many (A : Option Addr) (c : Nat) (x : List Int) (w : World) (hx : RdL (Value.int .i64) w A x) (hn : 256 < x.length) :
    Calls Tryd.prog 17 #[.slice A x.length c] w fun e w' => e = .returned (.bool false) ∧ w = w' := by
  have hn' : (256 : Int) < (x.length : Int) := by omega
  have hp : (0 : Int) < (x.length : Int) := by omega
  have hd : decide ((x.length : Int) ≤ 256) = false := decide_eq_false (by omega)
  clear hx
  go_enter Tryd.func17, Tryd.ntmps17
  go_wp2
  go_loop [3] (fun i => i = .int .i64 0) (fun i => 0)
  case atStart => rfl
  case round =>
    obtain rfl := hrel
    go_wp2
    go_ret
    exact ⟨rfl, rfl⟩
theorem l02Keys_q (A : Option Addr) (c : Nat) (x : List Int) (w : World) (hx : RdL (Value.int .i64) w A x) :
    Calls Tryd.prog 17 #[.slice A x.length c] w fun e w' => e = .returned (.bool (keysQ x)) ∧ w = w' := by
  by_cases h : x.length ≤ 256
  · have hk : keysQ x = allB x 0 4294967295 := by unfold keysQ; rw [decide_eq_true (by omega), Bool.true_and]
    rw [hk]
    exact l02Keys_some A c x w hx h
  · have hk : keysQ x = false := by unfold keysQ; rw [decide_eq_false (by omega), Bool.false_and]
    rw [hk]
    exact l02Keys_many A c x w hx (by omega)
end Go.Proofs.YtbodfepfapjikaaDoor
