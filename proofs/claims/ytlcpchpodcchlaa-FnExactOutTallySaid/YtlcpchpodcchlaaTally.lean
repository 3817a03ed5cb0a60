/-
  Tallies, cells: valid ones, by contracts.
-/
import Derived.Test.YtlcpchpodcchlaaWithin
namespace Go.Proofs.Ytlcpchpodcchlaa
open Go.RowKit
set_option linter.unusedVariables false

/-- A tally is valid. -/
def vTally (r s : Int) (xs : List Int) : Bool := inB r 1 8 && inB s 0 4294967295 && decide ((1 : Int) ≤ xs.length) && decide ((xs.length : Int) ≤ 512) && allB xs 0 1000000

set_option maxHeartbeats 1000000 in
theorem l04Tally_any (b o c : Nat) (A : Option Addr) (r s : Int) (xs : List Int) (w : World) (h0 : w.cell? ⟨b, o, none⟩ = some (.int .i64 r)) (h1 : w.cell? ⟨b, o + 1, none⟩ = some (.int .i64 s))
    (h2 : w.cell? ⟨b, o + 2, none⟩ = some (.slice A xs.length c)) (hx : RdL (Value.int .i64) w A xs) (hn : xs.length ≤ 1048576) :
    Calls Try.prog 131 #[.pointer (some ⟨b, o, none⟩)] w fun e w' => e = .returned (.bool (vTally r s xs)) ∧ w = w' := by
  have HX := hid hx
  clear hx
  cases hr : inB r 1 8 with
  | false =>
    have hv := hid (show vTally r s xs = false by simp [vTally, hr])
    go_enter Try.func131, Try.ntmps131
    go_wp2_with ((go_at_call 66; refine (l00In_any _ _ _ _).mono ?_; rintro e w' ⟨rfl, rfl⟩))
    go_ret
    exact ⟨ret_bool hv.out.symm, rfl⟩
  | true =>
  cases hs : inB s 0 4294967295 with
  | false =>
    have hv := hid (show vTally r s xs = false by simp [vTally, hs])
    go_enter Try.func131, Try.ntmps131
    go_wp2_with (first | (go_at_call 66; refine (l00In_any _ _ _ _).mono ?_; rintro e w' ⟨rfl, rfl⟩) | (go_at_call 65; refine (l02Key_any _ _).mono ?_; rintro e w' ⟨rfl, rfl⟩))
    go_ret
    exact ⟨ret_bool hv.out.symm, rfl⟩
  | true =>
  rcases three xs.length 1 512 (by omega) with ⟨h3, h4⟩ | ⟨h3, h4⟩ | ⟨h3, h4⟩
  · have hv := hid (show vTally r s xs = allB xs 0 1000000 by simp [vTally, hr, hs]; omega)
    go_enter Try.func131, Try.ntmps131
    go_wp2_with (first | (go_at_call 66; refine (l00In_any _ _ _ _).mono ?_; rintro e w' ⟨rfl, rfl⟩) | (go_at_call 65; refine (l02Key_any _ _).mono ?_; rintro e w' ⟨rfl, rfl⟩))
    go_loop [3] (fun i => ∃ k : Nat, k ≤ xs.length ∧ i = .int .i64 k ∧ Hid (allB (xs.take k) 0 1000000 = true)) (fun i => xs.length - (intOf i).toNat)
    case atStart => exact ⟨0, Nat.zero_le _, rfl, rfl⟩
    case round =>
      obtain ⟨k, hk, rfl, hh⟩ := hrel
      by_cases hlt : k < xs.length
      · have hi : (k : Int) < (xs.length : Int) := by omega
        obtain ⟨b', o', x, rfl, hc, hxk⟩ := HX.out.at_ hlt
        cases hb : inB x 0 1000000 with
        | true =>
          have he := hid (allB_snoc hh hxk hb)
          go_wp2_with ((go_at_call 66; refine (l00In_any _ _ _ _).mono ?_; rintro e w' ⟨rfl, rfl⟩))
          exact ⟨⟨k + 1, by omega, by go_num, he⟩, by simp [intOf]; omega⟩
        | false =>
          have he := hid (allB_no hxk hb)
          go_wp2_with ((go_at_call 66; refine (l00In_any _ _ _ _).mono ?_; rintro e w' ⟨rfl, rfl⟩))
          go_ret
          exact ⟨ret_bool (by rw [hv.out, he.out]), rfl⟩
      · have hi : ¬ (k : Int) < (xs.length : Int) := by omega
        go_wp2
        go_ret
        have he := hh.out
        rw [List.take_of_length_le (by omega)] at he
        exact ⟨ret_bool (by rw [hv.out, he]), rfl⟩
  all_goals
    have hv := hid (show vTally r s xs = false by simp [vTally]; omega)
    go_enter Try.func131, Try.ntmps131
    go_wp2_with (first | (go_at_call 66; refine (l00In_any _ _ _ _).mono ?_; rintro e w' ⟨rfl, rfl⟩) | (go_at_call 65; refine (l02Key_any _ _).mono ?_; rintro e w' ⟨rfl, rfl⟩))
    go_ret
    exact ⟨ret_bool hv.out.symm, rfl⟩
set_option maxHeartbeats 1000000 in
theorem iValidTally_any (r s : Int) (A : Option Addr) (c : Nat) (x : List Int) (w : World) (hr : W64 r) (hs : W64 s) (hx : RdL (Value.int .i64) w A x) (hn : x.length ≤ 1048576) (we : ∀ y ∈ x, W64 y) :
    Calls Try.prog 133 #[.agg #[.int .i64 r, .int .i64 s, .slice A x.length c]] w fun e w' => e = .returned (.bool (vTally r s x)) ∧ Below w.heap.size w w' := by
  have HX := hid hx
  clear hx we hr hs
  cases hr : inB r 1 8 with
  | false =>
    have hv := hid (show vTally r s x = false by simp [vTally, hr])
    go_enter Try.func133, Try.ntmps133
    go_wp2_with ((go_at_call 123; refine (areRounds_any _ _).mono ?_; rintro e w' ⟨rfl, rfl⟩))
    go_ret
    exact ⟨ret_bool hv.out.symm, below_a1 _ _⟩
  | true =>
  cases hs : inB s 0 4294967295 with
  | false =>
    have hv := hid (show vTally r s x = false by simp [vTally, hs])
    go_enter Try.func133, Try.ntmps133
    go_wp2_with (first | (go_at_call 123; refine (areRounds_any _ _).mono ?_; rintro e w' ⟨rfl, rfl⟩) | (go_at_call 69; refine (IsKey_any _ _).mono ?_; rintro e w' ⟨rfl, rfl⟩))
    go_ret
    exact ⟨ret_bool hv.out.symm, below_a1 _ _⟩
  | true =>
  rcases three x.length 1 512 (by omega) with ⟨h3, h4⟩ | ⟨h3, h4⟩ | ⟨h3, h4⟩
  · have hv := hid (show vTally r s x = allB x 0 1000000 by simp [vTally, hr, hs]; omega)
    go_enter Try.func133, Try.ntmps133
    go_wp2_with (first | (go_at_call 123; refine (areRounds_any _ _).mono ?_; rintro e w' ⟨rfl, rfl⟩) | (go_at_call 69; refine (IsKey_any _ _).mono ?_; rintro e w' ⟨rfl, rfl⟩) | (go_at_call 68; refine (areWithin_any A c x _ _ _ (HX.out.below (below_a1 _ _)) hn).mono ?_; rintro e w1 ⟨rfl, hb⟩))
    go_ret
    exact ⟨ret_bool hv.out.symm, (below_call (below_a1 _ _) hb).out⟩
  all_goals
    have hv := hid (show vTally r s x = false by simp [vTally]; omega)
    go_enter Try.func133, Try.ntmps133
    go_wp2_with (first | (go_at_call 123; refine (areRounds_any _ _).mono ?_; rintro e w' ⟨rfl, rfl⟩) | (go_at_call 69; refine (IsKey_any _ _).mono ?_; rintro e w' ⟨rfl, rfl⟩))
    go_ret
    exact ⟨ret_bool hv.out.symm, below_a1 _ _⟩
end Go.Proofs.Ytlcpchpodcchlaa
