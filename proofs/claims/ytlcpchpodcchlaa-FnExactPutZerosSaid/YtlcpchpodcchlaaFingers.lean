/-
  Fingers and zeros: valid ones, by contracts.
-/
import Derived.Test.YtlcpchpodcchlaaWithin
namespace Go.Proofs.Ytlcpchpodcchlaa
open Go.RowKit
set_option linter.unusedVariables false

/-- A power of two from 2 to 512. -/
def isPow (q : Int) : Prop := q = 2 ∨ q = 4 ∨ q = 8 ∨ q = 16 ∨ q = 32 ∨ q = 64 ∨ q = 128 ∨ q = 256 ∨ q = 512
instance (q : Int) : Decidable (isPow q) := by unfold isPow; infer_instance
/-- n is a power of two from lo to 256. -/
def powB (n lo : Int) : Bool := decide (isPow n) && decide (lo ≤ n) && decide (n ≤ 256)
theorem isPow_two {p : Int} (h : isPow p) (hp : p ≤ 256) : isPow (2 * p) := by unfold isPow at h ⊢; omega
theorem isPow_gap {p q : Int} (h : isPow p) (hq : isPow q) (h1 : p ≤ q) (h2 : q < 2 * p) : q = p := by unfold isPow at h hq; omega
theorem isPow_bounds {p : Int} (h : isPow p) : 2 ≤ p ∧ p ≤ 512 := by unfold isPow at h; omega
theorem and_pow : ∀ n : Nat, n < 257 → 1 < n → (bits .and .i64 (n : Int) ((n : Int) - 1) == 0) = decide (isPow n) := by decide +kernel

set_option maxHeartbeats 800000 in
theorem l04Power_any (n lo : Int) (w : World) (hlo : isPow lo) (hl : lo ≤ 256) :
    Calls Try.prog 124 #[.int .i64 n, .int .i64 lo, .int .i64 256] w fun e w' => e = .returned (.bool (powB n lo)) ∧ w = w' := by
  have HL := hid hlo
  obtain ⟨hl2, _⟩ := isPow_bounds hlo
  clear hlo
  go_enter Try.func124, Try.ntmps124
  go_wp2
  go_loop [7] (fun i => ∃ p : Int, i = .int .i64 p ∧ 2 ≤ p ∧ p ≤ 512 ∧ Hid (isPow p) ∧ Hid (∀ q, isPow q → lo ≤ q → q < p → q ≠ n) ∧ lo ≤ p) (fun i => (512 - intOf i).toNat)
  case atStart => exact ⟨lo, rfl, by omega, by omega, HL, fun q _ h1 h2 => absurd h1 (by omega), by omega⟩
  case round =>
    obtain ⟨p, rfl, hp2, hp5, hP, hQ, hlp⟩ := hrel
    by_cases hlt : p ≤ 256
    · by_cases he : p = n
      · have hv := hid (show powB n lo = true by subst he; simp [powB, hP.out]; omega)
        have t : (p == n) = true := by simp [he]
        clear he
        go_wp2
        go_ret
        exact ⟨ret_bool hv.out.symm, rfl⟩
      · have t : (p == n) = false := by simp [he]
        have hP1 := hid (isPow_two hP.out hlt)
        have hQ1 : Hid (∀ q, isPow q → lo ≤ q → q < 2 * p → q ≠ n) := fun q h1 h2 h3 => by
          rcases Int.lt_or_le q p with h4 | h4
          · exact hQ.out q h1 h2 h4
          · rw [isPow_gap hP.out h1 h4 h3]; exact he
        clear he
        go_wp2
        exact ⟨⟨2 * p, rfl, by omega, by omega, hP1, hQ1, by omega⟩, by simp [intOf]; omega⟩
    · have hv := hid (show powB n lo = false by
        have h1 := hQ.out n
        simp only [powB, Bool.and_eq_false_iff, decide_eq_false_iff_not]
        by_cases h2 : isPow n
        · by_cases h3 : lo ≤ n
          · exact .inr fun h4 => h1 h2 h3 (by omega) rfl
          · exact .inl (.inr h3)
        · exact .inl (.inl h2))
      go_wp2
      go_ret
      exact ⟨ret_bool hv.out.symm, rfl⟩
set_option maxHeartbeats 400000 in
theorem isPowerOfTwo_any (n : Nat) (lo : Int) (w : World) (hlo : 2 ≤ lo) (hl : lo ≤ 256) (hn : n ≤ 1048576) :
    Calls Try.prog 125 #[.int .i64 n, .int .i64 lo, .int .i64 256] w fun e w' => e = .returned (.bool (powB n lo)) ∧ w = w' := by
  rcases three n lo 256 hl with ⟨h3, h4⟩ | ⟨h3, h4⟩ | ⟨h3, h4⟩
  · have ha := and_pow n (by omega) (by omega)
    have hv := hid (show powB n lo = decide (isPow n) by unfold powB; rw [decide_eq_true (p := lo ≤ (n : Int)) h3, decide_eq_true (p := (n : Int) ≤ 256) h4]; simp)
    cases hd : decide (isPow n) with
    | true =>
      rw [hd] at ha hv
      clear hd
      go_enter Try.func125, Try.ntmps125
      go_wp2
      go_ret
      exact ⟨ret_bool hv.out.symm, rfl⟩
    | false =>
      rw [hd] at ha hv
      clear hd
      go_enter Try.func125, Try.ntmps125
      go_wp2
      go_ret
      exact ⟨ret_bool hv.out.symm, rfl⟩
  all_goals
    have hv := hid (show powB n lo = false by simp [powB]; omega)
    go_enter Try.func125, Try.ntmps125
    go_wp2
    go_ret
    exact ⟨ret_bool hv.out.symm, rfl⟩

/-- Fingers are valid. -/
def vFingers (s : Int) (xs : List Int) : Bool := inB s 0 4294967295 && powB xs.length 2 && allB xs 0 255
set_option maxHeartbeats 1000000 in
theorem l04Fingers_any (b o c : Nat) (A : Option Addr) (s : Int) (xs : List Int) (w : World) (h0 : w.cell? ⟨b, o, none⟩ = some (.int .i64 s))
    (h1 : w.cell? ⟨b, o + 1, none⟩ = some (.slice A xs.length c)) (hx : RdL (Value.int .i64) w A xs) (hn : xs.length ≤ 1048576) :
    Calls Try.prog 102 #[.pointer (some ⟨b, o, none⟩)] w fun e w' => e = .returned (.bool (vFingers s xs)) ∧ w = w' := by
  have HX := hid hx
  clear hx
  cases hs : inB s 0 4294967295 with
  | false =>
    have hv := hid (show vFingers s xs = false by simp [vFingers, hs])
    go_enter Try.func102, Try.ntmps102
    go_wp2_with ((go_at_call 65; refine (l02Key_any _ _).mono ?_; rintro e w' ⟨rfl, rfl⟩))
    go_ret
    exact ⟨ret_bool hv.out.symm, rfl⟩
  | true =>
  cases hp : powB xs.length 2 with
  | false =>
    have hv := hid (show vFingers s xs = false by simp [vFingers, hp])
    go_enter Try.func102, Try.ntmps102
    go_wp2_with (first | (go_at_call 65; refine (l02Key_any _ _).mono ?_; rintro e w' ⟨rfl, rfl⟩) | (go_at_call 124; refine (l04Power_any _ _ _ (by decide) (by omega)).mono ?_; rintro e w' ⟨rfl, rfl⟩))
    go_ret
    exact ⟨ret_bool hv.out.symm, rfl⟩
  | true =>
  have hv := hid (show vFingers s xs = allB xs 0 255 by simp [vFingers, hs, hp])
  go_enter Try.func102, Try.ntmps102
  go_wp2_with (first | (go_at_call 65; refine (l02Key_any _ _).mono ?_; rintro e w' ⟨rfl, rfl⟩) | (go_at_call 124; refine (l04Power_any _ _ _ (by decide) (by omega)).mono ?_; rintro e w' ⟨rfl, rfl⟩))
  clear hs hp
  go_loop [3] (fun i => ∃ k : Nat, k ≤ xs.length ∧ i = .int .i64 k ∧ Hid (allB (xs.take k) 0 255 = true)) (fun i => xs.length - (intOf i).toNat)
  case atStart => exact ⟨0, Nat.zero_le _, rfl, rfl⟩
  case round =>
    obtain ⟨k, hk, rfl, hh⟩ := hrel
    by_cases hlt : k < xs.length
    · have hi : (k : Int) < (xs.length : Int) := by omega
      obtain ⟨b', o', x, rfl, hc, hxk⟩ := HX.out.at_ hlt
      cases hb : inB x 0 255 with
      | true =>
        have he := hid (allB_snoc hh hxk hb)
        go_wp2_with ((go_at_call 66; refine (l00In_any _ _ _ _).mono ?_; rintro e w' ⟨rfl, rfl⟩))
        exact ⟨⟨k + 1, by omega, by go_num, he⟩, by simp [intOf]; omega⟩
      | false =>
        have he := hid (allB_no hxk hb)
        go_wp2_with ((go_at_call 66; refine (l00In_any _ _ _ _).mono ?_; rintro e w' ⟨rfl, rfl⟩))
        go_ret
        exact ⟨ret_bool (by rw [hv.out, he.out]), rfl⟩
    · have hi : ¬ (k : Int) < (xs.length : Int) := by omega
      go_wp2
      go_ret
      have he := hh.out
      rw [List.take_of_length_le (by omega)] at he
      exact ⟨ret_bool (by rw [hv.out, he]), rfl⟩
set_option maxHeartbeats 1000000 in
theorem iValidFingers_any (s : Int) (A : Option Addr) (c : Nat) (x : List Int) (w : World) (hs : W64 s) (hx : RdL (Value.int .i64) w A x) (hn : x.length ≤ 1048576) (we : ∀ y ∈ x, W64 y) :
    Calls Try.prog 105 #[.agg #[.int .i64 s, .slice A x.length c]] w fun e w' => e = .returned (.bool (vFingers s x)) ∧ Below w.heap.size w w' := by
  have HX := hid hx
  clear hx we hs
  cases hs : inB s 0 4294967295 with
  | false =>
    have hv := hid (show vFingers s x = false by simp [vFingers, hs])
    go_enter Try.func105, Try.ntmps105
    go_wp2_with ((go_at_call 69; refine (IsKey_any _ _).mono ?_; rintro e w' ⟨rfl, rfl⟩))
    go_ret
    exact ⟨ret_bool hv.out.symm, below_a1 _ _⟩
  | true =>
  cases hp : powB x.length 2 with
  | false =>
    have hv := hid (show vFingers s x = false by simp [vFingers, hp])
    go_enter Try.func105, Try.ntmps105
    go_wp2_with (first | (go_at_call 69; refine (IsKey_any _ _).mono ?_; rintro e w' ⟨rfl, rfl⟩) | (go_at_call 125; refine (isPowerOfTwo_any _ _ _ (by omega) (by omega) hn).mono ?_; rintro e w' ⟨rfl, rfl⟩))
    go_ret
    exact ⟨ret_bool hv.out.symm, below_a1 _ _⟩
  | true =>
  have hv := hid (show vFingers s x = allB x 0 255 by simp [vFingers, hs, hp])
  go_enter Try.func105, Try.ntmps105
  go_wp2_with (first | (go_at_call 69; refine (IsKey_any _ _).mono ?_; rintro e w' ⟨rfl, rfl⟩) | (go_at_call 125; refine (isPowerOfTwo_any _ _ _ (by omega) (by omega) hn).mono ?_; rintro e w' ⟨rfl, rfl⟩) | (go_at_call 68; refine (areWithin_any A c x _ _ _ (HX.out.below (below_a1 _ _)) hn).mono ?_; rintro e w1 ⟨rfl, hb⟩))
  go_ret
  exact ⟨ret_bool hv.out.symm, (below_call (below_a1 _ _) hb).out⟩

/-- Zeros are valid. -/
def vZeros (s : Int) (xs : List Int) : Bool := inB s 0 4294967295 && powB xs.length 16 && allB xs 0 33
set_option maxHeartbeats 1000000 in
theorem l04Zeros_any (b o c : Nat) (A : Option Addr) (s : Int) (xs : List Int) (w : World) (h0 : w.cell? ⟨b, o, none⟩ = some (.int .i64 s))
    (h1 : w.cell? ⟨b, o + 1, none⟩ = some (.slice A xs.length c)) (hx : RdL (Value.int .i64) w A xs) (hn : xs.length ≤ 1048576) :
    Calls Try.prog 92 #[.pointer (some ⟨b, o, none⟩)] w fun e w' => e = .returned (.bool (vZeros s xs)) ∧ w = w' := by
  have HX := hid hx
  clear hx
  cases hs : inB s 0 4294967295 with
  | false =>
    have hv := hid (show vZeros s xs = false by simp [vZeros, hs])
    go_enter Try.func92, Try.ntmps92
    go_wp2_with ((go_at_call 65; refine (l02Key_any _ _).mono ?_; rintro e w' ⟨rfl, rfl⟩))
    go_ret
    exact ⟨ret_bool hv.out.symm, rfl⟩
  | true =>
  cases hp : powB xs.length 16 with
  | false =>
    have hv := hid (show vZeros s xs = false by simp [vZeros, hp])
    go_enter Try.func92, Try.ntmps92
    go_wp2_with (first | (go_at_call 65; refine (l02Key_any _ _).mono ?_; rintro e w' ⟨rfl, rfl⟩) | (go_at_call 124; refine (l04Power_any _ _ _ (by decide) (by omega)).mono ?_; rintro e w' ⟨rfl, rfl⟩))
    go_ret
    exact ⟨ret_bool hv.out.symm, rfl⟩
  | true =>
  have hv := hid (show vZeros s xs = allB xs 0 33 by simp [vZeros, hs, hp])
  go_enter Try.func92, Try.ntmps92
  go_wp2_with (first | (go_at_call 65; refine (l02Key_any _ _).mono ?_; rintro e w' ⟨rfl, rfl⟩) | (go_at_call 124; refine (l04Power_any _ _ _ (by decide) (by omega)).mono ?_; rintro e w' ⟨rfl, rfl⟩))
  clear hs hp
  go_loop [3] (fun i => ∃ k : Nat, k ≤ xs.length ∧ i = .int .i64 k ∧ Hid (allB (xs.take k) 0 33 = true)) (fun i => xs.length - (intOf i).toNat)
  case atStart => exact ⟨0, Nat.zero_le _, rfl, rfl⟩
  case round =>
    obtain ⟨k, hk, rfl, hh⟩ := hrel
    by_cases hlt : k < xs.length
    · have hi : (k : Int) < (xs.length : Int) := by omega
      obtain ⟨b', o', x, rfl, hc, hxk⟩ := HX.out.at_ hlt
      cases hb : inB x 0 33 with
      | true =>
        have he := hid (allB_snoc hh hxk hb)
        go_wp2_with ((go_at_call 66; refine (l00In_any _ _ _ _).mono ?_; rintro e w' ⟨rfl, rfl⟩))
        exact ⟨⟨k + 1, by omega, by go_num, he⟩, by simp [intOf]; omega⟩
      | false =>
        have he := hid (allB_no hxk hb)
        go_wp2_with ((go_at_call 66; refine (l00In_any _ _ _ _).mono ?_; rintro e w' ⟨rfl, rfl⟩))
        go_ret
        exact ⟨ret_bool (by rw [hv.out, he.out]), rfl⟩
    · have hi : ¬ (k : Int) < (xs.length : Int) := by omega
      go_wp2
      go_ret
      have he := hh.out
      rw [List.take_of_length_le (by omega)] at he
      exact ⟨ret_bool (by rw [hv.out, he]), rfl⟩
set_option maxHeartbeats 1000000 in
theorem iValidZeros_any (s : Int) (A : Option Addr) (c : Nat) (x : List Int) (w : World) (hs : W64 s) (hx : RdL (Value.int .i64) w A x) (hn : x.length ≤ 1048576) (we : ∀ y ∈ x, W64 y) :
    Calls Try.prog 95 #[.agg #[.int .i64 s, .slice A x.length c]] w fun e w' => e = .returned (.bool (vZeros s x)) ∧ Below w.heap.size w w' := by
  have HX := hid hx
  clear hx we hs
  cases hs : inB s 0 4294967295 with
  | false =>
    have hv := hid (show vZeros s x = false by simp [vZeros, hs])
    go_enter Try.func95, Try.ntmps95
    go_wp2_with ((go_at_call 69; refine (IsKey_any _ _).mono ?_; rintro e w' ⟨rfl, rfl⟩))
    go_ret
    exact ⟨ret_bool hv.out.symm, below_a1 _ _⟩
  | true =>
  cases hp : powB x.length 16 with
  | false =>
    have hv := hid (show vZeros s x = false by simp [vZeros, hp])
    go_enter Try.func95, Try.ntmps95
    go_wp2_with (first | (go_at_call 69; refine (IsKey_any _ _).mono ?_; rintro e w' ⟨rfl, rfl⟩) | (go_at_call 125; refine (isPowerOfTwo_any _ _ _ (by omega) (by omega) hn).mono ?_; rintro e w' ⟨rfl, rfl⟩))
    go_ret
    exact ⟨ret_bool hv.out.symm, below_a1 _ _⟩
  | true =>
  have hv := hid (show vZeros s x = allB x 0 33 by simp [vZeros, hs, hp])
  go_enter Try.func95, Try.ntmps95
  go_wp2_with (first | (go_at_call 69; refine (IsKey_any _ _).mono ?_; rintro e w' ⟨rfl, rfl⟩) | (go_at_call 125; refine (isPowerOfTwo_any _ _ _ (by omega) (by omega) hn).mono ?_; rintro e w' ⟨rfl, rfl⟩) | (go_at_call 68; refine (areWithin_any A c x _ _ _ (HX.out.below (below_a1 _ _)) hn).mono ?_; rintro e w1 ⟨rfl, hb⟩))
  go_ret
  exact ⟨ret_bool hv.out.symm, (below_call (below_a1 _ _) hb).out⟩

end Go.Proofs.Ytlcpchpodcchlaa
