/-
  How many digits are 0 before the first 1: reference and program, by contracts.
-/
import Derived.Test.YtlcpchpodcchlaaNum
import Derived.Test.YtlcpchpodcchlaaRet
import Derived.Lib.Strings
import Derived.Lib.Slices
import Derived.Lib.Small
import Derived.Lib.Walk
import Derived.Lib.BitFns
namespace Go.Proofs.Ytlcpchpodcchlaa
open Go.RowKit
set_option linter.unusedVariables false

theorem bitLen_zero : Lib.bitLen 0 = 0 := by decide
theorem bitLen_le_iff (n x : Nat) (hx : x < 2 ^ 64) : Lib.bitLen x ≤ n ↔ x < 2 ^ n := by
  induction n generalizing x with
  | zero =>
    by_cases h0 : x = 0
    · subst h0; simp [bitLen_zero]
    · rw [Lib.bitLen_half x h0 hx]; simp; omega
  | succ n ih =>
    by_cases h0 : x = 0
    · subst h0; simp [bitLen_zero, Nat.pow_pos]
    · rw [Lib.bitLen_half x h0 hx]
      have := ih (x / 2) (by omega)
      rw [Nat.pow_succ]
      omega
theorem wrap64_small (z : Nat) (h : z ≤ 100) : wrap64 (z : Int) = z := by
  simp only [wrap64]
  omega
theorem wrap64_small' (z : Nat) (a : Int) (h0 : 0 ≤ a) (h : a + z ≤ 100) : wrap64 (a + (z : Int)) = a + z := by
  simp only [wrap64]
  omega
/-- The leading zeros of a word of 32 digits. -/
def lzN (x : Nat) : Nat := 32 - Lib.bitLen x
theorem lzN_le (x : Nat) : lzN x ≤ 32 := Nat.sub_le _ _
theorem lzN_eq {x n : Nat} (hx : x < 4294967296) (hn : n ≤ 32) (h1 : x < 2 ^ (32 - n)) (h2 : n = 32 ∨ 2 ^ (31 - n) ≤ x) : lzN x = n := by
  unfold lzN
  have h3 := (bitLen_le_iff (32 - n) x (by omega)).2 h1
  rcases h2 with h | h
  · omega
  · have h4 : ¬ Lib.bitLen x ≤ 31 - n := fun h5 => by
      have := (bitLen_le_iff (31 - n) x (by omega)).1 h5
      omega
    omega
theorem natCast_pow_twoI (m : Nat) : (((2 ^ m : Nat) : Int)) = (2 : Int) ^ m := by rw [Int.natCast_pow]; rfl
theorem shr_zero_iff {x m : Nat} : x / 2 ^ m = 0 ↔ x < 2 ^ m := Nat.div_eq_zero_iff_lt (Nat.pow_pos (by omega))

set_option maxHeartbeats 4000000 in
set_option maxRecDepth 100000 in
theorem bitsLen32_any (x : Int) (w : World) (h0 : 0 ≤ x) (h1 : x ≤ 4294967295) :
    Calls Try.prog 141 #[.int .u32 x] w fun e w' => e = .returned (.int .i64 (Lib.bitLen x.toNat)) ∧ w = w' := by
  have h256 : ∀ b : Int, 0 ≤ b → b ≤ 255 → Lib.len8 b = (Lib.bitLen b.toNat : Int) ∧ Lib.bitLen b.toNat ≤ 8 := fun b p q => ⟨Lib.len8_of b p q, Lib.bitLen_le8' b p q⟩
  have H := hid h256
  clear h256
  rcases (show 16777216 ≤ x ∨ (65536 ≤ x ∧ x < 16777216) ∨ (256 ≤ x ∧ x < 65536) ∨ x < 256 by omega) with h2 | ⟨h2, h3⟩ | ⟨h2, h3⟩ | h2
  · have t1 : (65536 : Int) ≤ x := by omega
    have t2 : (256 : Int) ≤ x / 65536 := by omega
    have t3 : 0 ≤ x / 65536 / 256 := by omega
    have t4 : x / 65536 / 256 ≤ 255 := by omega
    go_enter Try.func141, Try.ntmps141
    go_wp2
    go_ret
    obtain ⟨e1, e2⟩ := H.out (x / 65536 / 256) t3 t4
    have e : (x / 65536 / 256).toNat = x.toNat / 16777216 := by omega
    have s := Lib.bitLen_shift24 x.toNat (by omega) (by omega)
    rw [e] at e1 e2
    exact ⟨ret_int (by rw [e1, wrap64_small _ (by omega), wrap64_small' _ 24 (by omega) (by omega), s]; rfl), rfl⟩
  · have t1 : (65536 : Int) ≤ x := by omega
    have t2 : x / 65536 < (256 : Int) := by omega
    have t3 : 0 ≤ x / 65536 := by omega
    have t4 : x / 65536 ≤ 255 := by omega
    go_enter Try.func141, Try.ntmps141
    go_wp2
    go_ret
    obtain ⟨e1, e2⟩ := H.out (x / 65536) t3 t4
    have e : (x / 65536).toNat = x.toNat / 65536 := by omega
    have s := Lib.bitLen_shift16 x.toNat (by omega) (by omega)
    rw [e] at e1 e2
    exact ⟨ret_int (by rw [e1, wrap64_small _ (by omega), wrap64_small' _ 16 (by omega) (by omega), s]; rfl), rfl⟩
  · have t1 : x < (65536 : Int) := by omega
    have t3 : 0 ≤ x / 256 := by omega
    have t4 : x / 256 ≤ 255 := by omega
    go_enter Try.func141, Try.ntmps141
    go_wp2
    go_ret
    obtain ⟨e1, e2⟩ := H.out (x / 256) t3 t4
    have e : (x / 256).toNat = x.toNat / 256 := by omega
    have s := Lib.bitLen_shift8 x.toNat (by omega) (by omega)
    rw [e] at e1 e2
    exact ⟨ret_int (by rw [e1, wrap64_small _ (by omega), wrap64_small' _ 8 (by omega) (by omega), s]; rfl), rfl⟩
  · have t1 : x < (65536 : Int) := by omega
    have t4 : x ≤ 255 := by omega
    go_enter Try.func141, Try.ntmps141
    go_wp2
    go_ret
    obtain ⟨e1, e2⟩ := H.out x h0 t4
    exact ⟨ret_int (by rw [e1, wrap64_small _ (by omega), wrap64_small _ (by omega)]), rfl⟩
theorem bitsLz32_any (x : Nat) (w : World) (h1 : x < 4294967296) :
    Calls Try.prog 137 #[.int .u32 x] w fun e w' => e = .returned (.int .i64 (lzN x)) ∧ w = w' := by
  have hl : Lib.bitLen x ≤ 32 := (bitLen_le_iff 32 x (by omega)).2 (by omega)
  go_enter Try.func137, Try.ntmps137
  go_wp2_with (go_at_call 141; refine (bitsLen32_any (x : Int) _ (by omega) (by omega)).mono ?_; rintro e w' ⟨rfl, rfl⟩)
  go_ret
  exact ⟨ret_int (by unfold lzN; omega), rfl⟩
theorem ZerosOf_any (x : Nat) (w : World) (h1 : x < 4294967296) :
    Calls Try.prog 118 #[.int .i64 x] w fun e w' => e = .returned (.tuple #[.int .i64 (lzN x), .bool true]) ∧ w = w' := by
  have hk : inB (x : Int) 0 4294967295 = true := inB_iff.2 ⟨by omega, by omega⟩
  go_enter Try.func118, Try.ntmps118
  go_wp2_with (first | (go_at_call 69; refine (IsKey_any _ _).mono ?_; rintro e w' ⟨rfl, rfl⟩) | (go_at_call 137; refine (bitsLz32_any x _ h1).mono ?_; rintro e w' ⟨rfl, rfl⟩))
  go_ret2
  exact ⟨rfl, rfl⟩
set_option maxHeartbeats 800000 in
theorem l02Zeros_any (x : Nat) (w : World) (hx : x < 4294967296) :
    Calls Try.prog 114 #[.int .i64 x] w fun e w' => e = .returned (.int .i64 (lzN x)) ∧ w = w' := by
  go_enter Try.func114, Try.ntmps114
  go_wp2
  go_loop [3] (fun i => ∃ n : Nat, n ≤ 32 ∧ i = .int .i64 n ∧ Hid (x < 2 ^ (32 - n))) (fun i => 32 - (intOf i).toNat)
  case atStart => exact ⟨0, Nat.zero_le _, rfl, by show x < 2 ^ 32; omega⟩
  case round =>
    obtain ⟨n, hn, rfl, hh⟩ := hrel
    by_cases hlt : n < 32
    · have hi : (n : Int) < 32 := by omega
      by_cases hz : x / 2 ^ (31 - n) = 0
      · have ht : ((x : Int) / 2 ^ (31 - n) == 0) = true := by
          rw [beq_iff_eq, ← natCast_pow_twoI, ← Int.natCast_ediv, hz]; rfl
        have hn' : Hid (x < 2 ^ (32 - (n + 1))) := by
          have := shr_zero_iff.1 hz
          show x < 2 ^ (32 - (n + 1))
          rw [show 32 - (n + 1) = 31 - n by omega]; exact this
        clear hz
        go_wp2
        exact ⟨⟨n + 1, by omega, by go_num, hn'⟩, by simp [intOf]; omega⟩
      · have ht : ((x : Int) / 2 ^ (31 - n) == 0) = false := by
          rw [beq_eq_false_iff_ne, ← natCast_pow_twoI, ← Int.natCast_ediv]; omega
        have hv := hid (lzN_eq hx hn hh.out (.inr (by rw [shr_zero_iff] at hz; omega)))
        clear hz
        go_wp2
        go_ret
        exact ⟨ret_int (by rw [hv.out]), rfl⟩
    · obtain rfl : n = 32 := by omega
      have hv := hid (lzN_eq hx hn hh.out (.inl rfl))
      go_wp2
      go_ret
      exact ⟨ret_int (by rw [hv.out]; rfl), rfl⟩
end Go.Proofs.Ytlcpchpodcchlaa
