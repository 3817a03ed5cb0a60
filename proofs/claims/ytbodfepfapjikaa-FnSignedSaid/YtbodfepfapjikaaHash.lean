/-
  Hashes of keys, reference and program, by contracts.
-/
import Derived.Test.YtbodfepfapjikaaNum
import Derived.Test.YtbodfepfapjikaaOpen
namespace Go.Proofs.Ytbodfepfapjikaa
open Go.RowKit
set_option linter.unusedVariables false

def mixA (x : Nat) : Nat := (x ^^^ x / 1073741824) * 13787848793156543929 % 18446744073709551616
def mixB (x : Nat) : Nat := (x ^^^ x / 134217728) * 10723151780598845931 % 18446744073709551616
def mixC (x : Nat) : Nat := x ^^^ x / 2147483648
/-- All digits are mixed. -/
def mixU (x : Nat) : Nat := mixC (mixB (mixA x))
theorem mixC_lt {x : Nat} (hx : x < 18446744073709551616) : mixC x < 18446744073709551616 :=
  Nat.xor_lt_two_pow (n := 64) hx (Nat.lt_of_le_of_lt (Nat.div_le_self _ _) hx)
theorem mixA_lt (x : Nat) : mixA x < 18446744073709551616 := Nat.mod_lt _ (by omega)
theorem mixB_lt (x : Nat) : mixB x < 18446744073709551616 := Nat.mod_lt _ (by omega)
theorem mixU_lt (x : Nat) : mixU x < 18446744073709551616 := mixC_lt (mixB_lt _)
theorem mixA_eq (x : Nat) (hx : x < 18446744073709551616) : IntKind.u64.wrap (bits .xor .u64 (x : Int) ((x : Int) / 1073741824) * 13787848793156543929) = (mixA x : Int) := mixStep_u64 x 1073741824 13787848793156543929 hx
theorem mixB_eq (x : Nat) (hx : x < 18446744073709551616) : IntKind.u64.wrap (bits .xor .u64 (x : Int) ((x : Int) / 134217728) * 10723151780598845931) = (mixB x : Int) := mixStep_u64 x 134217728 10723151780598845931 hx
theorem mixC_eq (x : Nat) (hx : x < 18446744073709551616) : bits .xor .u64 (x : Int) ((x : Int) / 2147483648) = (mixC x : Int) := xorShift_u64 x 2147483648 hx
/-- The hash of a key with a salt. -/
def hashN (k s : Nat) : Nat := mixU ((k + s * 4294967296 + 11400714819323198485) % 18446744073709551616) / 4294967296
theorem hashN_lt (k s : Nat) : hashN k s < 4294967296 := by
  unfold hashN
  have := mixU_lt ((k + s * 4294967296 + 11400714819323198485) % 18446744073709551616)
  omega
/-- A number below n. -/
def belowN (k s n : Nat) : Nat := hashN k s * n / 4294967296
theorem belowN_lt (k s n : Nat) (hn : 0 < n) : belowN k s n < n := by
  unfold belowN
  rw [Nat.div_lt_iff_lt_mul (by omega), Nat.mul_comm]
  exact Nat.mul_lt_mul_of_pos_left (hashN_lt k s) hn
theorem below_mul_lt (k s n : Nat) (hn : n ≤ 4294967296) : hashN k s * n < 18446744073709551616 := by
  have h1 := hashN_lt k s
  have h2 : hashN k s * n ≤ 4294967295 * 4294967296 := Nat.mul_le_mul (by omega) hn
  omega

theorem hash_arg (k s : Nat) : IntKind.u64.wrap ((k : Int) + (s : Int) * 4294967296 + 11400714819323198485) = (((k + s * 4294967296 + 11400714819323198485) % 18446744073709551616 : Nat) : Int) := by
  rw [IntKind.wrap_u64]; omega
theorem hash_arg' (k s : Nat) : IntKind.u64.wrap ((k : Int) + 4294967296 * (s : Int) + 11400714819323198485) = (((k + s * 4294967296 + 11400714819323198485) % 18446744073709551616 : Nat) : Int) := by
  rw [IntKind.wrap_u64]; omega

theorem l02Mix_any (x : Nat) (w : World) (hx : x < 18446744073709551616) :
    Calls Try.prog 161 #[.int .u64 x] w fun e w' => e = .returned (.int .u64 (mixU x)) ∧ w = w' := by
  go_enter Try.func161, Try.ntmps161
  go_wp2
  go_ret
  exact ⟨ret_int (by rw [mixA_eq x hx, mixB_eq _ (mixA_lt x)]; exact mixC_eq _ (mixB_lt _)), rfl⟩
theorem MixHash_any (x : Nat) (w : World) (hx : x < 18446744073709551616) :
    Calls Try.prog 134 #[.int .u64 x] w fun e w' => e = .returned (.int .u64 (mixU x)) ∧ w = w' := by
  go_enter Try.func134, Try.ntmps134
  go_wp2
  go_ret
  exact ⟨ret_int (by rw [mixA_eq x hx, mixB_eq _ (mixA_lt x)]; exact mixC_eq _ (mixB_lt _)), rfl⟩
theorem l02Hash_any (k s : Nat) (w : World) (hk : k < 4294967296) (hs : s < 4294967296) :
    Calls Try.prog 149 #[.int .i64 k, .int .i64 s] w fun e w' => e = .returned (.int .i64 (hashN k s)) ∧ w = w' := by
  go_enter Try.func149, Try.ntmps149
  go_wp2_with fail
  rw [hash_arg]
  have hlt := mixU_lt ((k + s * 4294967296 + 11400714819323198485) % 18446744073709551616)
  obtain ⟨m, hm⟩ : ∃ m, m = mixU ((k + s * 4294967296 + 11400714819323198485) % 18446744073709551616) := ⟨_, rfl⟩
  have HM := hid hm
  refine (l02Mix_any _ _ (Nat.mod_lt _ (by omega))).mono ?_
  rintro e w' ⟨rfl, rfl⟩
  rw [← hm] at hlt ⊢
  clear hm
  have hh : hashN k s = m / 4294967296 := by rw [HM.out]; rfl
  have HH := hid hh
  clear hh
  go_wp2
  go_ret
  exact ⟨ret_int (by rw [HH.out]; omega), rfl⟩
theorem ihash_any (k s : Nat) (w : World) (hk : k < 4294967296) (hs : s < 4294967296) :
    Calls Try.prog 99 #[.int .i64 k, .int .i64 s] w fun e w' => e = .returned (.int .i64 (hashN k s)) ∧ w = w' := by
  go_enter Try.func99, Try.ntmps99
  go_wp2_with fail
  rw [hash_arg']
  have hlt := mixU_lt ((k + s * 4294967296 + 11400714819323198485) % 18446744073709551616)
  obtain ⟨m, hm⟩ : ∃ m, m = mixU ((k + s * 4294967296 + 11400714819323198485) % 18446744073709551616) := ⟨_, rfl⟩
  have HM := hid hm
  refine (MixHash_any _ _ (Nat.mod_lt _ (by omega))).mono ?_
  rintro e w' ⟨rfl, rfl⟩
  rw [← hm] at hlt ⊢
  clear hm
  have hh : hashN k s = m / 4294967296 := by rw [HM.out]; rfl
  have HH := hid hh
  clear hh
  go_wp2
  go_ret
  exact ⟨ret_int (by rw [HH.out]; omega), rfl⟩
theorem l02Below_any (k s n : Nat) (w : World) (hk : k < 4294967296) (hs : s < 4294967296) (hn : n ≤ 4294967296) :
    Calls Try.prog 122 #[.int .i64 k, .int .i64 s, .int .i64 n] w fun e w' => e = .returned (.int .i64 (belowN k s n)) ∧ w = w' := by
  have hb := below_mul_lt k s n hn
  have hh := hashN_lt k s
  go_enter Try.func122, Try.ntmps122
  go_wp2_with (go_at_call 149; refine (l02Hash_any k s _ hk hs).mono ?_; rintro e w' ⟨rfl, rfl⟩)
  go_ret
  exact ⟨ret_int (by unfold belowN; rw [Int.natCast_ediv, Int.natCast_mul]; rfl), rfl⟩
theorem ibelow_any (k s n : Nat) (w : World) (hk : k < 4294967296) (hs : s < 4294967296) (hn : n ≤ 4294967296) :
    Calls Try.prog 124 #[.int .i64 k, .int .i64 s, .int .i64 n] w fun e w' => e = .returned (.int .i64 (belowN k s n)) ∧ w = w' := by
  have hb := below_mul_lt k s n hn
  have hh := hashN_lt k s
  go_enter Try.func124, Try.ntmps124
  go_wp2_with (go_at_call 99; refine (ihash_any k s _ hk hs).mono ?_; rintro e w' ⟨rfl, rfl⟩)
  go_ret
  exact ⟨ret_int (by unfold belowN; rw [Int.natCast_ediv, Int.natCast_mul]; rfl), rfl⟩
/-- A salt plus a number. -/
def saltN (s k : Nat) : Nat := (s + k) % 4294967296
theorem saltN_lt (s k : Nat) : saltN s k < 4294967296 := Nat.mod_lt _ (by omega)
theorem salted_any (s k : Nat) (w : World) (hs : s < 4294967296) (hk : k < 4294967296) :
    Calls Try.prog 125 #[.int .i64 s, .int .i64 k] w fun e w' => e = .returned (.int .i64 (saltN s k)) ∧ w = w' := by
  go_enter Try.func125, Try.ntmps125
  go_wp2
  go_ret
  exact ⟨ret_int (by unfold saltN; omega), rfl⟩
end Go.Proofs.Ytbodfepfapjikaa
