/-
  The finger of a key and its houses: reference and program, by contracts.
-/
import Derived.Test.YtnngepnfljkbhaaFingers
import Derived.Test.YtnngepnfljkbhaaOwn
import Derived.Test.YtnngepnfljkbhaaCellsAt
namespace Go.Proofs.Ytnngepnfljkbhaa
open Go.RowKit
set_option linter.unusedVariables false

theorem bits_xor_i64_nat (a b : Nat) (ha : a < 9223372036854775808) (hb : b < 9223372036854775808) :
    bits .xor .i64 (a : Int) (b : Int) = ((a ^^^ b : Nat) : Int) := by
  have hx : a ^^^ b < 2 ^ 63 := Nat.xor_lt_two_pow (by omega) (by omega)
  have h1 : (BitVec.ofInt 64 (a : Int)).toNat = a := by
    rw [BitVec.ofInt_natCast, BitVec.toNat_ofNat]; exact Nat.mod_eq_of_lt (by omega)
  have h2 : (BitVec.ofInt 64 (b : Int)).toNat = b := by
    rw [BitVec.ofInt_natCast, BitVec.toNat_ofNat]; exact Nat.mod_eq_of_lt (by omega)
  show IntKind.i64.wrap ((BitVec.ofInt 64 (a : Int) ^^^ BitVec.ofInt 64 (b : Int)).toNat : Int) = _
  rw [BitVec.toNat_xor, h1, h2, IntKind.wrap_i64]
  omega
/-- The finger of a key. -/
def fingerN (key s : Nat) : Nat := belowN key s 255 + 1
theorem fingerN_le (key s : Nat) : 1 ≤ fingerN key s ∧ fingerN key s ≤ 255 := by
  have := belowN_lt key s 255 (by omega)
  unfold fingerN
  omega
/-- Its first house. -/
def houseN (key s n : Nat) : Nat := belowN key (saltN s 1) (n / 2)
/-- The other house. -/
def otherN (finger house s n : Nat) : Nat := house ^^^ belowN finger (saltN s 2) (n / 2)
theorem houseN_lt {key s n : Nat} (hn : 2 ≤ n) : houseN key s n < n / 2 := belowN_lt _ _ _ (by omega)
theorem otherN_lt {finger house s n : Nat} (hn : isPow (n : Int)) (hh : house < n / 2) (h2 : n ≤ 256) : otherN finger house s n < n / 2 := by
  have hb := belowN_lt finger (saltN s 2) (n / 2) (by omega)
  unfold isPow at hn
  unfold otherN
  have key : ∀ k, n / 2 = 2 ^ k → house ^^^ belowN finger (saltN s 2) (n / 2) < n / 2 := fun k hk => by
    rw [hk] at hh hb ⊢
    exact Nat.xor_lt_two_pow hh hb
  rcases hn with h | h | h | h | h | h | h | h | h
  · exact key 0 (by omega)
  · exact key 1 (by omega)
  · exact key 2 (by omega)
  · exact key 3 (by omega)
  · exact key 4 (by omega)
  · exact key 5 (by omega)
  · exact key 6 (by omega)
  · exact key 7 (by omega)
  · omega

theorem half_toNat (n : Nat) : ((n : Int) / 2).toNat = n / 2 := by omega
theorem l02Below_int (k s : Nat) (n : Int) (w : World) (hk : k < 4294967296) (hs : s < 4294967296) (h0 : 0 ≤ n) (hn : n ≤ 4294967296) :
    Calls Try.prog 129 #[.int .i64 k, .int .i64 s, .int .i64 n] w fun e w' => e = .returned (.int .i64 (belowN k s n.toNat)) ∧ w = w' := by
  obtain ⟨n, rfl⟩ := Int.eq_ofNat_of_zero_le h0
  exact l02Below_any k s n w hk hs (by omega)
theorem ibelow_int (k s : Nat) (n : Int) (w : World) (hk : k < 4294967296) (hs : s < 4294967296) (h0 : 0 ≤ n) (hn : n ≤ 4294967296) :
    Calls Try.prog 130 #[.int .i64 k, .int .i64 s, .int .i64 n] w fun e w' => e = .returned (.int .i64 (belowN k s n.toNat)) ∧ w = w' := by
  obtain ⟨n, rfl⟩ := Int.eq_ofNat_of_zero_le h0
  exact ibelow_any k s n w hk hs (by omega)
set_option maxRecDepth 100000 in
set_option maxHeartbeats 800000 in
theorem l04Finger_any (p s n c key : Nat) (A : Option Addr) (w : World) (h0 : w.cell? ⟨p, 0, none⟩ = some (.int .i64 s)) (h1 : w.cell? ⟨p, 1, none⟩ = some (.slice A n c)) (hs : s < 4294967296) (hk : key < 4294967296) (hn : n ≤ 256) :
    Calls Try.prog 98 #[.pointer (some ⟨p, 0, none⟩), .int .i64 key] w fun e w' => e = .returned (.tuple #[.int .i64 (fingerN key s), .int .i64 (houseN key s n)]) ∧ ∃ m, w' = w.drewN m := by
  have hl1 := saltN_lt s 1
  have hl2 := belowN_lt key s 255 (by omega)
  have hl3 := hid (half_toNat n)
  go_enter Try.func98, Try.ntmps98
  go_wp2
  go_quiet ((first
    | (go_at_call 142; refine Calls.quiet_of_same ((l04Salt_any _ 1 _ hs (by omega)).mono fun _ _ ⟨h, h'⟩ => ⟨h, h'.symm⟩))
    | (go_at_call 129; refine Calls.quiet_of_same ((l02Below_int _ _ _ _ hk (by first | with_reducible assumption | exact saltN_lt _ _) (by omega) (by omega)).mono fun _ _ ⟨h, h'⟩ => ⟨h, h'.symm⟩))))
  go_wp2
  go_ret2
  exact ⟨by rw [hl3.out]; rfl, _, rfl⟩
set_option maxRecDepth 100000 in
set_option maxHeartbeats 800000 in
theorem l04Other_any (p s n c finger house : Nat) (A : Option Addr) (w : World) (h0 : w.cell? ⟨p, 0, none⟩ = some (.int .i64 s)) (h1 : w.cell? ⟨p, 1, none⟩ = some (.slice A n c)) (hs : s < 4294967296) (hk : finger < 4294967296) (hn2 : 2 ≤ n) (hn : n ≤ 256) (hh : house < 4294967296) :
    Calls Try.prog 143 #[.pointer (some ⟨p, 0, none⟩), .int .i64 finger, .int .i64 house] w fun e w' => e = .returned (.int .i64 (otherN finger house s n)) ∧ ∃ m, w' = w.drewN m := by
  have hl3 := hid (half_toNat n)
  have hl4 := hid (belowN_lt finger (saltN s 2) (n / 2) (by omega))
  go_enter Try.func143, Try.ntmps143
  go_wp2
  go_quiet ((first
    | (go_at_call 142; refine Calls.quiet_of_same ((l04Salt_any _ 2 _ hs (by omega)).mono fun _ _ ⟨h, h'⟩ => ⟨h, h'.symm⟩))
    | (go_at_call 129; refine Calls.quiet_of_same ((l02Below_int _ _ _ _ hk (by first | with_reducible assumption | exact saltN_lt _ _) (by omega) (by omega)).mono fun _ _ ⟨h, h'⟩ => ⟨h, h'.symm⟩))))
  go_wp2
  go_ret
  exact ⟨ret_int (by have := hl4.out; rw [bits_xor_i64_nat _ _ (by omega) (by omega)]; rfl), _, rfl⟩
end Go.Proofs.Ytnngepnfljkbhaa
