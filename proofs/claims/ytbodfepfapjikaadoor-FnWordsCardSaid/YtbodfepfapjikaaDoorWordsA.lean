/-
  Zeros from both sides; r8's numbers; bytes that are put together: by contracts.
-/
import Derived.Test.YtbodfepfapjikaaDoorText
import Derived.Test.YtbodfepfapjikaaDoorZeroCount
import Derived.Test.YtbodfepfapjikaaDoorHomesA
import Derived.Lib.TrailingZeros
import Derived.Laws.BytesArg
import Derived.Laws.Bits64b
namespace Go.Proofs.YtbodfepfapjikaaDoor
open Go.RowKit
set_option linter.unusedVariables false
set_option linter.unusedSimpArgs false

/-- The library's table, in its variable. -/
def TabW (w : World) : Prop := ∀ j, j < 32 → w.cell? ⟨0, j, none⟩ = some (.int .u8 (Lib.deBruijn32tab.getD j 0 : Nat))
theorem and_u32_nat (a b : Nat) (ha : a < 4294967296) (hb : b < 4294967296) : bits .and .u32 (a : Int) (b : Int) = ((a &&& b : Nat) : Int) := u32_and_nat a b ha hb
set_option maxHeartbeats 800000 in
theorem tz32_any (x : Nat) (hx : x < 4294967296) (w : World) (hT : TabW w) :
    Calls Tryd.prog 20 #[.int .u32 x] w fun e w' => e = .returned (.int .i64 (Lib.ctz 32 x)) ∧ w = w' := by
  by_cases hx0 : x = 0
  · subst hx0
    go_enter Tryd.func20, Tryd.ntmps20
    go_wp2
    go_ret
    exact ⟨rfl, rfl⟩
  · obtain ⟨hlow, hk⟩ := Lib.lowest_bit 32 x hx0 hx
    obtain ⟨hi, htab⟩ := Lib.deBruijn32_at _ hk
    obtain ⟨k, hke⟩ : ∃ k, k = Lib.ctz 32 x := ⟨_, rfl⟩
    rw [← hke] at hlow hk hi htab ⊢
    have key : bits BinOp.and IntKind.u32 (x : Int) (-(x : Int) % 4294967296) * 125613361 % 4294967296 / 134217728 = ((2 ^ k * 125613361 % 4294967296 / 134217728 : Nat) : Int) := by
      have e1 : -(x : Int) % 4294967296 = ((4294967296 - x : Nat) : Int) := by omega
      have hl : x &&& (4294967296 - x) = 2 ^ k := hlow
      rw [e1, and_u32_nat x _ hx (by omega), hl]
      generalize 2 ^ k = z
      omega
    obtain ⟨idx, hidx⟩ : ∃ idx, idx = 2 ^ k * 125613361 % 4294967296 / 134217728 := ⟨_, rfl⟩
    rw [← hidx] at hi htab key
    have hcell := hT idx hi
    rw [htab] at hcell
    have hxn : ((x : Int) == 0) = false := by simp; omega
    clear hlow htab hke hidx hT
    go_enter Tryd.func20, Tryd.ntmps20
    go_wp2_with (simp only [key])
    go_ret
    exact ⟨rfl, rfl⟩
theorem LowZerosOf_any (x : Nat) (w : World) (h1 : x < 4294967296) (hT : TabW w) :
    Calls Tryd.prog 13 #[.int .i64 x] w fun e w' => e = .returned (.tuple #[.int .i64 (Lib.ctz 32 x), .bool true]) ∧ w = w' := by
  have hk : inB (x : Int) 0 4294967295 = true := inB_iff.2 ⟨by omega, by omega⟩
  have CT := hid (tz32_any x h1 w hT)
  clear hT
  go_enter Tryd.func13, Tryd.ntmps13
  go_wp2_with (first | (go_at_call 15; refine (IsKey_any _ _).mono ?_; rintro e w' ⟨rfl, rfl⟩) | (go_at_call 20; refine (CT.out).mono ?_; rintro e w' ⟨rfl, rfl⟩))
  go_ret2
  exact ⟨rfl, rfl⟩
end Go.Proofs.YtbodfepfapjikaaDoor
