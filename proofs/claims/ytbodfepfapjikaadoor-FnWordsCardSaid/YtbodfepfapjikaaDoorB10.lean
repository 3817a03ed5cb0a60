/-
  What the laws of this set draw from bytes, and how they compare: by contracts.
-/
import Derived.Test.YtbodfepfapjikaaDoorApp
import Derived.Test.YtbodfepfapjikaaDoorNum
import Derived.Test.YtbodfepfapjikaaDoorOwn
import Derived.Deep.QuietTactic
namespace Go.Proofs.YtbodfepfapjikaaDoor
open Go.RowKit
set_option linter.unusedVariables false
set_option linter.unusedSimpArgs false

/-- All are bytes. -/
def Byt (x : List Int) : Prop := ∀ y ∈ x, 0 ≤ y ∧ y ≤ 255
/-- A slice of the call's own behind a block that is written. -/
theorem OwnV.touchQ {w w' : World} {B q n : Nat} {v : Value} {xs : List Int} (h : OwnV w B v xs) (ht : Touch w w' (some ⟨q, 0, none⟩) n) (hq : q < B) : OwnV w' B v xs := by
  obtain ⟨hn, h | ⟨g, cap, cur, hv, hB, hgg, hc, hm, hs, hh⟩⟩ := h
  · exact ⟨hn, .inl h⟩
  · exact ⟨hn, .inr ⟨g, cap, cur, hv, hB, (ht.block g (.inr fun o e => by injection e with e; injection e with e; omega)).trans hgg, hc, hm, hs, hh⟩⟩
theorem wrapU_nn (z : Int) : 0 ≤ IntKind.u64.wrap z := by
  rw [IntKind.wrap_u64]
  omega
theorem wrapU_lt (z : Int) : IntKind.u64.wrap z < 18446744073709551616 := by
  rw [IntKind.wrap_u64]
  omega
/-- The byte that is taken of it. -/
theorem byte_of {m : Nat} (h : m < 18446744073709551616) : 0 ≤ wrap64 (bits .and .u64 ((m : Int) / 1099511627776) 255) ∧ wrap64 (bits .and .u64 ((m : Int) / 1099511627776) 255) ≤ 255 := by
  have e : bits .and .u64 ((m : Int) / 1099511627776) 255 = (((m / 1099511627776) &&& 255 : Nat) : Int) := by
    rw [show ((m : Int) / 1099511627776) = ((m / 1099511627776 : Nat) : Int) by omega]
    exact bits_and_u64_nat _ 255 (by omega) (by decide)
  have h2 : (m / 1099511627776) &&& 255 ≤ 255 := Nat.and_le_right
  rw [e]
  unfold wrap64
  omega
theorem touch_two (w : World) (q m n : Nat) (u v : Value) : Touch w ((((w.drewN m).setCell ⟨q, 1, none⟩ u).setCell ⟨q, 2, none⟩ v).drewN n) (some ⟨q, 0, none⟩) 3 := by
  refine ⟨rfl, rfl, rfl, by simp, fun b hb => ?_⟩
  have hbq : b ≠ q := by
    rcases hb with h | h
    · omega
    · rintro rfl; exact h 0 rfl
  exact (Below.heap_setCell _ ⟨q, 2, none⟩ v b hbq).trans (Below.heap_setCell _ ⟨q, 1, none⟩ u b hbq)
end Go.Proofs.YtbodfepfapjikaaDoor
