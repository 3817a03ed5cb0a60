/-
  Numbers put to the cells of a key: reference and program, by contracts.
-/
import Derived.Test.YtbodfepfapjikaaNewCells
import Derived.Test.YtbodfepfapjikaaAdd
import Derived.Test.YtbodfepfapjikaaPutSieve
import Derived.Deep.RegionLaw
namespace Go.Proofs.Ytbodfepfapjikaa
open Go.RowKit
set_option linter.unusedVariables false

/-- What PutCells returns. -/
def pPutCells (a0 a1 a2 : Int) (x : List Int) (key by_ : Int) : (Int × Int × Int × List Int) × Bool :=
  if (vCells a0 a1 a2 x && inB key 0 4294967295 && inB by_ (-1000000) 1000000) = true then giveP a0 a1 a2 (addAt by_ x (cellsL a0.toNat a2.toNat key.toNat a1.toNat)) else ((0, 0, 0, []), false)
theorem vCells_iff' {a0 a1 a2 : Int} {x : List Int} (h : vCells a0 a1 a2 x = true) : (2 ≤ a0 ∧ a0 ≤ 64) ∧ (1 ≤ a1 ∧ a1 ≤ 6) ∧ (0 ≤ a2 ∧ a2 ≤ 4294967295) ∧ (x.length : Int) = a0 * a1 ∧ ∀ y ∈ x, -1000000000000 ≤ y ∧ y ≤ 1000000000000 := by
  simp only [vCells, Bool.and_eq_true, decide_eq_true_eq, inB_iff] at h
  refine ⟨h.1.1.1.1, h.1.1.1.2, h.1.1.2, h.1.2, fun y hy => ?_⟩
  have := h.2
  unfold allB at this
  rw [List.all_eq_true] at this
  exact inB_iff.1 (this y hy)
theorem cellsL_at' {wd s key dp k : Nat} (h : k < dp) : (cellsL wd s key dp)[k]? = some (placeN wd s key k : Int) := by simp [cellsL, h]

set_option maxHeartbeats 800000 in
theorem copyCells_any (a0 a1 a2 : Int) (A : Option Addr) (c : Nat) (x : List Int) (w : World) (hx : RdL (Value.int .i64) w A x) (hn : x.length ≤ 1048576) :
    Calls Try.prog 108 #[.agg #[.int .i64 a0, .int .i64 a1, .int .i64 a2, .slice A x.length c]] w fun e w' => ∃ A' c', e = .returned (.agg #[.int .i64 a0, .int .i64 a1, .int .i64 a2, .slice A' x.length c']) ∧ OwnS (Value.int .i64) w' w.heap.size 2 A' x ∧ Below w.heap.size w w' := by
  have HX := hid hx
  have B0 := hid ((Blk.new w 48 [.int .i64 a0, .int .i64 a1, .int .i64 a2, .slice A x.length c]).alloc (.cells #[.int .i64 0, .int .i64 0, .int .i64 0, .slice none 0 0] 48))
  have R0 := hid (Blk.new2 w (.cells #[.int .i64 a0, .int .i64 a1, .int .i64 a2, .slice A x.length c] 48) 48 [.int .i64 0, .int .i64 0, .int .i64 0, .slice none 0 0])
  clear hx
  go_enter Try.func108, Try.ntmps108
  go_wp2_with fail
  refine (cloneI_any A c x _ (HX.out.below (below_a2 _ _ _)) hn).mono ?_
  rintro e w1 ⟨A1, c1, rfl, ho, hb⟩
  obtain ⟨c0, c1', c2, c3⟩ := (B0.out.below hb).cells4
  have g3 := (B0.out.below hb).frozen 3
  obtain ⟨d0, d1, d2, d3⟩ := (R0.out.below hb).cells4
  have f0 := (R0.out.below hb).frozen 0
  have f1 := (R0.out.below hb).frozen 1
  have f2 := (R0.out.below hb).frozen 2
  have f3 := (R0.out.below hb).frozen 3
  have S1 := below_call (below_a2 _ _ _) hb
  have O1 := hid (ho.mono (B' := w.heap.size + 2) (by simp))
  clear hb B0 R0 ho
  go_wp2
  refine bodyPost_ret (v := .agg #[.int .i64 a0, .int .i64 a1, .int .i64 a2, .slice A1 x.length c1]) (by simp [results, Try.results108, go_sem, d0, d1, d2, d3]) rfl ⟨A1, c1, rfl, ?_, ?_⟩
  · exact (((((O1.out.setFar (by simp <;> omega) _).setFar (by simp <;> omega) _).setFar (by simp <;> omega) _).setFar (by simp <;> omega) _).setFar (by simp <;> omega) _).mono (by omega)
  · exact ((((S1.out.setCell (by simp) _).setCell (by simp) _).setCell (by simp) _).setCell (by simp) _).setCell (by simp) _
end Go.Proofs.Ytbodfepfapjikaa
