/-
  The laws' helpers over Cells: size, copy, compare, mark, look for the marks: by contracts. Printed by gen_struct.py.
-/
import Derived.Test.YtbodfepfapjikaaHelp
namespace Go.Proofs.Ytbodfepfapjikaa
open Go.RowKit

theorem szCells_yes (a0 a1 a2 : Int) (A3 : Option Addr) (n3 c3 : Nat) (left : Int) (w : World) (h0 : 0 ≤ left) (h1 : left ≤ 1048576) (h : (n3 : Int) ≤ left) :
    Calls Try.prog 29 #[.agg #[.int .i64 a0, .int .i64 a1, .int .i64 a2, .slice A3 n3 c3], .int .i64 left] w fun e w' => e = .returned (.int .i64 (left - ((n3 : Int)))) ∧ Below w.heap.size w w' := by
  have hp3 : 0 ≤ left - (n3 : Int) := by omega
  go_enter Try.func29, Try.ntmps29
  go_wp2_with fail
  refine (szInt64S_yes _ _ _ _ _ (by omega) (by omega) (by omega)).mono ?_
  rintro e w' ⟨rfl, rfl⟩
  go_wp2_with fail
  go_ret
  exact ⟨rfl, below_a1 _ _⟩

theorem szCells_no (a0 a1 a2 : Int) (A3 : Option Addr) (n3 c3 : Nat) (left : Int) (w : World) (h0 : 0 ≤ left) (h1 : left ≤ 1048576) (hn3 : n3 ≤ 9223372036854775807) (h : left < (n3 : Int)) :
    Calls Try.prog 29 #[.agg #[.int .i64 a0, .int .i64 a1, .int .i64 a2, .slice A3 n3 c3], .int .i64 left] w fun e w' => e = .returned (.int .i64 (-1)) ∧ Below w.heap.size w w' := by
  go_enter Try.func29, Try.ntmps29
  go_wp2_with fail
  refine (szInt64S_no _ _ _ _ _ (by omega) (by omega) hn3 (by omega)).mono ?_
  rintro e w' ⟨rfl, rfl⟩
  go_wp2_with fail
  go_ret
  exact ⟨rfl, below_a1 _ _⟩

set_option maxHeartbeats 800000 in
theorem toCells_any (a0 a1 a2 : Int) (A3 : Option Addr) (c3 : Nat) (x3 : List Int) (w : World) (hx3 : RdL (Value.int .i64) w A3 x3) (hn3 : x3.length ≤ 1048576) :
    Calls Try.prog 31 #[.agg #[.int .i64 a0, .int .i64 a1, .int .i64 a2, .slice A3 x3.length c3]] w fun e w' => ∃ g3, e = .returned (.agg #[.int .i64 a0, .int .i64 a1, .int .i64 a2, .slice (some ⟨g3, 0, none⟩) x3.length x3.length]) ∧ w.heap.size ≤ g3 ∧ Blk w' g3 2 (x3.map (Value.int .i64)) ∧ Below w.heap.size w w' := by
  have HX3 := hid hx3
  clear hx3
  go_enter Try.func31, Try.ntmps31
  go_wp2_with fail
  refine (toInt64S_any A3 c3 x3 _ (HX3.out.below (below_alloc3 _ _ _ _)) hn3).mono ?_
  rintro e w1 ⟨g3, rfl, hg3, hk3, hb3⟩
  obtain ⟨hc3, hf3⟩ := bcell hb3
  have hz3 : w.heap.size + 1 + 1 < w1.heap.size := by have := hb3.size; simp at this; omega
  have hza3 : w.heap.size < w1.heap.size := by omega
  have hzb3 : w.heap.size + 1 < w1.heap.size := by omega
  simp at hg3
  have hG3 : w.heap.size + 1 + 1 < g3 := by omega
  have Q3 : Hid (Below w.heap.size w w1) := (below_alloc3 _ _ _ _).trans (hb3.mono (by first | (simp; done) | (simp; omega) | omega))
  have K3 := hid hk3
  have hlt3 : g3 < w1.heap.size := K3.out.lt
  clear hk3 hb3
  go_wp2
  refine bodyPost_ret (v := .agg #[.int .i64 a0, .int .i64 a1, .int .i64 a2, .slice (some ⟨g3, 0, none⟩) x3.length x3.length]) (by simp [results, Try.results31, go_sem, hc3]) rfl ⟨g3, rfl, by omega, (((((K3.out).far (by first | (simp; done) | (simp; omega) | omega) _).far (by first | (simp; done) | (simp; omega) | omega) _).far (by first | (simp; done) | (simp; omega) | omega) _).far (by first | (simp; done) | (simp; omega) | omega) _).far (by first | (simp; done) | (simp; omega) | omega) _, (((((Q3.out).setCell (by first | (simp; done) | (simp; omega) | omega) _).setCell (by first | (simp; done) | (simp; omega) | omega) _).setCell (by first | (simp; done) | (simp; omega) | omega) _).setCell (by first | (simp; done) | (simp; omega) | omega) _).setCell (by first | (simp; done) | (simp; omega) | omega) _⟩

set_option maxHeartbeats 400000 in
theorem eqCells_yes (a0 a1 a2 : Int) (A3 A3' : Option Addr) (n3 c3 c3' : Nat) (x3 : List Int) (w : World) (hl3 : Hid (x3.length = n3)) (hx3 : RdL (Value.int .i64) w A3 x3) (hy3 : RdL (Value.int .i64) w A3' x3) (hn3 : n3 ≤ 1048576) :
    Calls Try.prog 33 #[.agg #[.int .i64 a0, .int .i64 a1, .int .i64 a2, .slice A3 n3 c3], .agg #[.int .i64 a0, .int .i64 a1, .int .i64 a2, .slice A3' n3 c3']] w fun e w' => e = .returned (.bool true) ∧ Below w.heap.size w w' := by
  obtain rfl := hl3.out
  have HX3 := hid hx3
  have HY3 := hid hy3
  clear hx3 hy3
  go_enter Try.func33, Try.ntmps33
  go_wp2_with fail
  refine (eqInt64S_any A3 A3' c3 c3' x3 x3 _ (HX3.out.below (below_alloc2 _ _ _)) (HY3.out.below (below_alloc2 _ _ _)) hn3).mono ?_
  rintro e w1 ⟨rfl, m3, rfl⟩
  simp only [decide_true]
  go_wp2
  go_ret
  exact ⟨rfl, below_drewN (below_alloc2 _ _ _) _⟩

end Go.Proofs.Ytbodfepfapjikaa
