/-
  The laws' helpers over Sieve: size, copy, compare, mark, look for the marks: by contracts. Printed by gen_struct.py.
-/
import Derived.Test.YtnngepnfljkbhaaHelp
namespace Go.Proofs.Ytnngepnfljkbhaa
open Go.RowKit

theorem szSieve_yes (a0 a1 : Int) (A2 : Option Addr) (n2 c2 : Nat) (left : Int) (w : World) (h0 : 0 ≤ left) (h1 : left ≤ 1048576) (h : (n2 : Int) ≤ left) :
    Calls Try.prog 15 #[.agg #[.int .i64 a0, .int .i64 a1, .slice A2 n2 c2], .int .i64 left] w fun e w' => e = .returned (.int .i64 (left - ((n2 : Int)))) ∧ Below w.heap.size w w' := by
  have hp2 : 0 ≤ left - (n2 : Int) := by omega
  go_enter Try.func15, Try.ntmps15
  go_wp2_with fail
  refine (szBoolS_yes _ _ _ _ _ (by omega) (by omega) (by omega)).mono ?_
  rintro e w' ⟨rfl, rfl⟩
  go_wp2_with fail
  go_ret
  exact ⟨rfl, below_a1 _ _⟩

theorem szSieve_no (a0 a1 : Int) (A2 : Option Addr) (n2 c2 : Nat) (left : Int) (w : World) (h0 : 0 ≤ left) (h1 : left ≤ 1048576) (hn2 : n2 ≤ 9223372036854775807) (h : left < (n2 : Int)) :
    Calls Try.prog 15 #[.agg #[.int .i64 a0, .int .i64 a1, .slice A2 n2 c2], .int .i64 left] w fun e w' => e = .returned (.int .i64 (-1)) ∧ Below w.heap.size w w' := by
  go_enter Try.func15, Try.ntmps15
  go_wp2_with fail
  refine (szBoolS_no _ _ _ _ _ (by omega) (by omega) hn2 (by omega)).mono ?_
  rintro e w' ⟨rfl, rfl⟩
  go_wp2_with fail
  go_ret
  exact ⟨rfl, below_a1 _ _⟩

set_option maxHeartbeats 800000 in
theorem toSieve_any (a0 a1 : Int) (A2 : Option Addr) (c2 : Nat) (x2 : List Bool) (w : World) (hx2 : RdL Value.bool w A2 x2) (hn2 : x2.length ≤ 1048576) :
    Calls Try.prog 17 #[.agg #[.int .i64 a0, .int .i64 a1, .slice A2 x2.length c2]] w fun e w' => ∃ g2, e = .returned (.agg #[.int .i64 a0, .int .i64 a1, .slice (some ⟨g2, 0, none⟩) x2.length x2.length]) ∧ w.heap.size ≤ g2 ∧ Blk w' g2 4 (x2.map Value.bool) ∧ Below w.heap.size w w' := by
  have HX2 := hid hx2
  clear hx2
  go_enter Try.func17, Try.ntmps17
  go_wp2_with fail
  refine (toBoolS_any A2 c2 x2 _ (HX2.out.below (below_alloc3 _ _ _ _)) hn2).mono ?_
  rintro e w1 ⟨g2, rfl, hg2, hk2, hb2⟩
  obtain ⟨hc2, hf2⟩ := bcell hb2
  have hz2 : w.heap.size + 1 + 1 < w1.heap.size := by have := hb2.size; simp at this; omega
  have hza2 : w.heap.size < w1.heap.size := by omega
  have hzb2 : w.heap.size + 1 < w1.heap.size := by omega
  simp at hg2
  have hG2 : w.heap.size + 1 + 1 < g2 := by omega
  have Q2 : Hid (Below w.heap.size w w1) := (below_alloc3 _ _ _ _).trans (hb2.mono (by first | (simp; done) | (simp; omega) | omega))
  have K2 := hid hk2
  have hlt2 : g2 < w1.heap.size := K2.out.lt
  clear hk2 hb2
  go_wp2
  refine bodyPost_ret (v := .agg #[.int .i64 a0, .int .i64 a1, .slice (some ⟨g2, 0, none⟩) x2.length x2.length]) (by simp [results, Try.results17, go_sem, hc2]) rfl ⟨g2, rfl, by omega, ((((K2.out).far (by first | (simp; done) | (simp; omega) | omega) _).far (by first | (simp; done) | (simp; omega) | omega) _).far (by first | (simp; done) | (simp; omega) | omega) _).far (by first | (simp; done) | (simp; omega) | omega) _, ((((Q2.out).setCell (by first | (simp; done) | (simp; omega) | omega) _).setCell (by first | (simp; done) | (simp; omega) | omega) _).setCell (by first | (simp; done) | (simp; omega) | omega) _).setCell (by first | (simp; done) | (simp; omega) | omega) _⟩

set_option maxHeartbeats 400000 in
theorem eqSieve_yes (a0 a1 : Int) (A2 A2' : Option Addr) (n2 c2 c2' : Nat) (x2 : List Bool) (w : World) (hl2 : Hid (x2.length = n2)) (hx2 : RdL Value.bool w A2 x2) (hy2 : RdL Value.bool w A2' x2) (hn2 : n2 ≤ 1048576) :
    Calls Try.prog 20 #[.agg #[.int .i64 a0, .int .i64 a1, .slice A2 n2 c2], .agg #[.int .i64 a0, .int .i64 a1, .slice A2' n2 c2']] w fun e w' => e = .returned (.bool true) ∧ Below w.heap.size w w' := by
  obtain rfl := hl2.out
  have HX2 := hid hx2
  have HY2 := hid hy2
  clear hx2 hy2
  go_enter Try.func20, Try.ntmps20
  go_wp2_with fail
  refine (eqBoolS_any A2 A2' c2 c2' x2 x2 _ (HX2.out.below (below_alloc2 _ _ _)) (HY2.out.below (below_alloc2 _ _ _)) hn2).mono ?_
  rintro e w1 ⟨rfl, m2, rfl⟩
  simp only [decide_true]
  go_wp2
  go_ret
  exact ⟨rfl, below_drewN (below_alloc2 _ _ _) _⟩

end Go.Proofs.Ytnngepnfljkbhaa
