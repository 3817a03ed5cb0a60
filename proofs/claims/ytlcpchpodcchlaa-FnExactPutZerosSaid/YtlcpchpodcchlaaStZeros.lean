/-
  The laws' helpers over Zeros: size, copy, compare, mark, look for the marks: by contracts. Printed by gen_struct.py.
-/
import Derived.Test.YtlcpchpodcchlaaHelp
namespace Go.Proofs.Ytlcpchpodcchlaa
open Go.RowKit

theorem szZeros_yes (a0 : Int) (A1 : Option Addr) (n1 c1 : Nat) (left : Int) (w : World) (h0 : 0 ≤ left) (h1 : left ≤ 1048576) (h : (n1 : Int) ≤ left) :
    Calls Try.prog 36 #[.agg #[.int .i64 a0, .slice A1 n1 c1], .int .i64 left] w fun e w' => e = .returned (.int .i64 (left - ((n1 : Int)))) ∧ Below w.heap.size w w' := by
  have hp1 : 0 ≤ left - (n1 : Int) := by omega
  go_enter Try.func36, Try.ntmps36
  go_wp2_with fail
  refine (szInt64S_yes _ _ _ _ _ (by omega) (by omega) (by omega)).mono ?_
  rintro e w' ⟨rfl, rfl⟩
  go_wp2_with fail
  go_ret
  exact ⟨rfl, below_a1 _ _⟩

theorem szZeros_no (a0 : Int) (A1 : Option Addr) (n1 c1 : Nat) (left : Int) (w : World) (h0 : 0 ≤ left) (h1 : left ≤ 1048576) (hn1 : n1 ≤ 9223372036854775807) (h : left < (n1 : Int)) :
    Calls Try.prog 36 #[.agg #[.int .i64 a0, .slice A1 n1 c1], .int .i64 left] w fun e w' => e = .returned (.int .i64 (-1)) ∧ Below w.heap.size w w' := by
  go_enter Try.func36, Try.ntmps36
  go_wp2_with fail
  refine (szInt64S_no _ _ _ _ _ (by omega) (by omega) hn1 (by omega)).mono ?_
  rintro e w' ⟨rfl, rfl⟩
  go_wp2_with fail
  go_ret
  exact ⟨rfl, below_a1 _ _⟩

set_option maxHeartbeats 800000 in
theorem toZeros_any (a0 : Int) (A1 : Option Addr) (c1 : Nat) (x1 : List Int) (w : World) (hx1 : RdL (Value.int .i64) w A1 x1) (hn1 : x1.length ≤ 1048576) :
    Calls Try.prog 38 #[.agg #[.int .i64 a0, .slice A1 x1.length c1]] w fun e w' => ∃ g1, e = .returned (.agg #[.int .i64 a0, .slice (some ⟨g1, 0, none⟩) x1.length x1.length]) ∧ w.heap.size ≤ g1 ∧ Blk w' g1 2 (x1.map (Value.int .i64)) ∧ Below w.heap.size w w' := by
  have HX1 := hid hx1
  clear hx1
  go_enter Try.func38, Try.ntmps38
  go_wp2_with fail
  refine (toInt64S_any A1 c1 x1 _ (HX1.out.below (below_alloc3 _ _ _ _)) hn1).mono ?_
  rintro e w1 ⟨g1, rfl, hg1, hk1, hb1⟩
  obtain ⟨hc1, hf1⟩ := bcell hb1
  have hz1 : w.heap.size + 1 + 1 < w1.heap.size := by have := hb1.size; simp at this; omega
  have hza1 : w.heap.size < w1.heap.size := by omega
  have hzb1 : w.heap.size + 1 < w1.heap.size := by omega
  simp at hg1
  have hG1 : w.heap.size + 1 + 1 < g1 := by omega
  have Q1 : Hid (Below w.heap.size w w1) := (below_alloc3 _ _ _ _).trans (hb1.mono (by first | (simp; done) | (simp; omega) | omega))
  have K1 := hid hk1
  have hlt1 : g1 < w1.heap.size := K1.out.lt
  clear hk1 hb1
  go_wp2
  refine bodyPost_ret (v := .agg #[.int .i64 a0, .slice (some ⟨g1, 0, none⟩) x1.length x1.length]) (by simp [results, Try.results38, go_sem, hc1]) rfl ⟨g1, rfl, by omega, (((K1.out).far (by first | (simp; done) | (simp; omega) | omega) _).far (by first | (simp; done) | (simp; omega) | omega) _).far (by first | (simp; done) | (simp; omega) | omega) _, (((Q1.out).setCell (by first | (simp; done) | (simp; omega) | omega) _).setCell (by first | (simp; done) | (simp; omega) | omega) _).setCell (by first | (simp; done) | (simp; omega) | omega) _⟩

set_option maxHeartbeats 400000 in
theorem eqZeros_yes (a0 : Int) (A1 A1' : Option Addr) (n1 c1 c1' : Nat) (x1 : List Int) (w : World) (hl1 : Hid (x1.length = n1)) (hx1 : RdL (Value.int .i64) w A1 x1) (hy1 : RdL (Value.int .i64) w A1' x1) (hn1 : n1 ≤ 1048576) :
    Calls Try.prog 40 #[.agg #[.int .i64 a0, .slice A1 n1 c1], .agg #[.int .i64 a0, .slice A1' n1 c1']] w fun e w' => e = .returned (.bool true) ∧ Below w.heap.size w w' := by
  obtain rfl := hl1.out
  have HX1 := hid hx1
  have HY1 := hid hy1
  clear hx1 hy1
  go_enter Try.func40, Try.ntmps40
  go_wp2_with fail
  refine (eqInt64S_any A1 A1' c1 c1' x1 x1 _ (HX1.out.below (below_alloc2 _ _ _)) (HY1.out.below (below_alloc2 _ _ _)) hn1).mono ?_
  rintro e w1 ⟨rfl, m1, rfl⟩
  simp only [decide_true]
  go_wp2
  go_ret
  exact ⟨rfl, below_drewN (below_alloc2 _ _ _) _⟩

set_option maxHeartbeats 400000 in
theorem markZeros_any (a0 : Int) (A1 : Option Addr) (c1 B : Nat) (x1 : List Int) (q : Int) (w : World) (hx1 : OwnS (Value.int .i64) w B 2 A1 x1) (hn1 : x1.length ≤ 1048576) (hq0 : 0 ≤ q) (hq1 : q ≤ 1000000000) (hB : B ≤ w.heap.size) :
    Calls Try.prog 41 #[.agg #[.int .i64 a0, .slice A1 x1.length c1], .int .i64 q] w fun e w' => e = .returned (.int .i64 (q + (x1.length : Int))) ∧ OwnS (Value.int .i64) w' B 2 A1 (marks markI (q) x1.length) ∧ Below B w w' ∧ TouchAll w w' [(A1, x1.length)] := by
  have HX1 := hid hx1
  clear hx1
  go_enter Try.func41, Try.ntmps41
  go_wp2_with fail
  refine (markInt64S_any A1 c1 B x1 (q) _ (HX1.out.below (below_a1 _ _)) hn1 (by omega) (by omega)).mono ?_
  rintro e w1 ⟨rfl, ho1, ht1⟩
  have O1_1 := hid ho1
  have T1 := hid ht1
  have W1 : Hid (Below B w w1) := ((Below.refl _ _).alloc hB _).trans (T1.out.below (HX1.out.below (below_a1 _ _)))
  have Z1 : Hid (TouchAll w w1 [(A1, x1.length)]) := (TouchAll.alloc w _ _).trans T1.out
  clear ho1 ht1
  go_wp2_with fail
  go_ret
  exact ⟨rfl, O1_1.out, W1.out, Z1.out⟩

set_option maxHeartbeats 400000 in
theorem heldZeros_yes (a0 : Int) (A1 : Option Addr) (n1 c1 : Nat) (q : Int) (w : World) (hx1 : RdL (Value.int .i64) w A1 (marks markI (q) n1)) (hn1 : n1 ≤ 1048576) (hq0 : 0 ≤ q) (hq1 : q ≤ 1000000000) :
    Calls Try.prog 42 #[.agg #[.int .i64 a0, .slice A1 n1 c1], .int .i64 q] w fun e w' => e = .returned (.int .i64 (q + (n1 : Int))) ∧ Below w.heap.size w w' := by
  have HX1 := hid hx1
  clear hx1
  go_enter Try.func42, Try.ntmps42
  go_wp2_with fail
  refine (heldInt64S_yes A1 n1 c1 (q) _ (HX1.out.below (below_a1 _ _)) hn1 (by omega) (by omega)).mono ?_
  rintro e w' ⟨rfl, rfl⟩
  have hp1 : 0 ≤ q + (n1 : Int) := by omega
  go_wp2_with fail
  go_ret
  exact ⟨rfl, below_a1 _ _⟩

end Go.Proofs.Ytlcpchpodcchlaa
