/-
  The laws' helpers over Tops: size, copy, compare, mark, look for the marks: by contracts. Printed by gen_struct.py.
-/
import Derived.Test.YtbodfepfapjikaaHelp
namespace Go.Proofs.Ytbodfepfapjikaa
open Go.RowKit

theorem szTops_yes (a0 : Int) (A1 A2 A3 : Option Addr) (n1 n2 n3 c1 c2 c3 : Nat) (left : Int) (w : World) (h0 : 0 ≤ left) (h1 : left ≤ 1048576) (h : (n1 : Int) + (n2 : Int) + (n3 : Int) ≤ left) :
    Calls Try.prog 19 #[.agg #[.int .i64 a0, .slice A1 n1 c1, .slice A2 n2 c2, .slice A3 n3 c3], .int .i64 left] w fun e w' => e = .returned (.int .i64 (left - ((n1 : Int) + (n2 : Int) + (n3 : Int)))) ∧ Below w.heap.size w w' := by
  have hp1 : 0 ≤ left - (n1 : Int) := by omega
  have hp2 : 0 ≤ left - (n1 : Int) - (n2 : Int) := by omega
  have hp3 : 0 ≤ left - (n1 : Int) - (n2 : Int) - (n3 : Int) := by omega
  go_enter Try.func19, Try.ntmps19
  go_wp2_with fail
  refine (szInt64S_yes _ _ _ _ _ (by omega) (by omega) (by omega)).mono ?_
  rintro e w' ⟨rfl, rfl⟩
  go_wp2_with fail
  refine (szInt64S_yes _ _ _ _ _ (by omega) (by omega) (by omega)).mono ?_
  rintro e w' ⟨rfl, rfl⟩
  go_wp2_with fail
  refine (szInt64S_yes _ _ _ _ _ (by omega) (by omega) (by omega)).mono ?_
  rintro e w' ⟨rfl, rfl⟩
  go_wp2_with fail
  go_ret
  exact ⟨ret_int (by omega), below_a1 _ _⟩

theorem szTops_no (a0 : Int) (A1 A2 A3 : Option Addr) (n1 n2 n3 c1 c2 c3 : Nat) (left : Int) (w : World) (h0 : 0 ≤ left) (h1 : left ≤ 1048576) (hn1 : n1 ≤ 9223372036854775807) (hn2 : n2 ≤ 9223372036854775807) (hn3 : n3 ≤ 9223372036854775807) (h : left < (n1 : Int) + (n2 : Int) + (n3 : Int)) :
    Calls Try.prog 19 #[.agg #[.int .i64 a0, .slice A1 n1 c1, .slice A2 n2 c2, .slice A3 n3 c3], .int .i64 left] w fun e w' => e = .returned (.int .i64 (-1)) ∧ Below w.heap.size w w' := by
  by_cases hq1 : (n1 : Int) ≤ left
  · skip
    by_cases hq2 : (n2 : Int) ≤ left - (n1 : Int)
    · skip
      have hp1 : 0 ≤ left - (n1 : Int) := by omega
      have hp2 : 0 ≤ left - (n1 : Int) - (n2 : Int) := by omega
      go_enter Try.func19, Try.ntmps19
      go_wp2_with fail
      refine (szInt64S_yes _ _ _ _ _ (by omega) (by omega) (by omega)).mono ?_
      rintro e w' ⟨rfl, rfl⟩
      go_wp2_with fail
      refine (szInt64S_yes _ _ _ _ _ (by omega) (by omega) (by omega)).mono ?_
      rintro e w' ⟨rfl, rfl⟩
      go_wp2_with fail
      refine (szInt64S_no _ _ _ _ _ (by omega) (by omega) hn3 (by omega)).mono ?_
      rintro e w' ⟨rfl, rfl⟩
      go_wp2_with fail
      go_ret
      exact ⟨rfl, below_a1 _ _⟩
    · skip
      have hp1 : 0 ≤ left - (n1 : Int) := by omega
      go_enter Try.func19, Try.ntmps19
      go_wp2_with fail
      refine (szInt64S_yes _ _ _ _ _ (by omega) (by omega) (by omega)).mono ?_
      rintro e w' ⟨rfl, rfl⟩
      go_wp2_with fail
      refine (szInt64S_no _ _ _ _ _ (by omega) (by omega) hn2 (by omega)).mono ?_
      rintro e w' ⟨rfl, rfl⟩
      go_wp2_with fail
      go_ret
      exact ⟨rfl, below_a1 _ _⟩
  · skip
    go_enter Try.func19, Try.ntmps19
    go_wp2_with fail
    refine (szInt64S_no _ _ _ _ _ (by omega) (by omega) hn1 (by omega)).mono ?_
    rintro e w' ⟨rfl, rfl⟩
    go_wp2_with fail
    go_ret
    exact ⟨rfl, below_a1 _ _⟩

set_option maxHeartbeats 800000 in
theorem toTops_any (a0 : Int) (A1 A2 A3 : Option Addr) (c1 c2 c3 : Nat) (x1 : List Int) (x2 : List Int) (x3 : List Int) (w : World) (hx1 : RdL (Value.int .i64) w A1 x1) (hx2 : RdL (Value.int .i64) w A2 x2) (hx3 : RdL (Value.int .i64) w A3 x3) (hn1 : x1.length ≤ 1048576) (hn2 : x2.length ≤ 1048576) (hn3 : x3.length ≤ 1048576) :
    Calls Try.prog 21 #[.agg #[.int .i64 a0, .slice A1 x1.length c1, .slice A2 x2.length c2, .slice A3 x3.length c3]] w fun e w' => ∃ g1 g2 g3, e = .returned (.agg #[.int .i64 a0, .slice (some ⟨g1, 0, none⟩) x1.length x1.length, .slice (some ⟨g2, 0, none⟩) x2.length x2.length, .slice (some ⟨g3, 0, none⟩) x3.length x3.length]) ∧ w.heap.size ≤ g1 ∧ Blk w' g1 2 (x1.map (Value.int .i64)) ∧ w.heap.size ≤ g2 ∧ Blk w' g2 2 (x2.map (Value.int .i64)) ∧ w.heap.size ≤ g3 ∧ Blk w' g3 2 (x3.map (Value.int .i64)) ∧ g1 < g2 ∧ g2 < g3 ∧ Below w.heap.size w w' := by
  have HX1 := hid hx1
  have HX2 := hid hx2
  have HX3 := hid hx3
  clear hx1 hx2 hx3
  go_enter Try.func21, Try.ntmps21
  go_wp2_with fail
  refine (toInt64S_any A1 c1 x1 _ (HX1.out.below (below_alloc3 _ _ _ _)) hn1).mono ?_
  rintro e w1 ⟨g1, rfl, hg1, hk1, hb1⟩
  obtain ⟨hc1, hf1⟩ := bcell hb1
  have hz1 : w.heap.size + 1 + 1 < w1.heap.size := by have := hb1.size; simp at this; omega
  have hza1 : w.heap.size < w1.heap.size := by omega
  have hzb1 : w.heap.size + 1 < w1.heap.size := by omega
  simp at hg1
  have hG1 : w.heap.size + 1 + 1 < g1 := by omega
  have Q1 : Hid (Below w.heap.size w w1) := (below_alloc3 _ _ _ _).trans (hb1.mono (by first | (simp; done) | (simp; omega) | omega))
  have K1 := hid hk1
  have hlt1 : g1 < w1.heap.size := K1.out.lt
  clear hk1 hb1
  go_wp2_with fail
  refine (toInt64S_any A2 c2 x2 _ (HX2.out.below (Q1.out.setCell ?_ _)) hn2).mono ?_
  · (first | (simp; done) | (simp; omega) | omega)
  rintro e w2 ⟨g2, rfl, hg2, hk2, hb2⟩
  obtain ⟨hc2, hf2⟩ := bcell hb2
  have hz2 : w.heap.size + 1 + 1 < w2.heap.size := by have := hb2.size; simp at this; omega
  have hza2 : w.heap.size < w2.heap.size := by omega
  have hzb2 : w.heap.size + 1 < w2.heap.size := by omega
  simp at hg2
  have hG2 : w.heap.size + 1 + 1 < g2 := by omega
  have Q2 : Hid (Below w.heap.size w w2) := (Q1.out.setCell (by first | (simp; done) | (simp; omega) | omega) _).trans (hb2.mono (by first | (simp; done) | (simp; omega)))
  have KK1 : Hid (Blk w2 g1 2 (x1.map (Value.int .i64))) := (Blk.far K1.out (by first | (simp; done) | (simp; omega) | omega) _).below hb2
  clear K1
  have K1 := KK1
  clear KK1
  have hL1_2 : g1 < g2 := by have := K1.out.lt; have := (K1.out).lt; have hh := hlt1; omega
  have K2 := hid hk2
  have hlt2 : g2 < w2.heap.size := K2.out.lt
  clear hk2 hb2
  go_wp2_with fail
  refine (toInt64S_any A3 c3 x3 _ (HX3.out.below (Q2.out.setCell ?_ _)) hn3).mono ?_
  · (first | (simp; done) | (simp; omega) | omega)
  rintro e w3 ⟨g3, rfl, hg3, hk3, hb3⟩
  obtain ⟨hc3, hf3⟩ := bcell hb3
  have hz3 : w.heap.size + 1 + 1 < w3.heap.size := by have := hb3.size; simp at this; omega
  have hza3 : w.heap.size < w3.heap.size := by omega
  have hzb3 : w.heap.size + 1 < w3.heap.size := by omega
  simp at hg3
  have hG3 : w.heap.size + 1 + 1 < g3 := by omega
  have Q3 : Hid (Below w.heap.size w w3) := (Q2.out.setCell (by first | (simp; done) | (simp; omega) | omega) _).trans (hb3.mono (by first | (simp; done) | (simp; omega)))
  have KK1 : Hid (Blk w3 g1 2 (x1.map (Value.int .i64))) := (Blk.far K1.out (by first | (simp; done) | (simp; omega) | omega) _).below hb3
  clear K1
  have K1 := KK1
  clear KK1
  have hL1_3 : g1 < g3 := by have := K1.out.lt; have := (K1.out).lt; have hh := hlt1; omega
  have KK2 : Hid (Blk w3 g2 2 (x2.map (Value.int .i64))) := (Blk.far K2.out (by first | (simp; done) | (simp; omega) | omega) _).below hb3
  clear K2
  have K2 := KK2
  clear KK2
  have hL2_3 : g2 < g3 := by have := K2.out.lt; have := (K2.out).lt; have hh := hlt2; omega
  have K3 := hid hk3
  have hlt3 : g3 < w3.heap.size := K3.out.lt
  clear hk3 hb3
  go_wp2
  refine bodyPost_ret (v := .agg #[.int .i64 a0, .slice (some ⟨g1, 0, none⟩) x1.length x1.length, .slice (some ⟨g2, 0, none⟩) x2.length x2.length, .slice (some ⟨g3, 0, none⟩) x3.length x3.length]) (by simp [results, Try.results21, go_sem, hc1, hc2, hc3, hzb1, hzb2]) rfl ⟨g1, g2, g3, rfl, by omega, (((((K1.out).far (by first | (simp; done) | (simp; omega) | omega) _).far (by first | (simp; done) | (simp; omega) | omega) _).far (by first | (simp; done) | (simp; omega) | omega) _).far (by first | (simp; done) | (simp; omega) | omega) _).far (by first | (simp; done) | (simp; omega) | omega) _, by omega, (((((K2.out).far (by first | (simp; done) | (simp; omega) | omega) _).far (by first | (simp; done) | (simp; omega) | omega) _).far (by first | (simp; done) | (simp; omega) | omega) _).far (by first | (simp; done) | (simp; omega) | omega) _).far (by first | (simp; done) | (simp; omega) | omega) _, by omega, (((((K3.out).far (by first | (simp; done) | (simp; omega) | omega) _).far (by first | (simp; done) | (simp; omega) | omega) _).far (by first | (simp; done) | (simp; omega) | omega) _).far (by first | (simp; done) | (simp; omega) | omega) _).far (by first | (simp; done) | (simp; omega) | omega) _, hL1_2, hL2_3, (((((Q3.out).setCell (by first | (simp; done) | (simp; omega) | omega) _).setCell (by first | (simp; done) | (simp; omega) | omega) _).setCell (by first | (simp; done) | (simp; omega) | omega) _).setCell (by first | (simp; done) | (simp; omega) | omega) _).setCell (by first | (simp; done) | (simp; omega) | omega) _⟩

set_option maxHeartbeats 400000 in
theorem eqTops_yes (a0 : Int) (A1 A2 A3 A1' A2' A3' : Option Addr) (n1 n2 n3 c1 c2 c3 c1' c2' c3' : Nat) (x1 : List Int) (x2 : List Int) (x3 : List Int) (w : World) (hl1 : Hid (x1.length = n1)) (hl2 : Hid (x2.length = n2)) (hl3 : Hid (x3.length = n3)) (hx1 : RdL (Value.int .i64) w A1 x1) (hy1 : RdL (Value.int .i64) w A1' x1) (hx2 : RdL (Value.int .i64) w A2 x2) (hy2 : RdL (Value.int .i64) w A2' x2) (hx3 : RdL (Value.int .i64) w A3 x3) (hy3 : RdL (Value.int .i64) w A3' x3) (hn1 : n1 ≤ 1048576) (hn2 : n2 ≤ 1048576) (hn3 : n3 ≤ 1048576) :
    Calls Try.prog 23 #[.agg #[.int .i64 a0, .slice A1 n1 c1, .slice A2 n2 c2, .slice A3 n3 c3], .agg #[.int .i64 a0, .slice A1' n1 c1', .slice A2' n2 c2', .slice A3' n3 c3']] w fun e w' => e = .returned (.bool true) ∧ Below w.heap.size w w' := by
  obtain rfl := hl1.out
  have HX1 := hid hx1
  have HY1 := hid hy1
  obtain rfl := hl2.out
  have HX2 := hid hx2
  have HY2 := hid hy2
  obtain rfl := hl3.out
  have HX3 := hid hx3
  have HY3 := hid hy3
  clear hx1 hy1 hx2 hy2 hx3 hy3
  go_enter Try.func23, Try.ntmps23
  go_wp2_with fail
  refine (eqInt64S_any A1 A1' c1 c1' x1 x1 _ (HX1.out.below (below_alloc2 _ _ _)) (HY1.out.below (below_alloc2 _ _ _)) hn1).mono ?_
  rintro e w1 ⟨rfl, m1, rfl⟩
  simp only [decide_true]
  go_wp2_with fail
  refine (eqInt64S_any A2 A2' c2 c2' x2 x2 _ (HX2.out.below (below_drewN (below_alloc2 _ _ _) _)) (HY2.out.below (below_drewN (below_alloc2 _ _ _) _)) hn2).mono ?_
  rintro e w2 ⟨rfl, m2, rfl⟩
  simp only [decide_true]
  go_wp2_with fail
  refine (eqInt64S_any A3 A3' c3 c3' x3 x3 _ (HX3.out.below (below_drewN (below_alloc2 _ _ _) _)) (HY3.out.below (below_drewN (below_alloc2 _ _ _) _)) hn3).mono ?_
  rintro e w3 ⟨rfl, m3, rfl⟩
  simp only [decide_true]
  go_wp2
  go_ret
  exact ⟨rfl, below_drewN (below_alloc2 _ _ _) _⟩

set_option maxHeartbeats 400000 in
theorem markTops_any (a0 : Int) (A1 A2 A3 : Option Addr) (c1 c2 c3 B : Nat) (x1 : List Int) (x2 : List Int) (x3 : List Int) (q : Int) (w : World) (hx1 : OwnS (Value.int .i64) w B 2 A1 x1) (hx2 : OwnS (Value.int .i64) w B 2 A2 x2) (hx3 : OwnS (Value.int .i64) w B 2 A3 x3) (hs1_2 : Apart A1 x1.length A2 x2.length) (hs1_3 : Apart A1 x1.length A3 x3.length) (hs2_3 : Apart A2 x2.length A3 x3.length) (hn1 : x1.length ≤ 1048576) (hn2 : x2.length ≤ 1048576) (hn3 : x3.length ≤ 1048576) (hq0 : 0 ≤ q) (hq1 : q ≤ 1000000000) (hB : B ≤ w.heap.size) :
    Calls Try.prog 28 #[.agg #[.int .i64 a0, .slice A1 x1.length c1, .slice A2 x2.length c2, .slice A3 x3.length c3], .int .i64 q] w fun e w' => e = .returned (.int .i64 (q + (x1.length : Int) + (x2.length : Int) + (x3.length : Int))) ∧ OwnS (Value.int .i64) w' B 2 A1 (marks markI (q) x1.length) ∧ OwnS (Value.int .i64) w' B 2 A2 (marks markI (q + (x1.length : Int)) x2.length) ∧ OwnS (Value.int .i64) w' B 2 A3 (marks markI (q + (x1.length : Int) + (x2.length : Int)) x3.length) ∧ Below B w w' ∧ TouchAll w w' [(A1, x1.length), (A2, x2.length), (A3, x3.length)] := by
  have HX1 := hid hx1
  have HX2 := hid hx2
  have HX3 := hid hx3
  clear hx1 hx2 hx3
  go_enter Try.func28, Try.ntmps28
  go_wp2_with fail
  refine (markInt64S_any A1 c1 B x1 (q) _ (HX1.out.below (below_a1 _ _)) hn1 (by omega) (by omega)).mono ?_
  rintro e w1 ⟨rfl, ho1, ht1⟩
  have O1_1 := hid ho1
  have T1 := hid ht1
  have X2_1 := hid ((HX2.out.below (below_a1 _ _)).touch T1.out hs1_2)
  have X3_1 := hid ((HX3.out.below (below_a1 _ _)).touch T1.out hs1_3)
  have W1 : Hid (Below B w w1) := ((Below.refl _ _).alloc hB _).trans (T1.out.below (HX1.out.below (below_a1 _ _)))
  have Z1 : Hid (TouchAll w w1 [(A1, x1.length)]) := (TouchAll.alloc w _ _).trans T1.out
  have BK1 : Hid (Blk w1 w.heap.size 33 [.int .i64 a0, .slice A1 x1.length c1, .slice A2 x2.length c2, .slice A3 x3.length c3]) := (T1.out.block _ (own_new HX1.out)).trans (Blk.new w 33 [.int .i64 a0, .slice A1 x1.length c1, .slice A2 x2.length c2, .slice A3 x3.length c3])
  obtain ⟨kc1_0, kc1_1, kc1_2, kc1_3⟩ := BK1.out.cells4
  clear ho1 ht1
  go_wp2_with fail
  refine (markInt64S_any A2 c2 B x2 (q + (x1.length : Int)) _ X2_1.out hn2 (by omega) (by omega)).mono ?_
  rintro e w2 ⟨rfl, ho2, ht2⟩
  have O2_2 := hid ho2
  have T2 := hid ht2
  have O1_2 := hid (O1_1.out.touch T2.out (by rw [marks_length]; exact hs1_2.symm))
  have X3_2 := hid (X3_1.out.touch T2.out hs2_3)
  have W2 : Hid (Below B w w2) := W1.out.trans (T2.out.below X2_1.out)
  have Z2 : Hid (TouchAll w w2 [(A1, x1.length), (A2, x2.length)]) := Z1.out.snoc T2.out
  have BK2 : Hid (Blk w2 w.heap.size 33 [.int .i64 a0, .slice A1 x1.length c1, .slice A2 x2.length c2, .slice A3 x3.length c3]) := (T2.out.block _ (own_new HX2.out)).trans BK1.out
  obtain ⟨kc2_0, kc2_1, kc2_2, kc2_3⟩ := BK2.out.cells4
  clear ho2 ht2
  go_wp2_with fail
  refine (markInt64S_any A3 c3 B x3 (q + (x1.length : Int) + (x2.length : Int)) _ X3_2.out hn3 (by omega) (by omega)).mono ?_
  rintro e w3 ⟨rfl, ho3, ht3⟩
  have O3_3 := hid ho3
  have T3 := hid ht3
  have O1_3 := hid (O1_2.out.touch T3.out (by rw [marks_length]; exact hs1_3.symm))
  have O2_3 := hid (O2_2.out.touch T3.out (by rw [marks_length]; exact hs2_3.symm))
  have W3 : Hid (Below B w w3) := W2.out.trans (T3.out.below X3_2.out)
  have Z3 : Hid (TouchAll w w3 [(A1, x1.length), (A2, x2.length), (A3, x3.length)]) := Z2.out.snoc T3.out
  clear ho3 ht3
  go_wp2_with fail
  go_ret
  exact ⟨rfl, O1_3.out, O2_3.out, O3_3.out, W3.out, Z3.out⟩

set_option maxHeartbeats 400000 in
theorem heldTops_yes (a0 : Int) (A1 A2 A3 : Option Addr) (n1 n2 n3 c1 c2 c3 : Nat) (q : Int) (w : World) (hx1 : RdL (Value.int .i64) w A1 (marks markI (q) n1)) (hx2 : RdL (Value.int .i64) w A2 (marks markI (q + (n1 : Int)) n2)) (hx3 : RdL (Value.int .i64) w A3 (marks markI (q + (n1 : Int) + (n2 : Int)) n3)) (hn1 : n1 ≤ 1048576) (hn2 : n2 ≤ 1048576) (hn3 : n3 ≤ 1048576) (hq0 : 0 ≤ q) (hq1 : q ≤ 1000000000) :
    Calls Try.prog 41 #[.agg #[.int .i64 a0, .slice A1 n1 c1, .slice A2 n2 c2, .slice A3 n3 c3], .int .i64 q] w fun e w' => e = .returned (.int .i64 (q + (n1 : Int) + (n2 : Int) + (n3 : Int))) ∧ Below w.heap.size w w' := by
  have HX1 := hid hx1
  have HX2 := hid hx2
  have HX3 := hid hx3
  clear hx1 hx2 hx3
  go_enter Try.func41, Try.ntmps41
  go_wp2_with fail
  refine (heldInt64S_yes A1 n1 c1 (q) _ (HX1.out.below (below_a1 _ _)) hn1 (by omega) (by omega)).mono ?_
  rintro e w' ⟨rfl, rfl⟩
  have hp1 : 0 ≤ q + (n1 : Int) := by omega
  go_wp2_with fail
  refine (heldInt64S_yes A2 n2 c2 (q + (n1 : Int)) _ (HX2.out.below (below_a1 _ _)) hn2 (by omega) (by omega)).mono ?_
  rintro e w' ⟨rfl, rfl⟩
  have hp2 : 0 ≤ q + (n1 : Int) + (n2 : Int) := by omega
  go_wp2_with fail
  refine (heldInt64S_yes A3 n3 c3 (q + (n1 : Int) + (n2 : Int)) _ (HX3.out.below (below_a1 _ _)) hn3 (by omega) (by omega)).mono ?_
  rintro e w' ⟨rfl, rfl⟩
  have hp3 : 0 ≤ q + (n1 : Int) + (n2 : Int) + (n3 : Int) := by omega
  go_wp2_with fail
  go_ret
  exact ⟨rfl, below_a1 _ _⟩

end Go.Proofs.Ytbodfepfapjikaa
