/-
  FnExactCellsDot: the walk of the law, out of the contracts of spec.CellsDot and impl.CellsDot. Printed by gen_law.py.
-/
import Derived.Test.YtnngepnfljkbhaaStCells
import Derived.Test.YtnngepnfljkbhaaCellsDot
import Derived.Test.YtnngepnfljkbhaaOpen
namespace Go.Proofs.Ytnngepnfljkbhaa
open Go.RowKit
set_option linter.unusedVariables false

set_option maxHeartbeats 1600000 in
theorem FnExactCellsDot_any (a0_0 : Int) (a0_1 : Int) (a0_2 : Int) (A0_3 : Option Addr) (c0_3 : Nat) (x0_3 : List Int) (a1_0 : Int) (a1_1 : Int) (a1_2 : Int) (A1_3 : Option Addr) (c1_3 : Nat) (x1_3 : List Int) (w : World) (w0_0 : W64 a0_0) (w0_1 : W64 a0_1) (w0_2 : W64 a0_2) (hx0_3 : RdL (Value.int .i64) w A0_3 x0_3) (hm0_3 : x0_3.length ≤ 9223372036854775807) (we0_3 : ∀ y ∈ x0_3, W64 y) (w1_0 : W64 a1_0) (w1_1 : W64 a1_1) (w1_2 : W64 a1_2) (hx1_3 : RdL (Value.int .i64) w A1_3 x1_3) (hm1_3 : x1_3.length ≤ 9223372036854775807) (we1_3 : ∀ y ∈ x1_3, W64 y) :
    Calls Try.prog 4 #[.agg #[.int .i64 a0_0, .int .i64 a0_1, .int .i64 a0_2, .slice A0_3 x0_3.length c0_3], .agg #[.int .i64 a1_0, .int .i64 a1_1, .int .i64 a1_2, .slice A1_3 x1_3.length c1_3]] w fun e w' => e = .returned (.bool true) ∧ Below w.heap.size w w' := by
  have X0_3 := hid hx0_3
  have X1_3 := hid hx1_3
  clear hx0_3 hx1_3
  by_cases hn0 : (x0_3.length : Int) ≤ 1048576
  · skip
    by_cases hn1 : (x1_3.length : Int) ≤ 1048576 - ((x0_3.length : Int))
    · skip
      have hn0_3 : x0_3.length ≤ 1048576 := by omega
      have hn1_3 : x1_3.length ≤ 1048576 := by omega
      go_enter Try.func4, Try.ntmps4
      have Z := hid (Below.refl w.heap.size w)
      have hp0 : 0 ≤ 1048576 - ((x0_3.length : Int)) := by omega
      have hp1 : 0 ≤ 1048576 - ((x0_3.length : Int)) - ((x1_3.length : Int)) := by omega
      go_wp2_with fail
      refine (szCells_yes _ _ _ _ _ _ _ _ (by omega) (by omega) (by omega)).mono ?_
      rintro e W1 ⟨rfl, hb⟩
      have S2 := below_call (below_a2 _ _ _) hb
      have B3 := hid (Blk.below (Blk.alloc (Blk.new w 37 [.int .i64 a0_0, .int .i64 a0_1, .int .i64 a0_2, .slice A0_3 x0_3.length c0_3]) _) hb)
      have B4 := hid (Blk.below (Blk.new2 w _ 37 [.int .i64 a1_0, .int .i64 a1_1, .int .i64 a1_2, .slice A1_3 x1_3.length c1_3]) hb)
      clear hb
      have l9 : w.heap.size < W1.heap.size := B3.out.lt
      obtain ⟨c5, c6, c7, c8⟩ := B3.out.cells4
      have l14 : w.heap.size + 1 < W1.heap.size := B4.out.lt
      obtain ⟨c10, c11, c12, c13⟩ := B4.out.cells4
      go_wp2_with fail
      refine (szCells_yes _ _ _ _ _ _ _ _ (by omega) (by omega) (by omega)).mono ?_
      rintro e W15 ⟨rfl, hb⟩
      have S16 := hid hb
      have S17 := hid (S2.out.trans (S16.out.mono S2.out.size))
      clear hb
      clear c5 c6 c7 c8 l9 c10 c11 c12 c13 l14
      have l22 : w.heap.size < W15.heap.size := (B3.out.below S16.out).lt
      obtain ⟨c18, c19, c20, c21⟩ := (B3.out.below S16.out).cells4
      have l27 : w.heap.size + 1 < W15.heap.size := (B4.out.below S16.out).lt
      obtain ⟨c23, c24, c25, c26⟩ := (B4.out.below S16.out).cells4
      go_wp2_with fail
      have tok0 : True := trivial
      have tok1 : True := trivial
      have tokX : True := trivial
      go_region_held3 (fun w' => w'.cell? ⟨w.heap.size, 0, none⟩ = some (.int .i64 a0_0) ∧ w'.cell? ⟨w.heap.size, 1, none⟩ = some (.int .i64 a0_1) ∧ w'.cell? ⟨w.heap.size, 2, none⟩ = some (.int .i64 a0_2) ∧ w'.cell? ⟨w.heap.size, 3, none⟩ = some (.slice A0_3 x0_3.length c0_3) ∧ w'.cell? ⟨w.heap.size + 1, 0, none⟩ = some (.int .i64 a1_0) ∧ w'.cell? ⟨w.heap.size + 1, 1, none⟩ = some (.int .i64 a1_1) ∧ w'.cell? ⟨w.heap.size + 1, 2, none⟩ = some (.int .i64 a1_2) ∧ w'.cell? ⟨w.heap.size + 1, 3, none⟩ = some (.slice A1_3 x1_3.length c1_3)) (first | go_keep | exact hS)
        (first
          | (go_at_call 23
             have _t := tok0
             refine (toCells_any a0_0 a0_1 a0_2 A0_3 c0_3 x0_3 _ ((X0_3.out.below S17.out).drewN 1) hn0_3).mono ?_
             rintro e W28 ⟨g29, rfl, hgg29, hkg29, hb⟩
             have hb := below_drew' hb
             have K30 := hid (OwnS.of_blk hkg29 (B := W15.heap.size) hgg29)
             clear hkg29 hgg29
             have S31 := hid hb
             have S32 := hid (S16.out.trans (S31.out.mono S16.out.size))
             have S33 := hid (S17.out.trans (S31.out.mono S17.out.size))
             clear hb
             clear tok0
             have hS := And.intro (B3.out.below S32.out).cells4 ((B4.out.below S32.out).cells4)
             simp only [and_assoc] at hS)
          | (go_at_call 23
             have _t := tok1
             refine (toCells_any a1_0 a1_1 a1_2 A1_3 c1_3 x1_3 _ (X1_3.out.below S33.out) hn1_3).mono ?_
             rintro e W34 ⟨g35, rfl, hgg35, hkg35, hb⟩
             have K36 := hid (OwnS.of_blk hkg35 (B := W28.heap.size) hgg35)
             clear hkg35 hgg35
             have S37 := hid hb
             have S38 := hid (S32.out.trans (S37.out.mono S32.out.size))
             have S39 := hid (S33.out.trans (S37.out.mono S33.out.size))
             clear hb
             clear tok1
             have hS := And.intro (B3.out.below S38.out).cells4 ((B4.out.below S38.out).cells4)
             simp only [and_assoc] at hS)
          | (go_at_call 22
             have _t := tokX
             refine (sCellsDot_any _ _ _ _ x0_3.length x0_3 _ _ _ _ x1_3.length x1_3 _ w0_0 w0_1 w0_2 (OwnS.rd (K30.out.below S37.out)) hn0_3 we0_3 w1_0 w1_1 w1_2 (OwnS.rd K36.out) hn1_3 we1_3).mono ?_
             rintro e W40 ⟨rfl, hb⟩
             have S41 := hid hb
             have S42 := hid (S38.out.trans (S41.out.mono S38.out.size))
             have S43 := hid (S39.out.trans (S41.out.mono S39.out.size))
             have S44 := hid (S37.out.trans (S41.out.mono S37.out.size))
             clear hb
             clear tokX
             have hS := And.intro (B3.out.below S42.out).cells4 ((B4.out.below S42.out).cells4)
             simp only [and_assoc] at hS))
      have l49 : w.heap.size < W40.heap.size := (B3.out.below S42.out).lt
      obtain ⟨c45, c46, c47, c48⟩ := (B3.out.below S42.out).cells4
      have l54 : w.heap.size + 1 < W40.heap.size := (B4.out.below S42.out).lt
      obtain ⟨c50, c51, c52, c53⟩ := (B4.out.below S42.out).cells4
      go_wp2_with fail
      refine (toCells_any a0_0 a0_1 a0_2 A0_3 c0_3 x0_3 _ (X0_3.out.below S43.out) hn0_3).mono ?_
      rintro e W55 ⟨g56, rfl, hgg56, hkg56, hb⟩
      have K57 := hid (OwnS.of_blk hkg56 (B := W40.heap.size) hgg56)
      clear hkg56 hgg56
      have S58 := hid hb
      have S59 := hid (S42.out.trans (S58.out.mono S42.out.size))
      have S60 := hid (S43.out.trans (S58.out.mono S43.out.size))
      have S61 := hid (S41.out.trans (S58.out.mono S41.out.size))
      have S62 := hid (S44.out.trans (S58.out.mono S44.out.size))
      clear hb
      clear c45 c46 c47 c48 l49 c50 c51 c52 c53 l54
      have l67 : w.heap.size < W55.heap.size := (B3.out.below S59.out).lt
      obtain ⟨c63, c64, c65, c66⟩ := (B3.out.below S59.out).cells4
      have l72 : w.heap.size + 1 < W55.heap.size := (B4.out.below S59.out).lt
      obtain ⟨c68, c69, c70, c71⟩ := (B4.out.below S59.out).cells4
      go_wp2_with fail
      refine (toCells_any a1_0 a1_1 a1_2 A1_3 c1_3 x1_3 _ ((X1_3.out.below S60.out).below (below_a1 _ _)) hn1_3).mono ?_
      rintro e W73 ⟨g74, rfl, hgg74, hkg74, hb⟩
      have K75 := hid (OwnS.of_blk hkg74 (B := W55.heap.size) (Nat.le_trans (below_a1 _ _).size hgg74))
      clear hkg74 hgg74
      have S76 := below_call (below_a1 _ _) hb
      have S77 := hid (S60.out.trans (S76.out.mono S60.out.size))
      have S78 := hid (S61.out.trans (S76.out.mono S61.out.size))
      have S79 := hid (S62.out.trans (S76.out.mono S62.out.size))
      have S80 := hid (S59.out.trans (S76.out.mono S59.out.size))
      have B81 := hid (Blk.below (Blk.new W55 41 [.int .i64 a0_0, .int .i64 a0_1, .int .i64 a0_2, .slice (some ⟨g56, 0, none⟩) x0_3.length x0_3.length]) hb)
      clear hb
      clear c63 c64 c65 c66 l67 c68 c69 c70 c71 l72
      have l86 : W55.heap.size < W73.heap.size := B81.out.lt
      obtain ⟨c82, c83, c84, c85⟩ := B81.out.cells4
      go_wp2_with fail
      refine (iCellsDot_any _ _ _ _ x0_3.length x0_3 _ _ _ _ x1_3.length x1_3 _ w0_0 w0_1 w0_2 (OwnS.rd (OwnS.below (K57.out.below S76.out) (below_a1 _ _))) hn0_3 we0_3 w1_0 w1_1 w1_2 (OwnS.rd (OwnS.below K75.out (below_a1 _ _))) hn1_3 we1_3).mono ?_
      rintro e W87 ⟨rfl, hb⟩
      have S88 := below_call (below_a1 _ _) hb
      have S89 := hid (S77.out.trans (S88.out.mono S77.out.size))
      have S90 := hid (S78.out.trans (S88.out.mono S78.out.size))
      have S91 := hid (S76.out.trans (S88.out.mono S76.out.size))
      have S92 := hid (S79.out.trans (S88.out.mono S79.out.size))
      have S93 := hid (S80.out.trans (S88.out.mono S80.out.size))
      have B94 := hid (Blk.below (Blk.new W73 41 [.int .i64 a1_0, .int .i64 a1_1, .int .i64 a1_2, .slice (some ⟨g74, 0, none⟩) x1_3.length x1_3.length]) hb)
      clear hb
      clear c82 c83 c84 c85 l86
      have l99 : W55.heap.size < W87.heap.size := (B81.out.below S88.out).lt
      obtain ⟨c95, c96, c97, c98⟩ := (B81.out.below S88.out).cells4
      have l104 : w.heap.size < W87.heap.size := (B3.out.below S93.out).lt
      obtain ⟨c100, c101, c102, c103⟩ := (B3.out.below S93.out).cells4
      go_wp2_with fail
      have tokA : True := trivial
      have tokB : True := trivial
      go_region_held3 (fun w' => w'.cell? ⟨W55.heap.size, 0, none⟩ = some (.int .i64 a0_0) ∧ w'.cell? ⟨W55.heap.size, 1, none⟩ = some (.int .i64 a0_1) ∧ w'.cell? ⟨W55.heap.size, 2, none⟩ = some (.int .i64 a0_2) ∧ w'.cell? ⟨W55.heap.size, 3, none⟩ = some (.slice (some ⟨g56, 0, none⟩) x0_3.length x0_3.length) ∧ w'.cell? ⟨w.heap.size, 0, none⟩ = some (.int .i64 a0_0) ∧ w'.cell? ⟨w.heap.size, 1, none⟩ = some (.int .i64 a0_1) ∧ w'.cell? ⟨w.heap.size, 2, none⟩ = some (.int .i64 a0_2) ∧ w'.cell? ⟨w.heap.size, 3, none⟩ = some (.slice A0_3 x0_3.length c0_3)) (first | go_keep | exact hS)
        (first
          | (go_at_call 23
             have _t := tokA
             refine (toCells_any a0_0 a0_1 a0_2 A0_3 c0_3 x0_3 _ ((X0_3.out.below S89.out).drewN 1) hn0_3).mono ?_
             rintro e W105 ⟨g106, rfl, hgg106, hkg106, hb⟩
             have hb := below_drew' hb
             have K107 := hid (OwnS.of_blk hkg106 (B := W87.heap.size) hgg106)
             clear hkg106 hgg106
             have S108 := hid hb
             have S109 := hid (S88.out.trans (S108.out.mono S88.out.size))
             have S110 := hid (S89.out.trans (S108.out.mono S89.out.size))
             have S111 := hid (S90.out.trans (S108.out.mono S90.out.size))
             have S112 := hid (S91.out.trans (S108.out.mono S91.out.size))
             have S113 := hid (S92.out.trans (S108.out.mono S92.out.size))
             have S114 := hid (S93.out.trans (S108.out.mono S93.out.size))
             clear hb
             clear tokA
             have hS := And.intro (B81.out.below S109.out).cells4 (B3.out.below S114.out).cells4
             simp only [and_assoc] at hS)
          | (go_at_call 25
             have _t := tokB
             refine (eqCells_yes _ _ _ _ _ _ _ _ x0_3 _ rfl (OwnS.rd (K57.out.below S112.out)) (OwnS.rd K107.out) hn0_3).mono ?_
             rintro e W115 ⟨rfl, hb⟩
             have S116 := hid hb
             have S117 := hid (S109.out.trans (S116.out.mono S109.out.size))
             have S118 := hid (S110.out.trans (S116.out.mono S110.out.size))
             have S119 := hid (S111.out.trans (S116.out.mono S111.out.size))
             have S120 := hid (S112.out.trans (S116.out.mono S112.out.size))
             have S121 := hid (S113.out.trans (S116.out.mono S113.out.size))
             have S122 := hid (S108.out.trans (S116.out.mono S108.out.size))
             have S123 := hid (S114.out.trans (S116.out.mono S114.out.size))
             clear hb
             clear tokB
             clear hS
             have hS := And.intro (B81.out.below S117.out).cells4 (B3.out.below S123.out).cells4
             simp only [and_assoc] at hS))
      clear hS
      have l128 : W73.heap.size < W115.heap.size := (B94.out.below S122.out).lt
      obtain ⟨c124, c125, c126, c127⟩ := (B94.out.below S122.out).cells4
      have l133 : w.heap.size + 1 < W115.heap.size := (B4.out.below S123.out).lt
      obtain ⟨c129, c130, c131, c132⟩ := (B4.out.below S123.out).cells4
      go_wp2_with fail
      have tokA : True := trivial
      have tokB : True := trivial
      go_region_held3 (fun w' => w'.cell? ⟨W73.heap.size, 0, none⟩ = some (.int .i64 a1_0) ∧ w'.cell? ⟨W73.heap.size, 1, none⟩ = some (.int .i64 a1_1) ∧ w'.cell? ⟨W73.heap.size, 2, none⟩ = some (.int .i64 a1_2) ∧ w'.cell? ⟨W73.heap.size, 3, none⟩ = some (.slice (some ⟨g74, 0, none⟩) x1_3.length x1_3.length) ∧ w'.cell? ⟨w.heap.size + 1, 0, none⟩ = some (.int .i64 a1_0) ∧ w'.cell? ⟨w.heap.size + 1, 1, none⟩ = some (.int .i64 a1_1) ∧ w'.cell? ⟨w.heap.size + 1, 2, none⟩ = some (.int .i64 a1_2) ∧ w'.cell? ⟨w.heap.size + 1, 3, none⟩ = some (.slice A1_3 x1_3.length c1_3)) (first | go_keep | exact hS)
        (first
          | (go_at_call 23
             have _t := tokA
             refine (toCells_any a1_0 a1_1 a1_2 A1_3 c1_3 x1_3 _ ((X1_3.out.below S118.out).drewN 1) hn1_3).mono ?_
             rintro e W134 ⟨g135, rfl, hgg135, hkg135, hb⟩
             have hb := below_drew' hb
             have K136 := hid (OwnS.of_blk hkg135 (B := W115.heap.size) hgg135)
             clear hkg135 hgg135
             have S137 := hid hb
             have S138 := hid (S117.out.trans (S137.out.mono S117.out.size))
             have S139 := hid (S118.out.trans (S137.out.mono S118.out.size))
             have S140 := hid (S119.out.trans (S137.out.mono S119.out.size))
             have S141 := hid (S120.out.trans (S137.out.mono S120.out.size))
             have S142 := hid (S121.out.trans (S137.out.mono S121.out.size))
             have S143 := hid (S122.out.trans (S137.out.mono S122.out.size))
             have S144 := hid (S116.out.trans (S137.out.mono S116.out.size))
             have S145 := hid (S123.out.trans (S137.out.mono S123.out.size))
             clear hb
             clear tokA
             have hS := And.intro (B94.out.below S143.out).cells4 (B4.out.below S145.out).cells4
             simp only [and_assoc] at hS)
          | (go_at_call 25
             have _t := tokB
             refine (eqCells_yes _ _ _ _ _ _ _ _ x1_3 _ rfl (OwnS.rd (K75.out.below S138.out)) (OwnS.rd K136.out) hn1_3).mono ?_
             rintro e W146 ⟨rfl, hb⟩
             have S147 := hid hb
             have S148 := hid (S138.out.trans (S147.out.mono S138.out.size))
             have S149 := hid (S139.out.trans (S147.out.mono S139.out.size))
             have S150 := hid (S140.out.trans (S147.out.mono S140.out.size))
             have S151 := hid (S141.out.trans (S147.out.mono S141.out.size))
             have S152 := hid (S142.out.trans (S147.out.mono S142.out.size))
             have S153 := hid (S143.out.trans (S147.out.mono S143.out.size))
             have S154 := hid (S144.out.trans (S147.out.mono S144.out.size))
             have S155 := hid (S145.out.trans (S147.out.mono S145.out.size))
             clear hb
             clear tokB
             clear hS
             have hS := And.intro (B94.out.below S153.out).cells4 (B4.out.below S155.out).cells4
             simp only [and_assoc] at hS))
      clear hS
      go_wp2
      go_ret
      exact ⟨rfl, S149.out⟩
    · skip
      have hp0 : 0 ≤ 1048576 - ((x0_3.length : Int)) := by omega
      go_enter Try.func4, Try.ntmps4
      have Z := hid (Below.refl w.heap.size w)
      go_wp2_with fail
      refine (szCells_yes _ _ _ _ _ _ _ _ (by omega) (by omega) (by omega)).mono ?_
      rintro e W1 ⟨rfl, hb⟩
      have S2 := below_call (below_a2 _ _ _) hb
      have B3 := hid (Blk.below (Blk.alloc (Blk.new w 37 [.int .i64 a0_0, .int .i64 a0_1, .int .i64 a0_2, .slice A0_3 x0_3.length c0_3]) _) hb)
      have B4 := hid (Blk.below (Blk.new2 w _ 37 [.int .i64 a1_0, .int .i64 a1_1, .int .i64 a1_2, .slice A1_3 x1_3.length c1_3]) hb)
      clear hb
      have l9 : w.heap.size < W1.heap.size := B3.out.lt
      obtain ⟨c5, c6, c7, c8⟩ := B3.out.cells4
      have l14 : w.heap.size + 1 < W1.heap.size := B4.out.lt
      obtain ⟨c10, c11, c12, c13⟩ := B4.out.cells4
      go_wp2_with fail
      refine (szCells_no _ _ _ _ _ _ _ _ (by omega) (by omega) hm1_3 (by omega)).mono ?_
      rintro e W15 ⟨rfl, hb⟩
      have S16 := hid hb
      have S17 := hid (S2.out.trans (S16.out.mono S2.out.size))
      clear hb
      go_wp2_with fail
      go_ret
      exact ⟨rfl, S17.out⟩
  · skip
    go_enter Try.func4, Try.ntmps4
    have Z := hid (Below.refl w.heap.size w)
    go_wp2_with fail
    refine (szCells_no _ _ _ _ _ _ _ _ (by omega) (by omega) hm0_3 (by omega)).mono ?_
    rintro e W1 ⟨rfl, hb⟩
    have S2 := below_call (below_a2 _ _ _) hb
    have B3 := hid (Blk.below (Blk.alloc (Blk.new w 37 [.int .i64 a0_0, .int .i64 a0_1, .int .i64 a0_2, .slice A0_3 x0_3.length c0_3]) _) hb)
    have B4 := hid (Blk.below (Blk.new2 w _ 37 [.int .i64 a1_0, .int .i64 a1_1, .int .i64 a1_2, .slice A1_3 x1_3.length c1_3]) hb)
    clear hb
    go_wp2_with fail
    go_ret
    exact ⟨rfl, S2.out⟩

end Go.Proofs.Ytnngepnfljkbhaa
