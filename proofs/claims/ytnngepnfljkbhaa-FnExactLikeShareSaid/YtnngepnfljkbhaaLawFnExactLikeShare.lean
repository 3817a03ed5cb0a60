/-
  FnExactLikeShare: the walk of the law, out of the contracts of spec.LikeShare and impl.LikeShare. Printed by gen_law.py.
-/
import Derived.Test.YtnngepnfljkbhaaLikeShare
import Derived.Test.YtnngepnfljkbhaaOpen
namespace Go.Proofs.Ytnngepnfljkbhaa
open Go.RowKit
set_option linter.unusedVariables false

set_option maxHeartbeats 1600000 in
theorem FnExactLikeShare_any (A0 : Option Addr) (c0 : Nat) (x0 : List Int) (A1 : Option Addr) (c1 : Nat) (x1 : List Int) (A2 : Option Addr) (c2 : Nat) (x2 : List Int) (w : World) (hx0 : RdL (Value.int .i64) w A0 x0) (hm0 : x0.length ≤ 9223372036854775807) (we0 : ∀ y ∈ x0, W64 y) (hx1 : RdL (Value.int .i64) w A1 x1) (hm1 : x1.length ≤ 9223372036854775807) (we1 : ∀ y ∈ x1, W64 y) (hx2 : RdL (Value.int .i64) w A2 x2) (hm2 : x2.length ≤ 9223372036854775807) (we2 : ∀ y ∈ x2, W64 y) :
    Calls Try.prog 7 #[.slice A0 x0.length c0, .slice A1 x1.length c1, .slice A2 x2.length c2] w fun e w' => e = .returned (.bool true) ∧ Below w.heap.size w w' := by
  have X0 := hid hx0
  have X1 := hid hx1
  have X2 := hid hx2
  clear hx0 hx1 hx2
  obtain ⟨d64_0, hd64, hnn0⟩ := widen (nn_LikeShare x0 x1 x2)
  have hcv0 : ∀ w, (convert 26 32 (.float .f32 (pLikeShare x0 x1 x2).1)).run Try.prog w = .ok (.float .f64 d64_0) w := fun w => run_convert_float_float w _ _ .f32 .f64 _ _ (by rw [Try.underlying26]; rfl) Try.underlying32 hd64
  have hnn0 := hid hnn0
  clear hd64
  by_cases hn0 : (x0.length : Int) ≤ 1048576
  · skip
    have hn0 : x0.length ≤ 1048576 := by omega
    by_cases hn1 : (x1.length : Int) ≤ 1048576
    · skip
      have hn1 : x1.length ≤ 1048576 := by omega
      by_cases hn2 : (x2.length : Int) ≤ 1048576
      · skip
        have hn2 : x2.length ≤ 1048576 := by omega
        go_enter Try.func7, Try.ntmps7
        have Z := hid (Below.refl w.heap.size w)
        go_wp2_with fail
        refine (toInt64S_any A0 c0 x0 _ X0.out hn0).mono ?_
        rintro e W1 ⟨g2, rfl, hgg2, hkg2, hb⟩
        have K3 := hid (OwnS.of_blk hkg2 (B := w.heap.size) hgg2)
        clear hkg2 hgg2
        have S4 := hid hb
        clear hb
        go_wp2_with fail
        refine (toInt64S_any A1 c1 x1 _ (X1.out.below S4.out) hn1).mono ?_
        rintro e W5 ⟨g6, rfl, hgg6, hkg6, hb⟩
        have K7 := hid (OwnS.of_blk hkg6 (B := W1.heap.size) hgg6)
        clear hkg6 hgg6
        have S8 := hid hb
        have S9 := hid (S4.out.trans (S8.out.mono S4.out.size))
        clear hb
        go_wp2_with fail
        refine (toInt64S_any A2 c2 x2 _ (X2.out.below S9.out) hn2).mono ?_
        rintro e W10 ⟨g11, rfl, hgg11, hkg11, hb⟩
        have K12 := hid (OwnS.of_blk hkg11 (B := W5.heap.size) hgg11)
        clear hkg11 hgg11
        have S13 := hid hb
        have S14 := hid (S9.out.trans (S13.out.mono S9.out.size))
        have S15 := hid (S8.out.trans (S13.out.mono S8.out.size))
        clear hb
        go_wp2_with fail
        refine (sLikeShare_any _ x0.length x0 _ x1.length x1 _ x2.length x2 _ (OwnS.rd (K3.out.below S15.out)) hn0 we0 (OwnS.rd (K7.out.below S13.out)) hn1 we1 (OwnS.rd K12.out) hn2 we2).mono ?_
        rintro e W16 ⟨rfl, hb⟩
        have S17 := hid hb
        have S18 := hid (S14.out.trans (S17.out.mono S14.out.size))
        have S19 := hid (S13.out.trans (S17.out.mono S13.out.size))
        have S20 := hid (S15.out.trans (S17.out.mono S15.out.size))
        clear hb
        go_wp2_with fail
        refine (toInt64S_any A0 c0 x0 _ (X0.out.below S18.out) hn0).mono ?_
        rintro e W21 ⟨g22, rfl, hgg22, hkg22, hb⟩
        have K23 := hid (OwnS.of_blk hkg22 (B := W16.heap.size) hgg22)
        clear hkg22 hgg22
        have S24 := hid hb
        have S25 := hid (S18.out.trans (S24.out.mono S18.out.size))
        have S26 := hid (S17.out.trans (S24.out.mono S17.out.size))
        have S27 := hid (S19.out.trans (S24.out.mono S19.out.size))
        have S28 := hid (S20.out.trans (S24.out.mono S20.out.size))
        clear hb
        go_wp2_with fail
        refine (toInt64S_any A1 c1 x1 _ (X1.out.below S25.out) hn1).mono ?_
        rintro e W29 ⟨g30, rfl, hgg30, hkg30, hb⟩
        have K31 := hid (OwnS.of_blk hkg30 (B := W21.heap.size) hgg30)
        clear hkg30 hgg30
        have S32 := hid hb
        have S33 := hid (S26.out.trans (S32.out.mono S26.out.size))
        have S34 := hid (S28.out.trans (S32.out.mono S28.out.size))
        have S35 := hid (S25.out.trans (S32.out.mono S25.out.size))
        have S36 := hid (S27.out.trans (S32.out.mono S27.out.size))
        clear hb
        go_wp2_with fail
        refine (toInt64S_any A2 c2 x2 _ (X2.out.below S35.out) hn2).mono ?_
        rintro e W37 ⟨g38, rfl, hgg38, hkg38, hb⟩
        have K39 := hid (OwnS.of_blk hkg38 (B := W29.heap.size) hgg38)
        clear hkg38 hgg38
        have S40 := hid hb
        have S41 := hid (S33.out.trans (S40.out.mono S33.out.size))
        have S42 := hid (S34.out.trans (S40.out.mono S34.out.size))
        have S43 := hid (S35.out.trans (S40.out.mono S35.out.size))
        have S44 := hid (S36.out.trans (S40.out.mono S36.out.size))
        have S45 := hid (S32.out.trans (S40.out.mono S32.out.size))
        clear hb
        go_wp2_with fail
        refine (iLikeShare_any _ x0.length x0 _ x1.length x1 _ x2.length x2 _ (OwnS.rd (K23.out.below S45.out)) hn0 we0 (OwnS.rd (K31.out.below S40.out)) hn1 we1 (OwnS.rd K39.out) hn2 we2).mono ?_
        rintro e W46 ⟨rfl, hb⟩
        have S47 := hid hb
        have S48 := hid (S41.out.trans (S47.out.mono S41.out.size))
        have S49 := hid (S42.out.trans (S47.out.mono S42.out.size))
        have S50 := hid (S43.out.trans (S47.out.mono S43.out.size))
        have S51 := hid (S44.out.trans (S47.out.mono S44.out.size))
        have S52 := hid (S45.out.trans (S47.out.mono S45.out.size))
        have S53 := hid (S40.out.trans (S47.out.mono S40.out.size))
        clear hb
        go_wp2_with fail
        refine (sameFloat_refl d64_0 _ hnn0.out).mono ?_
        rintro e W54 ⟨rfl, rfl⟩
        go_wp2_with fail
        refine (toInt64S_any A0 c0 x0 _ (X0.out.below S50.out) hn0).mono ?_
        rintro e W55 ⟨g56, rfl, hgg56, hkg56, hb⟩
        have K57 := hid (OwnS.of_blk hkg56 (B := W46.heap.size) hgg56)
        clear hkg56 hgg56
        have S58 := hid hb
        have S59 := hid (S48.out.trans (S58.out.mono S48.out.size))
        have S60 := hid (S49.out.trans (S58.out.mono S49.out.size))
        have S61 := hid (S47.out.trans (S58.out.mono S47.out.size))
        have S62 := hid (S50.out.trans (S58.out.mono S50.out.size))
        have S63 := hid (S51.out.trans (S58.out.mono S51.out.size))
        have S64 := hid (S52.out.trans (S58.out.mono S52.out.size))
        have S65 := hid (S53.out.trans (S58.out.mono S53.out.size))
        clear hb
        go_wp2_with fail
        refine (eqInt64S_any _ _ _ _ _ _ _ (OwnS.rd (K23.out.below S64.out)) (OwnS.rd K57.out) hn0).mono ?_
        rintro e W66 ⟨rfl, nd, hnd⟩
        simp only [decide_true]
        have hb := below_of_draw hnd
        clear hnd
        have S67 := hid hb
        have S68 := hid (S59.out.trans (S67.out.mono S59.out.size))
        have S69 := hid (S60.out.trans (S67.out.mono S60.out.size))
        have S70 := hid (S61.out.trans (S67.out.mono S61.out.size))
        have S71 := hid (S62.out.trans (S67.out.mono S62.out.size))
        have S72 := hid (S63.out.trans (S67.out.mono S63.out.size))
        have S73 := hid (S64.out.trans (S67.out.mono S64.out.size))
        have S74 := hid (S65.out.trans (S67.out.mono S65.out.size))
        clear hb
        go_wp2_with fail
        refine (toInt64S_any A1 c1 x1 _ (X1.out.below S71.out) hn1).mono ?_
        rintro e W75 ⟨g76, rfl, hgg76, hkg76, hb⟩
        have K77 := hid (OwnS.of_blk hkg76 (B := W66.heap.size) hgg76)
        clear hkg76 hgg76
        have S78 := hid hb
        have S79 := hid (S68.out.trans (S78.out.mono S68.out.size))
        have S80 := hid (S69.out.trans (S78.out.mono S69.out.size))
        have S81 := hid (S67.out.trans (S78.out.mono S67.out.size))
        have S82 := hid (S70.out.trans (S78.out.mono S70.out.size))
        have S83 := hid (S71.out.trans (S78.out.mono S71.out.size))
        have S84 := hid (S72.out.trans (S78.out.mono S72.out.size))
        have S85 := hid (S73.out.trans (S78.out.mono S73.out.size))
        have S86 := hid (S74.out.trans (S78.out.mono S74.out.size))
        clear hb
        go_wp2_with fail
        refine (eqInt64S_any _ _ _ _ _ _ _ (OwnS.rd (K31.out.below S86.out)) (OwnS.rd K77.out) hn1).mono ?_
        rintro e W87 ⟨rfl, nd, hnd⟩
        simp only [decide_true]
        have hb := below_of_draw hnd
        clear hnd
        have S88 := hid hb
        have S89 := hid (S79.out.trans (S88.out.mono S79.out.size))
        have S90 := hid (S80.out.trans (S88.out.mono S80.out.size))
        have S91 := hid (S81.out.trans (S88.out.mono S81.out.size))
        have S92 := hid (S82.out.trans (S88.out.mono S82.out.size))
        have S93 := hid (S83.out.trans (S88.out.mono S83.out.size))
        have S94 := hid (S84.out.trans (S88.out.mono S84.out.size))
        have S95 := hid (S85.out.trans (S88.out.mono S85.out.size))
        have S96 := hid (S86.out.trans (S88.out.mono S86.out.size))
        clear hb
        go_wp2_with fail
        refine (toInt64S_any A2 c2 x2 _ (X2.out.below S93.out) hn2).mono ?_
        rintro e W97 ⟨g98, rfl, hgg98, hkg98, hb⟩
        have K99 := hid (OwnS.of_blk hkg98 (B := W87.heap.size) hgg98)
        clear hkg98 hgg98
        have S100 := hid hb
        have S101 := hid (S89.out.trans (S100.out.mono S89.out.size))
        have S102 := hid (S90.out.trans (S100.out.mono S90.out.size))
        have S103 := hid (S91.out.trans (S100.out.mono S91.out.size))
        have S104 := hid (S92.out.trans (S100.out.mono S92.out.size))
        have S105 := hid (S93.out.trans (S100.out.mono S93.out.size))
        have S106 := hid (S88.out.trans (S100.out.mono S88.out.size))
        have S107 := hid (S94.out.trans (S100.out.mono S94.out.size))
        have S108 := hid (S95.out.trans (S100.out.mono S95.out.size))
        have S109 := hid (S96.out.trans (S100.out.mono S96.out.size))
        clear hb
        go_wp2_with fail
        refine (eqInt64S_any _ _ _ _ _ _ _ (OwnS.rd (K39.out.below S104.out)) (OwnS.rd K99.out) hn2).mono ?_
        rintro e W110 ⟨rfl, nd, hnd⟩
        simp only [decide_true]
        have hb := below_of_draw hnd
        clear hnd
        have S111 := hid hb
        have S112 := hid (S101.out.trans (S111.out.mono S101.out.size))
        have S113 := hid (S102.out.trans (S111.out.mono S102.out.size))
        have S114 := hid (S103.out.trans (S111.out.mono S103.out.size))
        have S115 := hid (S104.out.trans (S111.out.mono S104.out.size))
        have S116 := hid (S105.out.trans (S111.out.mono S105.out.size))
        have S117 := hid (S106.out.trans (S111.out.mono S106.out.size))
        have S118 := hid (S107.out.trans (S111.out.mono S107.out.size))
        have S119 := hid (S108.out.trans (S111.out.mono S108.out.size))
        have S120 := hid (S109.out.trans (S111.out.mono S109.out.size))
        clear hb
        go_wp2
        go_ret
        exact ⟨rfl, S116.out⟩
      · skip
        have hd : (1048576 : Int) < x2.length := by omega
        go_enter Try.func7, Try.ntmps7
        go_wp2
        go_ret
        exact ⟨rfl, Below.refl _ _⟩
    · skip
      have hd : (1048576 : Int) < x1.length := by omega
      go_enter Try.func7, Try.ntmps7
      go_wp2
      go_ret
      exact ⟨rfl, Below.refl _ _⟩
  · skip
    have hd : (1048576 : Int) < x0.length := by omega
    go_enter Try.func7, Try.ntmps7
    go_wp2
    go_ret
    exact ⟨rfl, Below.refl _ _⟩

end Go.Proofs.Ytnngepnfljkbhaa
