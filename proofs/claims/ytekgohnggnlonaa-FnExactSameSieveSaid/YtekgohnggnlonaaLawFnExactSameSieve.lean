/-
  FnExactSameSieve: the walk of the law, out of the contracts of spec.SameSieve and impl.SameSieve. Printed by gen_law.py.
-/
import Derived.Test.YtekgohnggnlonaaStSieve
import Derived.Test.YtekgohnggnlonaaSame
import Derived.Test.YtekgohnggnlonaaOpen
namespace Go.Proofs.Ytekgohnggnlonaa
open Go.RowKit
set_option linter.unusedVariables false

set_option maxHeartbeats 1600000 in
theorem FnExactSameSieve_any (a0_0 : Int) (a0_1 : Int) (A0_2 : Option Addr) (c0_2 : Nat) (x0_2 : List Bool) (a1_0 : Int) (a1_1 : Int) (A1_2 : Option Addr) (c1_2 : Nat) (x1_2 : List Bool) (w : World) (w0_0 : W64 a0_0) (w0_1 : W64 a0_1) (hx0_2 : RdL Value.bool w A0_2 x0_2) (hm0_2 : x0_2.length ≤ 9223372036854775807) (w1_0 : W64 a1_0) (w1_1 : W64 a1_1) (hx1_2 : RdL Value.bool w A1_2 x1_2) (hm1_2 : x1_2.length ≤ 9223372036854775807) :
    Calls Try.prog 5 #[.agg #[.int .i64 a0_0, .int .i64 a0_1, .slice A0_2 x0_2.length c0_2], .agg #[.int .i64 a1_0, .int .i64 a1_1, .slice A1_2 x1_2.length c1_2]] w fun e w' => e = .returned (.bool true) ∧ Below w.heap.size w w' := by
  have X0_2 := hid hx0_2
  have X1_2 := hid hx1_2
  clear hx0_2 hx1_2
  by_cases hn0 : (x0_2.length : Int) ≤ 1048576
  · skip
    by_cases hn1 : (x1_2.length : Int) ≤ 1048576 - ((x0_2.length : Int))
    · skip
      have hn0_2 : x0_2.length ≤ 1048576 := by omega
      have hn1_2 : x1_2.length ≤ 1048576 := by omega
      go_enter Try.func5, Try.ntmps5
      have Z := hid (Below.refl w.heap.size w)
      have hp0 : 0 ≤ 1048576 - ((x0_2.length : Int)) := by omega
      have hp1 : 0 ≤ 1048576 - ((x0_2.length : Int)) - ((x1_2.length : Int)) := by omega
      go_wp2_with fail
      refine (szSieve_yes _ _ _ _ _ _ _ (by omega) (by omega) (by omega)).mono ?_
      rintro e W1 ⟨rfl, hb⟩
      have S2 := below_call (below_a2 _ _ _) hb
      have B3 := hid (Blk.below (Blk.alloc (Blk.new w 24 [.int .i64 a0_0, .int .i64 a0_1, .slice A0_2 x0_2.length c0_2]) _) hb)
      have B4 := hid (Blk.below (Blk.new2 w _ 24 [.int .i64 a1_0, .int .i64 a1_1, .slice A1_2 x1_2.length c1_2]) hb)
      clear hb
      have l8 : w.heap.size < W1.heap.size := B3.out.lt
      obtain ⟨c5, c6, c7⟩ := B3.out.cells3
      have l12 : w.heap.size + 1 < W1.heap.size := B4.out.lt
      obtain ⟨c9, c10, c11⟩ := B4.out.cells3
      go_wp2_with fail
      refine (szSieve_yes _ _ _ _ _ _ _ (by omega) (by omega) (by omega)).mono ?_
      rintro e W13 ⟨rfl, hb⟩
      have S14 := hid hb
      have S15 := hid (S2.out.trans (S14.out.mono S2.out.size))
      clear hb
      clear c5 c6 c7 l8 c9 c10 c11 l12
      have l19 : w.heap.size < W13.heap.size := (B3.out.below S14.out).lt
      obtain ⟨c16, c17, c18⟩ := (B3.out.below S14.out).cells3
      have l23 : w.heap.size + 1 < W13.heap.size := (B4.out.below S14.out).lt
      obtain ⟨c20, c21, c22⟩ := (B4.out.below S14.out).cells3
      go_wp2_with fail
      have tok0 : True := trivial
      have tok1 : True := trivial
      have tokX : True := trivial
      go_region_held3 (fun w' => w'.cell? ⟨w.heap.size, 0, none⟩ = some (.int .i64 a0_0) ∧ w'.cell? ⟨w.heap.size, 1, none⟩ = some (.int .i64 a0_1) ∧ w'.cell? ⟨w.heap.size, 2, none⟩ = some (.slice A0_2 x0_2.length c0_2) ∧ w'.cell? ⟨w.heap.size + 1, 0, none⟩ = some (.int .i64 a1_0) ∧ w'.cell? ⟨w.heap.size + 1, 1, none⟩ = some (.int .i64 a1_1) ∧ w'.cell? ⟨w.heap.size + 1, 2, none⟩ = some (.slice A1_2 x1_2.length c1_2)) (first | go_keep | exact hS)
        (first
          | (go_at_call 17
             have _t := tok0
             refine (toSieve_any a0_0 a0_1 A0_2 c0_2 x0_2 _ ((X0_2.out.below S15.out).drewN 1) hn0_2).mono ?_
             rintro e W24 ⟨g25, rfl, hgg25, hkg25, hb⟩
             have hb := below_drew' hb
             have K26 := hid hkg25
             clear hkg25 hgg25
             have S27 := hid hb
             have S28 := hid (S14.out.trans (S27.out.mono S14.out.size))
             have S29 := hid (S15.out.trans (S27.out.mono S15.out.size))
             clear hb
             clear tok0
             have hS := And.intro (B3.out.below S28.out).cells3 ((B4.out.below S28.out).cells3)
             simp only [and_assoc] at hS)
          | (go_at_call 17
             have _t := tok1
             refine (toSieve_any a1_0 a1_1 A1_2 c1_2 x1_2 _ (X1_2.out.below S29.out) hn1_2).mono ?_
             rintro e W30 ⟨g31, rfl, hgg31, hkg31, hb⟩
             have K32 := hid hkg31
             clear hkg31 hgg31
             have S33 := hid hb
             have S34 := hid (S28.out.trans (S33.out.mono S28.out.size))
             have S35 := hid (S29.out.trans (S33.out.mono S29.out.size))
             clear hb
             clear tok1
             have hS := And.intro (B3.out.below S34.out).cells3 ((B4.out.below S34.out).cells3)
             simp only [and_assoc] at hS)
          | (go_at_call 24
             have _t := tokX
             refine (sSameSieve_any _ _ _ _ x0_2 _ _ _ _ x1_2 _ w0_0 w0_1 (Blk.rd0 (K26.out.below S33.out)) hn0_2 w1_0 w1_1 (Blk.rd0 K32.out) hn1_2).mono ?_
             rintro e W36 ⟨rfl, hb⟩
             have S37 := hid hb
             have S38 := hid (S33.out.trans (S37.out.mono S33.out.size))
             have S39 := hid (S34.out.trans (S37.out.mono S34.out.size))
             have S40 := hid (S35.out.trans (S37.out.mono S35.out.size))
             clear hb
             clear tokX
             have hS := And.intro (B3.out.below S39.out).cells3 ((B4.out.below S39.out).cells3)
             simp only [and_assoc] at hS))
      have l44 : w.heap.size < W36.heap.size := (B3.out.below S39.out).lt
      obtain ⟨c41, c42, c43⟩ := (B3.out.below S39.out).cells3
      have l48 : w.heap.size + 1 < W36.heap.size := (B4.out.below S39.out).lt
      obtain ⟨c45, c46, c47⟩ := (B4.out.below S39.out).cells3
      go_wp2_with fail
      refine (toSieve_any a0_0 a0_1 A0_2 c0_2 x0_2 _ (X0_2.out.below S40.out) hn0_2).mono ?_
      rintro e W49 ⟨g50, rfl, hgg50, hkg50, hb⟩
      have K51 := hid hkg50
      clear hkg50 hgg50
      have S52 := hid hb
      have S53 := hid (S38.out.trans (S52.out.mono S38.out.size))
      have S54 := hid (S39.out.trans (S52.out.mono S39.out.size))
      have S55 := hid (S37.out.trans (S52.out.mono S37.out.size))
      have S56 := hid (S40.out.trans (S52.out.mono S40.out.size))
      clear hb
      clear c41 c42 c43 l44 c45 c46 c47 l48
      have l60 : w.heap.size < W49.heap.size := (B3.out.below S54.out).lt
      obtain ⟨c57, c58, c59⟩ := (B3.out.below S54.out).cells3
      have l64 : w.heap.size + 1 < W49.heap.size := (B4.out.below S54.out).lt
      obtain ⟨c61, c62, c63⟩ := (B4.out.below S54.out).cells3
      go_wp2_with fail
      refine (toSieve_any a1_0 a1_1 A1_2 c1_2 x1_2 _ ((X1_2.out.below S56.out).below (below_a1 _ _)) hn1_2).mono ?_
      rintro e W65 ⟨g66, rfl, hgg66, hkg66, hb⟩
      have K67 := hid hkg66
      clear hkg66 hgg66
      have S68 := below_call (below_a1 _ _) hb
      have S69 := hid (S54.out.trans (S68.out.mono S54.out.size))
      have S70 := hid (S56.out.trans (S68.out.mono S56.out.size))
      have S71 := hid (S55.out.trans (S68.out.mono S55.out.size))
      have S72 := hid (S53.out.trans (S68.out.mono S53.out.size))
      have B73 := hid (Blk.below (Blk.new W49 27 [.int .i64 a0_0, .int .i64 a0_1, .slice (some ⟨g50, 0, none⟩) x0_2.length x0_2.length]) hb)
      clear hb
      clear c57 c58 c59 l60 c61 c62 c63 l64
      have l77 : W49.heap.size < W65.heap.size := B73.out.lt
      obtain ⟨c74, c75, c76⟩ := B73.out.cells3
      go_wp2_with fail
      refine (iSameSieve_any _ _ _ _ x0_2 _ _ _ _ x1_2 _ w0_0 w0_1 (Blk.rd0 (Blk.below (K51.out.below S68.out) (below_a1 _ _))) hn0_2 w1_0 w1_1 (Blk.rd0 (Blk.below K67.out (below_a1 _ _))) hn1_2).mono ?_
      rintro e W78 ⟨rfl, hb⟩
      have S79 := below_call (below_a1 _ _) hb
      have S80 := hid (S69.out.trans (S79.out.mono S69.out.size))
      have S81 := hid (S70.out.trans (S79.out.mono S70.out.size))
      have S82 := hid (S71.out.trans (S79.out.mono S71.out.size))
      have S83 := hid (S72.out.trans (S79.out.mono S72.out.size))
      have S84 := hid (S68.out.trans (S79.out.mono S68.out.size))
      have B85 := hid (Blk.below (Blk.new W65 27 [.int .i64 a1_0, .int .i64 a1_1, .slice (some ⟨g66, 0, none⟩) x1_2.length x1_2.length]) hb)
      clear hb
      clear c74 c75 c76 l77
      have l89 : W49.heap.size < W78.heap.size := (B73.out.below S79.out).lt
      obtain ⟨c86, c87, c88⟩ := (B73.out.below S79.out).cells3
      have l93 : w.heap.size < W78.heap.size := (B3.out.below S80.out).lt
      obtain ⟨c90, c91, c92⟩ := (B3.out.below S80.out).cells3
      go_wp2_with fail
      have tokA : True := trivial
      have tokB : True := trivial
      go_region_held3 (fun w' => w'.cell? ⟨W49.heap.size, 0, none⟩ = some (.int .i64 a0_0) ∧ w'.cell? ⟨W49.heap.size, 1, none⟩ = some (.int .i64 a0_1) ∧ w'.cell? ⟨W49.heap.size, 2, none⟩ = some (.slice (some ⟨g50, 0, none⟩) x0_2.length x0_2.length) ∧ w'.cell? ⟨w.heap.size, 0, none⟩ = some (.int .i64 a0_0) ∧ w'.cell? ⟨w.heap.size, 1, none⟩ = some (.int .i64 a0_1) ∧ w'.cell? ⟨w.heap.size, 2, none⟩ = some (.slice A0_2 x0_2.length c0_2)) (first | go_keep | exact hS)
        (first
          | (go_at_call 17
             have _t := tokA
             refine (toSieve_any a0_0 a0_1 A0_2 c0_2 x0_2 _ ((X0_2.out.below S81.out).drewN 1) hn0_2).mono ?_
             rintro e W94 ⟨g95, rfl, hgg95, hkg95, hb⟩
             have hb := below_drew' hb
             have K96 := hid hkg95
             clear hkg95 hgg95
             have S97 := hid hb
             have S98 := hid (S80.out.trans (S97.out.mono S80.out.size))
             have S99 := hid (S81.out.trans (S97.out.mono S81.out.size))
             have S100 := hid (S82.out.trans (S97.out.mono S82.out.size))
             have S101 := hid (S83.out.trans (S97.out.mono S83.out.size))
             have S102 := hid (S79.out.trans (S97.out.mono S79.out.size))
             have S103 := hid (S84.out.trans (S97.out.mono S84.out.size))
             clear hb
             clear tokA
             have hS := And.intro (B73.out.below S102.out).cells3 (B3.out.below S98.out).cells3
             simp only [and_assoc] at hS)
          | (go_at_call 19
             have _t := tokB
             refine (eqSieve_yes _ _ _ _ _ _ _ x0_2 _ rfl (Blk.rd0 (K51.out.below S103.out)) (Blk.rd0 K96.out) hn0_2).mono ?_
             rintro e W104 ⟨rfl, hb⟩
             have S105 := hid hb
             have S106 := hid (S98.out.trans (S105.out.mono S98.out.size))
             have S107 := hid (S99.out.trans (S105.out.mono S99.out.size))
             have S108 := hid (S97.out.trans (S105.out.mono S97.out.size))
             have S109 := hid (S100.out.trans (S105.out.mono S100.out.size))
             have S110 := hid (S101.out.trans (S105.out.mono S101.out.size))
             have S111 := hid (S102.out.trans (S105.out.mono S102.out.size))
             have S112 := hid (S103.out.trans (S105.out.mono S103.out.size))
             clear hb
             clear tokB
             clear hS
             have hS := And.intro (B73.out.below S111.out).cells3 (B3.out.below S106.out).cells3
             simp only [and_assoc] at hS))
      clear hS
      have l116 : W65.heap.size < W104.heap.size := (B85.out.below S108.out).lt
      obtain ⟨c113, c114, c115⟩ := (B85.out.below S108.out).cells3
      have l120 : w.heap.size + 1 < W104.heap.size := (B4.out.below S106.out).lt
      obtain ⟨c117, c118, c119⟩ := (B4.out.below S106.out).cells3
      go_wp2_with fail
      have tokA : True := trivial
      have tokB : True := trivial
      go_region_held3 (fun w' => w'.cell? ⟨W65.heap.size, 0, none⟩ = some (.int .i64 a1_0) ∧ w'.cell? ⟨W65.heap.size, 1, none⟩ = some (.int .i64 a1_1) ∧ w'.cell? ⟨W65.heap.size, 2, none⟩ = some (.slice (some ⟨g66, 0, none⟩) x1_2.length x1_2.length) ∧ w'.cell? ⟨w.heap.size + 1, 0, none⟩ = some (.int .i64 a1_0) ∧ w'.cell? ⟨w.heap.size + 1, 1, none⟩ = some (.int .i64 a1_1) ∧ w'.cell? ⟨w.heap.size + 1, 2, none⟩ = some (.slice A1_2 x1_2.length c1_2)) (first | go_keep | exact hS)
        (first
          | (go_at_call 17
             have _t := tokA
             refine (toSieve_any a1_0 a1_1 A1_2 c1_2 x1_2 _ ((X1_2.out.below S107.out).drewN 1) hn1_2).mono ?_
             rintro e W121 ⟨g122, rfl, hgg122, hkg122, hb⟩
             have hb := below_drew' hb
             have K123 := hid hkg122
             clear hkg122 hgg122
             have S124 := hid hb
             have S125 := hid (S106.out.trans (S124.out.mono S106.out.size))
             have S126 := hid (S107.out.trans (S124.out.mono S107.out.size))
             have S127 := hid (S108.out.trans (S124.out.mono S108.out.size))
             have S128 := hid (S109.out.trans (S124.out.mono S109.out.size))
             have S129 := hid (S105.out.trans (S124.out.mono S105.out.size))
             have S130 := hid (S110.out.trans (S124.out.mono S110.out.size))
             have S131 := hid (S111.out.trans (S124.out.mono S111.out.size))
             have S132 := hid (S112.out.trans (S124.out.mono S112.out.size))
             clear hb
             clear tokA
             have hS := And.intro (B85.out.below S127.out).cells3 (B4.out.below S125.out).cells3
             simp only [and_assoc] at hS)
          | (go_at_call 19
             have _t := tokB
             refine (eqSieve_yes _ _ _ _ _ _ _ x1_2 _ rfl (Blk.rd0 (K67.out.below S131.out)) (Blk.rd0 K123.out) hn1_2).mono ?_
             rintro e W133 ⟨rfl, hb⟩
             have S134 := hid hb
             have S135 := hid (S125.out.trans (S134.out.mono S125.out.size))
             have S136 := hid (S126.out.trans (S134.out.mono S126.out.size))
             have S137 := hid (S127.out.trans (S134.out.mono S127.out.size))
             have S138 := hid (S128.out.trans (S134.out.mono S128.out.size))
             have S139 := hid (S129.out.trans (S134.out.mono S129.out.size))
             have S140 := hid (S130.out.trans (S134.out.mono S130.out.size))
             have S141 := hid (S131.out.trans (S134.out.mono S131.out.size))
             have S142 := hid (S132.out.trans (S134.out.mono S132.out.size))
             clear hb
             clear tokB
             clear hS
             have hS := And.intro (B85.out.below S137.out).cells3 (B4.out.below S135.out).cells3
             simp only [and_assoc] at hS))
      clear hS
      go_wp2
      go_ret
      exact ⟨rfl, S136.out⟩
    · skip
      have hp0 : 0 ≤ 1048576 - ((x0_2.length : Int)) := by omega
      go_enter Try.func5, Try.ntmps5
      have Z := hid (Below.refl w.heap.size w)
      go_wp2_with fail
      refine (szSieve_yes _ _ _ _ _ _ _ (by omega) (by omega) (by omega)).mono ?_
      rintro e W1 ⟨rfl, hb⟩
      have S2 := below_call (below_a2 _ _ _) hb
      have B3 := hid (Blk.below (Blk.alloc (Blk.new w 24 [.int .i64 a0_0, .int .i64 a0_1, .slice A0_2 x0_2.length c0_2]) _) hb)
      have B4 := hid (Blk.below (Blk.new2 w _ 24 [.int .i64 a1_0, .int .i64 a1_1, .slice A1_2 x1_2.length c1_2]) hb)
      clear hb
      have l8 : w.heap.size < W1.heap.size := B3.out.lt
      obtain ⟨c5, c6, c7⟩ := B3.out.cells3
      have l12 : w.heap.size + 1 < W1.heap.size := B4.out.lt
      obtain ⟨c9, c10, c11⟩ := B4.out.cells3
      go_wp2_with fail
      refine (szSieve_no _ _ _ _ _ _ _ (by omega) (by omega) hm1_2 (by omega)).mono ?_
      rintro e W13 ⟨rfl, hb⟩
      have S14 := hid hb
      have S15 := hid (S2.out.trans (S14.out.mono S2.out.size))
      clear hb
      go_wp2_with fail
      go_ret
      exact ⟨rfl, S15.out⟩
  · skip
    go_enter Try.func5, Try.ntmps5
    have Z := hid (Below.refl w.heap.size w)
    go_wp2_with fail
    refine (szSieve_no _ _ _ _ _ _ _ (by omega) (by omega) hm0_2 (by omega)).mono ?_
    rintro e W1 ⟨rfl, hb⟩
    have S2 := below_call (below_a2 _ _ _) hb
    have B3 := hid (Blk.below (Blk.alloc (Blk.new w 24 [.int .i64 a0_0, .int .i64 a0_1, .slice A0_2 x0_2.length c0_2]) _) hb)
    have B4 := hid (Blk.below (Blk.new2 w _ 24 [.int .i64 a1_0, .int .i64 a1_1, .slice A1_2 x1_2.length c1_2]) hb)
    clear hb
    go_wp2_with fail
    go_ret
    exact ⟨rfl, S2.out⟩

end Go.Proofs.Ytekgohnggnlonaa
