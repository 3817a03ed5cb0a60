/-
  FnExactSameTops: the walk of the law, out of the contracts of spec.SameTops and impl.SameTops. Printed by gen_law.py.
-/
import Derived.Test.YtekgohnggnlonaaStTops
import Derived.Test.YtekgohnggnlonaaSame
import Derived.Test.YtekgohnggnlonaaOpen
namespace Go.Proofs.Ytekgohnggnlonaa
open Go.RowKit
set_option linter.unusedVariables false

set_option maxHeartbeats 1600000 in
theorem FnExactSameTops_any (a0_0 : Int) (A0_1 : Option Addr) (c0_1 : Nat) (x0_1 : List Int) (A0_2 : Option Addr) (c0_2 : Nat) (x0_2 : List Int) (A0_3 : Option Addr) (c0_3 : Nat) (x0_3 : List Int) (a1_0 : Int) (A1_1 : Option Addr) (c1_1 : Nat) (x1_1 : List Int) (A1_2 : Option Addr) (c1_2 : Nat) (x1_2 : List Int) (A1_3 : Option Addr) (c1_3 : Nat) (x1_3 : List Int) (w : World) (w0_0 : W64 a0_0) (hx0_1 : RdL (Value.int .i64) w A0_1 x0_1) (hm0_1 : x0_1.length ≤ 9223372036854775807) (we0_1 : ∀ y ∈ x0_1, W64 y) (hx0_2 : RdL (Value.int .i64) w A0_2 x0_2) (hm0_2 : x0_2.length ≤ 9223372036854775807) (we0_2 : ∀ y ∈ x0_2, W64 y) (hx0_3 : RdL (Value.int .i64) w A0_3 x0_3) (hm0_3 : x0_3.length ≤ 9223372036854775807) (we0_3 : ∀ y ∈ x0_3, W64 y) (w1_0 : W64 a1_0) (hx1_1 : RdL (Value.int .i64) w A1_1 x1_1) (hm1_1 : x1_1.length ≤ 9223372036854775807) (we1_1 : ∀ y ∈ x1_1, W64 y) (hx1_2 : RdL (Value.int .i64) w A1_2 x1_2) (hm1_2 : x1_2.length ≤ 9223372036854775807) (we1_2 : ∀ y ∈ x1_2, W64 y) (hx1_3 : RdL (Value.int .i64) w A1_3 x1_3) (hm1_3 : x1_3.length ≤ 9223372036854775807) (we1_3 : ∀ y ∈ x1_3, W64 y) :
    Calls Try.prog 11 #[.agg #[.int .i64 a0_0, .slice A0_1 x0_1.length c0_1, .slice A0_2 x0_2.length c0_2, .slice A0_3 x0_3.length c0_3], .agg #[.int .i64 a1_0, .slice A1_1 x1_1.length c1_1, .slice A1_2 x1_2.length c1_2, .slice A1_3 x1_3.length c1_3]] w fun e w' => e = .returned (.bool true) ∧ Below w.heap.size w w' := by
  have X0_1 := hid hx0_1
  have X0_2 := hid hx0_2
  have X0_3 := hid hx0_3
  have X1_1 := hid hx1_1
  have X1_2 := hid hx1_2
  have X1_3 := hid hx1_3
  clear hx0_1 hx0_2 hx0_3 hx1_1 hx1_2 hx1_3
  by_cases hn0 : (x0_1.length : Int) + (x0_2.length : Int) + (x0_3.length : Int) ≤ 1048576
  · skip
    by_cases hn1 : (x1_1.length : Int) + (x1_2.length : Int) + (x1_3.length : Int) ≤ 1048576 - ((x0_1.length : Int) + (x0_2.length : Int) + (x0_3.length : Int))
    · skip
      have hn0_1 : x0_1.length ≤ 1048576 := by omega
      have hn0_2 : x0_2.length ≤ 1048576 := by omega
      have hn0_3 : x0_3.length ≤ 1048576 := by omega
      have hn1_1 : x1_1.length ≤ 1048576 := by omega
      have hn1_2 : x1_2.length ≤ 1048576 := by omega
      have hn1_3 : x1_3.length ≤ 1048576 := by omega
      go_enter Try.func11, Try.ntmps11
      have Z := hid (Below.refl w.heap.size w)
      have hp0 : 0 ≤ 1048576 - ((x0_1.length : Int) + (x0_2.length : Int) + (x0_3.length : Int)) := by omega
      have hp1 : 0 ≤ 1048576 - ((x0_1.length : Int) + (x0_2.length : Int) + (x0_3.length : Int)) - ((x1_1.length : Int) + (x1_2.length : Int) + (x1_3.length : Int)) := by omega
      go_wp2_with fail
      refine (szTops_yes _ _ _ _ _ _ _ _ _ _ _ _ (by omega) (by omega) (by omega)).mono ?_
      rintro e W1 ⟨rfl, hb⟩
      have S2 := below_call (below_a2 _ _ _) hb
      have B3 := hid (Blk.below (Blk.alloc (Blk.new w 70 [.int .i64 a0_0, .slice A0_1 x0_1.length c0_1, .slice A0_2 x0_2.length c0_2, .slice A0_3 x0_3.length c0_3]) _) hb)
      have B4 := hid (Blk.below (Blk.new2 w _ 70 [.int .i64 a1_0, .slice A1_1 x1_1.length c1_1, .slice A1_2 x1_2.length c1_2, .slice A1_3 x1_3.length c1_3]) hb)
      clear hb
      have l9 : w.heap.size < W1.heap.size := B3.out.lt
      obtain ⟨c5, c6, c7, c8⟩ := B3.out.cells4
      have l14 : w.heap.size + 1 < W1.heap.size := B4.out.lt
      obtain ⟨c10, c11, c12, c13⟩ := B4.out.cells4
      go_wp2_with fail
      refine (szTops_yes _ _ _ _ _ _ _ _ _ _ _ _ (by omega) (by omega) (by omega)).mono ?_
      rintro e W15 ⟨rfl, hb⟩
      have S16 := hid hb
      have S17 := hid (S2.out.trans (S16.out.mono S2.out.size))
      clear hb
      clear c5 c6 c7 c8 l9 c10 c11 c12 c13 l14
      have l22 : w.heap.size < W15.heap.size := (B3.out.below S16.out).lt
      obtain ⟨c18, c19, c20, c21⟩ := (B3.out.below S16.out).cells4
      have l27 : w.heap.size + 1 < W15.heap.size := (B4.out.below S16.out).lt
      obtain ⟨c23, c24, c25, c26⟩ := (B4.out.below S16.out).cells4
      go_wp2_with fail
      have tok0 : True := trivial
      have tok1 : True := trivial
      have tokX : True := trivial
      go_region_held3 (fun w' => w'.cell? ⟨w.heap.size, 0, none⟩ = some (.int .i64 a0_0) ∧ w'.cell? ⟨w.heap.size, 1, none⟩ = some (.slice A0_1 x0_1.length c0_1) ∧ w'.cell? ⟨w.heap.size, 2, none⟩ = some (.slice A0_2 x0_2.length c0_2) ∧ w'.cell? ⟨w.heap.size, 3, none⟩ = some (.slice A0_3 x0_3.length c0_3) ∧ w'.cell? ⟨w.heap.size + 1, 0, none⟩ = some (.int .i64 a1_0) ∧ w'.cell? ⟨w.heap.size + 1, 1, none⟩ = some (.slice A1_1 x1_1.length c1_1) ∧ w'.cell? ⟨w.heap.size + 1, 2, none⟩ = some (.slice A1_2 x1_2.length c1_2) ∧ w'.cell? ⟨w.heap.size + 1, 3, none⟩ = some (.slice A1_3 x1_3.length c1_3)) (first | go_keep | exact hS)
        (first
          | (go_at_call 50
             have _t := tok0
             refine (toTops_any a0_0 A0_1 A0_2 A0_3 c0_1 c0_2 c0_3 x0_1 x0_2 x0_3 _ ((X0_1.out.below S17.out).drewN 1) ((X0_2.out.below S17.out).drewN 1) ((X0_3.out.below S17.out).drewN 1) hn0_1 hn0_2 hn0_3).mono ?_
             rintro e W28 ⟨g29, g30, g31, rfl, hgg29, hkg29, hgg30, hkg30, hgg31, hkg31, hltg30, hltg31, hb⟩
             have hb := below_drew' hb
             have K32 := hid hkg29
             have K33 := hid hkg30
             have K34 := hid hkg31
             clear hkg29 hgg29 hkg30 hgg30 hkg31 hgg31
             have S35 := hid hb
             have S36 := hid (S16.out.trans (S35.out.mono S16.out.size))
             have S37 := hid (S17.out.trans (S35.out.mono S17.out.size))
             clear hb
             clear tok0
             have hS := And.intro (B3.out.below S36.out).cells4 ((B4.out.below S36.out).cells4)
             simp only [and_assoc] at hS)
          | (go_at_call 50
             have _t := tok1
             refine (toTops_any a1_0 A1_1 A1_2 A1_3 c1_1 c1_2 c1_3 x1_1 x1_2 x1_3 _ (X1_1.out.below S37.out) (X1_2.out.below S37.out) (X1_3.out.below S37.out) hn1_1 hn1_2 hn1_3).mono ?_
             rintro e W38 ⟨g39, g40, g41, rfl, hgg39, hkg39, hgg40, hkg40, hgg41, hkg41, hltg40, hltg41, hb⟩
             have K42 := hid hkg39
             have K43 := hid hkg40
             have K44 := hid hkg41
             clear hkg39 hgg39 hkg40 hgg40 hkg41 hgg41
             have S45 := hid hb
             have S46 := hid (S36.out.trans (S45.out.mono S36.out.size))
             have S47 := hid (S37.out.trans (S45.out.mono S37.out.size))
             clear hb
             clear tok1
             have hS := And.intro (B3.out.below S46.out).cells4 ((B4.out.below S46.out).cells4)
             simp only [and_assoc] at hS)
          | (go_at_call 49
             have _t := tokX
             refine (sSameTops_any _ _ _ x0_1 _ _ x0_2 _ _ x0_3 _ _ _ x1_1 _ _ x1_2 _ _ x1_3 _ w0_0 (Blk.rd0 (K32.out.below S45.out)) hn0_1 we0_1 (Blk.rd0 (K33.out.below S45.out)) hn0_2 we0_2 (Blk.rd0 (K34.out.below S45.out)) hn0_3 we0_3 w1_0 (Blk.rd0 K42.out) hn1_1 we1_1 (Blk.rd0 K43.out) hn1_2 we1_2 (Blk.rd0 K44.out) hn1_3 we1_3).mono ?_
             rintro e W48 ⟨rfl, hb⟩
             have S49 := hid hb
             have S50 := hid (S46.out.trans (S49.out.mono S46.out.size))
             have S51 := hid (S45.out.trans (S49.out.mono S45.out.size))
             have S52 := hid (S47.out.trans (S49.out.mono S47.out.size))
             clear hb
             clear tokX
             have hS := And.intro (B3.out.below S50.out).cells4 ((B4.out.below S50.out).cells4)
             simp only [and_assoc] at hS))
      have l57 : w.heap.size < W48.heap.size := (B3.out.below S50.out).lt
      obtain ⟨c53, c54, c55, c56⟩ := (B3.out.below S50.out).cells4
      have l62 : w.heap.size + 1 < W48.heap.size := (B4.out.below S50.out).lt
      obtain ⟨c58, c59, c60, c61⟩ := (B4.out.below S50.out).cells4
      go_wp2_with fail
      refine (toTops_any a0_0 A0_1 A0_2 A0_3 c0_1 c0_2 c0_3 x0_1 x0_2 x0_3 _ (X0_1.out.below S52.out) (X0_2.out.below S52.out) (X0_3.out.below S52.out) hn0_1 hn0_2 hn0_3).mono ?_
      rintro e W63 ⟨g64, g65, g66, rfl, hgg64, hkg64, hgg65, hkg65, hgg66, hkg66, hltg65, hltg66, hb⟩
      have K67 := hid hkg64
      have K68 := hid hkg65
      have K69 := hid hkg66
      clear hkg64 hgg64 hkg65 hgg65 hkg66 hgg66
      have S70 := hid hb
      have S71 := hid (S49.out.trans (S70.out.mono S49.out.size))
      have S72 := hid (S50.out.trans (S70.out.mono S50.out.size))
      have S73 := hid (S51.out.trans (S70.out.mono S51.out.size))
      have S74 := hid (S52.out.trans (S70.out.mono S52.out.size))
      clear hb
      clear c53 c54 c55 c56 l57 c58 c59 c60 c61 l62
      have l79 : w.heap.size < W63.heap.size := (B3.out.below S72.out).lt
      obtain ⟨c75, c76, c77, c78⟩ := (B3.out.below S72.out).cells4
      have l84 : w.heap.size + 1 < W63.heap.size := (B4.out.below S72.out).lt
      obtain ⟨c80, c81, c82, c83⟩ := (B4.out.below S72.out).cells4
      go_wp2_with fail
      refine (toTops_any a1_0 A1_1 A1_2 A1_3 c1_1 c1_2 c1_3 x1_1 x1_2 x1_3 _ ((X1_1.out.below S74.out).below (below_a1 _ _)) ((X1_2.out.below S74.out).below (below_a1 _ _)) ((X1_3.out.below S74.out).below (below_a1 _ _)) hn1_1 hn1_2 hn1_3).mono ?_
      rintro e W85 ⟨g86, g87, g88, rfl, hgg86, hkg86, hgg87, hkg87, hgg88, hkg88, hltg87, hltg88, hb⟩
      have K89 := hid hkg86
      have K90 := hid hkg87
      have K91 := hid hkg88
      clear hkg86 hgg86 hkg87 hgg87 hkg88 hgg88
      have S92 := below_call (below_a1 _ _) hb
      have S93 := hid (S72.out.trans (S92.out.mono S72.out.size))
      have S94 := hid (S74.out.trans (S92.out.mono S74.out.size))
      have S95 := hid (S71.out.trans (S92.out.mono S71.out.size))
      have S96 := hid (S73.out.trans (S92.out.mono S73.out.size))
      have B97 := hid (Blk.below (Blk.new W63 73 [.int .i64 a0_0, .slice (some ⟨g64, 0, none⟩) x0_1.length x0_1.length, .slice (some ⟨g65, 0, none⟩) x0_2.length x0_2.length, .slice (some ⟨g66, 0, none⟩) x0_3.length x0_3.length]) hb)
      clear hb
      clear c75 c76 c77 c78 l79 c80 c81 c82 c83 l84
      have l102 : W63.heap.size < W85.heap.size := B97.out.lt
      obtain ⟨c98, c99, c100, c101⟩ := B97.out.cells4
      go_wp2_with fail
      refine (iSameTops_any _ _ _ x0_1 _ _ x0_2 _ _ x0_3 _ _ _ x1_1 _ _ x1_2 _ _ x1_3 _ w0_0 (Blk.rd0 (Blk.below (K67.out.below S92.out) (below_a1 _ _))) hn0_1 we0_1 (Blk.rd0 (Blk.below (K68.out.below S92.out) (below_a1 _ _))) hn0_2 we0_2 (Blk.rd0 (Blk.below (K69.out.below S92.out) (below_a1 _ _))) hn0_3 we0_3 w1_0 (Blk.rd0 (Blk.below K89.out (below_a1 _ _))) hn1_1 we1_1 (Blk.rd0 (Blk.below K90.out (below_a1 _ _))) hn1_2 we1_2 (Blk.rd0 (Blk.below K91.out (below_a1 _ _))) hn1_3 we1_3).mono ?_
      rintro e W103 ⟨rfl, hb⟩
      have S104 := below_call (below_a1 _ _) hb
      have S105 := hid (S93.out.trans (S104.out.mono S93.out.size))
      have S106 := hid (S94.out.trans (S104.out.mono S94.out.size))
      have S107 := hid (S92.out.trans (S104.out.mono S92.out.size))
      have S108 := hid (S95.out.trans (S104.out.mono S95.out.size))
      have S109 := hid (S96.out.trans (S104.out.mono S96.out.size))
      have B110 := hid (Blk.below (Blk.new W85 73 [.int .i64 a1_0, .slice (some ⟨g86, 0, none⟩) x1_1.length x1_1.length, .slice (some ⟨g87, 0, none⟩) x1_2.length x1_2.length, .slice (some ⟨g88, 0, none⟩) x1_3.length x1_3.length]) hb)
      clear hb
      clear c98 c99 c100 c101 l102
      have l115 : W63.heap.size < W103.heap.size := (B97.out.below S104.out).lt
      obtain ⟨c111, c112, c113, c114⟩ := (B97.out.below S104.out).cells4
      have l120 : w.heap.size < W103.heap.size := (B3.out.below S105.out).lt
      obtain ⟨c116, c117, c118, c119⟩ := (B3.out.below S105.out).cells4
      go_wp2_with fail
      have tokA : True := trivial
      have tokB : True := trivial
      go_region_held3 (fun w' => w'.cell? ⟨W63.heap.size, 0, none⟩ = some (.int .i64 a0_0) ∧ w'.cell? ⟨W63.heap.size, 1, none⟩ = some (.slice (some ⟨g64, 0, none⟩) x0_1.length x0_1.length) ∧ w'.cell? ⟨W63.heap.size, 2, none⟩ = some (.slice (some ⟨g65, 0, none⟩) x0_2.length x0_2.length) ∧ w'.cell? ⟨W63.heap.size, 3, none⟩ = some (.slice (some ⟨g66, 0, none⟩) x0_3.length x0_3.length) ∧ w'.cell? ⟨w.heap.size, 0, none⟩ = some (.int .i64 a0_0) ∧ w'.cell? ⟨w.heap.size, 1, none⟩ = some (.slice A0_1 x0_1.length c0_1) ∧ w'.cell? ⟨w.heap.size, 2, none⟩ = some (.slice A0_2 x0_2.length c0_2) ∧ w'.cell? ⟨w.heap.size, 3, none⟩ = some (.slice A0_3 x0_3.length c0_3)) (first | go_keep | exact hS)
        (first
          | (go_at_call 50
             have _t := tokA
             refine (toTops_any a0_0 A0_1 A0_2 A0_3 c0_1 c0_2 c0_3 x0_1 x0_2 x0_3 _ ((X0_1.out.below S106.out).drewN 1) ((X0_2.out.below S106.out).drewN 1) ((X0_3.out.below S106.out).drewN 1) hn0_1 hn0_2 hn0_3).mono ?_
             rintro e W121 ⟨g122, g123, g124, rfl, hgg122, hkg122, hgg123, hkg123, hgg124, hkg124, hltg123, hltg124, hb⟩
             have hb := below_drew' hb
             have K125 := hid hkg122
             have K126 := hid hkg123
             have K127 := hid hkg124
             clear hkg122 hgg122 hkg123 hgg123 hkg124 hgg124
             have S128 := hid hb
             have S129 := hid (S105.out.trans (S128.out.mono S105.out.size))
             have S130 := hid (S106.out.trans (S128.out.mono S106.out.size))
             have S131 := hid (S107.out.trans (S128.out.mono S107.out.size))
             have S132 := hid (S104.out.trans (S128.out.mono S104.out.size))
             have S133 := hid (S108.out.trans (S128.out.mono S108.out.size))
             have S134 := hid (S109.out.trans (S128.out.mono S109.out.size))
             clear hb
             clear tokA
             have hS := And.intro (B97.out.below S132.out).cells4 (B3.out.below S129.out).cells4
             simp only [and_assoc] at hS)
          | (go_at_call 52
             have _t := tokB
             refine (eqTops_yes _ _ _ _ _ _ _ _ _ _ _ _ _ _ _ _ x0_1 x0_2 x0_3 _ rfl rfl rfl (Blk.rd0 (K67.out.below S131.out)) (Blk.rd0 K125.out) (Blk.rd0 (K68.out.below S131.out)) (Blk.rd0 K126.out) (Blk.rd0 (K69.out.below S131.out)) (Blk.rd0 K127.out) hn0_1 hn0_2 hn0_3).mono ?_
             rintro e W135 ⟨rfl, hb⟩
             have S136 := hid hb
             have S137 := hid (S129.out.trans (S136.out.mono S129.out.size))
             have S138 := hid (S128.out.trans (S136.out.mono S128.out.size))
             have S139 := hid (S130.out.trans (S136.out.mono S130.out.size))
             have S140 := hid (S131.out.trans (S136.out.mono S131.out.size))
             have S141 := hid (S132.out.trans (S136.out.mono S132.out.size))
             have S142 := hid (S133.out.trans (S136.out.mono S133.out.size))
             have S143 := hid (S134.out.trans (S136.out.mono S134.out.size))
             clear hb
             clear tokB
             clear hS
             have hS := And.intro (B97.out.below S141.out).cells4 (B3.out.below S137.out).cells4
             simp only [and_assoc] at hS))
      clear hS
      have l148 : W85.heap.size < W135.heap.size := (B110.out.below S138.out).lt
      obtain ⟨c144, c145, c146, c147⟩ := (B110.out.below S138.out).cells4
      have l153 : w.heap.size + 1 < W135.heap.size := (B4.out.below S137.out).lt
      obtain ⟨c149, c150, c151, c152⟩ := (B4.out.below S137.out).cells4
      go_wp2_with fail
      have tokA : True := trivial
      have tokB : True := trivial
      go_region_held3 (fun w' => w'.cell? ⟨W85.heap.size, 0, none⟩ = some (.int .i64 a1_0) ∧ w'.cell? ⟨W85.heap.size, 1, none⟩ = some (.slice (some ⟨g86, 0, none⟩) x1_1.length x1_1.length) ∧ w'.cell? ⟨W85.heap.size, 2, none⟩ = some (.slice (some ⟨g87, 0, none⟩) x1_2.length x1_2.length) ∧ w'.cell? ⟨W85.heap.size, 3, none⟩ = some (.slice (some ⟨g88, 0, none⟩) x1_3.length x1_3.length) ∧ w'.cell? ⟨w.heap.size + 1, 0, none⟩ = some (.int .i64 a1_0) ∧ w'.cell? ⟨w.heap.size + 1, 1, none⟩ = some (.slice A1_1 x1_1.length c1_1) ∧ w'.cell? ⟨w.heap.size + 1, 2, none⟩ = some (.slice A1_2 x1_2.length c1_2) ∧ w'.cell? ⟨w.heap.size + 1, 3, none⟩ = some (.slice A1_3 x1_3.length c1_3)) (first | go_keep | exact hS)
        (first
          | (go_at_call 50
             have _t := tokA
             refine (toTops_any a1_0 A1_1 A1_2 A1_3 c1_1 c1_2 c1_3 x1_1 x1_2 x1_3 _ ((X1_1.out.below S139.out).drewN 1) ((X1_2.out.below S139.out).drewN 1) ((X1_3.out.below S139.out).drewN 1) hn1_1 hn1_2 hn1_3).mono ?_
             rintro e W154 ⟨g155, g156, g157, rfl, hgg155, hkg155, hgg156, hkg156, hgg157, hkg157, hltg156, hltg157, hb⟩
             have hb := below_drew' hb
             have K158 := hid hkg155
             have K159 := hid hkg156
             have K160 := hid hkg157
             clear hkg155 hgg155 hkg156 hgg156 hkg157 hgg157
             have S161 := hid hb
             have S162 := hid (S137.out.trans (S161.out.mono S137.out.size))
             have S163 := hid (S138.out.trans (S161.out.mono S138.out.size))
             have S164 := hid (S139.out.trans (S161.out.mono S139.out.size))
             have S165 := hid (S140.out.trans (S161.out.mono S140.out.size))
             have S166 := hid (S141.out.trans (S161.out.mono S141.out.size))
             have S167 := hid (S142.out.trans (S161.out.mono S142.out.size))
             have S168 := hid (S136.out.trans (S161.out.mono S136.out.size))
             have S169 := hid (S143.out.trans (S161.out.mono S143.out.size))
             clear hb
             clear tokA
             have hS := And.intro (B110.out.below S163.out).cells4 (B4.out.below S162.out).cells4
             simp only [and_assoc] at hS)
          | (go_at_call 52
             have _t := tokB
             refine (eqTops_yes _ _ _ _ _ _ _ _ _ _ _ _ _ _ _ _ x1_1 x1_2 x1_3 _ rfl rfl rfl (Blk.rd0 (K89.out.below S166.out)) (Blk.rd0 K158.out) (Blk.rd0 (K90.out.below S166.out)) (Blk.rd0 K159.out) (Blk.rd0 (K91.out.below S166.out)) (Blk.rd0 K160.out) hn1_1 hn1_2 hn1_3).mono ?_
             rintro e W170 ⟨rfl, hb⟩
             have S171 := hid hb
             have S172 := hid (S162.out.trans (S171.out.mono S162.out.size))
             have S173 := hid (S163.out.trans (S171.out.mono S163.out.size))
             have S174 := hid (S164.out.trans (S171.out.mono S164.out.size))
             have S175 := hid (S165.out.trans (S171.out.mono S165.out.size))
             have S176 := hid (S166.out.trans (S171.out.mono S166.out.size))
             have S177 := hid (S167.out.trans (S171.out.mono S167.out.size))
             have S178 := hid (S168.out.trans (S171.out.mono S168.out.size))
             have S179 := hid (S169.out.trans (S171.out.mono S169.out.size))
             clear hb
             clear tokB
             clear hS
             have hS := And.intro (B110.out.below S173.out).cells4 (B4.out.below S172.out).cells4
             simp only [and_assoc] at hS))
      clear hS
      go_wp2
      go_ret
      exact ⟨rfl, S174.out⟩
    · skip
      have hp0 : 0 ≤ 1048576 - ((x0_1.length : Int) + (x0_2.length : Int) + (x0_3.length : Int)) := by omega
      go_enter Try.func11, Try.ntmps11
      have Z := hid (Below.refl w.heap.size w)
      go_wp2_with fail
      refine (szTops_yes _ _ _ _ _ _ _ _ _ _ _ _ (by omega) (by omega) (by omega)).mono ?_
      rintro e W1 ⟨rfl, hb⟩
      have S2 := below_call (below_a2 _ _ _) hb
      have B3 := hid (Blk.below (Blk.alloc (Blk.new w 70 [.int .i64 a0_0, .slice A0_1 x0_1.length c0_1, .slice A0_2 x0_2.length c0_2, .slice A0_3 x0_3.length c0_3]) _) hb)
      have B4 := hid (Blk.below (Blk.new2 w _ 70 [.int .i64 a1_0, .slice A1_1 x1_1.length c1_1, .slice A1_2 x1_2.length c1_2, .slice A1_3 x1_3.length c1_3]) hb)
      clear hb
      have l9 : w.heap.size < W1.heap.size := B3.out.lt
      obtain ⟨c5, c6, c7, c8⟩ := B3.out.cells4
      have l14 : w.heap.size + 1 < W1.heap.size := B4.out.lt
      obtain ⟨c10, c11, c12, c13⟩ := B4.out.cells4
      go_wp2_with fail
      refine (szTops_no _ _ _ _ _ _ _ _ _ _ _ _ (by omega) (by omega) hm1_1 hm1_2 hm1_3 (by omega)).mono ?_
      rintro e W15 ⟨rfl, hb⟩
      have S16 := hid hb
      have S17 := hid (S2.out.trans (S16.out.mono S2.out.size))
      clear hb
      go_wp2_with fail
      go_ret
      exact ⟨rfl, S17.out⟩
  · skip
    go_enter Try.func11, Try.ntmps11
    have Z := hid (Below.refl w.heap.size w)
    go_wp2_with fail
    refine (szTops_no _ _ _ _ _ _ _ _ _ _ _ _ (by omega) (by omega) hm0_1 hm0_2 hm0_3 (by omega)).mono ?_
    rintro e W1 ⟨rfl, hb⟩
    have S2 := below_call (below_a2 _ _ _) hb
    have B3 := hid (Blk.below (Blk.alloc (Blk.new w 70 [.int .i64 a0_0, .slice A0_1 x0_1.length c0_1, .slice A0_2 x0_2.length c0_2, .slice A0_3 x0_3.length c0_3]) _) hb)
    have B4 := hid (Blk.below (Blk.new2 w _ 70 [.int .i64 a1_0, .slice A1_1 x1_1.length c1_1, .slice A1_2 x1_2.length c1_2, .slice A1_3 x1_3.length c1_3]) hb)
    clear hb
    go_wp2_with fail
    go_ret
    exact ⟨rfl, S2.out⟩

end Go.Proofs.Ytekgohnggnlonaa
