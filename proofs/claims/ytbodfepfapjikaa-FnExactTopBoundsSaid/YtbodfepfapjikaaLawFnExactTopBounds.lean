/-
  FnExactTopBounds: the walk of the law, out of the contracts of spec.TopBounds and impl.TopBounds. Printed by gen_law.py.
-/
import Derived.Test.YtbodfepfapjikaaStTops
import Derived.Test.YtbodfepfapjikaaTopsB
import Derived.Test.YtbodfepfapjikaaOpen
namespace Go.Proofs.Ytbodfepfapjikaa
open Go.RowKit
set_option linter.unusedVariables false

set_option maxHeartbeats 1600000 in
theorem FnExactTopBounds_any (a0_0 : Int) (A0_1 : Option Addr) (c0_1 : Nat) (x0_1 : List Int) (A0_2 : Option Addr) (c0_2 : Nat) (x0_2 : List Int) (A0_3 : Option Addr) (c0_3 : Nat) (x0_3 : List Int) (a1 : Int) (w : World) (w0_0 : W64 a0_0) (hx0_1 : RdL (Value.int .i64) w A0_1 x0_1) (hm0_1 : x0_1.length ≤ 9223372036854775807) (we0_1 : ∀ y ∈ x0_1, W64 y) (hx0_2 : RdL (Value.int .i64) w A0_2 x0_2) (hm0_2 : x0_2.length ≤ 9223372036854775807) (we0_2 : ∀ y ∈ x0_2, W64 y) (hx0_3 : RdL (Value.int .i64) w A0_3 x0_3) (hm0_3 : x0_3.length ≤ 9223372036854775807) (we0_3 : ∀ y ∈ x0_3, W64 y) (w1 : W64 a1) :
    Calls Try.prog 5 #[.agg #[.int .i64 a0_0, .slice A0_1 x0_1.length c0_1, .slice A0_2 x0_2.length c0_2, .slice A0_3 x0_3.length c0_3], .int .i64 a1] w fun e w' => e = .returned (.bool true) ∧ Below w.heap.size w w' := by
  have X0_1 := hid hx0_1
  have X0_2 := hid hx0_2
  have X0_3 := hid hx0_3
  clear hx0_1 hx0_2 hx0_3
  by_cases hn0 : (x0_1.length : Int) + (x0_2.length : Int) + (x0_3.length : Int) ≤ 1048576
  · skip
    have hn0_1 : x0_1.length ≤ 1048576 := by omega
    have hn0_2 : x0_2.length ≤ 1048576 := by omega
    have hn0_3 : x0_3.length ≤ 1048576 := by omega
    go_enter Try.func5, Try.ntmps5
    have Z := hid (Below.refl w.heap.size w)
    have hp0 : 0 ≤ 1048576 - ((x0_1.length : Int) + (x0_2.length : Int) + (x0_3.length : Int)) := by omega
    go_wp2_with fail
    refine (szTops_yes _ _ _ _ _ _ _ _ _ _ _ _ (by omega) (by omega) (by omega)).mono ?_
    rintro e W1 ⟨rfl, hb⟩
    have S2 := below_call (below_a1 _ _) hb
    have B3 := hid (Blk.below (Blk.new w 30 [.int .i64 a0_0, .slice A0_1 x0_1.length c0_1, .slice A0_2 x0_2.length c0_2, .slice A0_3 x0_3.length c0_3]) hb)
    clear hb
    have l8 : w.heap.size < W1.heap.size := B3.out.lt
    obtain ⟨c4, c5, c6, c7⟩ := B3.out.cells4
    go_wp2_with fail
    refine (toTops_any a0_0 A0_1 A0_2 A0_3 c0_1 c0_2 c0_3 x0_1 x0_2 x0_3 _ (X0_1.out.below S2.out) (X0_2.out.below S2.out) (X0_3.out.below S2.out) hn0_1 hn0_2 hn0_3).mono ?_
    rintro e W9 ⟨g10, g11, g12, rfl, hgg10, hkg10, hgg11, hkg11, hgg12, hkg12, hltg11, hltg12, hb⟩
    have K13 := hid (OwnS.of_blk hkg10 (B := W1.heap.size) hgg10)
    have K14 := hid (OwnS.of_blk hkg11 (B := W1.heap.size) hgg11)
    have K15 := hid (OwnS.of_blk hkg12 (B := W1.heap.size) hgg12)
    clear hkg10 hgg10 hkg11 hgg11 hkg12 hgg12
    have S16 := hid hb
    have S17 := hid (S2.out.trans (S16.out.mono S2.out.size))
    clear hb
    clear c4 c5 c6 c7 l8
    have l22 : w.heap.size < W9.heap.size := (B3.out.below S16.out).lt
    obtain ⟨c18, c19, c20, c21⟩ := (B3.out.below S16.out).cells4
    go_wp2_with fail
    refine (sTopBounds_any _ _ x0_1.length x0_1 _ x0_2.length x0_2 _ x0_3.length x0_3 _ _ w0_0 (OwnS.rd K13.out) hn0_1 we0_1 (OwnS.rd K14.out) hn0_2 we0_2 (OwnS.rd K15.out) hn0_3 we0_3 w1).mono ?_
    rintro e W23 ⟨rfl, hb⟩
    have S24 := hid hb
    have S25 := hid (S17.out.trans (S24.out.mono S17.out.size))
    have S26 := hid (S16.out.trans (S24.out.mono S16.out.size))
    clear hb
    clear c18 c19 c20 c21 l22
    have l31 : w.heap.size < W23.heap.size := (B3.out.below S26.out).lt
    obtain ⟨c27, c28, c29, c30⟩ := (B3.out.below S26.out).cells4
    go_wp2_with fail
    refine (toTops_any a0_0 A0_1 A0_2 A0_3 c0_1 c0_2 c0_3 x0_1 x0_2 x0_3 _ (X0_1.out.below S25.out) (X0_2.out.below S25.out) (X0_3.out.below S25.out) hn0_1 hn0_2 hn0_3).mono ?_
    rintro e W32 ⟨g33, g34, g35, rfl, hgg33, hkg33, hgg34, hkg34, hgg35, hkg35, hltg34, hltg35, hb⟩
    have K36 := hid (OwnS.of_blk hkg33 (B := W23.heap.size) hgg33)
    have K37 := hid (OwnS.of_blk hkg34 (B := W23.heap.size) hgg34)
    have K38 := hid (OwnS.of_blk hkg35 (B := W23.heap.size) hgg35)
    clear hkg33 hgg33 hkg34 hgg34 hkg35 hgg35
    have S39 := hid hb
    have S40 := hid (S24.out.trans (S39.out.mono S24.out.size))
    have S41 := hid (S25.out.trans (S39.out.mono S25.out.size))
    have S42 := hid (S26.out.trans (S39.out.mono S26.out.size))
    clear hb
    clear c27 c28 c29 c30 l31
    go_wp2_with fail
    refine (iTopBounds_any _ _ x0_1.length x0_1 _ x0_2.length x0_2 _ x0_3.length x0_3 _ _ w0_0 (OwnS.rd (OwnS.below K36.out (below_a1 _ _))) hn0_1 we0_1 (OwnS.rd (OwnS.below K37.out (below_a1 _ _))) hn0_2 we0_2 (OwnS.rd (OwnS.below K38.out (below_a1 _ _))) hn0_3 we0_3 w1).mono ?_
    rintro e W43 ⟨rfl, hb⟩
    have S44 := below_call (below_a1 _ _) hb
    have S45 := hid (S40.out.trans (S44.out.mono S40.out.size))
    have S46 := hid (S41.out.trans (S44.out.mono S41.out.size))
    have S47 := hid (S42.out.trans (S44.out.mono S42.out.size))
    have B48 := hid (Blk.below (Blk.new W32 33 [.int .i64 a0_0, .slice (some ⟨g33, 0, none⟩) x0_1.length x0_1.length, .slice (some ⟨g34, 0, none⟩) x0_2.length x0_2.length, .slice (some ⟨g35, 0, none⟩) x0_3.length x0_3.length]) hb)
    clear hb
    have l53 : W32.heap.size < W43.heap.size := B48.out.lt
    obtain ⟨c49, c50, c51, c52⟩ := B48.out.cells4
    have l58 : w.heap.size < W43.heap.size := (B3.out.below S47.out).lt
    obtain ⟨c54, c55, c56, c57⟩ := (B3.out.below S47.out).cells4
    go_wp2_with fail
    have tokA : True := trivial
    have tokB : True := trivial
    go_region_held3 (fun w' => w'.cell? ⟨W32.heap.size, 0, none⟩ = some (.int .i64 a0_0) ∧ w'.cell? ⟨W32.heap.size, 1, none⟩ = some (.slice (some ⟨g33, 0, none⟩) x0_1.length x0_1.length) ∧ w'.cell? ⟨W32.heap.size, 2, none⟩ = some (.slice (some ⟨g34, 0, none⟩) x0_2.length x0_2.length) ∧ w'.cell? ⟨W32.heap.size, 3, none⟩ = some (.slice (some ⟨g35, 0, none⟩) x0_3.length x0_3.length) ∧ w'.cell? ⟨w.heap.size, 0, none⟩ = some (.int .i64 a0_0) ∧ w'.cell? ⟨w.heap.size, 1, none⟩ = some (.slice A0_1 x0_1.length c0_1) ∧ w'.cell? ⟨w.heap.size, 2, none⟩ = some (.slice A0_2 x0_2.length c0_2) ∧ w'.cell? ⟨w.heap.size, 3, none⟩ = some (.slice A0_3 x0_3.length c0_3)) (first | go_keep | exact hS)
      (first
        | (go_at_call 21
           have _t := tokA
           refine (toTops_any a0_0 A0_1 A0_2 A0_3 c0_1 c0_2 c0_3 x0_1 x0_2 x0_3 _ ((X0_1.out.below S46.out).drewN 1) ((X0_2.out.below S46.out).drewN 1) ((X0_3.out.below S46.out).drewN 1) hn0_1 hn0_2 hn0_3).mono ?_
           rintro e W59 ⟨g60, g61, g62, rfl, hgg60, hkg60, hgg61, hkg61, hgg62, hkg62, hltg61, hltg62, hb⟩
           have hb := below_drew' hb
           have K63 := hid (OwnS.of_blk hkg60 (B := W43.heap.size) hgg60)
           have K64 := hid (OwnS.of_blk hkg61 (B := W43.heap.size) hgg61)
           have K65 := hid (OwnS.of_blk hkg62 (B := W43.heap.size) hgg62)
           clear hkg60 hgg60 hkg61 hgg61 hkg62 hgg62
           have S66 := hid hb
           have S67 := hid (S47.out.trans (S66.out.mono S47.out.size))
           have S68 := hid (S46.out.trans (S66.out.mono S46.out.size))
           have S69 := hid (S45.out.trans (S66.out.mono S45.out.size))
           have S70 := hid (S44.out.trans (S66.out.mono S44.out.size))
           clear hb
           clear tokA
           have hS := And.intro (B48.out.below S66.out).cells4 (B3.out.below S67.out).cells4
           simp only [and_assoc] at hS)
        | (go_at_call 23
           have _t := tokB
           refine (eqTops_yes _ _ _ _ _ _ _ _ _ _ _ _ _ _ _ _ x0_1 x0_2 x0_3 _ rfl rfl rfl (OwnS.rd (K36.out.below S70.out)) (OwnS.rd K63.out) (OwnS.rd (K37.out.below S70.out)) (OwnS.rd K64.out) (OwnS.rd (K38.out.below S70.out)) (OwnS.rd K65.out) hn0_1 hn0_2 hn0_3).mono ?_
           rintro e W71 ⟨rfl, hb⟩
           have S72 := hid hb
           have S73 := hid (S67.out.trans (S72.out.mono S67.out.size))
           have S74 := hid (S68.out.trans (S72.out.mono S68.out.size))
           have S75 := hid (S69.out.trans (S72.out.mono S69.out.size))
           have S76 := hid (S70.out.trans (S72.out.mono S70.out.size))
           have S77 := hid (S66.out.trans (S72.out.mono S66.out.size))
           clear hb
           clear tokB
           clear hS
           have hS := And.intro (B48.out.below S77.out).cells4 (B3.out.below S73.out).cells4
           simp only [and_assoc] at hS))
    clear hS
    go_wp2
    go_ret
    exact ⟨rfl, S74.out⟩
  · skip
    go_enter Try.func5, Try.ntmps5
    have Z := hid (Below.refl w.heap.size w)
    go_wp2_with fail
    refine (szTops_no _ _ _ _ _ _ _ _ _ _ _ _ (by omega) (by omega) hm0_1 hm0_2 hm0_3 (by omega)).mono ?_
    rintro e W1 ⟨rfl, hb⟩
    have S2 := below_call (below_a1 _ _) hb
    have B3 := hid (Blk.below (Blk.new w 30 [.int .i64 a0_0, .slice A0_1 x0_1.length c0_1, .slice A0_2 x0_2.length c0_2, .slice A0_3 x0_3.length c0_3]) hb)
    clear hb
    go_wp2_with fail
    go_ret
    exact ⟨rfl, S2.out⟩

end Go.Proofs.Ytbodfepfapjikaa
