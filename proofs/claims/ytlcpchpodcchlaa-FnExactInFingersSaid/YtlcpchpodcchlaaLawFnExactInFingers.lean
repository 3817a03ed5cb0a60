/-
  FnExactInFingers: the walk of the law, out of the contracts of spec.InFingers and impl.InFingers. Printed by gen_law.py.
-/
import Derived.Test.YtlcpchpodcchlaaStFingers
import Derived.Test.YtlcpchpodcchlaaOutFinger2
import Derived.Test.YtlcpchpodcchlaaOpen
namespace Go.Proofs.Ytlcpchpodcchlaa
open Go.RowKit
set_option linter.unusedVariables false

set_option maxHeartbeats 1600000 in
theorem FnExactInFingers_any (a0_0 : Int) (A0_1 : Option Addr) (c0_1 : Nat) (x0_1 : List Int) (a1 : Int) (w : World) (w0_0 : W64 a0_0) (hx0_1 : RdL (Value.int .i64) w A0_1 x0_1) (hm0_1 : x0_1.length ≤ 9223372036854775807) (we0_1 : ∀ y ∈ x0_1, W64 y) (w1 : W64 a1) :
    Calls Try.prog 10 #[.agg #[.int .i64 a0_0, .slice A0_1 x0_1.length c0_1], .int .i64 a1] w fun e w' => e = .returned (.bool true) ∧ Below w.heap.size w w' := by
  have X0_1 := hid hx0_1
  clear hx0_1
  by_cases hn0 : (x0_1.length : Int) ≤ 1048576
  · skip
    have hn0_1 : x0_1.length ≤ 1048576 := by omega
    go_enter Try.func10, Try.ntmps10
    have Z := hid (Below.refl w.heap.size w)
    have hp0 : 0 ≤ 1048576 - ((x0_1.length : Int)) := by omega
    go_wp2_with fail
    refine (szFingers_yes _ _ _ _ _ _ (by omega) (by omega) (by omega)).mono ?_
    rintro e W1 ⟨rfl, hb⟩
    have S2 := below_call (below_a1 _ _) hb
    have B3 := hid (Blk.below (Blk.new w 67 [.int .i64 a0_0, .slice A0_1 x0_1.length c0_1]) hb)
    clear hb
    have l6 : w.heap.size < W1.heap.size := B3.out.lt
    obtain ⟨c4, c5⟩ := B3.out.cells2
    go_wp2_with fail
    refine (toFingers_any a0_0 A0_1 c0_1 x0_1 _ (X0_1.out.below S2.out) hn0_1).mono ?_
    rintro e W7 ⟨g8, rfl, hgg8, hkg8, hb⟩
    have K9 := hid (OwnS.of_blk hkg8 (B := W1.heap.size) hgg8)
    clear hkg8 hgg8
    have S10 := hid hb
    have S11 := hid (S2.out.trans (S10.out.mono S2.out.size))
    clear hb
    clear c4 c5 l6
    have l14 : w.heap.size < W7.heap.size := (B3.out.below S10.out).lt
    obtain ⟨c12, c13⟩ := (B3.out.below S10.out).cells2
    go_wp2_with fail
    refine (sInFingers_any _ _ x0_1.length x0_1 _ _ w0_0 (OwnS.rd K9.out) hn0_1 we0_1 w1).mono ?_
    rintro e W15 ⟨rfl, hb⟩
    have S16 := hid hb
    have S17 := hid (S11.out.trans (S16.out.mono S11.out.size))
    have S18 := hid (S10.out.trans (S16.out.mono S10.out.size))
    clear hb
    clear c12 c13 l14
    have l21 : w.heap.size < W15.heap.size := (B3.out.below S18.out).lt
    obtain ⟨c19, c20⟩ := (B3.out.below S18.out).cells2
    go_wp2_with fail
    refine (toFingers_any a0_0 A0_1 c0_1 x0_1 _ (X0_1.out.below S17.out) hn0_1).mono ?_
    rintro e W22 ⟨g23, rfl, hgg23, hkg23, hb⟩
    have K24 := hid (OwnS.of_blk hkg23 (B := W15.heap.size) hgg23)
    clear hkg23 hgg23
    have S25 := hid hb
    have S26 := hid (S17.out.trans (S25.out.mono S17.out.size))
    have S27 := hid (S16.out.trans (S25.out.mono S16.out.size))
    have S28 := hid (S18.out.trans (S25.out.mono S18.out.size))
    clear hb
    clear c19 c20 l21
    go_wp2_with fail
    refine (iInFingers_any _ _ x0_1.length x0_1 _ _ w0_0 (OwnS.rd (OwnS.below K24.out (below_a1 _ _))) hn0_1 we0_1 w1).mono ?_
    rintro e W29 ⟨rfl, hb⟩
    have S30 := below_call (below_a1 _ _) hb
    have S31 := hid (S26.out.trans (S30.out.mono S26.out.size))
    have S32 := hid (S27.out.trans (S30.out.mono S27.out.size))
    have S33 := hid (S28.out.trans (S30.out.mono S28.out.size))
    have B34 := hid (Blk.below (Blk.new W22 70 [.int .i64 a0_0, .slice (some ⟨g23, 0, none⟩) x0_1.length x0_1.length]) hb)
    clear hb
    have l37 : W22.heap.size < W29.heap.size := B34.out.lt
    obtain ⟨c35, c36⟩ := B34.out.cells2
    have l40 : w.heap.size < W29.heap.size := (B3.out.below S33.out).lt
    obtain ⟨c38, c39⟩ := (B3.out.below S33.out).cells2
    go_wp2_with fail
    have tokA : True := trivial
    have tokB : True := trivial
    go_region_held3 (fun w' => w'.cell? ⟨W22.heap.size, 0, none⟩ = some (.int .i64 a0_0) ∧ w'.cell? ⟨W22.heap.size, 1, none⟩ = some (.slice (some ⟨g23, 0, none⟩) x0_1.length x0_1.length) ∧ w'.cell? ⟨w.heap.size, 0, none⟩ = some (.int .i64 a0_0) ∧ w'.cell? ⟨w.heap.size, 1, none⟩ = some (.slice A0_1 x0_1.length c0_1)) (first | go_keep | exact hS)
      (first
        | (go_at_call 49
           have _t := tokA
           refine (toFingers_any a0_0 A0_1 c0_1 x0_1 _ ((X0_1.out.below S31.out).drewN 1) hn0_1).mono ?_
           rintro e W41 ⟨g42, rfl, hgg42, hkg42, hb⟩
           have hb := below_drew' hb
           have K43 := hid (OwnS.of_blk hkg42 (B := W29.heap.size) hgg42)
           clear hkg42 hgg42
           have S44 := hid hb
           have S45 := hid (S31.out.trans (S44.out.mono S31.out.size))
           have S46 := hid (S30.out.trans (S44.out.mono S30.out.size))
           have S47 := hid (S32.out.trans (S44.out.mono S32.out.size))
           have S48 := hid (S33.out.trans (S44.out.mono S33.out.size))
           clear hb
           clear tokA
           have hS := And.intro (B34.out.below S44.out).cells2 (B3.out.below S48.out).cells2
           simp only [and_assoc] at hS)
        | (go_at_call 51
           have _t := tokB
           refine (eqFingers_yes _ _ _ _ _ _ x0_1 _ rfl (OwnS.rd (K24.out.below S46.out)) (OwnS.rd K43.out) hn0_1).mono ?_
           rintro e W49 ⟨rfl, hb⟩
           have S50 := hid hb
           have S51 := hid (S45.out.trans (S50.out.mono S45.out.size))
           have S52 := hid (S44.out.trans (S50.out.mono S44.out.size))
           have S53 := hid (S46.out.trans (S50.out.mono S46.out.size))
           have S54 := hid (S47.out.trans (S50.out.mono S47.out.size))
           have S55 := hid (S48.out.trans (S50.out.mono S48.out.size))
           clear hb
           clear tokB
           clear hS
           have hS := And.intro (B34.out.below S52.out).cells2 (B3.out.below S55.out).cells2
           simp only [and_assoc] at hS))
    clear hS
    go_wp2
    go_ret
    exact ⟨rfl, S51.out⟩
  · skip
    go_enter Try.func10, Try.ntmps10
    have Z := hid (Below.refl w.heap.size w)
    go_wp2_with fail
    refine (szFingers_no _ _ _ _ _ _ (by omega) (by omega) hm0_1 (by omega)).mono ?_
    rintro e W1 ⟨rfl, hb⟩
    have S2 := below_call (below_a1 _ _) hb
    have B3 := hid (Blk.below (Blk.new w 67 [.int .i64 a0_0, .slice A0_1 x0_1.length c0_1]) hb)
    clear hb
    go_wp2_with fail
    go_ret
    exact ⟨rfl, S2.out⟩

end Go.Proofs.Ytlcpchpodcchlaa
