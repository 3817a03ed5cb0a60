/-
  FnExactInPeeled: the walk of the law, out of the contracts of spec.InPeeled and impl.InPeeled. Printed by gen_law.py.
-/
import Derived.Test.YtlcpchpodcchlaaPeeled
import Derived.Test.YtlcpchpodcchlaaOpen
namespace Go.Proofs.Ytlcpchpodcchlaa
open Go.RowKit
set_option linter.unusedVariables false

set_option maxHeartbeats 1600000 in
theorem FnExactInPeeled_any (A0 : Option Addr) (c0 : Nat) (x0 : List Int) (a1 : Int) (a2 : Int) (w : World) (hx0 : RdL (Value.int .i64) w A0 x0) (hm0 : x0.length ≤ 9223372036854775807) (we0 : ∀ y ∈ x0, W64 y) (w1 : W64 a1) (w2 : W64 a2) :
    Calls Try.prog 3 #[.slice A0 x0.length c0, .int .i64 a1, .int .i64 a2] w fun e w' => e = .returned (.bool true) ∧ Below w.heap.size w w' := by
  have X0 := hid hx0
  clear hx0
  by_cases hn0 : (x0.length : Int) ≤ 1048576
  · skip
    have hn0 : x0.length ≤ 1048576 := by omega
    go_enter Try.func3, Try.ntmps3
    have Z := hid (Below.refl w.heap.size w)
    go_wp2_with fail
    refine (toInt64S_any A0 c0 x0 _ X0.out hn0).mono ?_
    rintro e W1 ⟨g2, rfl, hgg2, hkg2, hb⟩
    have K3 := hid (OwnS.of_blk hkg2 (B := w.heap.size) hgg2)
    clear hkg2 hgg2
    have S4 := hid hb
    clear hb
    go_wp2_with fail
    refine (sInPeeled_any _ x0.length x0 _ _ _ (OwnS.rd K3.out) hn0 we0 w1 w2).mono ?_
    rintro e W5 ⟨rfl, hb⟩
    have S6 := hid hb
    have S7 := hid (S4.out.trans (S6.out.mono S4.out.size))
    clear hb
    go_wp2_with fail
    refine (toInt64S_any A0 c0 x0 _ (X0.out.below S7.out) hn0).mono ?_
    rintro e W8 ⟨g9, rfl, hgg9, hkg9, hb⟩
    have K10 := hid (OwnS.of_blk hkg9 (B := W5.heap.size) hgg9)
    clear hkg9 hgg9
    have S11 := hid hb
    have S12 := hid (S6.out.trans (S11.out.mono S6.out.size))
    have S13 := hid (S7.out.trans (S11.out.mono S7.out.size))
    clear hb
    go_wp2_with fail
    refine (iInPeeled_any _ x0.length x0 _ _ _ (OwnS.rd K10.out) hn0 we0 w1 w2).mono ?_
    rintro e W14 ⟨rfl, hb⟩
    have S15 := hid hb
    have S16 := hid (S12.out.trans (S15.out.mono S12.out.size))
    have S17 := hid (S13.out.trans (S15.out.mono S13.out.size))
    clear hb
    go_wp2_with fail
    refine (toInt64S_any A0 c0 x0 _ (X0.out.below S17.out) hn0).mono ?_
    rintro e W18 ⟨g19, rfl, hgg19, hkg19, hb⟩
    have K20 := hid (OwnS.of_blk hkg19 (B := W14.heap.size) hgg19)
    clear hkg19 hgg19
    have S21 := hid hb
    have S22 := hid (S15.out.trans (S21.out.mono S15.out.size))
    have S23 := hid (S16.out.trans (S21.out.mono S16.out.size))
    have S24 := hid (S17.out.trans (S21.out.mono S17.out.size))
    clear hb
    go_wp2_with fail
    refine (eqInt64S_any _ _ _ _ _ _ _ (OwnS.rd (K10.out.below S22.out)) (OwnS.rd K20.out) hn0).mono ?_
    rintro e W25 ⟨rfl, nd, hnd⟩
    simp only [decide_true]
    have hb := below_of_draw hnd
    clear hnd
    have S26 := hid hb
    have S27 := hid (S22.out.trans (S26.out.mono S22.out.size))
    have S28 := hid (S23.out.trans (S26.out.mono S23.out.size))
    have S29 := hid (S24.out.trans (S26.out.mono S24.out.size))
    clear hb
    go_wp2
    go_ret
    exact ⟨rfl, S29.out⟩
  · skip
    have hd : (1048576 : Int) < x0.length := by omega
    go_enter Try.func3, Try.ntmps3
    go_wp2
    go_ret
    exact ⟨rfl, Below.refl _ _⟩

end Go.Proofs.Ytlcpchpodcchlaa
