/-
  FnExactChiOfKeys: the walk of the law, out of the contracts of spec.ChiOfKeys and impl.ChiOfKeys. Printed by gen_law.py.
-/
import Derived.Test.YtnngepnfljkbhaaChiWalk
import Derived.Test.YtnngepnfljkbhaaOpen
namespace Go.Proofs.Ytnngepnfljkbhaa
open Go.RowKit
set_option linter.unusedVariables false

set_option maxHeartbeats 1600000 in
theorem FnExactChiOfKeys_any (A0 : Option Addr) (c0 : Nat) (x0 : List Int) (a1 : Int) (a2 : Int) (w : World) (hx0 : RdL (Value.int .i64) w A0 x0) (hm0 : x0.length ≤ 9223372036854775807) (we0 : ∀ y ∈ x0, W64 y) (w1 : W64 a1) (w2 : W64 a2) :
    Calls Try.prog 6 #[.slice A0 x0.length c0, .int .i64 a1, .int .i64 a2] w fun e w' => e = .returned (.bool true) ∧ Below w.heap.size w w' := by
  have X0 := hid hx0
  clear hx0
  obtain ⟨d64_0, hd64, hnn0⟩ := widen (nn_ChiOfKeys x0 a1 a2)
  have hcv0 : ∀ w, (convert 26 32 (.float .f32 (pChiOfKeys x0 a1 a2).1)).run Try.prog w = .ok (.float .f64 d64_0) w := fun w => run_convert_float_float w _ _ .f32 .f64 _ _ (by rw [Try.underlying26]; rfl) Try.underlying32 hd64
  have hnn0 := hid hnn0
  clear hd64
  by_cases hn0 : (x0.length : Int) ≤ 1048576
  · skip
    have hn0 : x0.length ≤ 1048576 := by omega
    go_enter Try.func6, Try.ntmps6
    have Z := hid (Below.refl w.heap.size w)
    go_wp2_with fail
    refine (toInt64S_any A0 c0 x0 _ X0.out hn0).mono ?_
    rintro e W1 ⟨g2, rfl, hgg2, hkg2, hb⟩
    have K3 := hid (OwnS.of_blk hkg2 (B := w.heap.size) hgg2)
    clear hkg2 hgg2
    have S4 := hid hb
    clear hb
    go_wp2_with fail
    refine (sChiOfKeys_any _ x0.length x0 _ _ _ (OwnS.rd K3.out) hn0 we0 w1 w2).mono ?_
    rintro e W5 ⟨rfl, hb⟩
    have S6 := hid hb
    have S7 := hid (S4.out.trans (S6.out.mono S4.out.size))
    clear hb
    go_wp2_with fail
    refine (toInt64S_any A0 c0 x0 _ (X0.out.below S7.out) hn0).mono ?_
    rintro e W8 ⟨g9, rfl, hgg9, hkg9, hb⟩
    have K10 := hid (OwnS.of_blk hkg9 (B := W5.heap.size) hgg9)
    clear hkg9 hgg9
    have S11 := hid hb
    have S12 := hid (S7.out.trans (S11.out.mono S7.out.size))
    have S13 := hid (S6.out.trans (S11.out.mono S6.out.size))
    clear hb
    go_wp2_with fail
    refine (iChiOfKeys_any _ x0.length x0 _ _ _ (OwnS.rd K10.out) hn0 we0 w1 w2).mono ?_
    rintro e W14 ⟨rfl, hb⟩
    have S15 := hid hb
    have S16 := hid (S12.out.trans (S15.out.mono S12.out.size))
    have S17 := hid (S13.out.trans (S15.out.mono S13.out.size))
    clear hb
    go_wp2_with fail
    refine (sameFloat_refl d64_0 _ hnn0.out).mono ?_
    rintro e W18 ⟨rfl, rfl⟩
    go_wp2_with fail
    refine (toInt64S_any A0 c0 x0 _ (X0.out.below S16.out) hn0).mono ?_
    rintro e W19 ⟨g20, rfl, hgg20, hkg20, hb⟩
    have K21 := hid (OwnS.of_blk hkg20 (B := W14.heap.size) hgg20)
    clear hkg20 hgg20
    have S22 := hid hb
    have S23 := hid (S15.out.trans (S22.out.mono S15.out.size))
    have S24 := hid (S16.out.trans (S22.out.mono S16.out.size))
    have S25 := hid (S17.out.trans (S22.out.mono S17.out.size))
    clear hb
    go_wp2_with fail
    refine (eqInt64S_any _ _ _ _ _ _ _ (OwnS.rd (K10.out.below S23.out)) (OwnS.rd K21.out) hn0).mono ?_
    rintro e W26 ⟨rfl, nd, hnd⟩
    simp only [decide_true]
    have hb := below_of_draw hnd
    clear hnd
    have S27 := hid hb
    have S28 := hid (S23.out.trans (S27.out.mono S23.out.size))
    have S29 := hid (S24.out.trans (S27.out.mono S24.out.size))
    have S30 := hid (S25.out.trans (S27.out.mono S25.out.size))
    clear hb
    go_wp2
    go_ret
    exact ⟨rfl, S29.out⟩
  · skip
    have hd : (1048576 : Int) < x0.length := by omega
    go_enter Try.func6, Try.ntmps6
    go_wp2
    go_ret
    exact ⟨rfl, Below.refl _ _⟩

end Go.Proofs.Ytnngepnfljkbhaa
