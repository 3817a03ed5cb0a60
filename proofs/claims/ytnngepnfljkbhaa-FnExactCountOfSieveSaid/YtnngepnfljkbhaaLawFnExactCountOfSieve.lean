/-
  FnExactCountOfSieve: the walk of the law, out of the contracts of spec.CountOfSieve and impl.CountOfSieve. Printed by gen_law.py.
-/
import Derived.Test.YtnngepnfljkbhaaStSieve
import Derived.Test.YtnngepnfljkbhaaCountW
import Derived.Test.YtnngepnfljkbhaaOpen
namespace Go.Proofs.Ytnngepnfljkbhaa
open Go.RowKit
set_option linter.unusedVariables false

set_option maxHeartbeats 1600000 in
theorem FnExactCountOfSieve_any (a0_0 : Int) (a0_1 : Int) (A0_2 : Option Addr) (c0_2 : Nat) (x0_2 : List Bool) (w : World) (w0_0 : W64 a0_0) (w0_1 : W64 a0_1) (hx0_2 : RdL Value.bool w A0_2 x0_2) (hm0_2 : x0_2.length ≤ 9223372036854775807) :
    Calls Try.prog 9 #[.agg #[.int .i64 a0_0, .int .i64 a0_1, .slice A0_2 x0_2.length c0_2]] w fun e w' => e = .returned (.bool true) ∧ Below w.heap.size w w' := by
  have X0_2 := hid hx0_2
  clear hx0_2
  obtain ⟨d64_0, hd64, hnn0⟩ := widen (nn_CountOfSieve a0_0 a0_1 x0_2)
  have hcv0 : ∀ w, (convert 26 32 (.float .f32 (pCountOfSieve a0_0 a0_1 x0_2).1)).run Try.prog w = .ok (.float .f64 d64_0) w := fun w => run_convert_float_float w _ _ .f32 .f64 _ _ (by rw [Try.underlying26]; rfl) Try.underlying32 hd64
  have hnn0 := hid hnn0
  clear hd64
  by_cases hn0 : (x0_2.length : Int) ≤ 1048576
  · skip
    have hn0_2 : x0_2.length ≤ 1048576 := by omega
    go_enter Try.func9, Try.ntmps9
    have Z := hid (Below.refl w.heap.size w)
    have hp0 : 0 ≤ 1048576 - ((x0_2.length : Int)) := by omega
    go_wp2_with fail
    refine (szSieve_yes _ _ _ _ _ _ _ (by omega) (by omega) (by omega)).mono ?_
    rintro e W1 ⟨rfl, hb⟩
    have S2 := below_call (below_a1 _ _) hb
    have B3 := hid (Blk.below (Blk.new w 24 [.int .i64 a0_0, .int .i64 a0_1, .slice A0_2 x0_2.length c0_2]) hb)
    clear hb
    have l7 : w.heap.size < W1.heap.size := B3.out.lt
    obtain ⟨c4, c5, c6⟩ := B3.out.cells3
    go_wp2_with fail
    refine (toSieve_any a0_0 a0_1 A0_2 c0_2 x0_2 _ (X0_2.out.below S2.out) hn0_2).mono ?_
    rintro e W8 ⟨g9, rfl, hgg9, hkg9, hb⟩
    have K10 := hid (OwnS.of_blk hkg9 (B := W1.heap.size) hgg9)
    clear hkg9 hgg9
    have S11 := hid hb
    have S12 := hid (S2.out.trans (S11.out.mono S2.out.size))
    clear hb
    clear c4 c5 c6 l7
    have l16 : w.heap.size < W8.heap.size := (B3.out.below S11.out).lt
    obtain ⟨c13, c14, c15⟩ := (B3.out.below S11.out).cells3
    go_wp2_with fail
    refine (sCountOfSieve_any _ _ _ x0_2.length x0_2 _ w0_0 w0_1 (OwnS.rd K10.out) hn0_2).mono ?_
    rintro e W17 ⟨rfl, hb⟩
    have S18 := hid hb
    have S19 := hid (S12.out.trans (S18.out.mono S12.out.size))
    have S20 := hid (S11.out.trans (S18.out.mono S11.out.size))
    clear hb
    clear c13 c14 c15 l16
    have l24 : w.heap.size < W17.heap.size := (B3.out.below S20.out).lt
    obtain ⟨c21, c22, c23⟩ := (B3.out.below S20.out).cells3
    go_wp2_with fail
    refine (toSieve_any a0_0 a0_1 A0_2 c0_2 x0_2 _ (X0_2.out.below S19.out) hn0_2).mono ?_
    rintro e W25 ⟨g26, rfl, hgg26, hkg26, hb⟩
    have K27 := hid (OwnS.of_blk hkg26 (B := W17.heap.size) hgg26)
    clear hkg26 hgg26
    have S28 := hid hb
    have S29 := hid (S18.out.trans (S28.out.mono S18.out.size))
    have S30 := hid (S19.out.trans (S28.out.mono S19.out.size))
    have S31 := hid (S20.out.trans (S28.out.mono S20.out.size))
    clear hb
    clear c21 c22 c23 l24
    go_wp2_with fail
    refine (iCountOfSieve_any _ _ _ x0_2.length x0_2 _ w0_0 w0_1 (OwnS.rd (OwnS.below K27.out (below_a1 _ _))) hn0_2).mono ?_
    rintro e W32 ⟨rfl, hb⟩
    have S33 := below_call (below_a1 _ _) hb
    have S34 := hid (S29.out.trans (S33.out.mono S29.out.size))
    have S35 := hid (S30.out.trans (S33.out.mono S30.out.size))
    have S36 := hid (S31.out.trans (S33.out.mono S31.out.size))
    have B37 := hid (Blk.below (Blk.new W25 29 [.int .i64 a0_0, .int .i64 a0_1, .slice (some ⟨g26, 0, none⟩) x0_2.length x0_2.length]) hb)
    clear hb
    go_wp2_with fail
    refine (sameFloat_refl d64_0 _ hnn0.out).mono ?_
    rintro e W38 ⟨rfl, rfl⟩
    have l42 : W25.heap.size < W32.heap.size := B37.out.lt
    obtain ⟨c39, c40, c41⟩ := B37.out.cells3
    have l46 : w.heap.size < W32.heap.size := (B3.out.below S36.out).lt
    obtain ⟨c43, c44, c45⟩ := (B3.out.below S36.out).cells3
    go_wp2_with fail
    have tokA : True := trivial
    have tokB : True := trivial
    go_region_held3 (fun w' => w'.cell? ⟨W25.heap.size, 0, none⟩ = some (.int .i64 a0_0) ∧ w'.cell? ⟨W25.heap.size, 1, none⟩ = some (.int .i64 a0_1) ∧ w'.cell? ⟨W25.heap.size, 2, none⟩ = some (.slice (some ⟨g26, 0, none⟩) x0_2.length x0_2.length) ∧ w'.cell? ⟨w.heap.size, 0, none⟩ = some (.int .i64 a0_0) ∧ w'.cell? ⟨w.heap.size, 1, none⟩ = some (.int .i64 a0_1) ∧ w'.cell? ⟨w.heap.size, 2, none⟩ = some (.slice A0_2 x0_2.length c0_2)) (first | go_keep | exact hS)
      (first
        | (go_at_call 17
           have _t := tokA
           refine (toSieve_any a0_0 a0_1 A0_2 c0_2 x0_2 _ ((X0_2.out.below S35.out).drewN 1) hn0_2).mono ?_
           rintro e W47 ⟨g48, rfl, hgg48, hkg48, hb⟩
           have hb := below_drew' hb
           have K49 := hid (OwnS.of_blk hkg48 (B := W32.heap.size) hgg48)
           clear hkg48 hgg48
           have S50 := hid hb
           have S51 := hid (S34.out.trans (S50.out.mono S34.out.size))
           have S52 := hid (S35.out.trans (S50.out.mono S35.out.size))
           have S53 := hid (S33.out.trans (S50.out.mono S33.out.size))
           have S54 := hid (S36.out.trans (S50.out.mono S36.out.size))
           clear hb
           clear tokA
           have hS := And.intro (B37.out.below S50.out).cells3 (B3.out.below S54.out).cells3
           simp only [and_assoc] at hS)
        | (go_at_call 20
           have _t := tokB
           refine (eqSieve_yes _ _ _ _ _ _ _ x0_2 _ rfl (OwnS.rd (K27.out.below S53.out)) (OwnS.rd K49.out) hn0_2).mono ?_
           rintro e W55 ⟨rfl, hb⟩
           have S56 := hid hb
           have S57 := hid (S51.out.trans (S56.out.mono S51.out.size))
           have S58 := hid (S52.out.trans (S56.out.mono S52.out.size))
           have S59 := hid (S53.out.trans (S56.out.mono S53.out.size))
           have S60 := hid (S50.out.trans (S56.out.mono S50.out.size))
           have S61 := hid (S54.out.trans (S56.out.mono S54.out.size))
           clear hb
           clear tokB
           clear hS
           have hS := And.intro (B37.out.below S60.out).cells3 (B3.out.below S61.out).cells3
           simp only [and_assoc] at hS))
    clear hS
    go_wp2
    go_ret
    exact ⟨rfl, S58.out⟩
  · skip
    go_enter Try.func9, Try.ntmps9
    have Z := hid (Below.refl w.heap.size w)
    go_wp2_with fail
    refine (szSieve_no _ _ _ _ _ _ _ (by omega) (by omega) hm0_2 (by omega)).mono ?_
    rintro e W1 ⟨rfl, hb⟩
    have S2 := below_call (below_a1 _ _) hb
    have B3 := hid (Blk.below (Blk.new w 24 [.int .i64 a0_0, .int .i64 a0_1, .slice A0_2 x0_2.length c0_2]) hb)
    clear hb
    go_wp2_with fail
    go_ret
    exact ⟨rfl, S2.out⟩

end Go.Proofs.Ytnngepnfljkbhaa
