/-
  FnExactCorrectedAt: the walk of the law, out of the contracts of spec.CorrectedAt and impl.CorrectedAt. Printed by gen_law.py.
-/
import Derived.Test.YtbodfepfapjikaaStCells
import Derived.Test.YtbodfepfapjikaaCorrected
import Derived.Test.YtbodfepfapjikaaOpen
namespace Go.Proofs.Ytbodfepfapjikaa
open Go.RowKit
set_option linter.unusedVariables false

set_option maxHeartbeats 1600000 in
theorem FnExactCorrectedAt_any (a0_0 : Int) (a0_1 : Int) (a0_2 : Int) (A0_3 : Option Addr) (c0_3 : Nat) (x0_3 : List Int) (a1 : Int) (w : World) (w0_0 : W64 a0_0) (w0_1 : W64 a0_1) (w0_2 : W64 a0_2) (hx0_3 : RdL (Value.int .i64) w A0_3 x0_3) (hm0_3 : x0_3.length ≤ 9223372036854775807) (we0_3 : ∀ y ∈ x0_3, W64 y) (w1 : W64 a1) :
    Calls Try.prog 9 #[.agg #[.int .i64 a0_0, .int .i64 a0_1, .int .i64 a0_2, .slice A0_3 x0_3.length c0_3], .int .i64 a1] w fun e w' => e = .returned (.bool true) ∧ Below w.heap.size w w' := by
  have X0_3 := hid hx0_3
  clear hx0_3
  obtain ⟨d64_0, hd64, hnn0⟩ := widen (nn_CorrectedAt a0_0 a0_1 a0_2 x0_3 a1)
  have hcv0 : ∀ w, (convert 54 58 (.float .f32 (pCorrectedAt a0_0 a0_1 a0_2 x0_3 a1).1)).run Try.prog w = .ok (.float .f64 d64_0) w := fun w => run_convert_float_float w _ _ .f32 .f64 _ _ (by rw [Try.underlying54]; rfl) Try.underlying58 hd64
  have hnn0 := hid hnn0
  clear hd64
  by_cases hn0 : (x0_3.length : Int) ≤ 1048576
  · skip
    have hn0_3 : x0_3.length ≤ 1048576 := by omega
    go_enter Try.func9, Try.ntmps9
    have Z := hid (Below.refl w.heap.size w)
    have hp0 : 0 ≤ 1048576 - ((x0_3.length : Int)) := by omega
    go_wp2_with fail
    refine (szCells_yes _ _ _ _ _ _ _ _ (by omega) (by omega) (by omega)).mono ?_
    rintro e W1 ⟨rfl, hb⟩
    have S2 := below_call (below_a1 _ _) hb
    have B3 := hid (Blk.below (Blk.new w 44 [.int .i64 a0_0, .int .i64 a0_1, .int .i64 a0_2, .slice A0_3 x0_3.length c0_3]) hb)
    clear hb
    have l8 : w.heap.size < W1.heap.size := B3.out.lt
    obtain ⟨c4, c5, c6, c7⟩ := B3.out.cells4
    go_wp2_with fail
    refine (toCells_any a0_0 a0_1 a0_2 A0_3 c0_3 x0_3 _ (X0_3.out.below S2.out) hn0_3).mono ?_
    rintro e W9 ⟨g10, rfl, hgg10, hkg10, hb⟩
    have K11 := hid (OwnS.of_blk hkg10 (B := W1.heap.size) hgg10)
    clear hkg10 hgg10
    have S12 := hid hb
    have S13 := hid (S2.out.trans (S12.out.mono S2.out.size))
    clear hb
    clear c4 c5 c6 c7 l8
    have l18 : w.heap.size < W9.heap.size := (B3.out.below S12.out).lt
    obtain ⟨c14, c15, c16, c17⟩ := (B3.out.below S12.out).cells4
    go_wp2_with fail
    refine (sCorrectedAt_any _ _ _ _ x0_3.length x0_3 _ _ w0_0 w0_1 w0_2 (OwnS.rd K11.out) hn0_3 we0_3 w1).mono ?_
    rintro e W19 ⟨rfl, hb⟩
    have S20 := hid hb
    have S21 := hid (S12.out.trans (S20.out.mono S12.out.size))
    have S22 := hid (S13.out.trans (S20.out.mono S13.out.size))
    clear hb
    clear c14 c15 c16 c17 l18
    have l27 : w.heap.size < W19.heap.size := (B3.out.below S21.out).lt
    obtain ⟨c23, c24, c25, c26⟩ := (B3.out.below S21.out).cells4
    go_wp2_with fail
    refine (toCells_any a0_0 a0_1 a0_2 A0_3 c0_3 x0_3 _ (X0_3.out.below S22.out) hn0_3).mono ?_
    rintro e W28 ⟨g29, rfl, hgg29, hkg29, hb⟩
    have K30 := hid (OwnS.of_blk hkg29 (B := W19.heap.size) hgg29)
    clear hkg29 hgg29
    have S31 := hid hb
    have S32 := hid (S21.out.trans (S31.out.mono S21.out.size))
    have S33 := hid (S20.out.trans (S31.out.mono S20.out.size))
    have S34 := hid (S22.out.trans (S31.out.mono S22.out.size))
    clear hb
    clear c23 c24 c25 c26 l27
    go_wp2_with fail
    refine (iCorrectedAt_any _ _ _ _ x0_3.length x0_3 _ _ w0_0 w0_1 w0_2 (OwnS.rd (OwnS.below K30.out (below_a1 _ _))) hn0_3 we0_3 w1).mono ?_
    rintro e W35 ⟨rfl, hb⟩
    have S36 := below_call (below_a1 _ _) hb
    have S37 := hid (S32.out.trans (S36.out.mono S32.out.size))
    have S38 := hid (S33.out.trans (S36.out.mono S33.out.size))
    have S39 := hid (S34.out.trans (S36.out.mono S34.out.size))
    have B40 := hid (Blk.below (Blk.new W28 48 [.int .i64 a0_0, .int .i64 a0_1, .int .i64 a0_2, .slice (some ⟨g29, 0, none⟩) x0_3.length x0_3.length]) hb)
    clear hb
    go_wp2_with fail
    refine (sameFloat_refl d64_0 _ hnn0.out).mono ?_
    rintro e W41 ⟨rfl, rfl⟩
    have l46 : W28.heap.size < W35.heap.size := B40.out.lt
    obtain ⟨c42, c43, c44, c45⟩ := B40.out.cells4
    have l51 : w.heap.size < W35.heap.size := (B3.out.below S37.out).lt
    obtain ⟨c47, c48, c49, c50⟩ := (B3.out.below S37.out).cells4
    go_wp2_with fail
    have tokA : True := trivial
    have tokB : True := trivial
    go_region_held3 (fun w' => w'.cell? ⟨W28.heap.size, 0, none⟩ = some (.int .i64 a0_0) ∧ w'.cell? ⟨W28.heap.size, 1, none⟩ = some (.int .i64 a0_1) ∧ w'.cell? ⟨W28.heap.size, 2, none⟩ = some (.int .i64 a0_2) ∧ w'.cell? ⟨W28.heap.size, 3, none⟩ = some (.slice (some ⟨g29, 0, none⟩) x0_3.length x0_3.length) ∧ w'.cell? ⟨w.heap.size, 0, none⟩ = some (.int .i64 a0_0) ∧ w'.cell? ⟨w.heap.size, 1, none⟩ = some (.int .i64 a0_1) ∧ w'.cell? ⟨w.heap.size, 2, none⟩ = some (.int .i64 a0_2) ∧ w'.cell? ⟨w.heap.size, 3, none⟩ = some (.slice A0_3 x0_3.length c0_3)) (first | go_keep | exact hS)
      (first
        | (go_at_call 31
           have _t := tokA
           refine (toCells_any a0_0 a0_1 a0_2 A0_3 c0_3 x0_3 _ ((X0_3.out.below S39.out).drewN 1) hn0_3).mono ?_
           rintro e W52 ⟨g53, rfl, hgg53, hkg53, hb⟩
           have hb := below_drew' hb
           have K54 := hid (OwnS.of_blk hkg53 (B := W35.heap.size) hgg53)
           clear hkg53 hgg53
           have S55 := hid hb
           have S56 := hid (S36.out.trans (S55.out.mono S36.out.size))
           have S57 := hid (S38.out.trans (S55.out.mono S38.out.size))
           have S58 := hid (S39.out.trans (S55.out.mono S39.out.size))
           have S59 := hid (S37.out.trans (S55.out.mono S37.out.size))
           clear hb
           clear tokA
           have hS := And.intro (B40.out.below S55.out).cells4 (B3.out.below S59.out).cells4
           simp only [and_assoc] at hS)
        | (go_at_call 33
           have _t := tokB
           refine (eqCells_yes _ _ _ _ _ _ _ _ x0_3 _ rfl (OwnS.rd (K30.out.below S56.out)) (OwnS.rd K54.out) hn0_3).mono ?_
           rintro e W60 ⟨rfl, hb⟩
           have S61 := hid hb
           have S62 := hid (S55.out.trans (S61.out.mono S55.out.size))
           have S63 := hid (S56.out.trans (S61.out.mono S56.out.size))
           have S64 := hid (S57.out.trans (S61.out.mono S57.out.size))
           have S65 := hid (S58.out.trans (S61.out.mono S58.out.size))
           have S66 := hid (S59.out.trans (S61.out.mono S59.out.size))
           clear hb
           clear tokB
           clear hS
           have hS := And.intro (B40.out.below S62.out).cells4 (B3.out.below S66.out).cells4
           simp only [and_assoc] at hS))
    clear hS
    go_wp2
    go_ret
    exact ⟨rfl, S65.out⟩
  · skip
    go_enter Try.func9, Try.ntmps9
    have Z := hid (Below.refl w.heap.size w)
    go_wp2_with fail
    refine (szCells_no _ _ _ _ _ _ _ _ (by omega) (by omega) hm0_3 (by omega)).mono ?_
    rintro e W1 ⟨rfl, hb⟩
    have S2 := below_call (below_a1 _ _) hb
    have B3 := hid (Blk.below (Blk.new w 44 [.int .i64 a0_0, .int .i64 a0_1, .int .i64 a0_2, .slice A0_3 x0_3.length c0_3]) hb)
    clear hb
    go_wp2_with fail
    go_ret
    exact ⟨rfl, S2.out⟩

end Go.Proofs.Ytbodfepfapjikaa
