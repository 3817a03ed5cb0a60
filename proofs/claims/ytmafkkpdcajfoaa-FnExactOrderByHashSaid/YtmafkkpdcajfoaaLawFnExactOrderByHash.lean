/-
  FnExactOrderByHash: the walk of the law, out of the contracts of spec.OrderByHash and impl.OrderByHash. Printed by gen_law.py.
-/
import Derived.Test.YtmafkkpdcajfoaaOrdI
import Derived.Test.YtmafkkpdcajfoaaOpen
namespace Go.Proofs.Ytmafkkpdcajfoaa
open Go.RowKit
set_option linter.unusedVariables false

set_option maxHeartbeats 1600000 in
theorem FnExactOrderByHash_any (A0 : Option Addr) (c0 : Nat) (x0 : List Int) (a1 : Int) (w : World) (hx0 : RdL (Value.int .i64) w A0 x0) (hm0 : x0.length ≤ 9223372036854775807) (we0 : ∀ y ∈ x0, W64 y) (w1 : W64 a1) :
    Calls Try.prog 4 #[.slice A0 x0.length c0, .int .i64 a1] w fun e w' => e = .returned (.bool true) ∧ Below w.heap.size w w' := by
  have X0 := hid hx0
  clear hx0
  by_cases hn0 : (x0.length : Int) ≤ 1048576
  · skip
    have hn0 : x0.length ≤ 1048576 := by omega
    go_enter Try.func4, Try.ntmps4
    have Z := hid (Below.refl w.heap.size w)
    go_wp2_with fail
    refine (toInt64S_any A0 c0 x0 _ X0.out hn0).mono ?_
    rintro e W1 ⟨g2, rfl, hgg2, hkg2, hb⟩
    have K3 := hid (OwnS.of_blk hkg2 (B := w.heap.size) hgg2)
    clear hkg2 hgg2
    have S4 := hid hb
    clear hb
    go_wp2_with fail
    refine (sOrderByHash_any _ x0.length x0 _ _ (OwnS.rd K3.out) hn0 we0 w1).mono ?_
    rintro e W5 ⟨Aw0, cw0, rfl, how0, hlw0, hb⟩
    have Ow0 := hid how0
    clear how0
    have S6 := hid hb
    have S7 := hid (S4.out.trans (S6.out.mono S4.out.size))
    clear hb
    go_wp2_with fail
    refine (toInt64S_any A0 c0 x0 _ (X0.out.below S7.out) hn0).mono ?_
    rintro e W8 ⟨g9, rfl, hgg9, hkg9, hb⟩
    have K10 := hid (OwnS.of_blk hkg9 (B := W5.heap.size) hgg9)
    clear hkg9 hgg9
    have S11 := hid hb
    have S12 := hid (S7.out.trans (S11.out.mono S7.out.size))
    have S13 := hid (S6.out.trans (S11.out.mono S6.out.size))
    clear hb
    go_wp2_with fail
    refine (iOrderByHash_any _ x0.length x0 _ _ (OwnS.rd K10.out) hn0 we0 w1).mono ?_
    rintro e W14 ⟨Ag0, cg0, rfl, hog0, hlg0, hb⟩
    have Og0 := hid hog0
    clear hog0
    have S15 := hid hb
    have S16 := hid (S11.out.trans (S15.out.mono S11.out.size))
    have S17 := hid (S12.out.trans (S15.out.mono S12.out.size))
    have S18 := hid (S13.out.trans (S15.out.mono S13.out.size))
    clear hb
    go_wp2_with fail
    refine (eqInt64S_any _ _ _ _ _ _ _ (OwnS.rd Og0.out) (OwnS.rd (Ow0.out.below S16.out)) hlg0).mono ?_
    rintro e W19 ⟨rfl, nd, hnd⟩
    simp only [decide_true]
    have hb := below_of_draw hnd
    clear hnd
    have S20 := hid hb
    have S21 := hid (S17.out.trans (S20.out.mono S17.out.size))
    have S22 := hid (S16.out.trans (S20.out.mono S16.out.size))
    have S23 := hid (S15.out.trans (S20.out.mono S15.out.size))
    have S24 := hid (S18.out.trans (S20.out.mono S18.out.size))
    clear hb
    go_wp2_with fail
    refine (toInt64S_any A0 c0 x0 _ (X0.out.below S21.out) hn0).mono ?_
    rintro e W25 ⟨g26, rfl, hgg26, hkg26, hb⟩
    have K27 := hid (OwnS.of_blk hkg26 (B := W19.heap.size) hgg26)
    clear hkg26 hgg26
    have S28 := hid hb
    have S29 := hid (S20.out.trans (S28.out.mono S20.out.size))
    have S30 := hid (S21.out.trans (S28.out.mono S21.out.size))
    have S31 := hid (S22.out.trans (S28.out.mono S22.out.size))
    have S32 := hid (S23.out.trans (S28.out.mono S23.out.size))
    have S33 := hid (S24.out.trans (S28.out.mono S24.out.size))
    clear hb
    go_wp2_with fail
    refine (eqInt64S_any _ _ _ _ _ _ _ (OwnS.rd (K10.out.below S32.out)) (OwnS.rd K27.out) hn0).mono ?_
    rintro e W34 ⟨rfl, nd, hnd⟩
    simp only [decide_true]
    have hb := below_of_draw hnd
    clear hnd
    have S35 := hid hb
    have S36 := hid (S29.out.trans (S35.out.mono S29.out.size))
    have S37 := hid (S30.out.trans (S35.out.mono S30.out.size))
    have S38 := hid (S31.out.trans (S35.out.mono S31.out.size))
    have S39 := hid (S32.out.trans (S35.out.mono S32.out.size))
    have S40 := hid (S33.out.trans (S35.out.mono S33.out.size))
    clear hb
    have hq0 : (0 : Int) ≤ 1 ∧ 1 ≤ 1000000000 := by omega
    go_wp2_with fail
    refine (markInt64S_any _ _ w.heap.size _ (1) _ (OwnS.mono (K10.out.below S39.out) (S7.out.size)) hn0 (by omega) (by omega)).mono ?_
    rintro e W41 ⟨rfl, hoM42, htt⟩
    have hbb := htt.below (OwnS.mono (K10.out.below S39.out) (S7.out.size))
    have ht := TouchAll.of_touch htt
    have S43 := hid ((S37.out).trans hbb)
    have T44 := hid (OwnS.touchAll (K3.out.below S40.out) ht (fun p hp => by simp only [List.mem_cons, List.not_mem_nil, or_false] at hp; subst hp; exact (Apart.symm (OwnS.apart_lt K3.out K10.out (S6.out.size)))))
    have T45 := hid (OwnS.touchAll (Ow0.out.below S38.out) ht (fun p hp => by simp only [List.mem_cons, List.not_mem_nil, or_false] at hp; subst hp; exact (Apart.symm (OwnS.apart_lt Ow0.out K10.out (Nat.le_refl _)))))
    have T46 := hid (OwnS.touchAll (Og0.out.below S36.out) ht (fun p hp => by simp only [List.mem_cons, List.not_mem_nil, or_false] at hp; subst hp; exact (OwnS.apart_lt K10.out Og0.out (Nat.le_refl _))))
    have T47 := hid (OwnS.touchAll (K27.out.below S35.out) ht (fun p hp => by simp only [List.mem_cons, List.not_mem_nil, or_false] at hp; subst hp; exact (OwnS.apart_lt K10.out K27.out (S23.out.size))))
    clear hoM42 hbb ht
    have hqk : (0 : Int) ≤ 1 + (x0.length : Int) := by omega
    go_wp2_with fail
    refine (eqInt64S_any _ _ _ _ _ _ _ (OwnS.rd T46.out) (OwnS.rd T45.out) hlg0).mono ?_
    rintro e W48 ⟨rfl, nd, hnd⟩
    simp only [decide_true]
    have hb := below_of_draw hnd
    clear hnd
    have S49 := hid hb
    have S50 := hid (S43.out.trans (S49.out.mono S43.out.size))
    clear hb
    go_wp2_with fail
    refine (markInt64S_any _ _ w.heap.size _ (1) _ (OwnS.mono (T46.out.below S49.out) (S12.out.size)) hlg0 (by omega) (by omega)).mono ?_
    rintro e W51 ⟨rfl, hoM52, htt⟩
    have hbb := htt.below (OwnS.mono (T46.out.below S49.out) (S12.out.size))
    have ht := TouchAll.of_touch htt
    have S53 := hid ((S50.out).trans hbb)
    have T54 := hid (OwnS.touchAll (T44.out.below S49.out) ht (fun p hp => by simp only [List.mem_cons, List.not_mem_nil, or_false] at hp; subst hp; exact (Apart.symm (OwnS.apart_lt K3.out Og0.out (S13.out.size)))))
    have T55 := hid (OwnS.touchAll (T45.out.below S49.out) ht (fun p hp => by simp only [List.mem_cons, List.not_mem_nil, or_false] at hp; subst hp; exact (Apart.symm (OwnS.apart_lt Ow0.out Og0.out (S11.out.size)))))
    have T56 := hid (OwnS.touchAll (T47.out.below S49.out) ht (fun p hp => by simp only [List.mem_cons, List.not_mem_nil, or_false] at hp; subst hp; exact (OwnS.apart_lt Og0.out K27.out (S20.out.size))))
    have M52 := hid hoM52
    clear hoM52 hbb ht
    have hqm : (0 : Int) ≤ 1 + ((pOrderByHash x0 a1).1.length : Int) := by omega
    go_wp2_with fail
    refine (heldInt64S_yes _ _ _ (1) _ (OwnS.rd M52.out) hlg0 (by omega) (by omega)).mono ?_
    rintro e W57 ⟨rfl, rfl⟩
    go_wp2_with fail
    refine (toInt64S_any A0 c0 x0 _ (X0.out.below S53.out) hn0).mono ?_
    rintro e W58 ⟨g59, rfl, hgg59, hkg59, hb⟩
    have K60 := hid (OwnS.of_blk hkg59 (B := W51.heap.size) hgg59)
    clear hkg59 hgg59
    have S61 := hid hb
    have S62 := hid (S53.out.trans (S61.out.mono S53.out.size))
    clear hb
    go_wp2_with fail
    refine (iOrderByHash_any _ x0.length x0 _ _ (OwnS.rd K60.out) hn0 we0 w1).mono ?_
    rintro e W63 ⟨Ah0, ch0, rfl, hoh0, hlh0, hb⟩
    have Oh0 := hid hoh0
    clear hoh0
    have S64 := hid hb
    have S65 := hid (S62.out.trans (S64.out.mono S62.out.size))
    have S66 := hid (S61.out.trans (S64.out.mono S61.out.size))
    clear hb
    go_wp2_with fail
    refine (eqInt64S_any _ _ _ _ _ _ _ (OwnS.rd Oh0.out) (OwnS.rd (T55.out.below S66.out)) hlh0).mono ?_
    rintro e W67 ⟨rfl, nd, hnd⟩
    simp only [decide_true]
    have hb := below_of_draw hnd
    clear hnd
    have S68 := hid hb
    have S69 := hid (S65.out.trans (S68.out.mono S65.out.size))
    have S70 := hid (S64.out.trans (S68.out.mono S64.out.size))
    have S71 := hid (S66.out.trans (S68.out.mono S66.out.size))
    clear hb
    go_wp2_with fail
    refine (heldInt64S_yes _ _ _ (1) _ (OwnS.rd (M52.out.below S71.out)) hlg0 (by omega) (by omega)).mono ?_
    rintro e W72 ⟨rfl, rfl⟩
    go_wp2
    go_ret
    exact ⟨rfl, S69.out⟩
  · skip
    have hd : (1048576 : Int) < x0.length := by omega
    go_enter Try.func4, Try.ntmps4
    go_wp2
    go_ret
    exact ⟨rfl, Below.refl _ _⟩

end Go.Proofs.Ytmafkkpdcajfoaa
