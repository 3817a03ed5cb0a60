/-
  FnExactExactCounts: the walk of the law, out of the contracts of spec.ExactCounts and impl.ExactCounts. Printed by gen_law.py.
-/
import Derived.Test.YtbodfepfapjikaaExact
import Derived.Test.YtbodfepfapjikaaOpen
namespace Go.Proofs.Ytbodfepfapjikaa
open Go.RowKit
set_option linter.unusedVariables false

set_option maxHeartbeats 1600000 in
theorem FnExactExactCounts_any (A0 : Option Addr) (c0 : Nat) (x0 : List Int) (w : World) (hx0 : RdL (Value.int .i64) w A0 x0) (hm0 : x0.length ≤ 9223372036854775807) (we0 : ∀ y ∈ x0, W64 y) :
    Calls Try.prog 3 #[.slice A0 x0.length c0] w fun e w' => e = .returned (.bool true) ∧ Below w.heap.size w w' := by
  have X0 := hid hx0
  clear hx0
  by_cases hn0 : (x0.length : Int) ≤ 1048576
  · skip
    have hn0 : x0.length ≤ 1048576 := by omega
    go_enter Try.func3, Try.ntmps3
    have Z := hid (Below.refl w.heap.size w)
    go_wp2_with fail
    refine (toInt64S_any A0 c0 x0 _ X0.out hn0).mono ?_
    rintro e W1 ⟨g2, rfl, hgg2, hkg2, hb⟩
    have K3 := hid (OwnS.of_blk hkg2 (B := w.heap.size) hgg2)
    clear hkg2 hgg2
    have S4 := hid hb
    clear hb
    go_wp2_with fail
    refine (sExactCounts_any _ x0.length x0 _ (OwnS.rd K3.out) hn0 we0).mono ?_
    rintro e W5 ⟨Aw0, cw0, Aw1, cw1, rfl, how0, hlw0, how1, hlw1, hpw0x1, hb⟩
    have Ow0 := hid how0
    clear how0
    have Ow1 := hid how1
    clear how1
    have S6 := hid hb
    have S7 := hid (S4.out.trans (S6.out.mono S4.out.size))
    clear hb
    go_wp2_with fail
    refine (toInt64S_any A0 c0 x0 _ (X0.out.below S7.out) hn0).mono ?_
    rintro e W8 ⟨g9, rfl, hgg9, hkg9, hb⟩
    have K10 := hid (OwnS.of_blk hkg9 (B := W5.heap.size) hgg9)
    clear hkg9 hgg9
    have S11 := hid hb
    have S12 := hid (S6.out.trans (S11.out.mono S6.out.size))
    have S13 := hid (S7.out.trans (S11.out.mono S7.out.size))
    clear hb
    go_wp2_with fail
    refine (iExactCounts_any _ x0.length x0 _ (OwnS.rd K10.out) hn0 we0).mono ?_
    rintro e W14 ⟨Ag0, cg0, Ag1, cg1, rfl, hog0, hlg0, hog1, hlg1, hpg0x1, hb⟩
    have Og0 := hid hog0
    clear hog0
    have Og1 := hid hog1
    clear hog1
    have S15 := hid hb
    have S16 := hid (S12.out.trans (S15.out.mono S12.out.size))
    have S17 := hid (S11.out.trans (S15.out.mono S11.out.size))
    have S18 := hid (S13.out.trans (S15.out.mono S13.out.size))
    clear hb
    go_wp2_with fail
    refine (eqInt64S_any _ _ _ _ _ _ _ (OwnS.rd Og0.out) (OwnS.rd (Ow0.out.below S17.out)) hlg0).mono ?_
    rintro e W19 ⟨rfl, nd, hnd⟩
    simp only [decide_true]
    have hb := below_of_draw hnd
    clear hnd
    have S20 := hid hb
    have S21 := hid (S17.out.trans (S20.out.mono S17.out.size))
    have S22 := hid (S16.out.trans (S20.out.mono S16.out.size))
    have S23 := hid (S15.out.trans (S20.out.mono S15.out.size))
    have S24 := hid (S18.out.trans (S20.out.mono S18.out.size))
    clear hb
    go_wp2_with fail
    refine (eqInt64S_any _ _ _ _ _ _ _ (OwnS.rd (Og1.out.below S20.out)) (OwnS.rd (Ow1.out.below S21.out)) hlg1).mono ?_
    rintro e W25 ⟨rfl, nd, hnd⟩
    simp only [decide_true]
    have hb := below_of_draw hnd
    clear hnd
    have S26 := hid hb
    have S27 := hid (S21.out.trans (S26.out.mono S21.out.size))
    have S28 := hid (S22.out.trans (S26.out.mono S22.out.size))
    have S29 := hid (S23.out.trans (S26.out.mono S23.out.size))
    have S30 := hid (S20.out.trans (S26.out.mono S20.out.size))
    have S31 := hid (S24.out.trans (S26.out.mono S24.out.size))
    clear hb
    go_wp2_with fail
    refine (toInt64S_any A0 c0 x0 _ (X0.out.below S31.out) hn0).mono ?_
    rintro e W32 ⟨g33, rfl, hgg33, hkg33, hb⟩
    have K34 := hid (OwnS.of_blk hkg33 (B := W25.heap.size) hgg33)
    clear hkg33 hgg33
    have S35 := hid hb
    have S36 := hid (S27.out.trans (S35.out.mono S27.out.size))
    have S37 := hid (S28.out.trans (S35.out.mono S28.out.size))
    have S38 := hid (S29.out.trans (S35.out.mono S29.out.size))
    have S39 := hid (S30.out.trans (S35.out.mono S30.out.size))
    have S40 := hid (S31.out.trans (S35.out.mono S31.out.size))
    clear hb
    go_wp2_with fail
    refine (eqInt64S_any _ _ _ _ _ _ _ (OwnS.rd (K10.out.below S38.out)) (OwnS.rd K34.out) hn0).mono ?_
    rintro e W41 ⟨rfl, nd, hnd⟩
    simp only [decide_true]
    have hb := below_of_draw hnd
    clear hnd
    have S42 := hid hb
    have S43 := hid (S36.out.trans (S42.out.mono S36.out.size))
    have S44 := hid (S37.out.trans (S42.out.mono S37.out.size))
    have S45 := hid (S38.out.trans (S42.out.mono S38.out.size))
    have S46 := hid (S39.out.trans (S42.out.mono S39.out.size))
    have S47 := hid (S40.out.trans (S42.out.mono S40.out.size))
    clear hb
    have hq0 : (0 : Int) ≤ 1 ∧ 1 ≤ 1000000000 := by omega
    go_wp2_with fail
    refine (markInt64S_any _ _ w.heap.size _ (1) _ (OwnS.mono (K10.out.below S45.out) (S7.out.size)) hn0 (by omega) (by omega)).mono ?_
    rintro e W48 ⟨rfl, hoM49, htt⟩
    have hbb := htt.below (OwnS.mono (K10.out.below S45.out) (S7.out.size))
    have ht := TouchAll.of_touch htt
    have S50 := hid ((S47.out).trans hbb)
    have T51 := hid (OwnS.touchAll (K3.out.below S44.out) ht (fun p hp => by simp only [List.mem_cons, List.not_mem_nil, or_false] at hp; subst hp; exact (Apart.symm (OwnS.apart_lt K3.out K10.out (S6.out.size)))))
    have T52 := hid (OwnS.touchAll (Ow0.out.below S43.out) ht (fun p hp => by simp only [List.mem_cons, List.not_mem_nil, or_false] at hp; subst hp; exact (Apart.symm (OwnS.apart_lt Ow0.out K10.out (Nat.le_refl _)))))
    have T53 := hid (OwnS.touchAll (Ow1.out.below S43.out) ht (fun p hp => by simp only [List.mem_cons, List.not_mem_nil, or_false] at hp; subst hp; exact (Apart.symm (OwnS.apart_lt Ow1.out K10.out (Nat.le_refl _)))))
    have T54 := hid (OwnS.touchAll (Og0.out.below S46.out) ht (fun p hp => by simp only [List.mem_cons, List.not_mem_nil, or_false] at hp; subst hp; exact (OwnS.apart_lt K10.out Og0.out (Nat.le_refl _))))
    have T55 := hid (OwnS.touchAll (Og1.out.below S46.out) ht (fun p hp => by simp only [List.mem_cons, List.not_mem_nil, or_false] at hp; subst hp; exact (OwnS.apart_lt K10.out Og1.out (Nat.le_refl _))))
    have T56 := hid (OwnS.touchAll (K34.out.below S42.out) ht (fun p hp => by simp only [List.mem_cons, List.not_mem_nil, or_false] at hp; subst hp; exact (OwnS.apart_lt K10.out K34.out (S29.out.size))))
    clear hoM49 hbb ht
    have hqk : (0 : Int) ≤ 1 + (x0.length : Int) := by omega
    go_wp2_with fail
    refine (eqInt64S_any _ _ _ _ _ _ _ (OwnS.rd T54.out) (OwnS.rd T52.out) hlg0).mono ?_
    rintro e W57 ⟨rfl, nd, hnd⟩
    simp only [decide_true]
    have hb := below_of_draw hnd
    clear hnd
    have S58 := hid hb
    have S59 := hid (S50.out.trans (S58.out.mono S50.out.size))
    clear hb
    go_wp2_with fail
    refine (eqInt64S_any _ _ _ _ _ _ _ (OwnS.rd (T55.out.below S58.out)) (OwnS.rd (T53.out.below S58.out)) hlg1).mono ?_
    rintro e W60 ⟨rfl, nd, hnd⟩
    simp only [decide_true]
    have hb := below_of_draw hnd
    clear hnd
    have S61 := hid hb
    have S62 := hid (S58.out.trans (S61.out.mono S58.out.size))
    have S63 := hid (S59.out.trans (S61.out.mono S59.out.size))
    clear hb
    go_wp2_with fail
    refine (markInt64S_any _ _ w.heap.size _ (1) _ (OwnS.mono (T54.out.below S62.out) (S13.out.size)) hlg0 (by omega) (by omega)).mono ?_
    rintro e W64 ⟨rfl, hoM65, htt⟩
    have hbb := htt.below (OwnS.mono (T54.out.below S62.out) (S13.out.size))
    have ht := TouchAll.of_touch htt
    have S66 := hid ((S63.out).trans hbb)
    have T67 := hid (OwnS.touchAll (T51.out.below S62.out) ht (fun p hp => by simp only [List.mem_cons, List.not_mem_nil, or_false] at hp; subst hp; exact (Apart.symm (OwnS.apart_lt K3.out Og0.out (S12.out.size)))))
    have T68 := hid (OwnS.touchAll (T52.out.below S62.out) ht (fun p hp => by simp only [List.mem_cons, List.not_mem_nil, or_false] at hp; subst hp; exact (Apart.symm (OwnS.apart_lt Ow0.out Og0.out (S11.out.size)))))
    have T69 := hid (OwnS.touchAll (T53.out.below S62.out) ht (fun p hp => by simp only [List.mem_cons, List.not_mem_nil, or_false] at hp; subst hp; exact (Apart.symm (OwnS.apart_lt Ow1.out Og0.out (S11.out.size)))))
    have T70 := hid (OwnS.touchAll (T55.out.below S62.out) ht (fun p hp => by simp only [List.mem_cons, List.not_mem_nil, or_false] at hp; subst hp; exact (hpg0x1)))
    have T71 := hid (OwnS.touchAll (T56.out.below S62.out) ht (fun p hp => by simp only [List.mem_cons, List.not_mem_nil, or_false] at hp; subst hp; exact (OwnS.apart_lt Og0.out K34.out (S30.out.size))))
    have M65 := hid hoM65
    clear hoM65 hbb ht
    go_wp2_with fail
    refine (markInt64S_any _ _ w.heap.size _ (1 + ((pExactCounts x0).1.length : Int)) _ (OwnS.mono T70.out (S13.out.size)) hlg1 (by omega) (by omega)).mono ?_
    rintro e W72 ⟨rfl, hoM73, htt⟩
    have hbb := htt.below (OwnS.mono T70.out (S13.out.size))
    have ht := TouchAll.of_touch htt
    have S74 := hid ((S66.out).trans hbb)
    have T75 := hid (OwnS.touchAll T67.out ht (fun p hp => by simp only [List.mem_cons, List.not_mem_nil, or_false] at hp; subst hp; exact (Apart.symm (OwnS.apart_lt K3.out Og1.out (S12.out.size)))))
    have T76 := hid (OwnS.touchAll T68.out ht (fun p hp => by simp only [List.mem_cons, List.not_mem_nil, or_false] at hp; subst hp; exact (Apart.symm (OwnS.apart_lt Ow0.out Og1.out (S11.out.size)))))
    have T77 := hid (OwnS.touchAll T69.out ht (fun p hp => by simp only [List.mem_cons, List.not_mem_nil, or_false] at hp; subst hp; exact (Apart.symm (OwnS.apart_lt Ow1.out Og1.out (S11.out.size)))))
    have T78 := hid (OwnS.touchAll T71.out ht (fun p hp => by simp only [List.mem_cons, List.not_mem_nil, or_false] at hp; subst hp; exact (OwnS.apart_lt Og1.out K34.out (S30.out.size))))
    have T79 := hid (OwnS.touchAll M65.out ht (fun p hp => by simp only [List.mem_cons, List.not_mem_nil, or_false] at hp; subst hp; exact (by have h := (Apart.symm hpg0x1); simpa only [marks_length] using h)))
    have M73 := hid hoM73
    clear hoM73 hbb ht
    have hqm : (0 : Int) ≤ 1 + ((pExactCounts x0).1.length : Int) + ((pExactCounts x0).2.1.length : Int) := by omega
    go_wp2_with fail
    refine (heldInt64S_yes _ _ _ (1) _ (OwnS.rd T79.out) hlg0 (by omega) (by omega)).mono ?_
    rintro e W80 ⟨rfl, rfl⟩
    go_wp2_with fail
    refine (heldInt64S_yes _ _ _ (1 + ((pExactCounts x0).1.length : Int)) _ (OwnS.rd M73.out) hlg1 (by omega) (by omega)).mono ?_
    rintro e W81 ⟨rfl, rfl⟩
    go_wp2_with fail
    refine (toInt64S_any A0 c0 x0 _ (X0.out.below S74.out) hn0).mono ?_
    rintro e W82 ⟨g83, rfl, hgg83, hkg83, hb⟩
    have K84 := hid (OwnS.of_blk hkg83 (B := W72.heap.size) hgg83)
    clear hkg83 hgg83
    have S85 := hid hb
    have S86 := hid (S74.out.trans (S85.out.mono S74.out.size))
    clear hb
    go_wp2_with fail
    refine (iExactCounts_any _ x0.length x0 _ (OwnS.rd K84.out) hn0 we0).mono ?_
    rintro e W87 ⟨Ah0, ch0, Ah1, ch1, rfl, hoh0, hlh0, hoh1, hlh1, hph0x1, hb⟩
    have Oh0 := hid hoh0
    clear hoh0
    have Oh1 := hid hoh1
    clear hoh1
    have S88 := hid hb
    have S89 := hid (S85.out.trans (S88.out.mono S85.out.size))
    have S90 := hid (S86.out.trans (S88.out.mono S86.out.size))
    clear hb
    go_wp2_with fail
    refine (eqInt64S_any _ _ _ _ _ _ _ (OwnS.rd Oh0.out) (OwnS.rd (T76.out.below S89.out)) hlh0).mono ?_
    rintro e W91 ⟨rfl, nd, hnd⟩
    simp only [decide_true]
    have hb := below_of_draw hnd
    clear hnd
    have S92 := hid hb
    have S93 := hid (S89.out.trans (S92.out.mono S89.out.size))
    have S94 := hid (S88.out.trans (S92.out.mono S88.out.size))
    have S95 := hid (S90.out.trans (S92.out.mono S90.out.size))
    clear hb
    go_wp2_with fail
    refine (eqInt64S_any _ _ _ _ _ _ _ (OwnS.rd (Oh1.out.below S92.out)) (OwnS.rd (T77.out.below S93.out)) hlh1).mono ?_
    rintro e W96 ⟨rfl, nd, hnd⟩
    simp only [decide_true]
    have hb := below_of_draw hnd
    clear hnd
    have S97 := hid hb
    have S98 := hid (S93.out.trans (S97.out.mono S93.out.size))
    have S99 := hid (S94.out.trans (S97.out.mono S94.out.size))
    have S100 := hid (S92.out.trans (S97.out.mono S92.out.size))
    have S101 := hid (S95.out.trans (S97.out.mono S95.out.size))
    clear hb
    go_wp2_with fail
    refine (heldInt64S_yes _ _ _ (1) _ (OwnS.rd (T79.out.below S98.out)) hlg0 (by omega) (by omega)).mono ?_
    rintro e W102 ⟨rfl, rfl⟩
    go_wp2_with fail
    refine (heldInt64S_yes _ _ _ (1 + ((pExactCounts x0).1.length : Int)) _ (OwnS.rd (M73.out.below S98.out)) hlg1 (by omega) (by omega)).mono ?_
    rintro e W103 ⟨rfl, rfl⟩
    go_wp2
    go_ret
    exact ⟨rfl, S101.out⟩
  · skip
    have hd : (1048576 : Int) < x0.length := by omega
    go_enter Try.func3, Try.ntmps3
    go_wp2
    go_ret
    exact ⟨rfl, Below.refl _ _⟩

end Go.Proofs.Ytbodfepfapjikaa
