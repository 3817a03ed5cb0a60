/-
  FnExactPutZeros: the walk of the law, out of the contracts of spec.PutZeros and impl.PutZeros. Printed by gen_law.py.
-/
import Derived.Test.YtlcpchpodcchlaaStZeros
import Derived.Test.YtlcpchpodcchlaaPutZeros
import Derived.Test.YtlcpchpodcchlaaOpen
namespace Go.Proofs.Ytlcpchpodcchlaa
open Go.RowKit
set_option linter.unusedVariables false

set_option maxHeartbeats 1600000 in
theorem FnExactPutZeros_any (a0_0 : Int) (A0_1 : Option Addr) (c0_1 : Nat) (x0_1 : List Int) (a1 : Int) (w : World) (w0_0 : W64 a0_0) (hx0_1 : RdL (Value.int .i64) w A0_1 x0_1) (hm0_1 : x0_1.length ≤ 9223372036854775807) (we0_1 : ∀ y ∈ x0_1, W64 y) (w1 : W64 a1) :
    Calls Try.prog 14 #[.agg #[.int .i64 a0_0, .slice A0_1 x0_1.length c0_1], .int .i64 a1] w fun e w' => e = .returned (.bool true) ∧ Below w.heap.size w w' := by
  have X0_1 := hid hx0_1
  clear hx0_1
  by_cases hn0 : (x0_1.length : Int) ≤ 1048576
  · skip
    have hn0_1 : x0_1.length ≤ 1048576 := by omega
    go_enter Try.func14, Try.ntmps14
    have Z := hid (Below.refl w.heap.size w)
    have hp0 : 0 ≤ 1048576 - ((x0_1.length : Int)) := by omega
    go_wp2_with fail
    refine (szZeros_yes _ _ _ _ _ _ (by omega) (by omega) (by omega)).mono ?_
    rintro e W1 ⟨rfl, hb⟩
    have S2 := below_call (below_a1 _ _) hb
    have B3 := hid (Blk.below (Blk.new w 53 [.int .i64 a0_0, .slice A0_1 x0_1.length c0_1]) hb)
    clear hb
    have l6 : w.heap.size < W1.heap.size := B3.out.lt
    obtain ⟨c4, c5⟩ := B3.out.cells2
    go_wp2_with fail
    refine (toZeros_any a0_0 A0_1 c0_1 x0_1 _ (X0_1.out.below S2.out) hn0_1).mono ?_
    rintro e W7 ⟨g8, rfl, hgg8, hkg8, hb⟩
    have K9 := hid (OwnS.of_blk hkg8 (B := W1.heap.size) hgg8)
    clear hkg8 hgg8
    have S10 := hid hb
    have S11 := hid (S2.out.trans (S10.out.mono S2.out.size))
    clear hb
    clear c4 c5 l6
    have l14 : w.heap.size < W7.heap.size := (B3.out.below S10.out).lt
    obtain ⟨c12, c13⟩ := (B3.out.below S10.out).cells2
    go_wp2_with fail
    refine (sPutZeros_any _ _ x0_1.length x0_1 _ _ w0_0 (OwnS.rd K9.out) hn0_1 we0_1 w1).mono ?_
    rintro e W15 ⟨Aw0_1, cw0_1, rfl, how0_1, hlw0_1, hb⟩
    have Ow0_1 := hid how0_1
    clear how0_1
    have S16 := hid hb
    have S17 := hid (S11.out.trans (S16.out.mono S11.out.size))
    have S18 := hid (S10.out.trans (S16.out.mono S10.out.size))
    clear hb
    clear c12 c13 l14
    have l21 : w.heap.size < W15.heap.size := (B3.out.below S18.out).lt
    obtain ⟨c19, c20⟩ := (B3.out.below S18.out).cells2
    go_wp2_with fail
    refine (toZeros_any a0_0 A0_1 c0_1 x0_1 _ ((X0_1.out.below S17.out).below (below_a1 _ _)) hn0_1).mono ?_
    rintro e W22 ⟨g23, rfl, hgg23, hkg23, hb⟩
    have K24 := hid (OwnS.of_blk hkg23 (B := W15.heap.size) (Nat.le_trans (below_a1 _ _).size hgg23))
    clear hkg23 hgg23
    have S25 := below_call (below_a1 _ _) hb
    have S26 := hid (S17.out.trans (S25.out.mono S17.out.size))
    have S27 := hid (S18.out.trans (S25.out.mono S18.out.size))
    have S28 := hid (S16.out.trans (S25.out.mono S16.out.size))
    have B29 := hid (Blk.below (Blk.new W15 55 [.int .i64 (pPutZeros a0_0 x0_1 a1).1.1, .slice Aw0_1 (pPutZeros a0_0 x0_1 a1).1.2.length cw0_1]) hb)
    clear hb
    clear c19 c20 l21
    go_wp2_with fail
    refine (iPutZeros_any _ _ x0_1.length x0_1 _ _ w0_0 (OwnS.rd (OwnS.below K24.out (below_a1 _ _))) hn0_1 we0_1 w1).mono ?_
    rintro e W30 ⟨Ag0_1, cg0_1, rfl, hog0_1, hlg0_1, hb⟩
    have Og0_1 := hid (OwnS.mono hog0_1 (B' := W22.heap.size) (below_a1 _ _).size)
    clear hog0_1
    have S31 := below_call (below_a1 _ _) hb
    have S32 := hid (S25.out.trans (S31.out.mono S25.out.size))
    have S33 := hid (S28.out.trans (S31.out.mono S28.out.size))
    have S34 := hid (S27.out.trans (S31.out.mono S27.out.size))
    have S35 := hid (S26.out.trans (S31.out.mono S26.out.size))
    have B36 := hid (Blk.below (Blk.new W22 55 [.int .i64 a0_0, .slice (some ⟨g23, 0, none⟩) x0_1.length x0_1.length]) hb)
    clear hb
    have l39 : W15.heap.size < W30.heap.size := (B29.out.below S31.out).lt
    obtain ⟨c37, c38⟩ := (B29.out.below S31.out).cells2
    go_wp2_with fail
    refine (eqZeros_yes _ _ _ _ _ _ _ _ rfl (OwnS.rd (OwnS.below Og0_1.out (below_a1 _ _))) (OwnS.rd (OwnS.below (Ow0_1.out.below S32.out) (below_a1 _ _))) hlg0_1).mono ?_
    rintro e W40 ⟨rfl, hb⟩
    have S41 := below_call (below_a1 _ _) hb
    have S42 := hid (S32.out.trans (S41.out.mono S32.out.size))
    have S43 := hid (S33.out.trans (S41.out.mono S33.out.size))
    have S44 := hid (S34.out.trans (S41.out.mono S34.out.size))
    have S45 := hid (S35.out.trans (S41.out.mono S35.out.size))
    have S46 := hid (S31.out.trans (S41.out.mono S31.out.size))
    have B47 := hid (Blk.below (Blk.new W30 55 [.int .i64 (pPutZeros a0_0 x0_1 a1).1.1, .slice Ag0_1 (pPutZeros a0_0 x0_1 a1).1.2.length cg0_1]) hb)
    clear hb
    clear c37 c38 l39
    have l50 : W22.heap.size < W40.heap.size := (B36.out.below S41.out).lt
    obtain ⟨c48, c49⟩ := (B36.out.below S41.out).cells2
    have l53 : w.heap.size < W40.heap.size := (B3.out.below S44.out).lt
    obtain ⟨c51, c52⟩ := (B3.out.below S44.out).cells2
    go_wp2_with fail
    have tokA : True := trivial
    have tokB : True := trivial
    go_region_held3 (fun w' => w'.cell? ⟨W22.heap.size, 0, none⟩ = some (.int .i64 a0_0) ∧ w'.cell? ⟨W22.heap.size, 1, none⟩ = some (.slice (some ⟨g23, 0, none⟩) x0_1.length x0_1.length) ∧ w'.cell? ⟨w.heap.size, 0, none⟩ = some (.int .i64 a0_0) ∧ w'.cell? ⟨w.heap.size, 1, none⟩ = some (.slice A0_1 x0_1.length c0_1)) (first | go_keep | exact hS)
      (first
        | (go_at_call 38
           have _t := tokA
           refine (toZeros_any a0_0 A0_1 c0_1 x0_1 _ ((X0_1.out.below S45.out).drewN 1) hn0_1).mono ?_
           rintro e W54 ⟨g55, rfl, hgg55, hkg55, hb⟩
           have hb := below_drew' hb
           have K56 := hid (OwnS.of_blk hkg55 (B := W40.heap.size) hgg55)
           clear hkg55 hgg55
           have S57 := hid hb
           have S58 := hid (S41.out.trans (S57.out.mono S41.out.size))
           have S59 := hid (S42.out.trans (S57.out.mono S42.out.size))
           have S60 := hid (S43.out.trans (S57.out.mono S43.out.size))
           have S61 := hid (S44.out.trans (S57.out.mono S44.out.size))
           have S62 := hid (S45.out.trans (S57.out.mono S45.out.size))
           have S63 := hid (S46.out.trans (S57.out.mono S46.out.size))
           clear hb
           clear tokA
           have hS := And.intro (B36.out.below S58.out).cells2 (B3.out.below S61.out).cells2
           simp only [and_assoc] at hS)
        | (go_at_call 40
           have _t := tokB
           refine (eqZeros_yes _ _ _ _ _ _ x0_1 _ rfl (OwnS.rd (K24.out.below S63.out)) (OwnS.rd K56.out) hn0_1).mono ?_
           rintro e W64 ⟨rfl, hb⟩
           have S65 := hid hb
           have S66 := hid (S58.out.trans (S65.out.mono S58.out.size))
           have S67 := hid (S57.out.trans (S65.out.mono S57.out.size))
           have S68 := hid (S59.out.trans (S65.out.mono S59.out.size))
           have S69 := hid (S60.out.trans (S65.out.mono S60.out.size))
           have S70 := hid (S61.out.trans (S65.out.mono S61.out.size))
           have S71 := hid (S62.out.trans (S65.out.mono S62.out.size))
           have S72 := hid (S63.out.trans (S65.out.mono S63.out.size))
           clear hb
           clear tokB
           clear hS
           have hS := And.intro (B36.out.below S66.out).cells2 (B3.out.below S70.out).cells2
           simp only [and_assoc] at hS))
    clear hS
    have hq0 : (0 : Int) ≤ 1 ∧ 1 ≤ 1000000000 := by omega
    have l75 : W22.heap.size < W64.heap.size := (B36.out.below S66.out).lt
    obtain ⟨c73, c74⟩ := (B36.out.below S66.out).cells2
    go_wp2_with fail
    refine (markZeros_any _ _ _ w.heap.size _ (1) _ (OwnS.mono (K24.out.below S72.out) (S17.out.size))  hn0_1 (by omega) (by omega) S71.out.size).mono ?_
    rintro e W76 ⟨rfl, hoM77, hbb, ht⟩
    have S78 := hid ((S71.out).trans hbb)
    have T79 := hid (Blk.touchAll (B3.out.below S70.out) ht (fun p hp => by simp only [List.mem_cons, List.not_mem_nil, or_false] at hp; subst hp; exact OwnS.other (K24.out.below S72.out) (B3.out.below S70.out) (by decide)))
    have T80 := hid (OwnS.touchAll (K9.out.below S69.out) ht (fun p hp => by simp only [List.mem_cons, List.not_mem_nil, or_false] at hp; subst hp; exact (Apart.symm (OwnS.apart_lt K9.out K24.out (S16.out.size)))))
    have T81 := hid (OwnS.touchAll (Ow0_1.out.below S68.out) ht (fun p hp => by simp only [List.mem_cons, List.not_mem_nil, or_false] at hp; subst hp; exact (Apart.symm (OwnS.apart_lt Ow0_1.out K24.out (Nat.le_refl _)))))
    have T82 := hid (Blk.touchAll (B29.out.below S72.out) ht (fun p hp => by simp only [List.mem_cons, List.not_mem_nil, or_false] at hp; subst hp; exact OwnS.other (K24.out.below S72.out) (B29.out.below S72.out) (by decide)))
    have T83 := hid (Blk.touchAll (B36.out.below S66.out) ht (fun p hp => by simp only [List.mem_cons, List.not_mem_nil, or_false] at hp; subst hp; exact OwnS.other (K24.out.below S72.out) (B36.out.below S66.out) (by decide)))
    have T84 := hid (OwnS.touchAll (Og0_1.out.below S66.out) ht (fun p hp => by simp only [List.mem_cons, List.not_mem_nil, or_false] at hp; subst hp; exact (OwnS.apart_lt K24.out Og0_1.out (Nat.le_refl _))))
    have T85 := hid (Blk.touchAll (B47.out.below S67.out) ht (fun p hp => by simp only [List.mem_cons, List.not_mem_nil, or_false] at hp; subst hp; exact OwnS.other (K24.out.below S72.out) (B47.out.below S67.out) (by decide)))
    have T86 := hid (OwnS.touchAll (K56.out.below S65.out) ht (fun p hp => by simp only [List.mem_cons, List.not_mem_nil, or_false] at hp; subst hp; exact (OwnS.apart_lt K24.out K56.out (S46.out.size))))
    clear hoM77 hbb ht
    have hqk : (0 : Int) ≤ 1 + (x0_1.length : Int) := by omega
    clear c73 c74 l75
    have l89 : W30.heap.size < W76.heap.size := T85.out.lt
    obtain ⟨c87, c88⟩ := T85.out.cells2
    have l92 : W15.heap.size < W76.heap.size := T82.out.lt
    obtain ⟨c90, c91⟩ := T82.out.cells2
    go_wp2_with fail
    refine (eqZeros_yes _ _ _ _ _ _ _ _ rfl (OwnS.rd T84.out) (OwnS.rd T81.out) hlg0_1).mono ?_
    rintro e W93 ⟨rfl, hb⟩
    have S94 := hid hb
    have S95 := hid (S78.out.trans (S94.out.mono S78.out.size))
    clear hb
    clear c87 c88 l89 c90 c91 l92
    have l98 : W30.heap.size < W93.heap.size := (T85.out.below S94.out).lt
    obtain ⟨c96, c97⟩ := (T85.out.below S94.out).cells2
    go_wp2_with fail
    refine (markZeros_any _ _ _ w.heap.size _ (1) _ (OwnS.mono (T84.out.below S94.out) (S26.out.size))  hlg0_1 (by omega) (by omega) S95.out.size).mono ?_
    rintro e W99 ⟨rfl, hoM100, hbb, ht⟩
    have S101 := hid ((S95.out).trans hbb)
    have T102 := hid (Blk.touchAll (T79.out.below S94.out) ht (fun p hp => by simp only [List.mem_cons, List.not_mem_nil, or_false] at hp; subst hp; exact OwnS.other (T84.out.below S94.out) (T79.out.below S94.out) (by decide)))
    have T103 := hid (OwnS.touchAll (T80.out.below S94.out) ht (fun p hp => by simp only [List.mem_cons, List.not_mem_nil, or_false] at hp; subst hp; exact (Apart.symm (OwnS.apart_lt K9.out Og0_1.out (S28.out.size)))))
    have T104 := hid (OwnS.touchAll (T81.out.below S94.out) ht (fun p hp => by simp only [List.mem_cons, List.not_mem_nil, or_false] at hp; subst hp; exact (Apart.symm (OwnS.apart_lt Ow0_1.out Og0_1.out (S25.out.size)))))
    have T105 := hid (Blk.touchAll (T82.out.below S94.out) ht (fun p hp => by simp only [List.mem_cons, List.not_mem_nil, or_false] at hp; subst hp; exact OwnS.other (T84.out.below S94.out) (T82.out.below S94.out) (by decide)))
    have T106 := hid (Blk.touchAll (T83.out.below S94.out) ht (fun p hp => by simp only [List.mem_cons, List.not_mem_nil, or_false] at hp; subst hp; exact OwnS.other (T84.out.below S94.out) (T83.out.below S94.out) (by decide)))
    have T107 := hid (Blk.touchAll (T85.out.below S94.out) ht (fun p hp => by simp only [List.mem_cons, List.not_mem_nil, or_false] at hp; subst hp; exact OwnS.other (T84.out.below S94.out) (T85.out.below S94.out) (by decide)))
    have T108 := hid (OwnS.touchAll (T86.out.below S94.out) ht (fun p hp => by simp only [List.mem_cons, List.not_mem_nil, or_false] at hp; subst hp; exact (OwnS.apart_lt Og0_1.out K56.out (S41.out.size))))
    have M100 := hid hoM100
    clear hoM100 hbb ht
    have hqm : (0 : Int) ≤ 1 + ((pPutZeros a0_0 x0_1 a1).1.2.length : Int) := by omega
    clear c96 c97 l98
    have l111 : W30.heap.size < W99.heap.size := T107.out.lt
    obtain ⟨c109, c110⟩ := T107.out.cells2
    go_wp2_with fail
    refine (heldZeros_yes _ _ _ _ (1) _ (OwnS.rd M100.out) hlg0_1 (by omega) (by omega)).mono ?_
    rintro e W112 ⟨rfl, hb⟩
    have S113 := hid hb
    have S114 := hid (S101.out.trans (S113.out.mono S101.out.size))
    clear hb
    clear c109 c110 l111
    have l117 : w.heap.size < W112.heap.size := (T102.out.below S113.out).lt
    obtain ⟨c115, c116⟩ := (T102.out.below S113.out).cells2
    go_wp2_with fail
    refine (toZeros_any a0_0 A0_1 c0_1 x0_1 _ (X0_1.out.below S114.out) hn0_1).mono ?_
    rintro e W118 ⟨g119, rfl, hgg119, hkg119, hb⟩
    have K120 := hid (OwnS.of_blk hkg119 (B := W112.heap.size) hgg119)
    clear hkg119 hgg119
    have S121 := hid hb
    have S122 := hid (S113.out.trans (S121.out.mono S113.out.size))
    have S123 := hid (S114.out.trans (S121.out.mono S114.out.size))
    clear hb
    clear c115 c116 l117
    have l126 : w.heap.size < W118.heap.size := (T102.out.below S122.out).lt
    obtain ⟨c124, c125⟩ := (T102.out.below S122.out).cells2
    go_wp2_with fail
    refine (iPutZeros_any _ _ x0_1.length x0_1 _ _ w0_0 (OwnS.rd K120.out) hn0_1 we0_1 w1).mono ?_
    rintro e W127 ⟨Ah0_1, ch0_1, rfl, hoh0_1, hlh0_1, hb⟩
    have Oh0_1 := hid hoh0_1
    clear hoh0_1
    have S128 := hid hb
    have S129 := hid (S122.out.trans (S128.out.mono S122.out.size))
    have S130 := hid (S123.out.trans (S128.out.mono S123.out.size))
    clear hb
    clear c124 c125 l126
    have l133 : W15.heap.size < W127.heap.size := (T105.out.below S129.out).lt
    obtain ⟨c131, c132⟩ := (T105.out.below S129.out).cells2
    go_wp2_with fail
    refine (eqZeros_yes _ _ _ _ _ _ _ _ rfl (OwnS.rd (OwnS.below Oh0_1.out (below_a1 _ _))) (OwnS.rd (OwnS.below (T104.out.below S129.out) (below_a1 _ _))) hlh0_1).mono ?_
    rintro e W134 ⟨rfl, hb⟩
    have S135 := below_call (below_a1 _ _) hb
    have S136 := hid (S129.out.trans (S135.out.mono S129.out.size))
    have S137 := hid (S128.out.trans (S135.out.mono S128.out.size))
    have S138 := hid (S130.out.trans (S135.out.mono S130.out.size))
    have B139 := hid (Blk.below (Blk.new W127 55 [.int .i64 (pPutZeros a0_0 x0_1 a1).1.1, .slice Ah0_1 (pPutZeros a0_0 x0_1 a1).1.2.length ch0_1]) hb)
    clear hb
    clear c131 c132 l133
    have l142 : W30.heap.size < W134.heap.size := (T107.out.below S136.out).lt
    obtain ⟨c140, c141⟩ := (T107.out.below S136.out).cells2
    go_wp2_with fail
    refine (heldZeros_yes _ _ _ _ (1) _ (OwnS.rd (M100.out.below S136.out)) hlg0_1 (by omega) (by omega)).mono ?_
    rintro e W143 ⟨rfl, hb⟩
    have S144 := hid hb
    have S145 := hid (S137.out.trans (S144.out.mono S137.out.size))
    have S146 := hid (S136.out.trans (S144.out.mono S136.out.size))
    have S147 := hid (S138.out.trans (S144.out.mono S138.out.size))
    have S148 := hid (S135.out.trans (S144.out.mono S135.out.size))
    clear hb
    clear c140 c141 l142
    go_wp2
    go_ret
    exact ⟨rfl, S147.out⟩
  · skip
    go_enter Try.func14, Try.ntmps14
    have Z := hid (Below.refl w.heap.size w)
    go_wp2_with fail
    refine (szZeros_no _ _ _ _ _ _ (by omega) (by omega) hm0_1 (by omega)).mono ?_
    rintro e W1 ⟨rfl, hb⟩
    have S2 := below_call (below_a1 _ _) hb
    have B3 := hid (Blk.below (Blk.new w 53 [.int .i64 a0_0, .slice A0_1 x0_1.length c0_1]) hb)
    clear hb
    go_wp2_with fail
    go_ret
    exact ⟨rfl, S2.out⟩

end Go.Proofs.Ytlcpchpodcchlaa
