/-
  FnExactOutTally: the walk of the law, out of the contracts of spec.OutTally and impl.OutTally. Printed by gen_law.py.
-/
import Derived.Test.YtlcpchpodcchlaaStTally
import Derived.Test.YtlcpchpodcchlaaPutTally
import Derived.Test.YtlcpchpodcchlaaOpen
namespace Go.Proofs.Ytlcpchpodcchlaa
open Go.RowKit
set_option linter.unusedVariables false

set_option maxHeartbeats 1600000 in
theorem FnExactOutTally_any (a0_0 : Int) (a0_1 : Int) (A0_2 : Option Addr) (c0_2 : Nat) (x0_2 : List Int) (a1 : Int) (w : World) (w0_0 : W64 a0_0) (w0_1 : W64 a0_1) (hx0_2 : RdL (Value.int .i64) w A0_2 x0_2) (hm0_2 : x0_2.length ≤ 9223372036854775807) (we0_2 : ∀ y ∈ x0_2, W64 y) (w1 : W64 a1) :
    Calls Try.prog 11 #[.agg #[.int .i64 a0_0, .int .i64 a0_1, .slice A0_2 x0_2.length c0_2], .int .i64 a1] w fun e w' => e = .returned (.bool true) ∧ Below w.heap.size w w' := by
  have X0_2 := hid hx0_2
  clear hx0_2
  by_cases hn0 : (x0_2.length : Int) ≤ 1048576
  · skip
    have hn0_2 : x0_2.length ≤ 1048576 := by omega
    go_enter Try.func11, Try.ntmps11
    have Z := hid (Below.refl w.heap.size w)
    have hp0 : 0 ≤ 1048576 - ((x0_2.length : Int)) := by omega
    go_wp2_with fail
    refine (szTally_yes _ _ _ _ _ _ _ (by omega) (by omega) (by omega)).mono ?_
    rintro e W1 ⟨rfl, hb⟩
    have S2 := below_call (below_a1 _ _) hb
    have B3 := hid (Blk.below (Blk.new w 75 [.int .i64 a0_0, .int .i64 a0_1, .slice A0_2 x0_2.length c0_2]) hb)
    clear hb
    have l7 : w.heap.size < W1.heap.size := B3.out.lt
    obtain ⟨c4, c5, c6⟩ := B3.out.cells3
    go_wp2_with fail
    refine (toTally_any a0_0 a0_1 A0_2 c0_2 x0_2 _ (X0_2.out.below S2.out) hn0_2).mono ?_
    rintro e W8 ⟨g9, rfl, hgg9, hkg9, hb⟩
    have K10 := hid (OwnS.of_blk hkg9 (B := W1.heap.size) hgg9)
    clear hkg9 hgg9
    have S11 := hid hb
    have S12 := hid (S2.out.trans (S11.out.mono S2.out.size))
    clear hb
    clear c4 c5 c6 l7
    have l16 : w.heap.size < W8.heap.size := (B3.out.below S11.out).lt
    obtain ⟨c13, c14, c15⟩ := (B3.out.below S11.out).cells3
    go_wp2_with fail
    refine (sOutTally_any _ _ _ x0_2.length x0_2 _ _ w0_0 w0_1 (OwnS.rd K10.out) hn0_2 we0_2 w1).mono ?_
    rintro e W17 ⟨Aw0_2, cw0_2, rfl, how0_2, hlw0_2, hb⟩
    have Ow0_2 := hid how0_2
    clear how0_2
    have S18 := hid hb
    have S19 := hid (S12.out.trans (S18.out.mono S12.out.size))
    have S20 := hid (S11.out.trans (S18.out.mono S11.out.size))
    clear hb
    clear c13 c14 c15 l16
    have l24 : w.heap.size < W17.heap.size := (B3.out.below S20.out).lt
    obtain ⟨c21, c22, c23⟩ := (B3.out.below S20.out).cells3
    go_wp2_with fail
    refine (toTally_any a0_0 a0_1 A0_2 c0_2 x0_2 _ ((X0_2.out.below S19.out).below (below_a1 _ _)) hn0_2).mono ?_
    rintro e W25 ⟨g26, rfl, hgg26, hkg26, hb⟩
    have K27 := hid (OwnS.of_blk hkg26 (B := W17.heap.size) (Nat.le_trans (below_a1 _ _).size hgg26))
    clear hkg26 hgg26
    have S28 := below_call (below_a1 _ _) hb
    have S29 := hid (S19.out.trans (S28.out.mono S19.out.size))
    have S30 := hid (S18.out.trans (S28.out.mono S18.out.size))
    have S31 := hid (S20.out.trans (S28.out.mono S20.out.size))
    have B32 := hid (Blk.below (Blk.new W17 77 [.int .i64 (pOutTally a0_0 a0_1 x0_2 a1).1.1, .int .i64 (pOutTally a0_0 a0_1 x0_2 a1).1.2.1, .slice Aw0_2 (pOutTally a0_0 a0_1 x0_2 a1).1.2.2.length cw0_2]) hb)
    clear hb
    clear c21 c22 c23 l24
    go_wp2_with fail
    refine (iOutTally_any _ _ _ x0_2.length x0_2 _ _ w0_0 w0_1 (OwnS.rd (OwnS.below K27.out (below_a1 _ _))) hn0_2 we0_2 w1).mono ?_
    rintro e W33 ⟨Ag0_2, cg0_2, rfl, hog0_2, hlg0_2, hb⟩
    have Og0_2 := hid (OwnS.mono hog0_2 (B' := W25.heap.size) (below_a1 _ _).size)
    clear hog0_2
    have S34 := below_call (below_a1 _ _) hb
    have S35 := hid (S28.out.trans (S34.out.mono S28.out.size))
    have S36 := hid (S31.out.trans (S34.out.mono S31.out.size))
    have S37 := hid (S29.out.trans (S34.out.mono S29.out.size))
    have S38 := hid (S30.out.trans (S34.out.mono S30.out.size))
    have B39 := hid (Blk.below (Blk.new W25 77 [.int .i64 a0_0, .int .i64 a0_1, .slice (some ⟨g26, 0, none⟩) x0_2.length x0_2.length]) hb)
    clear hb
    have l43 : W17.heap.size < W33.heap.size := (B32.out.below S34.out).lt
    obtain ⟨c40, c41, c42⟩ := (B32.out.below S34.out).cells3
    go_wp2_with fail
    refine (eqTally_yes _ _ _ _ _ _ _ _ _ rfl (OwnS.rd (OwnS.below Og0_2.out (below_a1 _ _))) (OwnS.rd (OwnS.below (Ow0_2.out.below S35.out) (below_a1 _ _))) hlg0_2).mono ?_
    rintro e W44 ⟨rfl, hb⟩
    have S45 := below_call (below_a1 _ _) hb
    have S46 := hid (S35.out.trans (S45.out.mono S35.out.size))
    have S47 := hid (S36.out.trans (S45.out.mono S36.out.size))
    have S48 := hid (S34.out.trans (S45.out.mono S34.out.size))
    have S49 := hid (S37.out.trans (S45.out.mono S37.out.size))
    have S50 := hid (S38.out.trans (S45.out.mono S38.out.size))
    have B51 := hid (Blk.below (Blk.new W33 77 [.int .i64 (pOutTally a0_0 a0_1 x0_2 a1).1.1, .int .i64 (pOutTally a0_0 a0_1 x0_2 a1).1.2.1, .slice Ag0_2 (pOutTally a0_0 a0_1 x0_2 a1).1.2.2.length cg0_2]) hb)
    clear hb
    clear c40 c41 c42 l43
    have l55 : W25.heap.size < W44.heap.size := (B39.out.below S45.out).lt
    obtain ⟨c52, c53, c54⟩ := (B39.out.below S45.out).cells3
    have l59 : w.heap.size < W44.heap.size := (B3.out.below S47.out).lt
    obtain ⟨c56, c57, c58⟩ := (B3.out.below S47.out).cells3
    go_wp2_with fail
    have tokA : True := trivial
    have tokB : True := trivial
    go_region_held3 (fun w' => w'.cell? ⟨W25.heap.size, 0, none⟩ = some (.int .i64 a0_0) ∧ w'.cell? ⟨W25.heap.size, 1, none⟩ = some (.int .i64 a0_1) ∧ w'.cell? ⟨W25.heap.size, 2, none⟩ = some (.slice (some ⟨g26, 0, none⟩) x0_2.length x0_2.length) ∧ w'.cell? ⟨w.heap.size, 0, none⟩ = some (.int .i64 a0_0) ∧ w'.cell? ⟨w.heap.size, 1, none⟩ = some (.int .i64 a0_1) ∧ w'.cell? ⟨w.heap.size, 2, none⟩ = some (.slice A0_2 x0_2.length c0_2)) (first | go_keep | exact hS)
      (first
        | (go_at_call 54
           have _t := tokA
           refine (toTally_any a0_0 a0_1 A0_2 c0_2 x0_2 _ ((X0_2.out.below S49.out).drewN 1) hn0_2).mono ?_
           rintro e W60 ⟨g61, rfl, hgg61, hkg61, hb⟩
           have hb := below_drew' hb
           have K62 := hid (OwnS.of_blk hkg61 (B := W44.heap.size) hgg61)
           clear hkg61 hgg61
           have S63 := hid hb
           have S64 := hid (S46.out.trans (S63.out.mono S46.out.size))
           have S65 := hid (S47.out.trans (S63.out.mono S47.out.size))
           have S66 := hid (S48.out.trans (S63.out.mono S48.out.size))
           have S67 := hid (S45.out.trans (S63.out.mono S45.out.size))
           have S68 := hid (S49.out.trans (S63.out.mono S49.out.size))
           have S69 := hid (S50.out.trans (S63.out.mono S50.out.size))
           clear hb
           clear tokA
           have hS := And.intro (B39.out.below S67.out).cells3 (B3.out.below S65.out).cells3
           simp only [and_assoc] at hS)
        | (go_at_call 56
           have _t := tokB
           refine (eqTally_yes _ _ _ _ _ _ _ x0_2 _ rfl (OwnS.rd (K27.out.below S66.out)) (OwnS.rd K62.out) hn0_2).mono ?_
           rintro e W70 ⟨rfl, hb⟩
           have S71 := hid hb
           have S72 := hid (S63.out.trans (S71.out.mono S63.out.size))
           have S73 := hid (S64.out.trans (S71.out.mono S64.out.size))
           have S74 := hid (S65.out.trans (S71.out.mono S65.out.size))
           have S75 := hid (S66.out.trans (S71.out.mono S66.out.size))
           have S76 := hid (S67.out.trans (S71.out.mono S67.out.size))
           have S77 := hid (S68.out.trans (S71.out.mono S68.out.size))
           have S78 := hid (S69.out.trans (S71.out.mono S69.out.size))
           clear hb
           clear tokB
           clear hS
           have hS := And.intro (B39.out.below S76.out).cells3 (B3.out.below S74.out).cells3
           simp only [and_assoc] at hS))
    clear hS
    have hq0 : (0 : Int) ≤ 1 ∧ 1 ≤ 1000000000 := by omega
    have l82 : W25.heap.size < W70.heap.size := (B39.out.below S76.out).lt
    obtain ⟨c79, c80, c81⟩ := (B39.out.below S76.out).cells3
    go_wp2_with fail
    refine (markTally_any _ _ _ _ w.heap.size _ (1) _ (OwnS.mono (K27.out.below S75.out) (S19.out.size))  hn0_2 (by omega) (by omega) S77.out.size).mono ?_
    rintro e W83 ⟨rfl, hoM84, hbb, ht⟩
    have S85 := hid ((S77.out).trans hbb)
    have T86 := hid (Blk.touchAll (B3.out.below S74.out) ht (fun p hp => by simp only [List.mem_cons, List.not_mem_nil, or_false] at hp; subst hp; exact OwnS.other (K27.out.below S75.out) (B3.out.below S74.out) (by decide)))
    have T87 := hid (OwnS.touchAll (K10.out.below S78.out) ht (fun p hp => by simp only [List.mem_cons, List.not_mem_nil, or_false] at hp; subst hp; exact (Apart.symm (OwnS.apart_lt K10.out K27.out (S18.out.size)))))
    have T88 := hid (OwnS.touchAll (Ow0_2.out.below S73.out) ht (fun p hp => by simp only [List.mem_cons, List.not_mem_nil, or_false] at hp; subst hp; exact (Apart.symm (OwnS.apart_lt Ow0_2.out K27.out (Nat.le_refl _)))))
    have T89 := hid (Blk.touchAll (B32.out.below S75.out) ht (fun p hp => by simp only [List.mem_cons, List.not_mem_nil, or_false] at hp; subst hp; exact OwnS.other (K27.out.below S75.out) (B32.out.below S75.out) (by decide)))
    have T90 := hid (Blk.touchAll (B39.out.below S76.out) ht (fun p hp => by simp only [List.mem_cons, List.not_mem_nil, or_false] at hp; subst hp; exact OwnS.other (K27.out.below S75.out) (B39.out.below S76.out) (by decide)))
    have T91 := hid (OwnS.touchAll (Og0_2.out.below S76.out) ht (fun p hp => by simp only [List.mem_cons, List.not_mem_nil, or_false] at hp; subst hp; exact (OwnS.apart_lt K27.out Og0_2.out (Nat.le_refl _))))
    have T92 := hid (Blk.touchAll (B51.out.below S72.out) ht (fun p hp => by simp only [List.mem_cons, List.not_mem_nil, or_false] at hp; subst hp; exact OwnS.other (K27.out.below S75.out) (B51.out.below S72.out) (by decide)))
    have T93 := hid (OwnS.touchAll (K62.out.below S71.out) ht (fun p hp => by simp only [List.mem_cons, List.not_mem_nil, or_false] at hp; subst hp; exact (OwnS.apart_lt K27.out K62.out (S48.out.size))))
    clear hoM84 hbb ht
    have hqk : (0 : Int) ≤ 1 + (x0_2.length : Int) := by omega
    clear c79 c80 c81 l82
    have l97 : W33.heap.size < W83.heap.size := T92.out.lt
    obtain ⟨c94, c95, c96⟩ := T92.out.cells3
    have l101 : W17.heap.size < W83.heap.size := T89.out.lt
    obtain ⟨c98, c99, c100⟩ := T89.out.cells3
    go_wp2_with fail
    refine (eqTally_yes _ _ _ _ _ _ _ _ _ rfl (OwnS.rd T91.out) (OwnS.rd T88.out) hlg0_2).mono ?_
    rintro e W102 ⟨rfl, hb⟩
    have S103 := hid hb
    have S104 := hid (S85.out.trans (S103.out.mono S85.out.size))
    clear hb
    clear c94 c95 c96 l97 c98 c99 c100 l101
    have l108 : W33.heap.size < W102.heap.size := (T92.out.below S103.out).lt
    obtain ⟨c105, c106, c107⟩ := (T92.out.below S103.out).cells3
    go_wp2_with fail
    refine (markTally_any _ _ _ _ w.heap.size _ (1) _ (OwnS.mono (T91.out.below S103.out) (S29.out.size))  hlg0_2 (by omega) (by omega) S104.out.size).mono ?_
    rintro e W109 ⟨rfl, hoM110, hbb, ht⟩
    have S111 := hid ((S104.out).trans hbb)
    have T112 := hid (Blk.touchAll (T86.out.below S103.out) ht (fun p hp => by simp only [List.mem_cons, List.not_mem_nil, or_false] at hp; subst hp; exact OwnS.other (T91.out.below S103.out) (T86.out.below S103.out) (by decide)))
    have T113 := hid (OwnS.touchAll (T87.out.below S103.out) ht (fun p hp => by simp only [List.mem_cons, List.not_mem_nil, or_false] at hp; subst hp; exact (Apart.symm (OwnS.apart_lt K10.out Og0_2.out (S30.out.size)))))
    have T114 := hid (OwnS.touchAll (T88.out.below S103.out) ht (fun p hp => by simp only [List.mem_cons, List.not_mem_nil, or_false] at hp; subst hp; exact (Apart.symm (OwnS.apart_lt Ow0_2.out Og0_2.out (S28.out.size)))))
    have T115 := hid (Blk.touchAll (T89.out.below S103.out) ht (fun p hp => by simp only [List.mem_cons, List.not_mem_nil, or_false] at hp; subst hp; exact OwnS.other (T91.out.below S103.out) (T89.out.below S103.out) (by decide)))
    have T116 := hid (Blk.touchAll (T90.out.below S103.out) ht (fun p hp => by simp only [List.mem_cons, List.not_mem_nil, or_false] at hp; subst hp; exact OwnS.other (T91.out.below S103.out) (T90.out.below S103.out) (by decide)))
    have T117 := hid (Blk.touchAll (T92.out.below S103.out) ht (fun p hp => by simp only [List.mem_cons, List.not_mem_nil, or_false] at hp; subst hp; exact OwnS.other (T91.out.below S103.out) (T92.out.below S103.out) (by decide)))
    have T118 := hid (OwnS.touchAll (T93.out.below S103.out) ht (fun p hp => by simp only [List.mem_cons, List.not_mem_nil, or_false] at hp; subst hp; exact (OwnS.apart_lt Og0_2.out K62.out (S45.out.size))))
    have M110 := hid hoM110
    clear hoM110 hbb ht
    have hqm : (0 : Int) ≤ 1 + ((pOutTally a0_0 a0_1 x0_2 a1).1.2.2.length : Int) := by omega
    clear c105 c106 c107 l108
    have l122 : W33.heap.size < W109.heap.size := T117.out.lt
    obtain ⟨c119, c120, c121⟩ := T117.out.cells3
    go_wp2_with fail
    refine (heldTally_yes _ _ _ _ _ (1) _ (OwnS.rd M110.out) hlg0_2 (by omega) (by omega)).mono ?_
    rintro e W123 ⟨rfl, hb⟩
    have S124 := hid hb
    have S125 := hid (S111.out.trans (S124.out.mono S111.out.size))
    clear hb
    clear c119 c120 c121 l122
    have l129 : w.heap.size < W123.heap.size := (T112.out.below S124.out).lt
    obtain ⟨c126, c127, c128⟩ := (T112.out.below S124.out).cells3
    go_wp2_with fail
    refine (toTally_any a0_0 a0_1 A0_2 c0_2 x0_2 _ (X0_2.out.below S125.out) hn0_2).mono ?_
    rintro e W130 ⟨g131, rfl, hgg131, hkg131, hb⟩
    have K132 := hid (OwnS.of_blk hkg131 (B := W123.heap.size) hgg131)
    clear hkg131 hgg131
    have S133 := hid hb
    have S134 := hid (S124.out.trans (S133.out.mono S124.out.size))
    have S135 := hid (S125.out.trans (S133.out.mono S125.out.size))
    clear hb
    clear c126 c127 c128 l129
    have l139 : w.heap.size < W130.heap.size := (T112.out.below S134.out).lt
    obtain ⟨c136, c137, c138⟩ := (T112.out.below S134.out).cells3
    go_wp2_with fail
    refine (iOutTally_any _ _ _ x0_2.length x0_2 _ _ w0_0 w0_1 (OwnS.rd K132.out) hn0_2 we0_2 w1).mono ?_
    rintro e W140 ⟨Ah0_2, ch0_2, rfl, hoh0_2, hlh0_2, hb⟩
    have Oh0_2 := hid hoh0_2
    clear hoh0_2
    have S141 := hid hb
    have S142 := hid (S134.out.trans (S141.out.mono S134.out.size))
    have S143 := hid (S135.out.trans (S141.out.mono S135.out.size))
    clear hb
    clear c136 c137 c138 l139
    have l147 : W17.heap.size < W140.heap.size := (T115.out.below S142.out).lt
    obtain ⟨c144, c145, c146⟩ := (T115.out.below S142.out).cells3
    go_wp2_with fail
    refine (eqTally_yes _ _ _ _ _ _ _ _ _ rfl (OwnS.rd (OwnS.below Oh0_2.out (below_a1 _ _))) (OwnS.rd (OwnS.below (T114.out.below S142.out) (below_a1 _ _))) hlh0_2).mono ?_
    rintro e W148 ⟨rfl, hb⟩
    have S149 := below_call (below_a1 _ _) hb
    have S150 := hid (S142.out.trans (S149.out.mono S142.out.size))
    have S151 := hid (S143.out.trans (S149.out.mono S143.out.size))
    have S152 := hid (S141.out.trans (S149.out.mono S141.out.size))
    have B153 := hid (Blk.below (Blk.new W140 77 [.int .i64 (pOutTally a0_0 a0_1 x0_2 a1).1.1, .int .i64 (pOutTally a0_0 a0_1 x0_2 a1).1.2.1, .slice Ah0_2 (pOutTally a0_0 a0_1 x0_2 a1).1.2.2.length ch0_2]) hb)
    clear hb
    clear c144 c145 c146 l147
    have l157 : W33.heap.size < W148.heap.size := (T117.out.below S150.out).lt
    obtain ⟨c154, c155, c156⟩ := (T117.out.below S150.out).cells3
    go_wp2_with fail
    refine (heldTally_yes _ _ _ _ _ (1) _ (OwnS.rd (M110.out.below S150.out)) hlg0_2 (by omega) (by omega)).mono ?_
    rintro e W158 ⟨rfl, hb⟩
    have S159 := hid hb
    have S160 := hid (S149.out.trans (S159.out.mono S149.out.size))
    have S161 := hid (S150.out.trans (S159.out.mono S150.out.size))
    have S162 := hid (S151.out.trans (S159.out.mono S151.out.size))
    have S163 := hid (S152.out.trans (S159.out.mono S152.out.size))
    clear hb
    clear c154 c155 c156 l157
    go_wp2
    go_ret
    exact ⟨rfl, S162.out⟩
  · skip
    go_enter Try.func11, Try.ntmps11
    have Z := hid (Below.refl w.heap.size w)
    go_wp2_with fail
    refine (szTally_no _ _ _ _ _ _ _ (by omega) (by omega) hm0_2 (by omega)).mono ?_
    rintro e W1 ⟨rfl, hb⟩
    have S2 := below_call (below_a1 _ _) hb
    have B3 := hid (Blk.below (Blk.new w 75 [.int .i64 a0_0, .int .i64 a0_1, .slice A0_2 x0_2.length c0_2]) hb)
    clear hb
    go_wp2_with fail
    go_ret
    exact ⟨rfl, S2.out⟩

end Go.Proofs.Ytlcpchpodcchlaa
