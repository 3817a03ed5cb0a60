/-
  FnExactPutCareful: the walk of the law, out of the contracts of spec.PutCareful and impl.PutCareful. Printed by gen_law.py.
-/
import Derived.Test.YtnngepnfljkbhaaStCells
import Derived.Test.YtnngepnfljkbhaaPutLike
import Derived.Test.YtnngepnfljkbhaaOpen
namespace Go.Proofs.Ytnngepnfljkbhaa
open Go.RowKit
set_option linter.unusedVariables false

set_option maxHeartbeats 1600000 in
theorem FnExactPutCareful_any (a0_0 : Int) (a0_1 : Int) (a0_2 : Int) (A0_3 : Option Addr) (c0_3 : Nat) (x0_3 : List Int) (a1 : Int) (a2 : Int) (w : World) (w0_0 : W64 a0_0) (w0_1 : W64 a0_1) (w0_2 : W64 a0_2) (hx0_3 : RdL (Value.int .i64) w A0_3 x0_3) (hm0_3 : x0_3.length ≤ 9223372036854775807) (we0_3 : ∀ y ∈ x0_3, W64 y) (w1 : W64 a1) (w2 : W64 a2) :
    Calls Try.prog 12 #[.agg #[.int .i64 a0_0, .int .i64 a0_1, .int .i64 a0_2, .slice A0_3 x0_3.length c0_3], .int .i64 a1, .int .i64 a2] w fun e w' => e = .returned (.bool true) ∧ Below w.heap.size w w' := by
  have X0_3 := hid hx0_3
  clear hx0_3
  by_cases hn0 : (x0_3.length : Int) ≤ 1048576
  · skip
    have hn0_3 : x0_3.length ≤ 1048576 := by omega
    go_enter Try.func12, Try.ntmps12
    have Z := hid (Below.refl w.heap.size w)
    have hp0 : 0 ≤ 1048576 - ((x0_3.length : Int)) := by omega
    go_wp2_with fail
    refine (szCells_yes _ _ _ _ _ _ _ _ (by omega) (by omega) (by omega)).mono ?_
    rintro e W1 ⟨rfl, hb⟩
    have S2 := below_call (below_a1 _ _) hb
    have B3 := hid (Blk.below (Blk.new w 37 [.int .i64 a0_0, .int .i64 a0_1, .int .i64 a0_2, .slice A0_3 x0_3.length c0_3]) hb)
    clear hb
    have l8 : w.heap.size < W1.heap.size := B3.out.lt
    obtain ⟨c4, c5, c6, c7⟩ := B3.out.cells4
    go_wp2_with fail
    refine (toCells_any a0_0 a0_1 a0_2 A0_3 c0_3 x0_3 _ (X0_3.out.below S2.out) hn0_3).mono ?_
    rintro e W9 ⟨g10, rfl, hgg10, hkg10, hb⟩
    have K11 := hid (OwnS.of_blk hkg10 (B := W1.heap.size) hgg10)
    clear hkg10 hgg10
    have S12 := hid hb
    have S13 := hid (S2.out.trans (S12.out.mono S2.out.size))
    clear hb
    clear c4 c5 c6 c7 l8
    have l18 : w.heap.size < W9.heap.size := (B3.out.below S12.out).lt
    obtain ⟨c14, c15, c16, c17⟩ := (B3.out.below S12.out).cells4
    go_wp2_with fail
    refine (sPutCareful_any _ _ _ _ x0_3.length x0_3 _ _ _ w0_0 w0_1 w0_2 (OwnS.rd K11.out) hn0_3 we0_3 w1 w2).mono ?_
    rintro e W19 ⟨Aw0_3, cw0_3, rfl, how0_3, hlw0_3, hb⟩
    have Ow0_3 := hid how0_3
    clear how0_3
    have S20 := hid hb
    have S21 := hid (S13.out.trans (S20.out.mono S13.out.size))
    have S22 := hid (S12.out.trans (S20.out.mono S12.out.size))
    clear hb
    clear c14 c15 c16 c17 l18
    have l27 : w.heap.size < W19.heap.size := (B3.out.below S22.out).lt
    obtain ⟨c23, c24, c25, c26⟩ := (B3.out.below S22.out).cells4
    go_wp2_with fail
    refine (toCells_any a0_0 a0_1 a0_2 A0_3 c0_3 x0_3 _ ((X0_3.out.below S21.out).below (below_a1 _ _)) hn0_3).mono ?_
    rintro e W28 ⟨g29, rfl, hgg29, hkg29, hb⟩
    have K30 := hid (OwnS.of_blk hkg29 (B := W19.heap.size) (Nat.le_trans (below_a1 _ _).size hgg29))
    clear hkg29 hgg29
    have S31 := below_call (below_a1 _ _) hb
    have S32 := hid (S20.out.trans (S31.out.mono S20.out.size))
    have S33 := hid (S21.out.trans (S31.out.mono S21.out.size))
    have S34 := hid (S22.out.trans (S31.out.mono S22.out.size))
    have B35 := hid (Blk.below (Blk.new W19 41 [.int .i64 (pPutCareful a0_0 a0_1 a0_2 x0_3 a1 a2).1.1, .int .i64 (pPutCareful a0_0 a0_1 a0_2 x0_3 a1 a2).1.2.1, .int .i64 (pPutCareful a0_0 a0_1 a0_2 x0_3 a1 a2).1.2.2.1, .slice Aw0_3 (pPutCareful a0_0 a0_1 a0_2 x0_3 a1 a2).1.2.2.2.length cw0_3]) hb)
    clear hb
    clear c23 c24 c25 c26 l27
    go_wp2_with fail
    refine (iPutCareful_any _ _ _ _ x0_3.length x0_3 _ _ _ w0_0 w0_1 w0_2 (OwnS.rd (OwnS.below K30.out (below_a1 _ _))) hn0_3 we0_3 w1 w2).mono ?_
    rintro e W36 ⟨Ag0_3, cg0_3, rfl, hog0_3, hlg0_3, hb⟩
    have Og0_3 := hid (OwnS.mono hog0_3 (B' := W28.heap.size) (below_a1 _ _).size)
    clear hog0_3
    have S37 := below_call (below_a1 _ _) hb
    have S38 := hid (S31.out.trans (S37.out.mono S31.out.size))
    have S39 := hid (S32.out.trans (S37.out.mono S32.out.size))
    have S40 := hid (S33.out.trans (S37.out.mono S33.out.size))
    have S41 := hid (S34.out.trans (S37.out.mono S34.out.size))
    have B42 := hid (Blk.below (Blk.new W28 41 [.int .i64 a0_0, .int .i64 a0_1, .int .i64 a0_2, .slice (some ⟨g29, 0, none⟩) x0_3.length x0_3.length]) hb)
    clear hb
    have l47 : W19.heap.size < W36.heap.size := (B35.out.below S37.out).lt
    obtain ⟨c43, c44, c45, c46⟩ := (B35.out.below S37.out).cells4
    go_wp2_with fail
    refine (eqCells_yes _ _ _ _ _ _ _ _ _ _ rfl (OwnS.rd (OwnS.below Og0_3.out (below_a1 _ _))) (OwnS.rd (OwnS.below (Ow0_3.out.below S38.out) (below_a1 _ _))) hlg0_3).mono ?_
    rintro e W48 ⟨rfl, hb⟩
    have S49 := below_call (below_a1 _ _) hb
    have S50 := hid (S37.out.trans (S49.out.mono S37.out.size))
    have S51 := hid (S38.out.trans (S49.out.mono S38.out.size))
    have S52 := hid (S39.out.trans (S49.out.mono S39.out.size))
    have S53 := hid (S40.out.trans (S49.out.mono S40.out.size))
    have S54 := hid (S41.out.trans (S49.out.mono S41.out.size))
    have B55 := hid (Blk.below (Blk.new W36 41 [.int .i64 (pPutCareful a0_0 a0_1 a0_2 x0_3 a1 a2).1.1, .int .i64 (pPutCareful a0_0 a0_1 a0_2 x0_3 a1 a2).1.2.1, .int .i64 (pPutCareful a0_0 a0_1 a0_2 x0_3 a1 a2).1.2.2.1, .slice Ag0_3 (pPutCareful a0_0 a0_1 a0_2 x0_3 a1 a2).1.2.2.2.length cg0_3]) hb)
    clear hb
    clear c43 c44 c45 c46 l47
    have l60 : W28.heap.size < W48.heap.size := (B42.out.below S49.out).lt
    obtain ⟨c56, c57, c58, c59⟩ := (B42.out.below S49.out).cells4
    have l65 : w.heap.size < W48.heap.size := (B3.out.below S54.out).lt
    obtain ⟨c61, c62, c63, c64⟩ := (B3.out.below S54.out).cells4
    go_wp2_with fail
    have tokA : True := trivial
    have tokB : True := trivial
    go_region_held3 (fun w' => w'.cell? ⟨W28.heap.size, 0, none⟩ = some (.int .i64 a0_0) ∧ w'.cell? ⟨W28.heap.size, 1, none⟩ = some (.int .i64 a0_1) ∧ w'.cell? ⟨W28.heap.size, 2, none⟩ = some (.int .i64 a0_2) ∧ w'.cell? ⟨W28.heap.size, 3, none⟩ = some (.slice (some ⟨g29, 0, none⟩) x0_3.length x0_3.length) ∧ w'.cell? ⟨w.heap.size, 0, none⟩ = some (.int .i64 a0_0) ∧ w'.cell? ⟨w.heap.size, 1, none⟩ = some (.int .i64 a0_1) ∧ w'.cell? ⟨w.heap.size, 2, none⟩ = some (.int .i64 a0_2) ∧ w'.cell? ⟨w.heap.size, 3, none⟩ = some (.slice A0_3 x0_3.length c0_3)) (first | go_keep | exact hS)
      (first
        | (go_at_call 23
           have _t := tokA
           refine (toCells_any a0_0 a0_1 a0_2 A0_3 c0_3 x0_3 _ ((X0_3.out.below S53.out).drewN 1) hn0_3).mono ?_
           rintro e W66 ⟨g67, rfl, hgg67, hkg67, hb⟩
           have hb := below_drew' hb
           have K68 := hid (OwnS.of_blk hkg67 (B := W48.heap.size) hgg67)
           clear hkg67 hgg67
           have S69 := hid hb
           have S70 := hid (S49.out.trans (S69.out.mono S49.out.size))
           have S71 := hid (S50.out.trans (S69.out.mono S50.out.size))
           have S72 := hid (S51.out.trans (S69.out.mono S51.out.size))
           have S73 := hid (S52.out.trans (S69.out.mono S52.out.size))
           have S74 := hid (S53.out.trans (S69.out.mono S53.out.size))
           have S75 := hid (S54.out.trans (S69.out.mono S54.out.size))
           clear hb
           clear tokA
           have hS := And.intro (B42.out.below S70.out).cells4 (B3.out.below S75.out).cells4
           simp only [and_assoc] at hS)
        | (go_at_call 25
           have _t := tokB
           refine (eqCells_yes _ _ _ _ _ _ _ _ x0_3 _ rfl (OwnS.rd (K30.out.below S71.out)) (OwnS.rd K68.out) hn0_3).mono ?_
           rintro e W76 ⟨rfl, hb⟩
           have S77 := hid hb
           have S78 := hid (S70.out.trans (S77.out.mono S70.out.size))
           have S79 := hid (S71.out.trans (S77.out.mono S71.out.size))
           have S80 := hid (S72.out.trans (S77.out.mono S72.out.size))
           have S81 := hid (S73.out.trans (S77.out.mono S73.out.size))
           have S82 := hid (S69.out.trans (S77.out.mono S69.out.size))
           have S83 := hid (S74.out.trans (S77.out.mono S74.out.size))
           have S84 := hid (S75.out.trans (S77.out.mono S75.out.size))
           clear hb
           clear tokB
           clear hS
           have hS := And.intro (B42.out.below S78.out).cells4 (B3.out.below S84.out).cells4
           simp only [and_assoc] at hS))
    clear hS
    have hq0 : (0 : Int) ≤ 1 ∧ 1 ≤ 1000000000 := by omega
    have l89 : W28.heap.size < W76.heap.size := (B42.out.below S78.out).lt
    obtain ⟨c85, c86, c87, c88⟩ := (B42.out.below S78.out).cells4
    go_wp2_with fail
    refine (markCells_any _ _ _ _ _ w.heap.size _ (1) _ (OwnS.mono (K30.out.below S79.out) (S21.out.size))  hn0_3 (by omega) (by omega) S83.out.size).mono ?_
    rintro e W90 ⟨rfl, hoM91, hbb, ht⟩
    have S92 := hid ((S83.out).trans hbb)
    have T93 := hid (Blk.touchAll (B3.out.below S84.out) ht (fun p hp => by simp only [List.mem_cons, List.not_mem_nil, or_false] at hp; subst hp; exact OwnS.other (K30.out.below S79.out) (B3.out.below S84.out) (by decide)))
    have T94 := hid (OwnS.touchAll (K11.out.below S81.out) ht (fun p hp => by simp only [List.mem_cons, List.not_mem_nil, or_false] at hp; subst hp; exact (Apart.symm (OwnS.apart_lt K11.out K30.out (S20.out.size)))))
    have T95 := hid (OwnS.touchAll (Ow0_3.out.below S80.out) ht (fun p hp => by simp only [List.mem_cons, List.not_mem_nil, or_false] at hp; subst hp; exact (Apart.symm (OwnS.apart_lt Ow0_3.out K30.out (Nat.le_refl _)))))
    have T96 := hid (Blk.touchAll (B35.out.below S79.out) ht (fun p hp => by simp only [List.mem_cons, List.not_mem_nil, or_false] at hp; subst hp; exact OwnS.other (K30.out.below S79.out) (B35.out.below S79.out) (by decide)))
    have T97 := hid (Blk.touchAll (B42.out.below S78.out) ht (fun p hp => by simp only [List.mem_cons, List.not_mem_nil, or_false] at hp; subst hp; exact OwnS.other (K30.out.below S79.out) (B42.out.below S78.out) (by decide)))
    have T98 := hid (OwnS.touchAll (Og0_3.out.below S78.out) ht (fun p hp => by simp only [List.mem_cons, List.not_mem_nil, or_false] at hp; subst hp; exact (OwnS.apart_lt K30.out Og0_3.out (Nat.le_refl _))))
    have T99 := hid (Blk.touchAll (B55.out.below S82.out) ht (fun p hp => by simp only [List.mem_cons, List.not_mem_nil, or_false] at hp; subst hp; exact OwnS.other (K30.out.below S79.out) (B55.out.below S82.out) (by decide)))
    have T100 := hid (OwnS.touchAll (K68.out.below S77.out) ht (fun p hp => by simp only [List.mem_cons, List.not_mem_nil, or_false] at hp; subst hp; exact (OwnS.apart_lt K30.out K68.out (S50.out.size))))
    clear hoM91 hbb ht
    have hqk : (0 : Int) ≤ 1 + (x0_3.length : Int) := by omega
    clear c85 c86 c87 c88 l89
    have l105 : W36.heap.size < W90.heap.size := T99.out.lt
    obtain ⟨c101, c102, c103, c104⟩ := T99.out.cells4
    have l110 : W19.heap.size < W90.heap.size := T96.out.lt
    obtain ⟨c106, c107, c108, c109⟩ := T96.out.cells4
    go_wp2_with fail
    refine (eqCells_yes _ _ _ _ _ _ _ _ _ _ rfl (OwnS.rd T98.out) (OwnS.rd T95.out) hlg0_3).mono ?_
    rintro e W111 ⟨rfl, hb⟩
    have S112 := hid hb
    have S113 := hid (S92.out.trans (S112.out.mono S92.out.size))
    clear hb
    clear c101 c102 c103 c104 l105 c106 c107 c108 c109 l110
    have l118 : W36.heap.size < W111.heap.size := (T99.out.below S112.out).lt
    obtain ⟨c114, c115, c116, c117⟩ := (T99.out.below S112.out).cells4
    go_wp2_with fail
    refine (markCells_any _ _ _ _ _ w.heap.size _ (1) _ (OwnS.mono (T98.out.below S112.out) (S33.out.size))  hlg0_3 (by omega) (by omega) S113.out.size).mono ?_
    rintro e W119 ⟨rfl, hoM120, hbb, ht⟩
    have S121 := hid ((S113.out).trans hbb)
    have T122 := hid (Blk.touchAll (T93.out.below S112.out) ht (fun p hp => by simp only [List.mem_cons, List.not_mem_nil, or_false] at hp; subst hp; exact OwnS.other (T98.out.below S112.out) (T93.out.below S112.out) (by decide)))
    have T123 := hid (OwnS.touchAll (T94.out.below S112.out) ht (fun p hp => by simp only [List.mem_cons, List.not_mem_nil, or_false] at hp; subst hp; exact (Apart.symm (OwnS.apart_lt K11.out Og0_3.out (S32.out.size)))))
    have T124 := hid (OwnS.touchAll (T95.out.below S112.out) ht (fun p hp => by simp only [List.mem_cons, List.not_mem_nil, or_false] at hp; subst hp; exact (Apart.symm (OwnS.apart_lt Ow0_3.out Og0_3.out (S31.out.size)))))
    have T125 := hid (Blk.touchAll (T96.out.below S112.out) ht (fun p hp => by simp only [List.mem_cons, List.not_mem_nil, or_false] at hp; subst hp; exact OwnS.other (T98.out.below S112.out) (T96.out.below S112.out) (by decide)))
    have T126 := hid (Blk.touchAll (T97.out.below S112.out) ht (fun p hp => by simp only [List.mem_cons, List.not_mem_nil, or_false] at hp; subst hp; exact OwnS.other (T98.out.below S112.out) (T97.out.below S112.out) (by decide)))
    have T127 := hid (Blk.touchAll (T99.out.below S112.out) ht (fun p hp => by simp only [List.mem_cons, List.not_mem_nil, or_false] at hp; subst hp; exact OwnS.other (T98.out.below S112.out) (T99.out.below S112.out) (by decide)))
    have T128 := hid (OwnS.touchAll (T100.out.below S112.out) ht (fun p hp => by simp only [List.mem_cons, List.not_mem_nil, or_false] at hp; subst hp; exact (OwnS.apart_lt Og0_3.out K68.out (S49.out.size))))
    have M120 := hid hoM120
    clear hoM120 hbb ht
    have hqm : (0 : Int) ≤ 1 + ((pPutCareful a0_0 a0_1 a0_2 x0_3 a1 a2).1.2.2.2.length : Int) := by omega
    clear c114 c115 c116 c117 l118
    have l133 : W36.heap.size < W119.heap.size := T127.out.lt
    obtain ⟨c129, c130, c131, c132⟩ := T127.out.cells4
    go_wp2_with fail
    refine (heldCells_yes _ _ _ _ _ _ (1) _ (OwnS.rd M120.out) hlg0_3 (by omega) (by omega)).mono ?_
    rintro e W134 ⟨rfl, hb⟩
    have S135 := hid hb
    have S136 := hid (S121.out.trans (S135.out.mono S121.out.size))
    clear hb
    clear c129 c130 c131 c132 l133
    have l141 : w.heap.size < W134.heap.size := (T122.out.below S135.out).lt
    obtain ⟨c137, c138, c139, c140⟩ := (T122.out.below S135.out).cells4
    go_wp2_with fail
    refine (toCells_any a0_0 a0_1 a0_2 A0_3 c0_3 x0_3 _ (X0_3.out.below S136.out) hn0_3).mono ?_
    rintro e W142 ⟨g143, rfl, hgg143, hkg143, hb⟩
    have K144 := hid (OwnS.of_blk hkg143 (B := W134.heap.size) hgg143)
    clear hkg143 hgg143
    have S145 := hid hb
    have S146 := hid (S136.out.trans (S145.out.mono S136.out.size))
    have S147 := hid (S135.out.trans (S145.out.mono S135.out.size))
    clear hb
    clear c137 c138 c139 c140 l141
    have l152 : w.heap.size < W142.heap.size := (T122.out.below S147.out).lt
    obtain ⟨c148, c149, c150, c151⟩ := (T122.out.below S147.out).cells4
    go_wp2_with fail
    refine (iPutCareful_any _ _ _ _ x0_3.length x0_3 _ _ _ w0_0 w0_1 w0_2 (OwnS.rd K144.out) hn0_3 we0_3 w1 w2).mono ?_
    rintro e W153 ⟨Ah0_3, ch0_3, rfl, hoh0_3, hlh0_3, hb⟩
    have Oh0_3 := hid hoh0_3
    clear hoh0_3
    have S154 := hid hb
    have S155 := hid (S146.out.trans (S154.out.mono S146.out.size))
    have S156 := hid (S147.out.trans (S154.out.mono S147.out.size))
    clear hb
    clear c148 c149 c150 c151 l152
    have l161 : W19.heap.size < W153.heap.size := (T125.out.below S156.out).lt
    obtain ⟨c157, c158, c159, c160⟩ := (T125.out.below S156.out).cells4
    go_wp2_with fail
    refine (eqCells_yes _ _ _ _ _ _ _ _ _ _ rfl (OwnS.rd (OwnS.below Oh0_3.out (below_a1 _ _))) (OwnS.rd (OwnS.below (T124.out.below S156.out) (below_a1 _ _))) hlh0_3).mono ?_
    rintro e W162 ⟨rfl, hb⟩
    have S163 := below_call (below_a1 _ _) hb
    have S164 := hid (S155.out.trans (S163.out.mono S155.out.size))
    have S165 := hid (S154.out.trans (S163.out.mono S154.out.size))
    have S166 := hid (S156.out.trans (S163.out.mono S156.out.size))
    have B167 := hid (Blk.below (Blk.new W153 41 [.int .i64 (pPutCareful a0_0 a0_1 a0_2 x0_3 a1 a2).1.1, .int .i64 (pPutCareful a0_0 a0_1 a0_2 x0_3 a1 a2).1.2.1, .int .i64 (pPutCareful a0_0 a0_1 a0_2 x0_3 a1 a2).1.2.2.1, .slice Ah0_3 (pPutCareful a0_0 a0_1 a0_2 x0_3 a1 a2).1.2.2.2.length ch0_3]) hb)
    clear hb
    clear c157 c158 c159 c160 l161
    have l172 : W36.heap.size < W162.heap.size := (T127.out.below S166.out).lt
    obtain ⟨c168, c169, c170, c171⟩ := (T127.out.below S166.out).cells4
    go_wp2_with fail
    refine (heldCells_yes _ _ _ _ _ _ (1) _ (OwnS.rd (M120.out.below S166.out)) hlg0_3 (by omega) (by omega)).mono ?_
    rintro e W173 ⟨rfl, hb⟩
    have S174 := hid hb
    have S175 := hid (S165.out.trans (S174.out.mono S165.out.size))
    have S176 := hid (S166.out.trans (S174.out.mono S166.out.size))
    have S177 := hid (S164.out.trans (S174.out.mono S164.out.size))
    have S178 := hid (S163.out.trans (S174.out.mono S163.out.size))
    clear hb
    clear c168 c169 c170 c171 l172
    go_wp2
    go_ret
    exact ⟨rfl, S177.out⟩
  · skip
    go_enter Try.func12, Try.ntmps12
    have Z := hid (Below.refl w.heap.size w)
    go_wp2_with fail
    refine (szCells_no _ _ _ _ _ _ _ _ (by omega) (by omega) hm0_3 (by omega)).mono ?_
    rintro e W1 ⟨rfl, hb⟩
    have S2 := below_call (below_a1 _ _) hb
    have B3 := hid (Blk.below (Blk.new w 37 [.int .i64 a0_0, .int .i64 a0_1, .int .i64 a0_2, .slice A0_3 x0_3.length c0_3]) hb)
    clear hb
    go_wp2_with fail
    go_ret
    exact ⟨rfl, S2.out⟩

end Go.Proofs.Ytnngepnfljkbhaa
