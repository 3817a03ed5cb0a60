/-
  FnExactPlacesOf: the walk of the law, out of the contracts of spec.PlacesOf and impl.PlacesOf. Printed by gen_law.py.
-/
import Derived.Test.YtocmcghhjjhogaaStCells
import Derived.Test.YtocmcghhjjhogaaCellsAtLaw
import Derived.Test.YtocmcghhjjhogaaOpen
namespace Go.Proofs.Ytocmcghhjjhogaa
open Go.RowKit
set_option linter.unusedVariables false

set_option maxHeartbeats 1600000 in
theorem FnExactPlacesOf_any (a0_0 : Int) (a0_1 : Int) (a0_2 : Int) (A0_3 : Option Addr) (c0_3 : Nat) (x0_3 : List Int) (a1 : Int) (w : World) (w0_0 : W64 a0_0) (w0_1 : W64 a0_1) (w0_2 : W64 a0_2) (hx0_3 : RdL (Value.int .i64) w A0_3 x0_3) (hm0_3 : x0_3.length ≤ 9223372036854775807) (we0_3 : ∀ y ∈ x0_3, W64 y) (w1 : W64 a1) :
    Calls Try.prog 12 #[.agg #[.int .i64 a0_0, .int .i64 a0_1, .int .i64 a0_2, .slice A0_3 x0_3.length c0_3], .int .i64 a1] w fun e w' => e = .returned (.bool true) ∧ Below w.heap.size w w' := by
  have X0_3 := hid hx0_3
  clear hx0_3
  by_cases hn0 : (x0_3.length : Int) ≤ 1048576
  · skip
    have hn0_3 : x0_3.length ≤ 1048576 := by omega
    go_enter Try.func12, Try.ntmps12
    have Z := hid (Below.refl w.heap.size w)
    have hp0 : 0 ≤ 1048576 - ((x0_3.length : Int)) := by omega
    go_wp2_with fail
    refine (szCells_yes _ _ _ _ _ _ _ _ (by omega) (by omega) (by omega)).mono ?_
    rintro e W1 ⟨rfl, hb⟩
    have S2 := below_call (below_a1 _ _) hb
    have B3 := hid (Blk.below (Blk.new w 37 [.int .i64 a0_0, .int .i64 a0_1, .int .i64 a0_2, .slice A0_3 x0_3.length c0_3]) hb)
    clear hb
    have l8 : w.heap.size < W1.heap.size := B3.out.lt
    obtain ⟨c4, c5, c6, c7⟩ := B3.out.cells4
    go_wp2_with fail
    refine (toCells_any a0_0 a0_1 a0_2 A0_3 c0_3 x0_3 _ (X0_3.out.below S2.out) hn0_3).mono ?_
    rintro e W9 ⟨g10, rfl, hgg10, hkg10, hb⟩
    have K11 := hid (OwnS.of_blk hkg10 (B := W1.heap.size) hgg10)
    clear hkg10 hgg10
    have S12 := hid hb
    have S13 := hid (S2.out.trans (S12.out.mono S2.out.size))
    clear hb
    clear c4 c5 c6 c7 l8
    have l18 : w.heap.size < W9.heap.size := (B3.out.below S12.out).lt
    obtain ⟨c14, c15, c16, c17⟩ := (B3.out.below S12.out).cells4
    go_wp2_with fail
    refine (sPlacesOf_any _ _ _ _ x0_3.length x0_3 _ _ w0_0 w0_1 w0_2 (OwnS.rd K11.out) hn0_3 we0_3 w1).mono ?_
    rintro e W19 ⟨Aw0, cw0, rfl, how0, hlw0, hb⟩
    have Ow0 := hid how0
    clear how0
    have S20 := hid hb
    have S21 := hid (S12.out.trans (S20.out.mono S12.out.size))
    have S22 := hid (S13.out.trans (S20.out.mono S13.out.size))
    clear hb
    clear c14 c15 c16 c17 l18
    have l27 : w.heap.size < W19.heap.size := (B3.out.below S21.out).lt
    obtain ⟨c23, c24, c25, c26⟩ := (B3.out.below S21.out).cells4
    go_wp2_with fail
    refine (toCells_any a0_0 a0_1 a0_2 A0_3 c0_3 x0_3 _ (X0_3.out.below S22.out) hn0_3).mono ?_
    rintro e W28 ⟨g29, rfl, hgg29, hkg29, hb⟩
    have K30 := hid (OwnS.of_blk hkg29 (B := W19.heap.size) hgg29)
    clear hkg29 hgg29
    have S31 := hid hb
    have S32 := hid (S20.out.trans (S31.out.mono S20.out.size))
    have S33 := hid (S21.out.trans (S31.out.mono S21.out.size))
    have S34 := hid (S22.out.trans (S31.out.mono S22.out.size))
    clear hb
    clear c23 c24 c25 c26 l27
    go_wp2_with fail
    refine (iPlacesOf_any _ _ _ _ x0_3.length x0_3 _ _ w0_0 w0_1 w0_2 (OwnS.rd (OwnS.below K30.out (below_a1 _ _))) hn0_3 we0_3 w1).mono ?_
    rintro e W35 ⟨Ag0, cg0, rfl, hog0, hlg0, hb⟩
    have Og0 := hid (OwnS.mono hog0 (B' := W28.heap.size) (below_a1 _ _).size)
    clear hog0
    have S36 := below_call (below_a1 _ _) hb
    have S37 := hid (S31.out.trans (S36.out.mono S31.out.size))
    have S38 := hid (S33.out.trans (S36.out.mono S33.out.size))
    have S39 := hid (S32.out.trans (S36.out.mono S32.out.size))
    have S40 := hid (S34.out.trans (S36.out.mono S34.out.size))
    have B41 := hid (Blk.below (Blk.new W28 41 [.int .i64 a0_0, .int .i64 a0_1, .int .i64 a0_2, .slice (some ⟨g29, 0, none⟩) x0_3.length x0_3.length]) hb)
    clear hb
    go_wp2_with fail
    refine (eqInt64S_any _ _ _ _ _ _ _ (OwnS.rd Og0.out) (OwnS.rd (Ow0.out.below S37.out)) hlg0).mono ?_
    rintro e W42 ⟨rfl, nd, hnd⟩
    simp only [decide_true]
    have hb := below_of_draw hnd
    clear hnd
    have S43 := hid hb
    have S44 := hid (S37.out.trans (S43.out.mono S37.out.size))
    have S45 := hid (S38.out.trans (S43.out.mono S38.out.size))
    have S46 := hid (S39.out.trans (S43.out.mono S39.out.size))
    have S47 := hid (S36.out.trans (S43.out.mono S36.out.size))
    have S48 := hid (S40.out.trans (S43.out.mono S40.out.size))
    clear hb
    have l53 : W28.heap.size < W42.heap.size := (B41.out.below S43.out).lt
    obtain ⟨c49, c50, c51, c52⟩ := (B41.out.below S43.out).cells4
    have l58 : w.heap.size < W42.heap.size := (B3.out.below S45.out).lt
    obtain ⟨c54, c55, c56, c57⟩ := (B3.out.below S45.out).cells4
    go_wp2_with fail
    have tokA : True := trivial
    have tokB : True := trivial
    go_region_held3 (fun w' => w'.cell? ⟨W28.heap.size, 0, none⟩ = some (.int .i64 a0_0) ∧ w'.cell? ⟨W28.heap.size, 1, none⟩ = some (.int .i64 a0_1) ∧ w'.cell? ⟨W28.heap.size, 2, none⟩ = some (.int .i64 a0_2) ∧ w'.cell? ⟨W28.heap.size, 3, none⟩ = some (.slice (some ⟨g29, 0, none⟩) x0_3.length x0_3.length) ∧ w'.cell? ⟨w.heap.size, 0, none⟩ = some (.int .i64 a0_0) ∧ w'.cell? ⟨w.heap.size, 1, none⟩ = some (.int .i64 a0_1) ∧ w'.cell? ⟨w.heap.size, 2, none⟩ = some (.int .i64 a0_2) ∧ w'.cell? ⟨w.heap.size, 3, none⟩ = some (.slice A0_3 x0_3.length c0_3)) (first | go_keep | exact hS)
      (first
        | (go_at_call 23
           have _t := tokA
           refine (toCells_any a0_0 a0_1 a0_2 A0_3 c0_3 x0_3 _ ((X0_3.out.below S48.out).drewN 1) hn0_3).mono ?_
           rintro e W59 ⟨g60, rfl, hgg60, hkg60, hb⟩
           have hb := below_drew' hb
           have K61 := hid (OwnS.of_blk hkg60 (B := W42.heap.size) hgg60)
           clear hkg60 hgg60
           have S62 := hid hb
           have S63 := hid (S44.out.trans (S62.out.mono S44.out.size))
           have S64 := hid (S45.out.trans (S62.out.mono S45.out.size))
           have S65 := hid (S43.out.trans (S62.out.mono S43.out.size))
           have S66 := hid (S46.out.trans (S62.out.mono S46.out.size))
           have S67 := hid (S47.out.trans (S62.out.mono S47.out.size))
           have S68 := hid (S48.out.trans (S62.out.mono S48.out.size))
           clear hb
           clear tokA
           have hS := And.intro (B41.out.below S65.out).cells4 (B3.out.below S64.out).cells4
           simp only [and_assoc] at hS)
        | (go_at_call 25
           have _t := tokB
           refine (eqCells_yes _ _ _ _ _ _ _ _ x0_3 _ rfl (OwnS.rd (K30.out.below S67.out)) (OwnS.rd K61.out) hn0_3).mono ?_
           rintro e W69 ⟨rfl, hb⟩
           have S70 := hid hb
           have S71 := hid (S63.out.trans (S70.out.mono S63.out.size))
           have S72 := hid (S64.out.trans (S70.out.mono S64.out.size))
           have S73 := hid (S65.out.trans (S70.out.mono S65.out.size))
           have S74 := hid (S66.out.trans (S70.out.mono S66.out.size))
           have S75 := hid (S67.out.trans (S70.out.mono S67.out.size))
           have S76 := hid (S68.out.trans (S70.out.mono S68.out.size))
           clear hb
           clear tokB
           clear hS
           have hS := And.intro (B41.out.below S73.out).cells4 (B3.out.below S72.out).cells4
           simp only [and_assoc] at hS))
    clear hS
    have hq0 : (0 : Int) ≤ 1 ∧ 1 ≤ 1000000000 := by omega
    have l81 : W28.heap.size < W69.heap.size := (B41.out.below S73.out).lt
    obtain ⟨c77, c78, c79, c80⟩ := (B41.out.below S73.out).cells4
    go_wp2_with fail
    refine (markCells_any _ _ _ _ _ w.heap.size _ (1) _ (OwnS.mono (K30.out.below S75.out) (S22.out.size))  hn0_3 (by omega) (by omega) S76.out.size).mono ?_
    rintro e W82 ⟨rfl, hoM83, hbb, ht⟩
    have S84 := hid ((S76.out).trans hbb)
    have T85 := hid (Blk.touchAll (B3.out.below S72.out) ht (fun p hp => by simp only [List.mem_cons, List.not_mem_nil, or_false] at hp; subst hp; exact OwnS.other (K30.out.below S75.out) (B3.out.below S72.out) (by decide)))
    have T86 := hid (OwnS.touchAll (K11.out.below S74.out) ht (fun p hp => by simp only [List.mem_cons, List.not_mem_nil, or_false] at hp; subst hp; exact (Apart.symm (OwnS.apart_lt K11.out K30.out (S20.out.size)))))
    have T87 := hid (OwnS.touchAll (Ow0.out.below S71.out) ht (fun p hp => by simp only [List.mem_cons, List.not_mem_nil, or_false] at hp; subst hp; exact (Apart.symm (OwnS.apart_lt Ow0.out K30.out (Nat.le_refl _)))))
    have T88 := hid (Blk.touchAll (B41.out.below S73.out) ht (fun p hp => by simp only [List.mem_cons, List.not_mem_nil, or_false] at hp; subst hp; exact OwnS.other (K30.out.below S75.out) (B41.out.below S73.out) (by decide)))
    have T89 := hid (OwnS.touchAll (Og0.out.below S73.out) ht (fun p hp => by simp only [List.mem_cons, List.not_mem_nil, or_false] at hp; subst hp; exact (OwnS.apart_lt K30.out Og0.out (Nat.le_refl _))))
    have T90 := hid (OwnS.touchAll (K61.out.below S70.out) ht (fun p hp => by simp only [List.mem_cons, List.not_mem_nil, or_false] at hp; subst hp; exact (OwnS.apart_lt K30.out K61.out (S47.out.size))))
    clear hoM83 hbb ht
    have hqk : (0 : Int) ≤ 1 + (x0_3.length : Int) := by omega
    clear c77 c78 c79 c80 l81
    go_wp2_with fail
    refine (eqInt64S_any _ _ _ _ _ _ _ (OwnS.rd T89.out) (OwnS.rd T87.out) hlg0).mono ?_
    rintro e W91 ⟨rfl, nd, hnd⟩
    simp only [decide_true]
    have hb := below_of_draw hnd
    clear hnd
    have S92 := hid hb
    have S93 := hid (S84.out.trans (S92.out.mono S84.out.size))
    clear hb
    go_wp2_with fail
    refine (markInt64S_any _ _ w.heap.size _ (1) _ (OwnS.mono (T89.out.below S92.out) (S34.out.size)) hlg0 (by omega) (by omega)).mono ?_
    rintro e W94 ⟨rfl, hoM95, htt⟩
    have hbb := htt.below (OwnS.mono (T89.out.below S92.out) (S34.out.size))
    have ht := TouchAll.of_touch htt
    have S96 := hid ((S93.out).trans hbb)
    have T97 := hid (Blk.touchAll (T85.out.below S92.out) ht (fun p hp => by simp only [List.mem_cons, List.not_mem_nil, or_false] at hp; subst hp; exact OwnS.other (T89.out.below S92.out) (T85.out.below S92.out) (by decide)))
    have T98 := hid (OwnS.touchAll (T86.out.below S92.out) ht (fun p hp => by simp only [List.mem_cons, List.not_mem_nil, or_false] at hp; subst hp; exact (Apart.symm (OwnS.apart_lt K11.out Og0.out (S32.out.size)))))
    have T99 := hid (OwnS.touchAll (T87.out.below S92.out) ht (fun p hp => by simp only [List.mem_cons, List.not_mem_nil, or_false] at hp; subst hp; exact (Apart.symm (OwnS.apart_lt Ow0.out Og0.out (S31.out.size)))))
    have T100 := hid (Blk.touchAll (T88.out.below S92.out) ht (fun p hp => by simp only [List.mem_cons, List.not_mem_nil, or_false] at hp; subst hp; exact OwnS.other (T89.out.below S92.out) (T88.out.below S92.out) (by decide)))
    have T101 := hid (OwnS.touchAll (T90.out.below S92.out) ht (fun p hp => by simp only [List.mem_cons, List.not_mem_nil, or_false] at hp; subst hp; exact (OwnS.apart_lt Og0.out K61.out (S43.out.size))))
    have M95 := hid hoM95
    clear hoM95 hbb ht
    have hqm : (0 : Int) ≤ 1 + ((pPlacesOf a0_0 a0_1 a0_2 x0_3 a1).1.length : Int) := by omega
    go_wp2_with fail
    refine (heldInt64S_yes _ _ _ (1) _ (OwnS.rd M95.out) hlg0 (by omega) (by omega)).mono ?_
    rintro e W102 ⟨rfl, rfl⟩
    have l107 : w.heap.size < W94.heap.size := T97.out.lt
    obtain ⟨c103, c104, c105, c106⟩ := T97.out.cells4
    go_wp2_with fail
    refine (toCells_any a0_0 a0_1 a0_2 A0_3 c0_3 x0_3 _ (X0_3.out.below S96.out) hn0_3).mono ?_
    rintro e W108 ⟨g109, rfl, hgg109, hkg109, hb⟩
    have K110 := hid (OwnS.of_blk hkg109 (B := W94.heap.size) hgg109)
    clear hkg109 hgg109
    have S111 := hid hb
    have S112 := hid (S96.out.trans (S111.out.mono S96.out.size))
    clear hb
    clear c103 c104 c105 c106 l107
    have l117 : w.heap.size < W108.heap.size := (T97.out.below S111.out).lt
    obtain ⟨c113, c114, c115, c116⟩ := (T97.out.below S111.out).cells4
    go_wp2_with fail
    refine (iPlacesOf_any _ _ _ _ x0_3.length x0_3 _ _ w0_0 w0_1 w0_2 (OwnS.rd K110.out) hn0_3 we0_3 w1).mono ?_
    rintro e W118 ⟨Ah0, ch0, rfl, hoh0, hlh0, hb⟩
    have Oh0 := hid hoh0
    clear hoh0
    have S119 := hid hb
    have S120 := hid (S111.out.trans (S119.out.mono S111.out.size))
    have S121 := hid (S112.out.trans (S119.out.mono S112.out.size))
    clear hb
    clear c113 c114 c115 c116 l117
    go_wp2_with fail
    refine (eqInt64S_any _ _ _ _ _ _ _ (OwnS.rd Oh0.out) (OwnS.rd (T99.out.below S120.out)) hlh0).mono ?_
    rintro e W122 ⟨rfl, nd, hnd⟩
    simp only [decide_true]
    have hb := below_of_draw hnd
    clear hnd
    have S123 := hid hb
    have S124 := hid (S119.out.trans (S123.out.mono S119.out.size))
    have S125 := hid (S120.out.trans (S123.out.mono S120.out.size))
    have S126 := hid (S121.out.trans (S123.out.mono S121.out.size))
    clear hb
    go_wp2_with fail
    refine (heldInt64S_yes _ _ _ (1) _ (OwnS.rd (M95.out.below S125.out)) hlg0 (by omega) (by omega)).mono ?_
    rintro e W127 ⟨rfl, rfl⟩
    go_wp2
    go_ret
    exact ⟨rfl, S126.out⟩
  · skip
    go_enter Try.func12, Try.ntmps12
    have Z := hid (Below.refl w.heap.size w)
    go_wp2_with fail
    refine (szCells_no _ _ _ _ _ _ _ _ (by omega) (by omega) hm0_3 (by omega)).mono ?_
    rintro e W1 ⟨rfl, hb⟩
    have S2 := below_call (below_a1 _ _) hb
    have B3 := hid (Blk.below (Blk.new w 37 [.int .i64 a0_0, .int .i64 a0_1, .int .i64 a0_2, .slice A0_3 x0_3.length c0_3]) hb)
    clear hb
    go_wp2_with fail
    go_ret
    exact ⟨rfl, S2.out⟩

end Go.Proofs.Ytocmcghhjjhogaa
