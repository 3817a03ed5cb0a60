/-
  FnExactHeavyTops: the walk of the law, out of the contracts of spec.HeavyTops and impl.HeavyTops. Printed by gen_law.py.
-/
import Derived.Test.YtbodfepfapjikaaStTops
import Derived.Test.YtbodfepfapjikaaTopsB
import Derived.Test.YtbodfepfapjikaaOpen
namespace Go.Proofs.Ytbodfepfapjikaa
open Go.RowKit
set_option linter.unusedVariables false

set_option maxHeartbeats 1600000 in
theorem FnExactHeavyTops_any (a0_0 : Int) (A0_1 : Option Addr) (c0_1 : Nat) (x0_1 : List Int) (A0_2 : Option Addr) (c0_2 : Nat) (x0_2 : List Int) (A0_3 : Option Addr) (c0_3 : Nat) (x0_3 : List Int) (a1 : Int) (w : World) (w0_0 : W64 a0_0) (hx0_1 : RdL (Value.int .i64) w A0_1 x0_1) (hm0_1 : x0_1.length ≤ 9223372036854775807) (we0_1 : ∀ y ∈ x0_1, W64 y) (hx0_2 : RdL (Value.int .i64) w A0_2 x0_2) (hm0_2 : x0_2.length ≤ 9223372036854775807) (we0_2 : ∀ y ∈ x0_2, W64 y) (hx0_3 : RdL (Value.int .i64) w A0_3 x0_3) (hm0_3 : x0_3.length ≤ 9223372036854775807) (we0_3 : ∀ y ∈ x0_3, W64 y) (w1 : W64 a1) :
    Calls Try.prog 6 #[.agg #[.int .i64 a0_0, .slice A0_1 x0_1.length c0_1, .slice A0_2 x0_2.length c0_2, .slice A0_3 x0_3.length c0_3], .int .i64 a1] w fun e w' => e = .returned (.bool true) ∧ Below w.heap.size w w' := by
  have X0_1 := hid hx0_1
  have X0_2 := hid hx0_2
  have X0_3 := hid hx0_3
  clear hx0_1 hx0_2 hx0_3
  by_cases hn0 : (x0_1.length : Int) + (x0_2.length : Int) + (x0_3.length : Int) ≤ 1048576
  · skip
    have hn0_1 : x0_1.length ≤ 1048576 := by omega
    have hn0_2 : x0_2.length ≤ 1048576 := by omega
    have hn0_3 : x0_3.length ≤ 1048576 := by omega
    go_enter Try.func6, Try.ntmps6
    have Z := hid (Below.refl w.heap.size w)
    have hp0 : 0 ≤ 1048576 - ((x0_1.length : Int) + (x0_2.length : Int) + (x0_3.length : Int)) := by omega
    go_wp2_with fail
    refine (szTops_yes _ _ _ _ _ _ _ _ _ _ _ _ (by omega) (by omega) (by omega)).mono ?_
    rintro e W1 ⟨rfl, hb⟩
    have S2 := below_call (below_a1 _ _) hb
    have B3 := hid (Blk.below (Blk.new w 30 [.int .i64 a0_0, .slice A0_1 x0_1.length c0_1, .slice A0_2 x0_2.length c0_2, .slice A0_3 x0_3.length c0_3]) hb)
    clear hb
    have l8 : w.heap.size < W1.heap.size := B3.out.lt
    obtain ⟨c4, c5, c6, c7⟩ := B3.out.cells4
    go_wp2_with fail
    refine (toTops_any a0_0 A0_1 A0_2 A0_3 c0_1 c0_2 c0_3 x0_1 x0_2 x0_3 _ (X0_1.out.below S2.out) (X0_2.out.below S2.out) (X0_3.out.below S2.out) hn0_1 hn0_2 hn0_3).mono ?_
    rintro e W9 ⟨g10, g11, g12, rfl, hgg10, hkg10, hgg11, hkg11, hgg12, hkg12, hltg11, hltg12, hb⟩
    have K13 := hid (OwnS.of_blk hkg10 (B := W1.heap.size) hgg10)
    have K14 := hid (OwnS.of_blk hkg11 (B := W1.heap.size) hgg11)
    have K15 := hid (OwnS.of_blk hkg12 (B := W1.heap.size) hgg12)
    clear hkg10 hgg10 hkg11 hgg11 hkg12 hgg12
    have S16 := hid hb
    have S17 := hid (S2.out.trans (S16.out.mono S2.out.size))
    clear hb
    clear c4 c5 c6 c7 l8
    have l22 : w.heap.size < W9.heap.size := (B3.out.below S16.out).lt
    obtain ⟨c18, c19, c20, c21⟩ := (B3.out.below S16.out).cells4
    go_wp2_with fail
    refine (sHeavyTops_any _ _ x0_1.length x0_1 _ x0_2.length x0_2 _ x0_3.length x0_3 _ _ w0_0 (OwnS.rd K13.out) hn0_1 we0_1 (OwnS.rd K14.out) hn0_2 we0_2 (OwnS.rd K15.out) hn0_3 we0_3 w1).mono ?_
    rintro e W23 ⟨Aw0, cw0, rfl, how0, hlw0, hb⟩
    have Ow0 := hid how0
    clear how0
    have S24 := hid hb
    have S25 := hid (S17.out.trans (S24.out.mono S17.out.size))
    have S26 := hid (S16.out.trans (S24.out.mono S16.out.size))
    clear hb
    clear c18 c19 c20 c21 l22
    have l31 : w.heap.size < W23.heap.size := (B3.out.below S26.out).lt
    obtain ⟨c27, c28, c29, c30⟩ := (B3.out.below S26.out).cells4
    go_wp2_with fail
    refine (toTops_any a0_0 A0_1 A0_2 A0_3 c0_1 c0_2 c0_3 x0_1 x0_2 x0_3 _ (X0_1.out.below S25.out) (X0_2.out.below S25.out) (X0_3.out.below S25.out) hn0_1 hn0_2 hn0_3).mono ?_
    rintro e W32 ⟨g33, g34, g35, rfl, hgg33, hkg33, hgg34, hkg34, hgg35, hkg35, hltg34, hltg35, hb⟩
    have K36 := hid (OwnS.of_blk hkg33 (B := W23.heap.size) hgg33)
    have K37 := hid (OwnS.of_blk hkg34 (B := W23.heap.size) hgg34)
    have K38 := hid (OwnS.of_blk hkg35 (B := W23.heap.size) hgg35)
    clear hkg33 hgg33 hkg34 hgg34 hkg35 hgg35
    have S39 := hid hb
    have S40 := hid (S24.out.trans (S39.out.mono S24.out.size))
    have S41 := hid (S25.out.trans (S39.out.mono S25.out.size))
    have S42 := hid (S26.out.trans (S39.out.mono S26.out.size))
    clear hb
    clear c27 c28 c29 c30 l31
    go_wp2_with fail
    refine (iHeavyTops_any _ _ x0_1.length x0_1 _ x0_2.length x0_2 _ x0_3.length x0_3 _ _ w0_0 (OwnS.rd (OwnS.below K36.out (below_a1 _ _))) hn0_1 we0_1 (OwnS.rd (OwnS.below K37.out (below_a1 _ _))) hn0_2 we0_2 (OwnS.rd (OwnS.below K38.out (below_a1 _ _))) hn0_3 we0_3 w1).mono ?_
    rintro e W43 ⟨Ag0, cg0, rfl, hog0, hlg0, hb⟩
    have Og0 := hid (OwnS.mono hog0 (B' := W32.heap.size) (below_a1 _ _).size)
    clear hog0
    have S44 := below_call (below_a1 _ _) hb
    have S45 := hid (S40.out.trans (S44.out.mono S40.out.size))
    have S46 := hid (S39.out.trans (S44.out.mono S39.out.size))
    have S47 := hid (S41.out.trans (S44.out.mono S41.out.size))
    have S48 := hid (S42.out.trans (S44.out.mono S42.out.size))
    have B49 := hid (Blk.below (Blk.new W32 33 [.int .i64 a0_0, .slice (some ⟨g33, 0, none⟩) x0_1.length x0_1.length, .slice (some ⟨g34, 0, none⟩) x0_2.length x0_2.length, .slice (some ⟨g35, 0, none⟩) x0_3.length x0_3.length]) hb)
    clear hb
    go_wp2_with fail
    refine (eqInt64S_any _ _ _ _ _ _ _ (OwnS.rd Og0.out) (OwnS.rd (Ow0.out.below S46.out)) hlg0).mono ?_
    rintro e W50 ⟨rfl, nd, hnd⟩
    simp only [decide_true]
    have hb := below_of_draw hnd
    clear hnd
    have S51 := hid hb
    have S52 := hid (S45.out.trans (S51.out.mono S45.out.size))
    have S53 := hid (S46.out.trans (S51.out.mono S46.out.size))
    have S54 := hid (S47.out.trans (S51.out.mono S47.out.size))
    have S55 := hid (S48.out.trans (S51.out.mono S48.out.size))
    have S56 := hid (S44.out.trans (S51.out.mono S44.out.size))
    clear hb
    have l61 : W32.heap.size < W50.heap.size := (B49.out.below S51.out).lt
    obtain ⟨c57, c58, c59, c60⟩ := (B49.out.below S51.out).cells4
    have l66 : w.heap.size < W50.heap.size := (B3.out.below S55.out).lt
    obtain ⟨c62, c63, c64, c65⟩ := (B3.out.below S55.out).cells4
    go_wp2_with fail
    have tokA : True := trivial
    have tokB : True := trivial
    go_region_held3 (fun w' => w'.cell? ⟨W32.heap.size, 0, none⟩ = some (.int .i64 a0_0) ∧ w'.cell? ⟨W32.heap.size, 1, none⟩ = some (.slice (some ⟨g33, 0, none⟩) x0_1.length x0_1.length) ∧ w'.cell? ⟨W32.heap.size, 2, none⟩ = some (.slice (some ⟨g34, 0, none⟩) x0_2.length x0_2.length) ∧ w'.cell? ⟨W32.heap.size, 3, none⟩ = some (.slice (some ⟨g35, 0, none⟩) x0_3.length x0_3.length) ∧ w'.cell? ⟨w.heap.size, 0, none⟩ = some (.int .i64 a0_0) ∧ w'.cell? ⟨w.heap.size, 1, none⟩ = some (.slice A0_1 x0_1.length c0_1) ∧ w'.cell? ⟨w.heap.size, 2, none⟩ = some (.slice A0_2 x0_2.length c0_2) ∧ w'.cell? ⟨w.heap.size, 3, none⟩ = some (.slice A0_3 x0_3.length c0_3)) (first | go_keep | exact hS)
      (first
        | (go_at_call 21
           have _t := tokA
           refine (toTops_any a0_0 A0_1 A0_2 A0_3 c0_1 c0_2 c0_3 x0_1 x0_2 x0_3 _ ((X0_1.out.below S54.out).drewN 1) ((X0_2.out.below S54.out).drewN 1) ((X0_3.out.below S54.out).drewN 1) hn0_1 hn0_2 hn0_3).mono ?_
           rintro e W67 ⟨g68, g69, g70, rfl, hgg68, hkg68, hgg69, hkg69, hgg70, hkg70, hltg69, hltg70, hb⟩
           have hb := below_drew' hb
           have K71 := hid (OwnS.of_blk hkg68 (B := W50.heap.size) hgg68)
           have K72 := hid (OwnS.of_blk hkg69 (B := W50.heap.size) hgg69)
           have K73 := hid (OwnS.of_blk hkg70 (B := W50.heap.size) hgg70)
           clear hkg68 hgg68 hkg69 hgg69 hkg70 hgg70
           have S74 := hid hb
           have S75 := hid (S52.out.trans (S74.out.mono S52.out.size))
           have S76 := hid (S53.out.trans (S74.out.mono S53.out.size))
           have S77 := hid (S54.out.trans (S74.out.mono S54.out.size))
           have S78 := hid (S51.out.trans (S74.out.mono S51.out.size))
           have S79 := hid (S55.out.trans (S74.out.mono S55.out.size))
           have S80 := hid (S56.out.trans (S74.out.mono S56.out.size))
           clear hb
           clear tokA
           have hS := And.intro (B49.out.below S78.out).cells4 (B3.out.below S79.out).cells4
           simp only [and_assoc] at hS)
        | (go_at_call 23
           have _t := tokB
           refine (eqTops_yes _ _ _ _ _ _ _ _ _ _ _ _ _ _ _ _ x0_1 x0_2 x0_3 _ rfl rfl rfl (OwnS.rd (K36.out.below S80.out)) (OwnS.rd K71.out) (OwnS.rd (K37.out.below S80.out)) (OwnS.rd K72.out) (OwnS.rd (K38.out.below S80.out)) (OwnS.rd K73.out) hn0_1 hn0_2 hn0_3).mono ?_
           rintro e W81 ⟨rfl, hb⟩
           have S82 := hid hb
           have S83 := hid (S75.out.trans (S82.out.mono S75.out.size))
           have S84 := hid (S76.out.trans (S82.out.mono S76.out.size))
           have S85 := hid (S77.out.trans (S82.out.mono S77.out.size))
           have S86 := hid (S78.out.trans (S82.out.mono S78.out.size))
           have S87 := hid (S79.out.trans (S82.out.mono S79.out.size))
           have S88 := hid (S80.out.trans (S82.out.mono S80.out.size))
           clear hb
           clear tokB
           clear hS
           have hS := And.intro (B49.out.below S86.out).cells4 (B3.out.below S87.out).cells4
           simp only [and_assoc] at hS))
    clear hS
    have hq0 : (0 : Int) ≤ 1 ∧ 1 ≤ 1000000000 := by omega
    have l93 : W32.heap.size < W81.heap.size := (B49.out.below S86.out).lt
    obtain ⟨c89, c90, c91, c92⟩ := (B49.out.below S86.out).cells4
    go_wp2_with fail
    refine (markTops_any _ _ _ _ _ _ _ w.heap.size _ _ _ (1) _ (OwnS.mono (K36.out.below S88.out) (S25.out.size)) (OwnS.mono (K37.out.below S88.out) (S25.out.size)) (OwnS.mono (K38.out.below S88.out) (S25.out.size)) (apart_ne (by have := hltg34; omega)) (apart_ne (by have := hltg34; have := hltg35; omega)) (apart_ne (by have := hltg35; omega)) hn0_1 hn0_2 hn0_3 (by omega) (by omega) S85.out.size).mono ?_
    rintro e W94 ⟨rfl, hoM95, hoM96, hoM97, hbb, ht⟩
    have S98 := hid ((S85.out).trans hbb)
    have T99 := hid (Blk.touchAll (B3.out.below S87.out) ht (fun p hp => by simp only [List.mem_cons, List.not_mem_nil, or_false] at hp; rcases hp with rfl | rfl | rfl; exact OwnS.other (K36.out.below S88.out) (B3.out.below S87.out) (by decide); exact OwnS.other (K37.out.below S88.out) (B3.out.below S87.out) (by decide); exact OwnS.other (K38.out.below S88.out) (B3.out.below S87.out) (by decide)))
    have T100 := hid (OwnS.touchAll (K13.out.below S83.out) ht (fun p hp => by simp only [List.mem_cons, List.not_mem_nil, or_false] at hp; rcases hp with rfl | rfl | rfl; exact (Apart.symm (OwnS.apart_lt K13.out K36.out (S24.out.size))); exact (Apart.symm (OwnS.apart_lt K13.out K37.out (S24.out.size))); exact (Apart.symm (OwnS.apart_lt K13.out K38.out (S24.out.size)))))
    have T101 := hid (OwnS.touchAll (K14.out.below S83.out) ht (fun p hp => by simp only [List.mem_cons, List.not_mem_nil, or_false] at hp; rcases hp with rfl | rfl | rfl; exact (Apart.symm (OwnS.apart_lt K14.out K36.out (S24.out.size))); exact (Apart.symm (OwnS.apart_lt K14.out K37.out (S24.out.size))); exact (Apart.symm (OwnS.apart_lt K14.out K38.out (S24.out.size)))))
    have T102 := hid (OwnS.touchAll (K15.out.below S83.out) ht (fun p hp => by simp only [List.mem_cons, List.not_mem_nil, or_false] at hp; rcases hp with rfl | rfl | rfl; exact (Apart.symm (OwnS.apart_lt K15.out K36.out (S24.out.size))); exact (Apart.symm (OwnS.apart_lt K15.out K37.out (S24.out.size))); exact (Apart.symm (OwnS.apart_lt K15.out K38.out (S24.out.size)))))
    have T103 := hid (OwnS.touchAll (Ow0.out.below S84.out) ht (fun p hp => by simp only [List.mem_cons, List.not_mem_nil, or_false] at hp; rcases hp with rfl | rfl | rfl; exact (Apart.symm (OwnS.apart_lt Ow0.out K36.out (Nat.le_refl _))); exact (Apart.symm (OwnS.apart_lt Ow0.out K37.out (Nat.le_refl _))); exact (Apart.symm (OwnS.apart_lt Ow0.out K38.out (Nat.le_refl _)))))
    have T104 := hid (Blk.touchAll (B49.out.below S86.out) ht (fun p hp => by simp only [List.mem_cons, List.not_mem_nil, or_false] at hp; rcases hp with rfl | rfl | rfl; exact OwnS.other (K36.out.below S88.out) (B49.out.below S86.out) (by decide); exact OwnS.other (K37.out.below S88.out) (B49.out.below S86.out) (by decide); exact OwnS.other (K38.out.below S88.out) (B49.out.below S86.out) (by decide)))
    have T105 := hid (OwnS.touchAll (Og0.out.below S86.out) ht (fun p hp => by simp only [List.mem_cons, List.not_mem_nil, or_false] at hp; rcases hp with rfl | rfl | rfl; exact (OwnS.apart_lt K36.out Og0.out (Nat.le_refl _)); exact (OwnS.apart_lt K37.out Og0.out (Nat.le_refl _)); exact (OwnS.apart_lt K38.out Og0.out (Nat.le_refl _))))
    have T106 := hid (OwnS.touchAll (K71.out.below S82.out) ht (fun p hp => by simp only [List.mem_cons, List.not_mem_nil, or_false] at hp; rcases hp with rfl | rfl | rfl; exact (OwnS.apart_lt K36.out K71.out (S56.out.size)); exact (OwnS.apart_lt K37.out K71.out (S56.out.size)); exact (OwnS.apart_lt K38.out K71.out (S56.out.size))))
    have T107 := hid (OwnS.touchAll (K72.out.below S82.out) ht (fun p hp => by simp only [List.mem_cons, List.not_mem_nil, or_false] at hp; rcases hp with rfl | rfl | rfl; exact (OwnS.apart_lt K36.out K72.out (S56.out.size)); exact (OwnS.apart_lt K37.out K72.out (S56.out.size)); exact (OwnS.apart_lt K38.out K72.out (S56.out.size))))
    have T108 := hid (OwnS.touchAll (K73.out.below S82.out) ht (fun p hp => by simp only [List.mem_cons, List.not_mem_nil, or_false] at hp; rcases hp with rfl | rfl | rfl; exact (OwnS.apart_lt K36.out K73.out (S56.out.size)); exact (OwnS.apart_lt K37.out K73.out (S56.out.size)); exact (OwnS.apart_lt K38.out K73.out (S56.out.size))))
    clear hoM95 hoM96 hoM97 hbb ht
    have hqk : (0 : Int) ≤ 1 + (x0_1.length : Int) + (x0_2.length : Int) + (x0_3.length : Int) := by omega
    clear c89 c90 c91 c92 l93
    go_wp2_with fail
    refine (eqInt64S_any _ _ _ _ _ _ _ (OwnS.rd T105.out) (OwnS.rd T103.out) hlg0).mono ?_
    rintro e W109 ⟨rfl, nd, hnd⟩
    simp only [decide_true]
    have hb := below_of_draw hnd
    clear hnd
    have S110 := hid hb
    have S111 := hid (S98.out.trans (S110.out.mono S98.out.size))
    clear hb
    go_wp2_with fail
    refine (markInt64S_any _ _ w.heap.size _ (1) _ (OwnS.mono (T105.out.below S110.out) (S41.out.size)) hlg0 (by omega) (by omega)).mono ?_
    rintro e W112 ⟨rfl, hoM113, htt⟩
    have hbb := htt.below (OwnS.mono (T105.out.below S110.out) (S41.out.size))
    have ht := TouchAll.of_touch htt
    have S114 := hid ((S111.out).trans hbb)
    have T115 := hid (Blk.touchAll (T99.out.below S110.out) ht (fun p hp => by simp only [List.mem_cons, List.not_mem_nil, or_false] at hp; subst hp; exact OwnS.other (T105.out.below S110.out) (T99.out.below S110.out) (by decide)))
    have T116 := hid (OwnS.touchAll (T100.out.below S110.out) ht (fun p hp => by simp only [List.mem_cons, List.not_mem_nil, or_false] at hp; subst hp; exact (Apart.symm (OwnS.apart_lt K13.out Og0.out (S40.out.size)))))
    have T117 := hid (OwnS.touchAll (T101.out.below S110.out) ht (fun p hp => by simp only [List.mem_cons, List.not_mem_nil, or_false] at hp; subst hp; exact (Apart.symm (OwnS.apart_lt K14.out Og0.out (S40.out.size)))))
    have T118 := hid (OwnS.touchAll (T102.out.below S110.out) ht (fun p hp => by simp only [List.mem_cons, List.not_mem_nil, or_false] at hp; subst hp; exact (Apart.symm (OwnS.apart_lt K15.out Og0.out (S40.out.size)))))
    have T119 := hid (OwnS.touchAll (T103.out.below S110.out) ht (fun p hp => by simp only [List.mem_cons, List.not_mem_nil, or_false] at hp; subst hp; exact (Apart.symm (OwnS.apart_lt Ow0.out Og0.out (S39.out.size)))))
    have T120 := hid (Blk.touchAll (T104.out.below S110.out) ht (fun p hp => by simp only [List.mem_cons, List.not_mem_nil, or_false] at hp; subst hp; exact OwnS.other (T105.out.below S110.out) (T104.out.below S110.out) (by decide)))
    have T121 := hid (OwnS.touchAll (T106.out.below S110.out) ht (fun p hp => by simp only [List.mem_cons, List.not_mem_nil, or_false] at hp; subst hp; exact (OwnS.apart_lt Og0.out K71.out (S51.out.size))))
    have T122 := hid (OwnS.touchAll (T107.out.below S110.out) ht (fun p hp => by simp only [List.mem_cons, List.not_mem_nil, or_false] at hp; subst hp; exact (OwnS.apart_lt Og0.out K72.out (S51.out.size))))
    have T123 := hid (OwnS.touchAll (T108.out.below S110.out) ht (fun p hp => by simp only [List.mem_cons, List.not_mem_nil, or_false] at hp; subst hp; exact (OwnS.apart_lt Og0.out K73.out (S51.out.size))))
    have M113 := hid hoM113
    clear hoM113 hbb ht
    have hqm : (0 : Int) ≤ 1 + ((pHeavyTops a0_0 x0_1 x0_2 x0_3 a1).1.length : Int) := by omega
    go_wp2_with fail
    refine (heldInt64S_yes _ _ _ (1) _ (OwnS.rd M113.out) hlg0 (by omega) (by omega)).mono ?_
    rintro e W124 ⟨rfl, rfl⟩
    have l129 : w.heap.size < W112.heap.size := T115.out.lt
    obtain ⟨c125, c126, c127, c128⟩ := T115.out.cells4
    go_wp2_with fail
    refine (toTops_any a0_0 A0_1 A0_2 A0_3 c0_1 c0_2 c0_3 x0_1 x0_2 x0_3 _ (X0_1.out.below S114.out) (X0_2.out.below S114.out) (X0_3.out.below S114.out) hn0_1 hn0_2 hn0_3).mono ?_
    rintro e W130 ⟨g131, g132, g133, rfl, hgg131, hkg131, hgg132, hkg132, hgg133, hkg133, hltg132, hltg133, hb⟩
    have K134 := hid (OwnS.of_blk hkg131 (B := W112.heap.size) hgg131)
    have K135 := hid (OwnS.of_blk hkg132 (B := W112.heap.size) hgg132)
    have K136 := hid (OwnS.of_blk hkg133 (B := W112.heap.size) hgg133)
    clear hkg131 hgg131 hkg132 hgg132 hkg133 hgg133
    have S137 := hid hb
    have S138 := hid (S114.out.trans (S137.out.mono S114.out.size))
    clear hb
    clear c125 c126 c127 c128 l129
    have l143 : w.heap.size < W130.heap.size := (T115.out.below S137.out).lt
    obtain ⟨c139, c140, c141, c142⟩ := (T115.out.below S137.out).cells4
    go_wp2_with fail
    refine (iHeavyTops_any _ _ x0_1.length x0_1 _ x0_2.length x0_2 _ x0_3.length x0_3 _ _ w0_0 (OwnS.rd K134.out) hn0_1 we0_1 (OwnS.rd K135.out) hn0_2 we0_2 (OwnS.rd K136.out) hn0_3 we0_3 w1).mono ?_
    rintro e W144 ⟨Ah0, ch0, rfl, hoh0, hlh0, hb⟩
    have Oh0 := hid hoh0
    clear hoh0
    have S145 := hid hb
    have S146 := hid (S137.out.trans (S145.out.mono S137.out.size))
    have S147 := hid (S138.out.trans (S145.out.mono S138.out.size))
    clear hb
    clear c139 c140 c141 c142 l143
    go_wp2_with fail
    refine (eqInt64S_any _ _ _ _ _ _ _ (OwnS.rd Oh0.out) (OwnS.rd (T119.out.below S146.out)) hlh0).mono ?_
    rintro e W148 ⟨rfl, nd, hnd⟩
    simp only [decide_true]
    have hb := below_of_draw hnd
    clear hnd
    have S149 := hid hb
    have S150 := hid (S145.out.trans (S149.out.mono S145.out.size))
    have S151 := hid (S146.out.trans (S149.out.mono S146.out.size))
    have S152 := hid (S147.out.trans (S149.out.mono S147.out.size))
    clear hb
    go_wp2_with fail
    refine (heldInt64S_yes _ _ _ (1) _ (OwnS.rd (M113.out.below S151.out)) hlg0 (by omega) (by omega)).mono ?_
    rintro e W153 ⟨rfl, rfl⟩
    go_wp2
    go_ret
    exact ⟨rfl, S152.out⟩
  · skip
    go_enter Try.func6, Try.ntmps6
    have Z := hid (Below.refl w.heap.size w)
    go_wp2_with fail
    refine (szTops_no _ _ _ _ _ _ _ _ _ _ _ _ (by omega) (by omega) hm0_1 hm0_2 hm0_3 (by omega)).mono ?_
    rintro e W1 ⟨rfl, hb⟩
    have S2 := below_call (below_a1 _ _) hb
    have B3 := hid (Blk.below (Blk.new w 30 [.int .i64 a0_0, .slice A0_1 x0_1.length c0_1, .slice A0_2 x0_2.length c0_2, .slice A0_3 x0_3.length c0_3]) hb)
    clear hb
    go_wp2_with fail
    go_ret
    exact ⟨rfl, S2.out⟩

end Go.Proofs.Ytbodfepfapjikaa
