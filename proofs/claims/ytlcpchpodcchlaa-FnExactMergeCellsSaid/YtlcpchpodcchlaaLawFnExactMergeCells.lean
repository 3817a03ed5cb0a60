/-
  FnExactMergeCells: the walk of the law, out of the contracts of spec.MergeCells and impl.MergeCells. Printed by gen_law.py.
-/
import Derived.Test.YtlcpchpodcchlaaStCells
import Derived.Test.YtlcpchpodcchlaaMergeCells
import Derived.Test.YtlcpchpodcchlaaOpen
namespace Go.Proofs.Ytlcpchpodcchlaa
open Go.RowKit
set_option linter.unusedVariables false

set_option maxHeartbeats 1600000 in
theorem FnExactMergeCells_any (a0_0 : Int) (a0_1 : Int) (a0_2 : Int) (A0_3 : Option Addr) (c0_3 : Nat) (x0_3 : List Int) (a1_0 : Int) (a1_1 : Int) (a1_2 : Int) (A1_3 : Option Addr) (c1_3 : Nat) (x1_3 : List Int) (w : World) (w0_0 : W64 a0_0) (w0_1 : W64 a0_1) (w0_2 : W64 a0_2) (hx0_3 : RdL (Value.int .i64) w A0_3 x0_3) (hm0_3 : x0_3.length ≤ 9223372036854775807) (we0_3 : ∀ y ∈ x0_3, W64 y) (w1_0 : W64 a1_0) (w1_1 : W64 a1_1) (w1_2 : W64 a1_2) (hx1_3 : RdL (Value.int .i64) w A1_3 x1_3) (hm1_3 : x1_3.length ≤ 9223372036854775807) (we1_3 : ∀ y ∈ x1_3, W64 y) :
    Calls Try.prog 9 #[.agg #[.int .i64 a0_0, .int .i64 a0_1, .int .i64 a0_2, .slice A0_3 x0_3.length c0_3], .agg #[.int .i64 a1_0, .int .i64 a1_1, .int .i64 a1_2, .slice A1_3 x1_3.length c1_3]] w fun e w' => e = .returned (.bool true) ∧ Below w.heap.size w w' := by
  have X0_3 := hid hx0_3
  have X1_3 := hid hx1_3
  clear hx0_3 hx1_3
  by_cases hn0 : (x0_3.length : Int) ≤ 1048576
  · skip
    by_cases hn1 : (x1_3.length : Int) ≤ 1048576 - ((x0_3.length : Int))
    · skip
      have hn0_3 : x0_3.length ≤ 1048576 := by omega
      have hn1_3 : x1_3.length ≤ 1048576 := by omega
      go_enter Try.func9, Try.ntmps9
      have Z := hid (Below.refl w.heap.size w)
      have hp0 : 0 ≤ 1048576 - ((x0_3.length : Int)) := by omega
      have hp1 : 0 ≤ 1048576 - ((x0_3.length : Int)) - ((x1_3.length : Int)) := by omega
      go_wp2_with fail
      refine (szCells_yes _ _ _ _ _ _ _ _ (by omega) (by omega) (by omega)).mono ?_
      rintro e W1 ⟨rfl, hb⟩
      have S2 := below_call (below_a2 _ _ _) hb
      have B3 := hid (Blk.below (Blk.alloc (Blk.new w 62 [.int .i64 a0_0, .int .i64 a0_1, .int .i64 a0_2, .slice A0_3 x0_3.length c0_3]) _) hb)
      have B4 := hid (Blk.below (Blk.new2 w _ 62 [.int .i64 a1_0, .int .i64 a1_1, .int .i64 a1_2, .slice A1_3 x1_3.length c1_3]) hb)
      clear hb
      have l9 : w.heap.size < W1.heap.size := B3.out.lt
      obtain ⟨c5, c6, c7, c8⟩ := B3.out.cells4
      have l14 : w.heap.size + 1 < W1.heap.size := B4.out.lt
      obtain ⟨c10, c11, c12, c13⟩ := B4.out.cells4
      go_wp2_with fail
      refine (szCells_yes _ _ _ _ _ _ _ _ (by omega) (by omega) (by omega)).mono ?_
      rintro e W15 ⟨rfl, hb⟩
      have S16 := hid hb
      have S17 := hid (S2.out.trans (S16.out.mono S2.out.size))
      clear hb
      clear c5 c6 c7 c8 l9 c10 c11 c12 c13 l14
      have l22 : w.heap.size < W15.heap.size := (B3.out.below S16.out).lt
      obtain ⟨c18, c19, c20, c21⟩ := (B3.out.below S16.out).cells4
      have l27 : w.heap.size + 1 < W15.heap.size := (B4.out.below S16.out).lt
      obtain ⟨c23, c24, c25, c26⟩ := (B4.out.below S16.out).cells4
      go_wp2_with fail
      go_cut [6, 7] from 27 to 34 (fun vq v7 wx => ∃ (qb : Nat) (Aw0_3 : Option Addr) (cw0_3 : Nat), vq = .pointer (some ⟨qb, 0, none⟩) ∧ v7 = .bool (pMergeCells a0_0 a0_1 a0_2 x0_3 a1_0 a1_1 a1_2 x1_3).2 ∧ Hid (Blk wx qb 29 [.int .i64 (pMergeCells a0_0 a0_1 a0_2 x0_3 a1_0 a1_1 a1_2 x1_3).1.1, .int .i64 (pMergeCells a0_0 a0_1 a0_2 x0_3 a1_0 a1_1 a1_2 x1_3).1.2.1, .int .i64 (pMergeCells a0_0 a0_1 a0_2 x0_3 a1_0 a1_1 a1_2 x1_3).1.2.2.1, .slice Aw0_3 (pMergeCells a0_0 a0_1 a0_2 x0_3 a1_0 a1_1 a1_2 x1_3).1.2.2.2.length cw0_3]) ∧ Hid (OwnS (Value.int .i64) wx W15.heap.size 2 Aw0_3 (pMergeCells a0_0 a0_1 a0_2 x0_3 a1_0 a1_1 a1_2 x1_3).1.2.2.2) ∧ (pMergeCells a0_0 a0_1 a0_2 x0_3 a1_0 a1_1 a1_2 x1_3).1.2.2.2.length ≤ 1048576 ∧ Hid (Below W15.heap.size W15 wx))
      case first =>
        have H0 := hid (Below.refl W15.heap.size W15)
        have tok0 : True := trivial
        have tok1 : True := trivial
        have tokX : True := trivial
        go_region_held3 (fun w' => w'.cell? ⟨w.heap.size, 0, none⟩ = some (.int .i64 a0_0) ∧ w'.cell? ⟨w.heap.size, 1, none⟩ = some (.int .i64 a0_1) ∧ w'.cell? ⟨w.heap.size, 2, none⟩ = some (.int .i64 a0_2) ∧ w'.cell? ⟨w.heap.size, 3, none⟩ = some (.slice A0_3 x0_3.length c0_3) ∧ w'.cell? ⟨w.heap.size + 1, 0, none⟩ = some (.int .i64 a1_0) ∧ w'.cell? ⟨w.heap.size + 1, 1, none⟩ = some (.int .i64 a1_1) ∧ w'.cell? ⟨w.heap.size + 1, 2, none⟩ = some (.int .i64 a1_2) ∧ w'.cell? ⟨w.heap.size + 1, 3, none⟩ = some (.slice A1_3 x1_3.length c1_3)) (first | go_keep | exact hS)
          (first
            | (go_at_call 45
               have _t := tok0
               refine (toCells_any a0_0 a0_1 a0_2 A0_3 c0_3 x0_3 _ (RdL.below (X0_3.out.below S17.out) (by repeat first | with_reducible exact Below.refl _ _ | (refine Hid.out ?_; assumption) | refine below_drewN ?_ _ | refine below_drew1 ?_ | refine below_alloc_ ?_ _)) hn0_3).mono ?_
               rintro e W28 ⟨g29, rfl, hgg29, hkg29, hb⟩
               have H30 : Hid (Below W15.heap.size W15 W28) := below_next (by repeat first | with_reducible exact Below.refl _ _ | (refine Hid.out ?_; assumption) | refine below_drewN ?_ _ | refine below_drew1 ?_ | refine below_alloc_ ?_ _) hb
               first
                 | (have hQ := hid (Blk.below (Blk.new W15 29 [.int .i64 0, .int .i64 0, .int .i64 0, .slice none 0 0]) (below_drew'' hb))
                    have hQge : W15.heap.size ≤ W15.heap.size := Below.size (by repeat first | with_reducible exact Below.refl _ _ | (refine Hid.out ?_; assumption) | refine below_drewN ?_ _ | refine below_drew1 ?_ | refine below_alloc_ ?_ _)
                    have hqm0 : w.heap.size ≠ W15.heap.size := by have := Blk.lt (B3.out.below S16.out); omega
                    have hqn0 := Ne.symm hqm0
                    have hqm1 : w.heap.size + 1 ≠ W15.heap.size := by have := Blk.lt (B4.out.below S16.out); omega
                    have hqn1 := Ne.symm hqm1)
                 | (have hQ := hid (Blk.below (Blk.new W15 29 [.int .i64 0, .int .i64 0, .int .i64 0, .slice none 0 0]) (below_drew' hb))
                    have hQge : W15.heap.size ≤ W15.heap.size := Below.size (by repeat first | with_reducible exact Below.refl _ _ | (refine Hid.out ?_; assumption) | refine below_drewN ?_ _ | refine below_drew1 ?_ | refine below_alloc_ ?_ _)
                    have hqm0 : w.heap.size ≠ W15.heap.size := by have := Blk.lt (B3.out.below S16.out); omega
                    have hqn0 := Ne.symm hqm0
                    have hqm1 : w.heap.size + 1 ≠ W15.heap.size := by have := Blk.lt (B4.out.below S16.out); omega
                    have hqn1 := Ne.symm hqm1)
                 | (have hQ := hid (Blk.below (Blk.new W15 29 [.int .i64 0, .int .i64 0, .int .i64 0, .slice none 0 0]) hb)
                    have hQge : W15.heap.size ≤ W15.heap.size := Below.size (by repeat first | with_reducible exact Below.refl _ _ | (refine Hid.out ?_; assumption) | refine below_drewN ?_ _ | refine below_drew1 ?_ | refine below_alloc_ ?_ _)
                    have hqm0 : w.heap.size ≠ W15.heap.size := by have := Blk.lt (B3.out.below S16.out); omega
                    have hqn0 := Ne.symm hqm0
                    have hqm1 : w.heap.size + 1 ≠ W15.heap.size := by have := Blk.lt (B4.out.below S16.out); omega
                    have hqn1 := Ne.symm hqm1)
                 | skip
               have K31 := hid (OwnS.of_blk hkg29 (B := 0) (Nat.zero_le _))
               clear hkg29 hgg29
               clear tok0
               have hS := And.intro (Blk.below (B3.out.below S16.out) H30.out).cells4 ((Blk.below (B4.out.below S16.out) H30.out).cells4)
               simp only [and_assoc] at hS)
            | (go_at_call 45
               have _t := tok1
               refine (toCells_any a1_0 a1_1 a1_2 A1_3 c1_3 x1_3 _ (RdL.below (X1_3.out.below S17.out) (by repeat first | with_reducible exact Below.refl _ _ | (refine Hid.out ?_; assumption) | refine below_drewN ?_ _ | refine below_drew1 ?_ | refine below_alloc_ ?_ _)) hn1_3).mono ?_
               rintro e W32 ⟨g33, rfl, hgg33, hkg33, hb⟩
               have H34 : Hid (Below W15.heap.size W15 W32) := below_next (by repeat first | with_reducible exact Below.refl _ _ | (refine Hid.out ?_; assumption) | refine below_drewN ?_ _ | refine below_drew1 ?_ | refine below_alloc_ ?_ _) hb
               have H35 : Hid (Below W28.heap.size W28 W32) := below_next (by repeat first | with_reducible exact Below.refl _ _ | (refine Hid.out ?_; assumption) | refine below_drewN ?_ _ | refine below_drew1 ?_ | refine below_alloc_ ?_ _) hb
               first
                 | (have hQ := hid (Blk.below hQ.out (Hid.out (below_next (B := W28.heap.size) (W := W28) (by repeat first | with_reducible exact Below.refl _ _ | (refine Hid.out ?_; assumption) | refine below_drewN ?_ _ | refine below_drew1 ?_ | refine below_alloc_ ?_ _) hb)))
                    have hQge := hQge)
                 | (have hQ := hid (Blk.below (Blk.new W28 29 [.int .i64 0, .int .i64 0, .int .i64 0, .slice none 0 0]) (below_drew'' hb))
                    have hQge : W15.heap.size ≤ W28.heap.size := Below.size (by repeat first | with_reducible exact Below.refl _ _ | (refine Hid.out ?_; assumption) | refine below_drewN ?_ _ | refine below_drew1 ?_ | refine below_alloc_ ?_ _)
                    have hqm0 : w.heap.size ≠ W28.heap.size := by have := Blk.lt (B3.out.below S16.out); omega
                    have hqn0 := Ne.symm hqm0
                    have hqm1 : w.heap.size + 1 ≠ W28.heap.size := by have := Blk.lt (B4.out.below S16.out); omega
                    have hqn1 := Ne.symm hqm1)
                 | (have hQ := hid (Blk.below (Blk.new W28 29 [.int .i64 0, .int .i64 0, .int .i64 0, .slice none 0 0]) (below_drew' hb))
                    have hQge : W15.heap.size ≤ W28.heap.size := Below.size (by repeat first | with_reducible exact Below.refl _ _ | (refine Hid.out ?_; assumption) | refine below_drewN ?_ _ | refine below_drew1 ?_ | refine below_alloc_ ?_ _)
                    have hqm0 : w.heap.size ≠ W28.heap.size := by have := Blk.lt (B3.out.below S16.out); omega
                    have hqn0 := Ne.symm hqm0
                    have hqm1 : w.heap.size + 1 ≠ W28.heap.size := by have := Blk.lt (B4.out.below S16.out); omega
                    have hqn1 := Ne.symm hqm1)
                 | (have hQ := hid (Blk.below (Blk.new W28 29 [.int .i64 0, .int .i64 0, .int .i64 0, .slice none 0 0]) hb)
                    have hQge : W15.heap.size ≤ W28.heap.size := Below.size (by repeat first | with_reducible exact Below.refl _ _ | (refine Hid.out ?_; assumption) | refine below_drewN ?_ _ | refine below_drew1 ?_ | refine below_alloc_ ?_ _)
                    have hqm0 : w.heap.size ≠ W28.heap.size := by have := Blk.lt (B3.out.below S16.out); omega
                    have hqn0 := Ne.symm hqm0
                    have hqm1 : w.heap.size + 1 ≠ W28.heap.size := by have := Blk.lt (B4.out.below S16.out); omega
                    have hqn1 := Ne.symm hqm1)
                 | skip
               have K36 := hid (OwnS.of_blk hkg33 (B := 0) (Nat.zero_le _))
               clear hkg33 hgg33
               clear tok1
               have hS := And.intro (Blk.below (B3.out.below S16.out) H34.out).cells4 ((Blk.below (B4.out.below S16.out) H34.out).cells4)
               simp only [and_assoc] at hS)
            | (go_at_call 44
               have _t := tokX
               refine (sMergeCells_any _ _ _ _ x0_3.length x0_3 _ _ _ _ x1_3.length x1_3 _ w0_0 w0_1 w0_2 (OwnS.rd (OwnS.below K31.out (by repeat first | with_reducible exact Below.refl _ _ | (refine Hid.out ?_; assumption) | refine below_drewN ?_ _ | refine below_drew1 ?_ | refine below_alloc_ ?_ _))) hn0_3 we0_3 w1_0 w1_1 w1_2 (OwnS.rd (OwnS.below K36.out (by repeat first | with_reducible exact Below.refl _ _ | (refine Hid.out ?_; assumption) | refine below_drewN ?_ _ | refine below_drew1 ?_ | refine below_alloc_ ?_ _))) hn1_3 we1_3).mono ?_
               rintro e W37 ⟨Aw0_3, cw0_3, rfl, ho3, hl3, hb⟩
               have H38 : Hid (Below W15.heap.size W15 W37) := below_next (by repeat first | with_reducible exact Below.refl _ _ | (refine Hid.out ?_; assumption) | refine below_drewN ?_ _ | refine below_drew1 ?_ | refine below_alloc_ ?_ _) hb
               have H39 : Hid (Below W28.heap.size W28 W37) := below_next (by repeat first | with_reducible exact Below.refl _ _ | (refine Hid.out ?_; assumption) | refine below_drewN ?_ _ | refine below_drew1 ?_ | refine below_alloc_ ?_ _) hb
               have H40 : Hid (Below W32.heap.size W32 W37) := below_next (by repeat first | with_reducible exact Below.refl _ _ | (refine Hid.out ?_; assumption) | refine below_drewN ?_ _ | refine below_drew1 ?_ | refine below_alloc_ ?_ _) hb
               have ho3 := hid (OwnS.mono ho3 (B' := W15.heap.size) (Below.size (by repeat first | with_reducible exact Below.refl _ _ | (refine Hid.out ?_; assumption) | refine below_drewN ?_ _ | refine below_drew1 ?_ | refine below_alloc_ ?_ _)))
               first
                 | (have hQ := hid (Blk.below hQ.out (Hid.out (below_next (B := W32.heap.size) (W := W32) (by repeat first | with_reducible exact Below.refl _ _ | (refine Hid.out ?_; assumption) | refine below_drewN ?_ _ | refine below_drew1 ?_ | refine below_alloc_ ?_ _) hb)))
                    have hQge := hQge)
                 | (have hQ := hid (Blk.below (Blk.new W32 29 [.int .i64 0, .int .i64 0, .int .i64 0, .slice none 0 0]) (below_drew'' hb))
                    have hQge : W15.heap.size ≤ W32.heap.size := Below.size (by repeat first | with_reducible exact Below.refl _ _ | (refine Hid.out ?_; assumption) | refine below_drewN ?_ _ | refine below_drew1 ?_ | refine below_alloc_ ?_ _)
                    have hqm0 : w.heap.size ≠ W32.heap.size := by have := Blk.lt (B3.out.below S16.out); omega
                    have hqn0 := Ne.symm hqm0
                    have hqm1 : w.heap.size + 1 ≠ W32.heap.size := by have := Blk.lt (B4.out.below S16.out); omega
                    have hqn1 := Ne.symm hqm1)
                 | (have hQ := hid (Blk.below (Blk.new W32 29 [.int .i64 0, .int .i64 0, .int .i64 0, .slice none 0 0]) (below_drew' hb))
                    have hQge : W15.heap.size ≤ W32.heap.size := Below.size (by repeat first | with_reducible exact Below.refl _ _ | (refine Hid.out ?_; assumption) | refine below_drewN ?_ _ | refine below_drew1 ?_ | refine below_alloc_ ?_ _)
                    have hqm0 : w.heap.size ≠ W32.heap.size := by have := Blk.lt (B3.out.below S16.out); omega
                    have hqn0 := Ne.symm hqm0
                    have hqm1 : w.heap.size + 1 ≠ W32.heap.size := by have := Blk.lt (B4.out.below S16.out); omega
                    have hqn1 := Ne.symm hqm1)
                 | (have hQ := hid (Blk.below (Blk.new W32 29 [.int .i64 0, .int .i64 0, .int .i64 0, .slice none 0 0]) hb)
                    have hQge : W15.heap.size ≤ W32.heap.size := Below.size (by repeat first | with_reducible exact Below.refl _ _ | (refine Hid.out ?_; assumption) | refine below_drewN ?_ _ | refine below_drew1 ?_ | refine below_alloc_ ?_ _)
                    have hqm0 : w.heap.size ≠ W32.heap.size := by have := Blk.lt (B3.out.below S16.out); omega
                    have hqn0 := Ne.symm hqm0
                    have hqm1 : w.heap.size + 1 ≠ W32.heap.size := by have := Blk.lt (B4.out.below S16.out); omega
                    have hqn1 := Ne.symm hqm1)
                 | skip
               have HX := H38
               first
                 | (obtain ⟨q0, q1, q2, q3⟩ := hQ.out.cells4
                    have qf0 := hQ.out.frozen 0
                    have qf1 := hQ.out.frozen 1
                    have qf2 := hQ.out.frozen 2
                    have qf3 := hQ.out.frozen 3)
                 | skip
               clear hb
               clear tokX
               have hS := And.intro (Blk.below (B3.out.below S16.out) H38.out).cells4 ((Blk.below (B4.out.below S16.out) H38.out).cells4)
               simp only [and_assoc] at hS))
        all_goals
          first
          | (have hql := hQ.out.lt
             go_wp2_with fail
             go_meet
             exact ⟨_, _, _, rfl, rfl, hid (Blk.set_ (Blk.set_ (Blk.set_ (Blk.set_ hQ.out 0 _) 1 _) 2 _) 3 _), hid (OwnS.setOther (OwnS.setOther (OwnS.setOther (OwnS.setOther ho3.out hQ.out (by decide) 0 _) (Blk.set_ hQ.out 0 _) (by decide) 1 _) (Blk.set_ (Blk.set_ hQ.out 0 _) 1 _) (by decide) 2 _) (Blk.set_ (Blk.set_ (Blk.set_ hQ.out 0 _) 1 _) 2 _) (by decide) 3 _), hl3, hid (Below.setCell (Below.setCell (Below.setCell (Below.setCell HX.out hQge _) hQge _) hQge _) hQge _)⟩)
          | (go_wp2_with fail
             go_meet
             exact ⟨_, _, _, rfl, rfl, hid (Blk.new _ _ _), hid (OwnS.below ho3.out (below_a1 _ _)), hl3, hid (below_alloc_ HX.out _)⟩)
      case rest =>
        obtain ⟨qbw, Aw0_3, cw0_3, rfl, rfl, B42, Ow0_3, hlw0_3, S43⟩ := hcut
        obtain ⟨W44, hWx⟩ : ∃ W44, W44 = wc := ⟨_, rfl⟩
        subst hWx
        have S45 := hid (S16.out.trans (S43.out.mono S16.out.size))
        have S46 := hid (S17.out.trans (S43.out.mono S17.out.size))
        have l51 : w.heap.size < W44.heap.size := (B3.out.below S45.out).lt
        obtain ⟨c47, c48, c49, c50⟩ := (B3.out.below S45.out).cells4
        have l56 : w.heap.size + 1 < W44.heap.size := (B4.out.below S45.out).lt
        obtain ⟨c52, c53, c54, c55⟩ := (B4.out.below S45.out).cells4
        go_wp2_with fail
        refine (toCells_any a0_0 a0_1 a0_2 A0_3 c0_3 x0_3 _ (X0_3.out.below S46.out) hn0_3).mono ?_
        rintro e W57 ⟨g58, rfl, hgg58, hkg58, hb⟩
        have K59 := hid (OwnS.of_blk hkg58 (B := W44.heap.size) hgg58)
        clear hkg58 hgg58
        have S60 := hid hb
        have S61 := hid (S45.out.trans (S60.out.mono S45.out.size))
        have S62 := hid (S46.out.trans (S60.out.mono S46.out.size))
        clear hb
        clear c47 c48 c49 c50 l51 c52 c53 c54 c55 l56
        have l67 : w.heap.size < W57.heap.size := (B3.out.below S61.out).lt
        obtain ⟨c63, c64, c65, c66⟩ := (B3.out.below S61.out).cells4
        have l72 : w.heap.size + 1 < W57.heap.size := (B4.out.below S61.out).lt
        obtain ⟨c68, c69, c70, c71⟩ := (B4.out.below S61.out).cells4
        go_wp2_with fail
        refine (toCells_any a1_0 a1_1 a1_2 A1_3 c1_3 x1_3 _ ((X1_3.out.below S62.out).below (below_a1 _ _)) hn1_3).mono ?_
        rintro e W73 ⟨g74, rfl, hgg74, hkg74, hb⟩
        have K75 := hid (OwnS.of_blk hkg74 (B := W57.heap.size) (Nat.le_trans (below_a1 _ _).size hgg74))
        clear hkg74 hgg74
        have S76 := below_call (below_a1 _ _) hb
        have S77 := hid (S61.out.trans (S76.out.mono S61.out.size))
        have S78 := hid (S62.out.trans (S76.out.mono S62.out.size))
        have S79 := hid (S60.out.trans (S76.out.mono S60.out.size))
        have B80 := hid (Blk.below (Blk.new W57 29 [.int .i64 a0_0, .int .i64 a0_1, .int .i64 a0_2, .slice (some ⟨g58, 0, none⟩) x0_3.length x0_3.length]) hb)
        clear hb
        clear c63 c64 c65 c66 l67 c68 c69 c70 c71 l72
        have l85 : W57.heap.size < W73.heap.size := B80.out.lt
        obtain ⟨c81, c82, c83, c84⟩ := B80.out.cells4
        go_wp2_with fail
        refine (iMergeCells_any _ _ _ _ x0_3.length x0_3 _ _ _ _ x1_3.length x1_3 _ w0_0 w0_1 w0_2 (OwnS.rd (OwnS.below (K59.out.below S76.out) (below_a1 _ _))) hn0_3 we0_3 w1_0 w1_1 w1_2 (OwnS.rd (OwnS.below K75.out (below_a1 _ _))) hn1_3 we1_3).mono ?_
        rintro e W86 ⟨Ag0_3, cg0_3, rfl, hog0_3, hlg0_3, hb⟩
        have Og0_3 := hid (OwnS.mono hog0_3 (B' := W73.heap.size) (below_a1 _ _).size)
        clear hog0_3
        have S87 := below_call (below_a1 _ _) hb
        have S88 := hid (S77.out.trans (S87.out.mono S77.out.size))
        have S89 := hid (S76.out.trans (S87.out.mono S76.out.size))
        have S90 := hid (S79.out.trans (S87.out.mono S79.out.size))
        have S91 := hid (S78.out.trans (S87.out.mono S78.out.size))
        have B92 := hid (Blk.below (Blk.new W73 29 [.int .i64 a1_0, .int .i64 a1_1, .int .i64 a1_2, .slice (some ⟨g74, 0, none⟩) x1_3.length x1_3.length]) hb)
        clear hb
        clear c81 c82 c83 c84 l85
        have l97 : qbw < W86.heap.size := (B42.out.below S90.out).lt
        obtain ⟨c93, c94, c95, c96⟩ := (B42.out.below S90.out).cells4
        go_wp2_with fail
        refine (eqCells_yes _ _ _ _ _ _ _ _ _ _ rfl (OwnS.rd (OwnS.below Og0_3.out (below_a1 _ _))) (OwnS.rd (OwnS.below (Ow0_3.out.below S90.out) (below_a1 _ _))) hlg0_3).mono ?_
        rintro e W98 ⟨rfl, hb⟩
        have S99 := below_call (below_a1 _ _) hb
        have S100 := hid (S88.out.trans (S99.out.mono S88.out.size))
        have S101 := hid (S89.out.trans (S99.out.mono S89.out.size))
        have S102 := hid (S90.out.trans (S99.out.mono S90.out.size))
        have S103 := hid (S91.out.trans (S99.out.mono S91.out.size))
        have S104 := hid (S87.out.trans (S99.out.mono S87.out.size))
        have B105 := hid (Blk.below (Blk.new W86 29 [.int .i64 (pMergeCells a0_0 a0_1 a0_2 x0_3 a1_0 a1_1 a1_2 x1_3).1.1, .int .i64 (pMergeCells a0_0 a0_1 a0_2 x0_3 a1_0 a1_1 a1_2 x1_3).1.2.1, .int .i64 (pMergeCells a0_0 a0_1 a0_2 x0_3 a1_0 a1_1 a1_2 x1_3).1.2.2.1, .slice Ag0_3 (pMergeCells a0_0 a0_1 a0_2 x0_3 a1_0 a1_1 a1_2 x1_3).1.2.2.2.length cg0_3]) hb)
        clear hb
        clear c93 c94 c95 c96 l97
        have l110 : W57.heap.size < W98.heap.size := (B80.out.below S104.out).lt
        obtain ⟨c106, c107, c108, c109⟩ := (B80.out.below S104.out).cells4
        have l115 : w.heap.size < W98.heap.size := (B3.out.below S100.out).lt
        obtain ⟨c111, c112, c113, c114⟩ := (B3.out.below S100.out).cells4
        go_wp2_with fail
        have tokA : True := trivial
        have tokB : True := trivial
        go_region_held3 (fun w' => w'.cell? ⟨W57.heap.size, 0, none⟩ = some (.int .i64 a0_0) ∧ w'.cell? ⟨W57.heap.size, 1, none⟩ = some (.int .i64 a0_1) ∧ w'.cell? ⟨W57.heap.size, 2, none⟩ = some (.int .i64 a0_2) ∧ w'.cell? ⟨W57.heap.size, 3, none⟩ = some (.slice (some ⟨g58, 0, none⟩) x0_3.length x0_3.length) ∧ w'.cell? ⟨w.heap.size, 0, none⟩ = some (.int .i64 a0_0) ∧ w'.cell? ⟨w.heap.size, 1, none⟩ = some (.int .i64 a0_1) ∧ w'.cell? ⟨w.heap.size, 2, none⟩ = some (.int .i64 a0_2) ∧ w'.cell? ⟨w.heap.size, 3, none⟩ = some (.slice A0_3 x0_3.length c0_3)) (first | go_keep | exact hS)
          (first
            | (go_at_call 45
               have _t := tokA
               refine (toCells_any a0_0 a0_1 a0_2 A0_3 c0_3 x0_3 _ ((X0_3.out.below S103.out).drewN 1) hn0_3).mono ?_
               rintro e W116 ⟨g117, rfl, hgg117, hkg117, hb⟩
               have hb := below_drew' hb
               have K118 := hid (OwnS.of_blk hkg117 (B := W98.heap.size) hgg117)
               clear hkg117 hgg117
               have S119 := hid hb
               have S120 := hid (S100.out.trans (S119.out.mono S100.out.size))
               have S121 := hid (S101.out.trans (S119.out.mono S101.out.size))
               have S122 := hid (S102.out.trans (S119.out.mono S102.out.size))
               have S123 := hid (S99.out.trans (S119.out.mono S99.out.size))
               have S124 := hid (S103.out.trans (S119.out.mono S103.out.size))
               have S125 := hid (S104.out.trans (S119.out.mono S104.out.size))
               clear hb
               clear tokA
               have hS := And.intro (B80.out.below S125.out).cells4 (B3.out.below S120.out).cells4
               simp only [and_assoc] at hS)
            | (go_at_call 21
               have _t := tokB
               refine (eqCells_yes _ _ _ _ _ _ _ _ x0_3 _ rfl (OwnS.rd (K59.out.below S121.out)) (OwnS.rd K118.out) hn0_3).mono ?_
               rintro e W126 ⟨rfl, hb⟩
               have S127 := hid hb
               have S128 := hid (S120.out.trans (S127.out.mono S120.out.size))
               have S129 := hid (S119.out.trans (S127.out.mono S119.out.size))
               have S130 := hid (S121.out.trans (S127.out.mono S121.out.size))
               have S131 := hid (S122.out.trans (S127.out.mono S122.out.size))
               have S132 := hid (S123.out.trans (S127.out.mono S123.out.size))
               have S133 := hid (S124.out.trans (S127.out.mono S124.out.size))
               have S134 := hid (S125.out.trans (S127.out.mono S125.out.size))
               clear hb
               clear tokB
               clear hS
               have hS := And.intro (B80.out.below S134.out).cells4 (B3.out.below S128.out).cells4
               simp only [and_assoc] at hS))
        clear hS
        have l139 : W73.heap.size < W126.heap.size := (B92.out.below S132.out).lt
        obtain ⟨c135, c136, c137, c138⟩ := (B92.out.below S132.out).cells4
        have l144 : w.heap.size + 1 < W126.heap.size := (B4.out.below S128.out).lt
        obtain ⟨c140, c141, c142, c143⟩ := (B4.out.below S128.out).cells4
        go_wp2_with fail
        have tokA : True := trivial
        have tokB : True := trivial
        go_region_held3 (fun w' => w'.cell? ⟨W73.heap.size, 0, none⟩ = some (.int .i64 a1_0) ∧ w'.cell? ⟨W73.heap.size, 1, none⟩ = some (.int .i64 a1_1) ∧ w'.cell? ⟨W73.heap.size, 2, none⟩ = some (.int .i64 a1_2) ∧ w'.cell? ⟨W73.heap.size, 3, none⟩ = some (.slice (some ⟨g74, 0, none⟩) x1_3.length x1_3.length) ∧ w'.cell? ⟨w.heap.size + 1, 0, none⟩ = some (.int .i64 a1_0) ∧ w'.cell? ⟨w.heap.size + 1, 1, none⟩ = some (.int .i64 a1_1) ∧ w'.cell? ⟨w.heap.size + 1, 2, none⟩ = some (.int .i64 a1_2) ∧ w'.cell? ⟨w.heap.size + 1, 3, none⟩ = some (.slice A1_3 x1_3.length c1_3)) (first | go_keep | exact hS)
          (first
            | (go_at_call 45
               have _t := tokA
               refine (toCells_any a1_0 a1_1 a1_2 A1_3 c1_3 x1_3 _ ((X1_3.out.below S133.out).drewN 1) hn1_3).mono ?_
               rintro e W145 ⟨g146, rfl, hgg146, hkg146, hb⟩
               have hb := below_drew' hb
               have K147 := hid (OwnS.of_blk hkg146 (B := W126.heap.size) hgg146)
               clear hkg146 hgg146
               have S148 := hid hb
               have S149 := hid (S128.out.trans (S148.out.mono S128.out.size))
               have S150 := hid (S129.out.trans (S148.out.mono S129.out.size))
               have S151 := hid (S130.out.trans (S148.out.mono S130.out.size))
               have S152 := hid (S131.out.trans (S148.out.mono S131.out.size))
               have S153 := hid (S132.out.trans (S148.out.mono S132.out.size))
               have S154 := hid (S133.out.trans (S148.out.mono S133.out.size))
               have S155 := hid (S127.out.trans (S148.out.mono S127.out.size))
               have S156 := hid (S134.out.trans (S148.out.mono S134.out.size))
               clear hb
               clear tokA
               have hS := And.intro (B92.out.below S153.out).cells4 (B4.out.below S149.out).cells4
               simp only [and_assoc] at hS)
            | (go_at_call 21
               have _t := tokB
               refine (eqCells_yes _ _ _ _ _ _ _ _ x1_3 _ rfl (OwnS.rd (K75.out.below S156.out)) (OwnS.rd K147.out) hn1_3).mono ?_
               rintro e W157 ⟨rfl, hb⟩
               have S158 := hid hb
               have S159 := hid (S149.out.trans (S158.out.mono S149.out.size))
               have S160 := hid (S150.out.trans (S158.out.mono S150.out.size))
               have S161 := hid (S151.out.trans (S158.out.mono S151.out.size))
               have S162 := hid (S152.out.trans (S158.out.mono S152.out.size))
               have S163 := hid (S153.out.trans (S158.out.mono S153.out.size))
               have S164 := hid (S154.out.trans (S158.out.mono S154.out.size))
               have S165 := hid (S155.out.trans (S158.out.mono S155.out.size))
               have S166 := hid (S156.out.trans (S158.out.mono S156.out.size))
               clear hb
               clear tokB
               clear hS
               have hS := And.intro (B92.out.below S163.out).cells4 (B4.out.below S159.out).cells4
               simp only [and_assoc] at hS))
        clear hS
        have hq0 : (0 : Int) ≤ 1 ∧ 1 ≤ 1000000000 := by omega
        have l171 : W57.heap.size < W157.heap.size := (B80.out.below S166.out).lt
        obtain ⟨c167, c168, c169, c170⟩ := (B80.out.below S166.out).cells4
        go_wp2_with fail
        refine (markCells_any _ _ _ _ _ w.heap.size _ (1) _ (OwnS.mono (K59.out.below S161.out) (S46.out.size))  hn0_3 (by omega) (by omega) S164.out.size).mono ?_
        rintro e W172 ⟨rfl, hoM173, hbb, ht⟩
        have S174 := hid ((S164.out).trans hbb)
        have T175 := hid (Blk.touchAll (B3.out.below S159.out) ht (fun p hp => by simp only [List.mem_cons, List.not_mem_nil, or_false] at hp; subst hp; exact OwnS.other (K59.out.below S161.out) (B3.out.below S159.out) (by decide)))
        have T176 := hid (Blk.touchAll (B4.out.below S159.out) ht (fun p hp => by simp only [List.mem_cons, List.not_mem_nil, or_false] at hp; subst hp; exact OwnS.other (K59.out.below S161.out) (B4.out.below S159.out) (by decide)))
        have T177 := hid (OwnS.touchAll (Ow0_3.out.below S162.out) ht (fun p hp => by simp only [List.mem_cons, List.not_mem_nil, or_false] at hp; subst hp; exact (Apart.symm (OwnS.apart_lt Ow0_3.out K59.out (Nat.le_refl _)))))
        have T178 := hid (Blk.touchAll (B42.out.below S162.out) ht (fun p hp => by simp only [List.mem_cons, List.not_mem_nil, or_false] at hp; subst hp; exact OwnS.other (K59.out.below S161.out) (B42.out.below S162.out) (by decide)))
        have T179 := hid (Blk.touchAll (B80.out.below S166.out) ht (fun p hp => by simp only [List.mem_cons, List.not_mem_nil, or_false] at hp; subst hp; exact OwnS.other (K59.out.below S161.out) (B80.out.below S166.out) (by decide)))
        have T180 := hid (OwnS.touchAll (K75.out.below S166.out) ht (fun p hp => by simp only [List.mem_cons, List.not_mem_nil, or_false] at hp; subst hp; exact (OwnS.apart_lt K59.out K75.out (Nat.le_refl _))))
        have T181 := hid (Blk.touchAll (B92.out.below S163.out) ht (fun p hp => by simp only [List.mem_cons, List.not_mem_nil, or_false] at hp; subst hp; exact OwnS.other (K59.out.below S161.out) (B92.out.below S163.out) (by decide)))
        have T182 := hid (OwnS.touchAll (Og0_3.out.below S163.out) ht (fun p hp => by simp only [List.mem_cons, List.not_mem_nil, or_false] at hp; subst hp; exact (OwnS.apart_lt K59.out Og0_3.out (S76.out.size))))
        have T183 := hid (Blk.touchAll (B105.out.below S160.out) ht (fun p hp => by simp only [List.mem_cons, List.not_mem_nil, or_false] at hp; subst hp; exact OwnS.other (K59.out.below S161.out) (B105.out.below S160.out) (by decide)))
        have T184 := hid (OwnS.touchAll (K118.out.below S165.out) ht (fun p hp => by simp only [List.mem_cons, List.not_mem_nil, or_false] at hp; subst hp; exact (OwnS.apart_lt K59.out K118.out (S101.out.size))))
        have T185 := hid (OwnS.touchAll (K147.out.below S158.out) ht (fun p hp => by simp only [List.mem_cons, List.not_mem_nil, or_false] at hp; subst hp; exact (OwnS.apart_lt K59.out K147.out (S130.out.size))))
        clear hoM173 hbb ht
        have hq1 : (0 : Int) ≤ 1 + (x0_3.length : Int) ∧ 1 + (x0_3.length : Int) ≤ 1000000000 := by omega
        clear c167 c168 c169 c170 l171
        have l190 : W73.heap.size < W172.heap.size := T181.out.lt
        obtain ⟨c186, c187, c188, c189⟩ := T181.out.cells4
        go_wp2_with fail
        refine (markCells_any _ _ _ _ _ w.heap.size _ (1 + (x0_3.length : Int)) _ (OwnS.mono T180.out (S62.out.size))  hn1_3 (by omega) (by omega) S174.out.size).mono ?_
        rintro e W191 ⟨rfl, hoM192, hbb, ht⟩
        have S193 := hid ((S174.out).trans hbb)
        have T194 := hid (Blk.touchAll T175.out ht (fun p hp => by simp only [List.mem_cons, List.not_mem_nil, or_false] at hp; subst hp; exact OwnS.other T180.out T175.out (by decide)))
        have T195 := hid (Blk.touchAll T176.out ht (fun p hp => by simp only [List.mem_cons, List.not_mem_nil, or_false] at hp; subst hp; exact OwnS.other T180.out T176.out (by decide)))
        have T196 := hid (OwnS.touchAll T177.out ht (fun p hp => by simp only [List.mem_cons, List.not_mem_nil, or_false] at hp; subst hp; exact (Apart.symm (OwnS.apart_lt Ow0_3.out K75.out (S60.out.size)))))
        have T197 := hid (Blk.touchAll T178.out ht (fun p hp => by simp only [List.mem_cons, List.not_mem_nil, or_false] at hp; subst hp; exact OwnS.other T180.out T178.out (by decide)))
        have T198 := hid (Blk.touchAll T179.out ht (fun p hp => by simp only [List.mem_cons, List.not_mem_nil, or_false] at hp; subst hp; exact OwnS.other T180.out T179.out (by decide)))
        have T199 := hid (Blk.touchAll T181.out ht (fun p hp => by simp only [List.mem_cons, List.not_mem_nil, or_false] at hp; subst hp; exact OwnS.other T180.out T181.out (by decide)))
        have T200 := hid (OwnS.touchAll T182.out ht (fun p hp => by simp only [List.mem_cons, List.not_mem_nil, or_false] at hp; subst hp; exact (OwnS.apart_lt K75.out Og0_3.out (Nat.le_refl _))))
        have T201 := hid (Blk.touchAll T183.out ht (fun p hp => by simp only [List.mem_cons, List.not_mem_nil, or_false] at hp; subst hp; exact OwnS.other T180.out T183.out (by decide)))
        have T202 := hid (OwnS.touchAll T184.out ht (fun p hp => by simp only [List.mem_cons, List.not_mem_nil, or_false] at hp; subst hp; exact (OwnS.apart_lt K75.out K118.out (S104.out.size))))
        have T203 := hid (OwnS.touchAll T185.out ht (fun p hp => by simp only [List.mem_cons, List.not_mem_nil, or_false] at hp; subst hp; exact (OwnS.apart_lt K75.out K147.out (S134.out.size))))
        clear hoM192 hbb ht
        have hqk : (0 : Int) ≤ 1 + (x0_3.length : Int) + (x1_3.length : Int) := by omega
        clear c186 c187 c188 c189 l190
        have l208 : W86.heap.size < W191.heap.size := T201.out.lt
        obtain ⟨c204, c205, c206, c207⟩ := T201.out.cells4
        have l213 : qbw < W191.heap.size := T197.out.lt
        obtain ⟨c209, c210, c211, c212⟩ := T197.out.cells4
        go_wp2_with fail
        refine (eqCells_yes _ _ _ _ _ _ _ _ _ _ rfl (OwnS.rd T200.out) (OwnS.rd T196.out) hlg0_3).mono ?_
        rintro e W214 ⟨rfl, hb⟩
        have S215 := hid hb
        have S216 := hid (S193.out.trans (S215.out.mono S193.out.size))
        clear hb
        clear c204 c205 c206 c207 l208 c209 c210 c211 c212 l213
        have l221 : W86.heap.size < W214.heap.size := (T201.out.below S215.out).lt
        obtain ⟨c217, c218, c219, c220⟩ := (T201.out.below S215.out).cells4
        go_wp2_with fail
        refine (markCells_any _ _ _ _ _ w.heap.size _ (1) _ (OwnS.mono (T200.out.below S215.out) (S78.out.size))  hlg0_3 (by omega) (by omega) S216.out.size).mono ?_
        rintro e W222 ⟨rfl, hoM223, hbb, ht⟩
        have S224 := hid ((S216.out).trans hbb)
        have T225 := hid (Blk.touchAll (T194.out.below S215.out) ht (fun p hp => by simp only [List.mem_cons, List.not_mem_nil, or_false] at hp; subst hp; exact OwnS.other (T200.out.below S215.out) (T194.out.below S215.out) (by decide)))
        have T226 := hid (Blk.touchAll (T195.out.below S215.out) ht (fun p hp => by simp only [List.mem_cons, List.not_mem_nil, or_false] at hp; subst hp; exact OwnS.other (T200.out.below S215.out) (T195.out.below S215.out) (by decide)))
        have T227 := hid (OwnS.touchAll (T196.out.below S215.out) ht (fun p hp => by simp only [List.mem_cons, List.not_mem_nil, or_false] at hp; subst hp; exact (Apart.symm (OwnS.apart_lt Ow0_3.out Og0_3.out (S79.out.size)))))
        have T228 := hid (Blk.touchAll (T197.out.below S215.out) ht (fun p hp => by simp only [List.mem_cons, List.not_mem_nil, or_false] at hp; subst hp; exact OwnS.other (T200.out.below S215.out) (T197.out.below S215.out) (by decide)))
        have T229 := hid (Blk.touchAll (T198.out.below S215.out) ht (fun p hp => by simp only [List.mem_cons, List.not_mem_nil, or_false] at hp; subst hp; exact OwnS.other (T200.out.below S215.out) (T198.out.below S215.out) (by decide)))
        have T230 := hid (Blk.touchAll (T199.out.below S215.out) ht (fun p hp => by simp only [List.mem_cons, List.not_mem_nil, or_false] at hp; subst hp; exact OwnS.other (T200.out.below S215.out) (T199.out.below S215.out) (by decide)))
        have T231 := hid (Blk.touchAll (T201.out.below S215.out) ht (fun p hp => by simp only [List.mem_cons, List.not_mem_nil, or_false] at hp; subst hp; exact OwnS.other (T200.out.below S215.out) (T201.out.below S215.out) (by decide)))
        have T232 := hid (OwnS.touchAll (T202.out.below S215.out) ht (fun p hp => by simp only [List.mem_cons, List.not_mem_nil, or_false] at hp; subst hp; exact (OwnS.apart_lt Og0_3.out K118.out (S99.out.size))))
        have T233 := hid (OwnS.touchAll (T203.out.below S215.out) ht (fun p hp => by simp only [List.mem_cons, List.not_mem_nil, or_false] at hp; subst hp; exact (OwnS.apart_lt Og0_3.out K147.out (S132.out.size))))
        have M223 := hid hoM223
        clear hoM223 hbb ht
        have hqm : (0 : Int) ≤ 1 + ((pMergeCells a0_0 a0_1 a0_2 x0_3 a1_0 a1_1 a1_2 x1_3).1.2.2.2.length : Int) := by omega
        clear c217 c218 c219 c220 l221
        have l238 : W86.heap.size < W222.heap.size := T231.out.lt
        obtain ⟨c234, c235, c236, c237⟩ := T231.out.cells4
        go_wp2_with fail
        refine (heldCells_yes _ _ _ _ _ _ (1) _ (OwnS.rd M223.out) hlg0_3 (by omega) (by omega)).mono ?_
        rintro e W239 ⟨rfl, hb⟩
        have S240 := hid hb
        have S241 := hid (S224.out.trans (S240.out.mono S224.out.size))
        clear hb
        clear c234 c235 c236 c237 l238
        have l246 : w.heap.size < W239.heap.size := (T225.out.below S240.out).lt
        obtain ⟨c242, c243, c244, c245⟩ := (T225.out.below S240.out).cells4
        have l251 : w.heap.size + 1 < W239.heap.size := (T226.out.below S240.out).lt
        obtain ⟨c247, c248, c249, c250⟩ := (T226.out.below S240.out).cells4
        go_wp2_with fail
        go_cut [15, 16] from 94 to 101 (fun vq v16 wx => ∃ (qb : Nat) (Ah0_3 : Option Addr) (ch0_3 : Nat), vq = .pointer (some ⟨qb, 0, none⟩) ∧ v16 = .bool (pMergeCells a0_0 a0_1 a0_2 x0_3 a1_0 a1_1 a1_2 x1_3).2 ∧ Hid (Blk wx qb 29 [.int .i64 (pMergeCells a0_0 a0_1 a0_2 x0_3 a1_0 a1_1 a1_2 x1_3).1.1, .int .i64 (pMergeCells a0_0 a0_1 a0_2 x0_3 a1_0 a1_1 a1_2 x1_3).1.2.1, .int .i64 (pMergeCells a0_0 a0_1 a0_2 x0_3 a1_0 a1_1 a1_2 x1_3).1.2.2.1, .slice Ah0_3 (pMergeCells a0_0 a0_1 a0_2 x0_3 a1_0 a1_1 a1_2 x1_3).1.2.2.2.length ch0_3]) ∧ Hid (OwnS (Value.int .i64) wx W239.heap.size 2 Ah0_3 (pMergeCells a0_0 a0_1 a0_2 x0_3 a1_0 a1_1 a1_2 x1_3).1.2.2.2) ∧ (pMergeCells a0_0 a0_1 a0_2 x0_3 a1_0 a1_1 a1_2 x1_3).1.2.2.2.length ≤ 1048576 ∧ Hid (Below W239.heap.size W239 wx))
        case first =>
          have H0 := hid (Below.refl W239.heap.size W239)
          have tok0 : True := trivial
          have tok1 : True := trivial
          have tokX : True := trivial
          go_region_held3 (fun w' => w'.cell? ⟨w.heap.size, 0, none⟩ = some (.int .i64 a0_0) ∧ w'.cell? ⟨w.heap.size, 1, none⟩ = some (.int .i64 a0_1) ∧ w'.cell? ⟨w.heap.size, 2, none⟩ = some (.int .i64 a0_2) ∧ w'.cell? ⟨w.heap.size, 3, none⟩ = some (.slice A0_3 x0_3.length c0_3) ∧ w'.cell? ⟨w.heap.size + 1, 0, none⟩ = some (.int .i64 a1_0) ∧ w'.cell? ⟨w.heap.size + 1, 1, none⟩ = some (.int .i64 a1_1) ∧ w'.cell? ⟨w.heap.size + 1, 2, none⟩ = some (.int .i64 a1_2) ∧ w'.cell? ⟨w.heap.size + 1, 3, none⟩ = some (.slice A1_3 x1_3.length c1_3)) (first | go_keep | exact hS)
            (first
              | (go_at_call 45
                 have _t := tok0
                 refine (toCells_any a0_0 a0_1 a0_2 A0_3 c0_3 x0_3 _ (RdL.below (X0_3.out.below S241.out) (by repeat first | with_reducible exact Below.refl _ _ | (refine Hid.out ?_; assumption) | refine below_drewN ?_ _ | refine below_drew1 ?_ | refine below_alloc_ ?_ _)) hn0_3).mono ?_
                 rintro e W252 ⟨g253, rfl, hgg253, hkg253, hb⟩
                 have H254 : Hid (Below W239.heap.size W239 W252) := below_next (by repeat first | with_reducible exact Below.refl _ _ | (refine Hid.out ?_; assumption) | refine below_drewN ?_ _ | refine below_drew1 ?_ | refine below_alloc_ ?_ _) hb
                 first
                   | (have hQ := hid (Blk.below (Blk.new W239 29 [.int .i64 0, .int .i64 0, .int .i64 0, .slice none 0 0]) (below_drew'' hb))
                      have hQge : W239.heap.size ≤ W239.heap.size := Below.size (by repeat first | with_reducible exact Below.refl _ _ | (refine Hid.out ?_; assumption) | refine below_drewN ?_ _ | refine below_drew1 ?_ | refine below_alloc_ ?_ _)
                      have hqm0 : w.heap.size ≠ W239.heap.size := by have := Blk.lt (T225.out.below S240.out); omega
                      have hqn0 := Ne.symm hqm0
                      have hqm1 : w.heap.size + 1 ≠ W239.heap.size := by have := Blk.lt (T226.out.below S240.out); omega
                      have hqn1 := Ne.symm hqm1)
                   | (have hQ := hid (Blk.below (Blk.new W239 29 [.int .i64 0, .int .i64 0, .int .i64 0, .slice none 0 0]) (below_drew' hb))
                      have hQge : W239.heap.size ≤ W239.heap.size := Below.size (by repeat first | with_reducible exact Below.refl _ _ | (refine Hid.out ?_; assumption) | refine below_drewN ?_ _ | refine below_drew1 ?_ | refine below_alloc_ ?_ _)
                      have hqm0 : w.heap.size ≠ W239.heap.size := by have := Blk.lt (T225.out.below S240.out); omega
                      have hqn0 := Ne.symm hqm0
                      have hqm1 : w.heap.size + 1 ≠ W239.heap.size := by have := Blk.lt (T226.out.below S240.out); omega
                      have hqn1 := Ne.symm hqm1)
                   | (have hQ := hid (Blk.below (Blk.new W239 29 [.int .i64 0, .int .i64 0, .int .i64 0, .slice none 0 0]) hb)
                      have hQge : W239.heap.size ≤ W239.heap.size := Below.size (by repeat first | with_reducible exact Below.refl _ _ | (refine Hid.out ?_; assumption) | refine below_drewN ?_ _ | refine below_drew1 ?_ | refine below_alloc_ ?_ _)
                      have hqm0 : w.heap.size ≠ W239.heap.size := by have := Blk.lt (T225.out.below S240.out); omega
                      have hqn0 := Ne.symm hqm0
                      have hqm1 : w.heap.size + 1 ≠ W239.heap.size := by have := Blk.lt (T226.out.below S240.out); omega
                      have hqn1 := Ne.symm hqm1)
                   | skip
                 have K255 := hid (OwnS.of_blk hkg253 (B := 0) (Nat.zero_le _))
                 clear hkg253 hgg253
                 clear tok0
                 have hS := And.intro (Blk.below (T225.out.below S240.out) H254.out).cells4 ((Blk.below (T226.out.below S240.out) H254.out).cells4)
                 simp only [and_assoc] at hS)
              | (go_at_call 45
                 have _t := tok1
                 refine (toCells_any a1_0 a1_1 a1_2 A1_3 c1_3 x1_3 _ (RdL.below (X1_3.out.below S241.out) (by repeat first | with_reducible exact Below.refl _ _ | (refine Hid.out ?_; assumption) | refine below_drewN ?_ _ | refine below_drew1 ?_ | refine below_alloc_ ?_ _)) hn1_3).mono ?_
                 rintro e W256 ⟨g257, rfl, hgg257, hkg257, hb⟩
                 have H258 : Hid (Below W239.heap.size W239 W256) := below_next (by repeat first | with_reducible exact Below.refl _ _ | (refine Hid.out ?_; assumption) | refine below_drewN ?_ _ | refine below_drew1 ?_ | refine below_alloc_ ?_ _) hb
                 have H259 : Hid (Below W252.heap.size W252 W256) := below_next (by repeat first | with_reducible exact Below.refl _ _ | (refine Hid.out ?_; assumption) | refine below_drewN ?_ _ | refine below_drew1 ?_ | refine below_alloc_ ?_ _) hb
                 first
                   | (have hQ := hid (Blk.below hQ.out (Hid.out (below_next (B := W252.heap.size) (W := W252) (by repeat first | with_reducible exact Below.refl _ _ | (refine Hid.out ?_; assumption) | refine below_drewN ?_ _ | refine below_drew1 ?_ | refine below_alloc_ ?_ _) hb)))
                      have hQge := hQge)
                   | (have hQ := hid (Blk.below (Blk.new W252 29 [.int .i64 0, .int .i64 0, .int .i64 0, .slice none 0 0]) (below_drew'' hb))
                      have hQge : W239.heap.size ≤ W252.heap.size := Below.size (by repeat first | with_reducible exact Below.refl _ _ | (refine Hid.out ?_; assumption) | refine below_drewN ?_ _ | refine below_drew1 ?_ | refine below_alloc_ ?_ _)
                      have hqm0 : w.heap.size ≠ W252.heap.size := by have := Blk.lt (T225.out.below S240.out); omega
                      have hqn0 := Ne.symm hqm0
                      have hqm1 : w.heap.size + 1 ≠ W252.heap.size := by have := Blk.lt (T226.out.below S240.out); omega
                      have hqn1 := Ne.symm hqm1)
                   | (have hQ := hid (Blk.below (Blk.new W252 29 [.int .i64 0, .int .i64 0, .int .i64 0, .slice none 0 0]) (below_drew' hb))
                      have hQge : W239.heap.size ≤ W252.heap.size := Below.size (by repeat first | with_reducible exact Below.refl _ _ | (refine Hid.out ?_; assumption) | refine below_drewN ?_ _ | refine below_drew1 ?_ | refine below_alloc_ ?_ _)
                      have hqm0 : w.heap.size ≠ W252.heap.size := by have := Blk.lt (T225.out.below S240.out); omega
                      have hqn0 := Ne.symm hqm0
                      have hqm1 : w.heap.size + 1 ≠ W252.heap.size := by have := Blk.lt (T226.out.below S240.out); omega
                      have hqn1 := Ne.symm hqm1)
                   | (have hQ := hid (Blk.below (Blk.new W252 29 [.int .i64 0, .int .i64 0, .int .i64 0, .slice none 0 0]) hb)
                      have hQge : W239.heap.size ≤ W252.heap.size := Below.size (by repeat first | with_reducible exact Below.refl _ _ | (refine Hid.out ?_; assumption) | refine below_drewN ?_ _ | refine below_drew1 ?_ | refine below_alloc_ ?_ _)
                      have hqm0 : w.heap.size ≠ W252.heap.size := by have := Blk.lt (T225.out.below S240.out); omega
                      have hqn0 := Ne.symm hqm0
                      have hqm1 : w.heap.size + 1 ≠ W252.heap.size := by have := Blk.lt (T226.out.below S240.out); omega
                      have hqn1 := Ne.symm hqm1)
                   | skip
                 have K260 := hid (OwnS.of_blk hkg257 (B := 0) (Nat.zero_le _))
                 clear hkg257 hgg257
                 clear tok1
                 have hS := And.intro (Blk.below (T225.out.below S240.out) H258.out).cells4 ((Blk.below (T226.out.below S240.out) H258.out).cells4)
                 simp only [and_assoc] at hS)
              | (go_at_call 46
                 have _t := tokX
                 refine (iMergeCells_any _ _ _ _ x0_3.length x0_3 _ _ _ _ x1_3.length x1_3 _ w0_0 w0_1 w0_2 (OwnS.rd (OwnS.below K255.out (by repeat first | with_reducible exact Below.refl _ _ | (refine Hid.out ?_; assumption) | refine below_drewN ?_ _ | refine below_drew1 ?_ | refine below_alloc_ ?_ _))) hn0_3 we0_3 w1_0 w1_1 w1_2 (OwnS.rd (OwnS.below K260.out (by repeat first | with_reducible exact Below.refl _ _ | (refine Hid.out ?_; assumption) | refine below_drewN ?_ _ | refine below_drew1 ?_ | refine below_alloc_ ?_ _))) hn1_3 we1_3).mono ?_
                 rintro e W261 ⟨Ah0_3, ch0_3, rfl, ho3, hl3, hb⟩
                 have H262 : Hid (Below W239.heap.size W239 W261) := below_next (by repeat first | with_reducible exact Below.refl _ _ | (refine Hid.out ?_; assumption) | refine below_drewN ?_ _ | refine below_drew1 ?_ | refine below_alloc_ ?_ _) hb
                 have H263 : Hid (Below W252.heap.size W252 W261) := below_next (by repeat first | with_reducible exact Below.refl _ _ | (refine Hid.out ?_; assumption) | refine below_drewN ?_ _ | refine below_drew1 ?_ | refine below_alloc_ ?_ _) hb
                 have H264 : Hid (Below W256.heap.size W256 W261) := below_next (by repeat first | with_reducible exact Below.refl _ _ | (refine Hid.out ?_; assumption) | refine below_drewN ?_ _ | refine below_drew1 ?_ | refine below_alloc_ ?_ _) hb
                 have ho3 := hid (OwnS.mono ho3 (B' := W239.heap.size) (Below.size (by repeat first | with_reducible exact Below.refl _ _ | (refine Hid.out ?_; assumption) | refine below_drewN ?_ _ | refine below_drew1 ?_ | refine below_alloc_ ?_ _)))
                 first
                   | (have hQ := hid (Blk.below hQ.out (Hid.out (below_next (B := W256.heap.size) (W := W256) (by repeat first | with_reducible exact Below.refl _ _ | (refine Hid.out ?_; assumption) | refine below_drewN ?_ _ | refine below_drew1 ?_ | refine below_alloc_ ?_ _) hb)))
                      have hQge := hQge)
                   | (have hQ := hid (Blk.below (Blk.new W256 29 [.int .i64 0, .int .i64 0, .int .i64 0, .slice none 0 0]) (below_drew'' hb))
                      have hQge : W239.heap.size ≤ W256.heap.size := Below.size (by repeat first | with_reducible exact Below.refl _ _ | (refine Hid.out ?_; assumption) | refine below_drewN ?_ _ | refine below_drew1 ?_ | refine below_alloc_ ?_ _)
                      have hqm0 : w.heap.size ≠ W256.heap.size := by have := Blk.lt (T225.out.below S240.out); omega
                      have hqn0 := Ne.symm hqm0
                      have hqm1 : w.heap.size + 1 ≠ W256.heap.size := by have := Blk.lt (T226.out.below S240.out); omega
                      have hqn1 := Ne.symm hqm1)
                   | (have hQ := hid (Blk.below (Blk.new W256 29 [.int .i64 0, .int .i64 0, .int .i64 0, .slice none 0 0]) (below_drew' hb))
                      have hQge : W239.heap.size ≤ W256.heap.size := Below.size (by repeat first | with_reducible exact Below.refl _ _ | (refine Hid.out ?_; assumption) | refine below_drewN ?_ _ | refine below_drew1 ?_ | refine below_alloc_ ?_ _)
                      have hqm0 : w.heap.size ≠ W256.heap.size := by have := Blk.lt (T225.out.below S240.out); omega
                      have hqn0 := Ne.symm hqm0
                      have hqm1 : w.heap.size + 1 ≠ W256.heap.size := by have := Blk.lt (T226.out.below S240.out); omega
                      have hqn1 := Ne.symm hqm1)
                   | (have hQ := hid (Blk.below (Blk.new W256 29 [.int .i64 0, .int .i64 0, .int .i64 0, .slice none 0 0]) hb)
                      have hQge : W239.heap.size ≤ W256.heap.size := Below.size (by repeat first | with_reducible exact Below.refl _ _ | (refine Hid.out ?_; assumption) | refine below_drewN ?_ _ | refine below_drew1 ?_ | refine below_alloc_ ?_ _)
                      have hqm0 : w.heap.size ≠ W256.heap.size := by have := Blk.lt (T225.out.below S240.out); omega
                      have hqn0 := Ne.symm hqm0
                      have hqm1 : w.heap.size + 1 ≠ W256.heap.size := by have := Blk.lt (T226.out.below S240.out); omega
                      have hqn1 := Ne.symm hqm1)
                   | skip
                 have HX := H262
                 first
                   | (obtain ⟨q0, q1, q2, q3⟩ := hQ.out.cells4
                      have qf0 := hQ.out.frozen 0
                      have qf1 := hQ.out.frozen 1
                      have qf2 := hQ.out.frozen 2
                      have qf3 := hQ.out.frozen 3)
                   | skip
                 clear hb
                 clear tokX
                 have hS := And.intro (Blk.below (T225.out.below S240.out) H262.out).cells4 ((Blk.below (T226.out.below S240.out) H262.out).cells4)
                 simp only [and_assoc] at hS))
          all_goals
            first
            | (have hql := hQ.out.lt
               go_wp2_with fail
               go_meet
               exact ⟨_, _, _, rfl, rfl, hid (Blk.set_ (Blk.set_ (Blk.set_ (Blk.set_ hQ.out 0 _) 1 _) 2 _) 3 _), hid (OwnS.setOther (OwnS.setOther (OwnS.setOther (OwnS.setOther ho3.out hQ.out (by decide) 0 _) (Blk.set_ hQ.out 0 _) (by decide) 1 _) (Blk.set_ (Blk.set_ hQ.out 0 _) 1 _) (by decide) 2 _) (Blk.set_ (Blk.set_ (Blk.set_ hQ.out 0 _) 1 _) 2 _) (by decide) 3 _), hl3, hid (Below.setCell (Below.setCell (Below.setCell (Below.setCell HX.out hQge _) hQge _) hQge _) hQge _)⟩)
            | (go_wp2_with fail
               go_meet
               exact ⟨_, _, _, rfl, rfl, hid (Blk.new _ _ _), hid (OwnS.below ho3.out (below_a1 _ _)), hl3, hid (below_alloc_ HX.out _)⟩)
        case rest =>
          obtain ⟨qbh, Ah0_3, ch0_3, rfl, rfl, B266, Oh0_3, hlh0_3, S267⟩ := hcut
          obtain ⟨W268, hWx⟩ : ∃ W268, W268 = wc := ⟨_, rfl⟩
          subst hWx
          have S269 := hid (S240.out.trans (S267.out.mono S240.out.size))
          have S270 := hid (S241.out.trans (S267.out.mono S241.out.size))
          have l275 : qbh < W268.heap.size := B266.out.lt
          obtain ⟨c271, c272, c273, c274⟩ := B266.out.cells4
          have l280 : qbw < W268.heap.size := (T228.out.below S269.out).lt
          obtain ⟨c276, c277, c278, c279⟩ := (T228.out.below S269.out).cells4
          go_wp2_with fail
          refine (eqCells_yes _ _ _ _ _ _ _ _ _ _ rfl (OwnS.rd Oh0_3.out) (OwnS.rd (T227.out.below S269.out)) hlh0_3).mono ?_
          rintro e W281 ⟨rfl, hb⟩
          have S282 := hid hb
          have S283 := hid (S269.out.trans (S282.out.mono S269.out.size))
          have S284 := hid (S270.out.trans (S282.out.mono S270.out.size))
          clear hb
          clear c271 c272 c273 c274 l275 c276 c277 c278 c279 l280
          have l289 : W86.heap.size < W281.heap.size := (T231.out.below S283.out).lt
          obtain ⟨c285, c286, c287, c288⟩ := (T231.out.below S283.out).cells4
          go_wp2_with fail
          refine (heldCells_yes _ _ _ _ _ _ (1) _ (OwnS.rd (M223.out.below S283.out)) hlg0_3 (by omega) (by omega)).mono ?_
          rintro e W290 ⟨rfl, hb⟩
          have S291 := hid hb
          have S292 := hid (S282.out.trans (S291.out.mono S282.out.size))
          have S293 := hid (S283.out.trans (S291.out.mono S283.out.size))
          have S294 := hid (S284.out.trans (S291.out.mono S284.out.size))
          clear hb
          clear c285 c286 c287 c288 l289
          go_wp2
          go_ret
          exact ⟨rfl, S294.out⟩
    · skip
      have hp0 : 0 ≤ 1048576 - ((x0_3.length : Int)) := by omega
      go_enter Try.func9, Try.ntmps9
      have Z := hid (Below.refl w.heap.size w)
      go_wp2_with fail
      refine (szCells_yes _ _ _ _ _ _ _ _ (by omega) (by omega) (by omega)).mono ?_
      rintro e W1 ⟨rfl, hb⟩
      have S2 := below_call (below_a2 _ _ _) hb
      have B3 := hid (Blk.below (Blk.alloc (Blk.new w 62 [.int .i64 a0_0, .int .i64 a0_1, .int .i64 a0_2, .slice A0_3 x0_3.length c0_3]) _) hb)
      have B4 := hid (Blk.below (Blk.new2 w _ 62 [.int .i64 a1_0, .int .i64 a1_1, .int .i64 a1_2, .slice A1_3 x1_3.length c1_3]) hb)
      clear hb
      have l9 : w.heap.size < W1.heap.size := B3.out.lt
      obtain ⟨c5, c6, c7, c8⟩ := B3.out.cells4
      have l14 : w.heap.size + 1 < W1.heap.size := B4.out.lt
      obtain ⟨c10, c11, c12, c13⟩ := B4.out.cells4
      go_wp2_with fail
      refine (szCells_no _ _ _ _ _ _ _ _ (by omega) (by omega) hm1_3 (by omega)).mono ?_
      rintro e W15 ⟨rfl, hb⟩
      have S16 := hid hb
      have S17 := hid (S2.out.trans (S16.out.mono S2.out.size))
      clear hb
      go_wp2_with fail
      go_ret
      exact ⟨rfl, S17.out⟩
  · skip
    go_enter Try.func9, Try.ntmps9
    have Z := hid (Below.refl w.heap.size w)
    go_wp2_with fail
    refine (szCells_no _ _ _ _ _ _ _ _ (by omega) (by omega) hm0_3 (by omega)).mono ?_
    rintro e W1 ⟨rfl, hb⟩
    have S2 := below_call (below_a2 _ _ _) hb
    have B3 := hid (Blk.below (Blk.alloc (Blk.new w 62 [.int .i64 a0_0, .int .i64 a0_1, .int .i64 a0_2, .slice A0_3 x0_3.length c0_3]) _) hb)
    have B4 := hid (Blk.below (Blk.new2 w _ 62 [.int .i64 a1_0, .int .i64 a1_1, .int .i64 a1_2, .slice A1_3 x1_3.length c1_3]) hb)
    clear hb
    go_wp2_with fail
    go_ret
    exact ⟨rfl, S2.out⟩

end Go.Proofs.Ytlcpchpodcchlaa
