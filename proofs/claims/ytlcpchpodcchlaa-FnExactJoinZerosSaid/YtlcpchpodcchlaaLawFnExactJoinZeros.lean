/-
  FnExactJoinZeros: the walk of the law, out of the contracts of spec.JoinZeros and impl.JoinZeros. Printed by gen_law.py.
-/
import Derived.Test.YtlcpchpodcchlaaStZeros
import Derived.Test.YtlcpchpodcchlaaJoinZeros
import Derived.Test.YtlcpchpodcchlaaOpen
namespace Go.Proofs.Ytlcpchpodcchlaa
open Go.RowKit
set_option linter.unusedVariables false

set_option maxHeartbeats 1600000 in
theorem FnExactJoinZeros_any (a0_0 : Int) (A0_1 : Option Addr) (c0_1 : Nat) (x0_1 : List Int) (a1_0 : Int) (A1_1 : Option Addr) (c1_1 : Nat) (x1_1 : List Int) (w : World) (w0_0 : W64 a0_0) (hx0_1 : RdL (Value.int .i64) w A0_1 x0_1) (hm0_1 : x0_1.length ≤ 9223372036854775807) (we0_1 : ∀ y ∈ x0_1, W64 y) (w1_0 : W64 a1_0) (hx1_1 : RdL (Value.int .i64) w A1_1 x1_1) (hm1_1 : x1_1.length ≤ 9223372036854775807) (we1_1 : ∀ y ∈ x1_1, W64 y) :
    Calls Try.prog 8 #[.agg #[.int .i64 a0_0, .slice A0_1 x0_1.length c0_1], .agg #[.int .i64 a1_0, .slice A1_1 x1_1.length c1_1]] w fun e w' => e = .returned (.bool true) ∧ Below w.heap.size w w' := by
  have X0_1 := hid hx0_1
  have X1_1 := hid hx1_1
  clear hx0_1 hx1_1
  by_cases hn0 : (x0_1.length : Int) ≤ 1048576
  · skip
    by_cases hn1 : (x1_1.length : Int) ≤ 1048576 - ((x0_1.length : Int))
    · skip
      have hn0_1 : x0_1.length ≤ 1048576 := by omega
      have hn1_1 : x1_1.length ≤ 1048576 := by omega
      go_enter Try.func8, Try.ntmps8
      have Z := hid (Below.refl w.heap.size w)
      have hp0 : 0 ≤ 1048576 - ((x0_1.length : Int)) := by omega
      have hp1 : 0 ≤ 1048576 - ((x0_1.length : Int)) - ((x1_1.length : Int)) := by omega
      go_wp2_with fail
      refine (szZeros_yes _ _ _ _ _ _ (by omega) (by omega) (by omega)).mono ?_
      rintro e W1 ⟨rfl, hb⟩
      have S2 := below_call (below_a2 _ _ _) hb
      have B3 := hid (Blk.below (Blk.alloc (Blk.new w 53 [.int .i64 a0_0, .slice A0_1 x0_1.length c0_1]) _) hb)
      have B4 := hid (Blk.below (Blk.new2 w _ 53 [.int .i64 a1_0, .slice A1_1 x1_1.length c1_1]) hb)
      clear hb
      have l7 : w.heap.size < W1.heap.size := B3.out.lt
      obtain ⟨c5, c6⟩ := B3.out.cells2
      have l10 : w.heap.size + 1 < W1.heap.size := B4.out.lt
      obtain ⟨c8, c9⟩ := B4.out.cells2
      go_wp2_with fail
      refine (szZeros_yes _ _ _ _ _ _ (by omega) (by omega) (by omega)).mono ?_
      rintro e W11 ⟨rfl, hb⟩
      have S12 := hid hb
      have S13 := hid (S2.out.trans (S12.out.mono S2.out.size))
      clear hb
      clear c5 c6 l7 c8 c9 l10
      have l16 : w.heap.size < W11.heap.size := (B3.out.below S12.out).lt
      obtain ⟨c14, c15⟩ := (B3.out.below S12.out).cells2
      have l19 : w.heap.size + 1 < W11.heap.size := (B4.out.below S12.out).lt
      obtain ⟨c17, c18⟩ := (B4.out.below S12.out).cells2
      go_wp2_with fail
      go_cut [6, 7] from 27 to 34 (fun vq v7 wx => ∃ (qb : Nat) (Aw0_1 : Option Addr) (cw0_1 : Nat), vq = .pointer (some ⟨qb, 0, none⟩) ∧ v7 = .bool (pJoinZeros a0_0 x0_1 a1_0 x1_1).2 ∧ Hid (Blk wx qb 55 [.int .i64 (pJoinZeros a0_0 x0_1 a1_0 x1_1).1.1, .slice Aw0_1 (pJoinZeros a0_0 x0_1 a1_0 x1_1).1.2.length cw0_1]) ∧ Hid (OwnS (Value.int .i64) wx W11.heap.size 2 Aw0_1 (pJoinZeros a0_0 x0_1 a1_0 x1_1).1.2) ∧ (pJoinZeros a0_0 x0_1 a1_0 x1_1).1.2.length ≤ 1048576 ∧ Hid (Below W11.heap.size W11 wx))
      case first =>
        have H0 := hid (Below.refl W11.heap.size W11)
        have tok0 : True := trivial
        have tok1 : True := trivial
        have tokX : True := trivial
        go_region_held3 (fun w' => w'.cell? ⟨w.heap.size, 0, none⟩ = some (.int .i64 a0_0) ∧ w'.cell? ⟨w.heap.size, 1, none⟩ = some (.slice A0_1 x0_1.length c0_1) ∧ w'.cell? ⟨w.heap.size + 1, 0, none⟩ = some (.int .i64 a1_0) ∧ w'.cell? ⟨w.heap.size + 1, 1, none⟩ = some (.slice A1_1 x1_1.length c1_1)) (first | go_keep | exact hS)
          (first
            | (go_at_call 38
               have _t := tok0
               refine (toZeros_any a0_0 A0_1 c0_1 x0_1 _ (RdL.below (X0_1.out.below S13.out) (by repeat first | with_reducible exact Below.refl _ _ | (refine Hid.out ?_; assumption) | refine below_drewN ?_ _ | refine below_drew1 ?_ | refine below_alloc_ ?_ _)) hn0_1).mono ?_
               rintro e W20 ⟨g21, rfl, hgg21, hkg21, hb⟩
               have H22 : Hid (Below W11.heap.size W11 W20) := below_next (by repeat first | with_reducible exact Below.refl _ _ | (refine Hid.out ?_; assumption) | refine below_drewN ?_ _ | refine below_drew1 ?_ | refine below_alloc_ ?_ _) hb
               first
                 | (have hQ := hid (Blk.below (Blk.new W11 55 [.int .i64 0, .slice none 0 0]) (below_drew'' hb))
                    have hQge : W11.heap.size ≤ W11.heap.size := Below.size (by repeat first | with_reducible exact Below.refl _ _ | (refine Hid.out ?_; assumption) | refine below_drewN ?_ _ | refine below_drew1 ?_ | refine below_alloc_ ?_ _)
                    have hqm0 : w.heap.size ≠ W11.heap.size := by have := Blk.lt (B3.out.below S12.out); omega
                    have hqn0 := Ne.symm hqm0
                    have hqm1 : w.heap.size + 1 ≠ W11.heap.size := by have := Blk.lt (B4.out.below S12.out); omega
                    have hqn1 := Ne.symm hqm1)
                 | (have hQ := hid (Blk.below (Blk.new W11 55 [.int .i64 0, .slice none 0 0]) (below_drew' hb))
                    have hQge : W11.heap.size ≤ W11.heap.size := Below.size (by repeat first | with_reducible exact Below.refl _ _ | (refine Hid.out ?_; assumption) | refine below_drewN ?_ _ | refine below_drew1 ?_ | refine below_alloc_ ?_ _)
                    have hqm0 : w.heap.size ≠ W11.heap.size := by have := Blk.lt (B3.out.below S12.out); omega
                    have hqn0 := Ne.symm hqm0
                    have hqm1 : w.heap.size + 1 ≠ W11.heap.size := by have := Blk.lt (B4.out.below S12.out); omega
                    have hqn1 := Ne.symm hqm1)
                 | (have hQ := hid (Blk.below (Blk.new W11 55 [.int .i64 0, .slice none 0 0]) hb)
                    have hQge : W11.heap.size ≤ W11.heap.size := Below.size (by repeat first | with_reducible exact Below.refl _ _ | (refine Hid.out ?_; assumption) | refine below_drewN ?_ _ | refine below_drew1 ?_ | refine below_alloc_ ?_ _)
                    have hqm0 : w.heap.size ≠ W11.heap.size := by have := Blk.lt (B3.out.below S12.out); omega
                    have hqn0 := Ne.symm hqm0
                    have hqm1 : w.heap.size + 1 ≠ W11.heap.size := by have := Blk.lt (B4.out.below S12.out); omega
                    have hqn1 := Ne.symm hqm1)
                 | skip
               have K23 := hid (OwnS.of_blk hkg21 (B := 0) (Nat.zero_le _))
               clear hkg21 hgg21
               clear tok0
               have hS := And.intro (Blk.below (B3.out.below S12.out) H22.out).cells2 ((Blk.below (B4.out.below S12.out) H22.out).cells2)
               simp only [and_assoc] at hS)
            | (go_at_call 38
               have _t := tok1
               refine (toZeros_any a1_0 A1_1 c1_1 x1_1 _ (RdL.below (X1_1.out.below S13.out) (by repeat first | with_reducible exact Below.refl _ _ | (refine Hid.out ?_; assumption) | refine below_drewN ?_ _ | refine below_drew1 ?_ | refine below_alloc_ ?_ _)) hn1_1).mono ?_
               rintro e W24 ⟨g25, rfl, hgg25, hkg25, hb⟩
               have H26 : Hid (Below W11.heap.size W11 W24) := below_next (by repeat first | with_reducible exact Below.refl _ _ | (refine Hid.out ?_; assumption) | refine below_drewN ?_ _ | refine below_drew1 ?_ | refine below_alloc_ ?_ _) hb
               have H27 : Hid (Below W20.heap.size W20 W24) := below_next (by repeat first | with_reducible exact Below.refl _ _ | (refine Hid.out ?_; assumption) | refine below_drewN ?_ _ | refine below_drew1 ?_ | refine below_alloc_ ?_ _) hb
               first
                 | (have hQ := hid (Blk.below hQ.out (Hid.out (below_next (B := W20.heap.size) (W := W20) (by repeat first | with_reducible exact Below.refl _ _ | (refine Hid.out ?_; assumption) | refine below_drewN ?_ _ | refine below_drew1 ?_ | refine below_alloc_ ?_ _) hb)))
                    have hQge := hQge)
                 | (have hQ := hid (Blk.below (Blk.new W20 55 [.int .i64 0, .slice none 0 0]) (below_drew'' hb))
                    have hQge : W11.heap.size ≤ W20.heap.size := Below.size (by repeat first | with_reducible exact Below.refl _ _ | (refine Hid.out ?_; assumption) | refine below_drewN ?_ _ | refine below_drew1 ?_ | refine below_alloc_ ?_ _)
                    have hqm0 : w.heap.size ≠ W20.heap.size := by have := Blk.lt (B3.out.below S12.out); omega
                    have hqn0 := Ne.symm hqm0
                    have hqm1 : w.heap.size + 1 ≠ W20.heap.size := by have := Blk.lt (B4.out.below S12.out); omega
                    have hqn1 := Ne.symm hqm1)
                 | (have hQ := hid (Blk.below (Blk.new W20 55 [.int .i64 0, .slice none 0 0]) (below_drew' hb))
                    have hQge : W11.heap.size ≤ W20.heap.size := Below.size (by repeat first | with_reducible exact Below.refl _ _ | (refine Hid.out ?_; assumption) | refine below_drewN ?_ _ | refine below_drew1 ?_ | refine below_alloc_ ?_ _)
                    have hqm0 : w.heap.size ≠ W20.heap.size := by have := Blk.lt (B3.out.below S12.out); omega
                    have hqn0 := Ne.symm hqm0
                    have hqm1 : w.heap.size + 1 ≠ W20.heap.size := by have := Blk.lt (B4.out.below S12.out); omega
                    have hqn1 := Ne.symm hqm1)
                 | (have hQ := hid (Blk.below (Blk.new W20 55 [.int .i64 0, .slice none 0 0]) hb)
                    have hQge : W11.heap.size ≤ W20.heap.size := Below.size (by repeat first | with_reducible exact Below.refl _ _ | (refine Hid.out ?_; assumption) | refine below_drewN ?_ _ | refine below_drew1 ?_ | refine below_alloc_ ?_ _)
                    have hqm0 : w.heap.size ≠ W20.heap.size := by have := Blk.lt (B3.out.below S12.out); omega
                    have hqn0 := Ne.symm hqm0
                    have hqm1 : w.heap.size + 1 ≠ W20.heap.size := by have := Blk.lt (B4.out.below S12.out); omega
                    have hqn1 := Ne.symm hqm1)
                 | skip
               have K28 := hid (OwnS.of_blk hkg25 (B := 0) (Nat.zero_le _))
               clear hkg25 hgg25
               clear tok1
               have hS := And.intro (Blk.below (B3.out.below S12.out) H26.out).cells2 ((Blk.below (B4.out.below S12.out) H26.out).cells2)
               simp only [and_assoc] at hS)
            | (go_at_call 37
               have _t := tokX
               refine (sJoinZeros_any _ _ x0_1.length x0_1 _ _ x1_1.length x1_1 _ w0_0 (OwnS.rd (OwnS.below K23.out (by repeat first | with_reducible exact Below.refl _ _ | (refine Hid.out ?_; assumption) | refine below_drewN ?_ _ | refine below_drew1 ?_ | refine below_alloc_ ?_ _))) hn0_1 we0_1 w1_0 (OwnS.rd (OwnS.below K28.out (by repeat first | with_reducible exact Below.refl _ _ | (refine Hid.out ?_; assumption) | refine below_drewN ?_ _ | refine below_drew1 ?_ | refine below_alloc_ ?_ _))) hn1_1 we1_1).mono ?_
               rintro e W29 ⟨Aw0_1, cw0_1, rfl, ho1, hl1, hb⟩
               have H30 : Hid (Below W11.heap.size W11 W29) := below_next (by repeat first | with_reducible exact Below.refl _ _ | (refine Hid.out ?_; assumption) | refine below_drewN ?_ _ | refine below_drew1 ?_ | refine below_alloc_ ?_ _) hb
               have H31 : Hid (Below W20.heap.size W20 W29) := below_next (by repeat first | with_reducible exact Below.refl _ _ | (refine Hid.out ?_; assumption) | refine below_drewN ?_ _ | refine below_drew1 ?_ | refine below_alloc_ ?_ _) hb
               have H32 : Hid (Below W24.heap.size W24 W29) := below_next (by repeat first | with_reducible exact Below.refl _ _ | (refine Hid.out ?_; assumption) | refine below_drewN ?_ _ | refine below_drew1 ?_ | refine below_alloc_ ?_ _) hb
               have ho1 := hid (OwnS.mono ho1 (B' := W11.heap.size) (Below.size (by repeat first | with_reducible exact Below.refl _ _ | (refine Hid.out ?_; assumption) | refine below_drewN ?_ _ | refine below_drew1 ?_ | refine below_alloc_ ?_ _)))
               first
                 | (have hQ := hid (Blk.below hQ.out (Hid.out (below_next (B := W24.heap.size) (W := W24) (by repeat first | with_reducible exact Below.refl _ _ | (refine Hid.out ?_; assumption) | refine below_drewN ?_ _ | refine below_drew1 ?_ | refine below_alloc_ ?_ _) hb)))
                    have hQge := hQge)
                 | (have hQ := hid (Blk.below (Blk.new W24 55 [.int .i64 0, .slice none 0 0]) (below_drew'' hb))
                    have hQge : W11.heap.size ≤ W24.heap.size := Below.size (by repeat first | with_reducible exact Below.refl _ _ | (refine Hid.out ?_; assumption) | refine below_drewN ?_ _ | refine below_drew1 ?_ | refine below_alloc_ ?_ _)
                    have hqm0 : w.heap.size ≠ W24.heap.size := by have := Blk.lt (B3.out.below S12.out); omega
                    have hqn0 := Ne.symm hqm0
                    have hqm1 : w.heap.size + 1 ≠ W24.heap.size := by have := Blk.lt (B4.out.below S12.out); omega
                    have hqn1 := Ne.symm hqm1)
                 | (have hQ := hid (Blk.below (Blk.new W24 55 [.int .i64 0, .slice none 0 0]) (below_drew' hb))
                    have hQge : W11.heap.size ≤ W24.heap.size := Below.size (by repeat first | with_reducible exact Below.refl _ _ | (refine Hid.out ?_; assumption) | refine below_drewN ?_ _ | refine below_drew1 ?_ | refine below_alloc_ ?_ _)
                    have hqm0 : w.heap.size ≠ W24.heap.size := by have := Blk.lt (B3.out.below S12.out); omega
                    have hqn0 := Ne.symm hqm0
                    have hqm1 : w.heap.size + 1 ≠ W24.heap.size := by have := Blk.lt (B4.out.below S12.out); omega
                    have hqn1 := Ne.symm hqm1)
                 | (have hQ := hid (Blk.below (Blk.new W24 55 [.int .i64 0, .slice none 0 0]) hb)
                    have hQge : W11.heap.size ≤ W24.heap.size := Below.size (by repeat first | with_reducible exact Below.refl _ _ | (refine Hid.out ?_; assumption) | refine below_drewN ?_ _ | refine below_drew1 ?_ | refine below_alloc_ ?_ _)
                    have hqm0 : w.heap.size ≠ W24.heap.size := by have := Blk.lt (B3.out.below S12.out); omega
                    have hqn0 := Ne.symm hqm0
                    have hqm1 : w.heap.size + 1 ≠ W24.heap.size := by have := Blk.lt (B4.out.below S12.out); omega
                    have hqn1 := Ne.symm hqm1)
                 | skip
               have HX := H30
               first
                 | (obtain ⟨q0, q1⟩ := hQ.out.cells2
                    have qf0 := hQ.out.frozen 0
                    have qf1 := hQ.out.frozen 1)
                 | skip
               clear hb
               clear tokX
               have hS := And.intro (Blk.below (B3.out.below S12.out) H30.out).cells2 ((Blk.below (B4.out.below S12.out) H30.out).cells2)
               simp only [and_assoc] at hS))
        all_goals
          first
          | (have hql := hQ.out.lt
             go_wp2_with fail
             go_meet
             exact ⟨_, _, _, rfl, rfl, hid (Blk.set_ (Blk.set_ hQ.out 0 _) 1 _), hid (OwnS.setOther (OwnS.setOther ho1.out hQ.out (by decide) 0 _) (Blk.set_ hQ.out 0 _) (by decide) 1 _), hl1, hid (Below.setCell (Below.setCell HX.out hQge _) hQge _)⟩)
          | (go_wp2_with fail
             go_meet
             exact ⟨_, _, _, rfl, rfl, hid (Blk.new _ _ _), hid (OwnS.below ho1.out (below_a1 _ _)), hl1, hid (below_alloc_ HX.out _)⟩)
      case rest =>
        obtain ⟨qbw, Aw0_1, cw0_1, rfl, rfl, B34, Ow0_1, hlw0_1, S35⟩ := hcut
        obtain ⟨W36, hWx⟩ : ∃ W36, W36 = wc := ⟨_, rfl⟩
        subst hWx
        have S37 := hid (S12.out.trans (S35.out.mono S12.out.size))
        have S38 := hid (S13.out.trans (S35.out.mono S13.out.size))
        have l41 : w.heap.size < W36.heap.size := (B3.out.below S37.out).lt
        obtain ⟨c39, c40⟩ := (B3.out.below S37.out).cells2
        have l44 : w.heap.size + 1 < W36.heap.size := (B4.out.below S37.out).lt
        obtain ⟨c42, c43⟩ := (B4.out.below S37.out).cells2
        go_wp2_with fail
        refine (toZeros_any a0_0 A0_1 c0_1 x0_1 _ (X0_1.out.below S38.out) hn0_1).mono ?_
        rintro e W45 ⟨g46, rfl, hgg46, hkg46, hb⟩
        have K47 := hid (OwnS.of_blk hkg46 (B := W36.heap.size) hgg46)
        clear hkg46 hgg46
        have S48 := hid hb
        have S49 := hid (S37.out.trans (S48.out.mono S37.out.size))
        have S50 := hid (S38.out.trans (S48.out.mono S38.out.size))
        clear hb
        clear c39 c40 l41 c42 c43 l44
        have l53 : w.heap.size < W45.heap.size := (B3.out.below S49.out).lt
        obtain ⟨c51, c52⟩ := (B3.out.below S49.out).cells2
        have l56 : w.heap.size + 1 < W45.heap.size := (B4.out.below S49.out).lt
        obtain ⟨c54, c55⟩ := (B4.out.below S49.out).cells2
        go_wp2_with fail
        refine (toZeros_any a1_0 A1_1 c1_1 x1_1 _ ((X1_1.out.below S50.out).below (below_a1 _ _)) hn1_1).mono ?_
        rintro e W57 ⟨g58, rfl, hgg58, hkg58, hb⟩
        have K59 := hid (OwnS.of_blk hkg58 (B := W45.heap.size) (Nat.le_trans (below_a1 _ _).size hgg58))
        clear hkg58 hgg58
        have S60 := below_call (below_a1 _ _) hb
        have S61 := hid (S49.out.trans (S60.out.mono S49.out.size))
        have S62 := hid (S48.out.trans (S60.out.mono S48.out.size))
        have S63 := hid (S50.out.trans (S60.out.mono S50.out.size))
        have B64 := hid (Blk.below (Blk.new W45 55 [.int .i64 a0_0, .slice (some ⟨g46, 0, none⟩) x0_1.length x0_1.length]) hb)
        clear hb
        clear c51 c52 l53 c54 c55 l56
        have l67 : W45.heap.size < W57.heap.size := B64.out.lt
        obtain ⟨c65, c66⟩ := B64.out.cells2
        go_wp2_with fail
        refine (iJoinZeros_any _ _ x0_1.length x0_1 _ _ x1_1.length x1_1 _ w0_0 (OwnS.rd (OwnS.below (K47.out.below S60.out) (below_a1 _ _))) hn0_1 we0_1 w1_0 (OwnS.rd (OwnS.below K59.out (below_a1 _ _))) hn1_1 we1_1).mono ?_
        rintro e W68 ⟨Ag0_1, cg0_1, rfl, hog0_1, hlg0_1, hb⟩
        have Og0_1 := hid (OwnS.mono hog0_1 (B' := W57.heap.size) (below_a1 _ _).size)
        clear hog0_1
        have S69 := below_call (below_a1 _ _) hb
        have S70 := hid (S61.out.trans (S69.out.mono S61.out.size))
        have S71 := hid (S62.out.trans (S69.out.mono S62.out.size))
        have S72 := hid (S63.out.trans (S69.out.mono S63.out.size))
        have S73 := hid (S60.out.trans (S69.out.mono S60.out.size))
        have B74 := hid (Blk.below (Blk.new W57 55 [.int .i64 a1_0, .slice (some ⟨g58, 0, none⟩) x1_1.length x1_1.length]) hb)
        clear hb
        clear c65 c66 l67
        have l77 : qbw < W68.heap.size := (B34.out.below S71.out).lt
        obtain ⟨c75, c76⟩ := (B34.out.below S71.out).cells2
        go_wp2_with fail
        refine (eqZeros_yes _ _ _ _ _ _ _ _ rfl (OwnS.rd (OwnS.below Og0_1.out (below_a1 _ _))) (OwnS.rd (OwnS.below (Ow0_1.out.below S71.out) (below_a1 _ _))) hlg0_1).mono ?_
        rintro e W78 ⟨rfl, hb⟩
        have S79 := below_call (below_a1 _ _) hb
        have S80 := hid (S69.out.trans (S79.out.mono S69.out.size))
        have S81 := hid (S70.out.trans (S79.out.mono S70.out.size))
        have S82 := hid (S71.out.trans (S79.out.mono S71.out.size))
        have S83 := hid (S72.out.trans (S79.out.mono S72.out.size))
        have S84 := hid (S73.out.trans (S79.out.mono S73.out.size))
        have B85 := hid (Blk.below (Blk.new W68 55 [.int .i64 (pJoinZeros a0_0 x0_1 a1_0 x1_1).1.1, .slice Ag0_1 (pJoinZeros a0_0 x0_1 a1_0 x1_1).1.2.length cg0_1]) hb)
        clear hb
        clear c75 c76 l77
        have l88 : W45.heap.size < W78.heap.size := (B64.out.below S80.out).lt
        obtain ⟨c86, c87⟩ := (B64.out.below S80.out).cells2
        have l91 : w.heap.size < W78.heap.size := (B3.out.below S81.out).lt
        obtain ⟨c89, c90⟩ := (B3.out.below S81.out).cells2
        go_wp2_with fail
        have tokA : True := trivial
        have tokB : True := trivial
        go_region_held3 (fun w' => w'.cell? ⟨W45.heap.size, 0, none⟩ = some (.int .i64 a0_0) ∧ w'.cell? ⟨W45.heap.size, 1, none⟩ = some (.slice (some ⟨g46, 0, none⟩) x0_1.length x0_1.length) ∧ w'.cell? ⟨w.heap.size, 0, none⟩ = some (.int .i64 a0_0) ∧ w'.cell? ⟨w.heap.size, 1, none⟩ = some (.slice A0_1 x0_1.length c0_1)) (first | go_keep | exact hS)
          (first
            | (go_at_call 38
               have _t := tokA
               refine (toZeros_any a0_0 A0_1 c0_1 x0_1 _ ((X0_1.out.below S83.out).drewN 1) hn0_1).mono ?_
               rintro e W92 ⟨g93, rfl, hgg93, hkg93, hb⟩
               have hb := below_drew' hb
               have K94 := hid (OwnS.of_blk hkg93 (B := W78.heap.size) hgg93)
               clear hkg93 hgg93
               have S95 := hid hb
               have S96 := hid (S80.out.trans (S95.out.mono S80.out.size))
               have S97 := hid (S79.out.trans (S95.out.mono S79.out.size))
               have S98 := hid (S81.out.trans (S95.out.mono S81.out.size))
               have S99 := hid (S82.out.trans (S95.out.mono S82.out.size))
               have S100 := hid (S83.out.trans (S95.out.mono S83.out.size))
               have S101 := hid (S84.out.trans (S95.out.mono S84.out.size))
               clear hb
               clear tokA
               have hS := And.intro (B64.out.below S96.out).cells2 (B3.out.below S98.out).cells2
               simp only [and_assoc] at hS)
            | (go_at_call 40
               have _t := tokB
               refine (eqZeros_yes _ _ _ _ _ _ x0_1 _ rfl (OwnS.rd (K47.out.below S101.out)) (OwnS.rd K94.out) hn0_1).mono ?_
               rintro e W102 ⟨rfl, hb⟩
               have S103 := hid hb
               have S104 := hid (S96.out.trans (S103.out.mono S96.out.size))
               have S105 := hid (S97.out.trans (S103.out.mono S97.out.size))
               have S106 := hid (S95.out.trans (S103.out.mono S95.out.size))
               have S107 := hid (S98.out.trans (S103.out.mono S98.out.size))
               have S108 := hid (S99.out.trans (S103.out.mono S99.out.size))
               have S109 := hid (S100.out.trans (S103.out.mono S100.out.size))
               have S110 := hid (S101.out.trans (S103.out.mono S101.out.size))
               clear hb
               clear tokB
               clear hS
               have hS := And.intro (B64.out.below S104.out).cells2 (B3.out.below S107.out).cells2
               simp only [and_assoc] at hS))
        clear hS
        have l113 : W57.heap.size < W102.heap.size := (B74.out.below S105.out).lt
        obtain ⟨c111, c112⟩ := (B74.out.below S105.out).cells2
        have l116 : w.heap.size + 1 < W102.heap.size := (B4.out.below S107.out).lt
        obtain ⟨c114, c115⟩ := (B4.out.below S107.out).cells2
        go_wp2_with fail
        have tokA : True := trivial
        have tokB : True := trivial
        go_region_held3 (fun w' => w'.cell? ⟨W57.heap.size, 0, none⟩ = some (.int .i64 a1_0) ∧ w'.cell? ⟨W57.heap.size, 1, none⟩ = some (.slice (some ⟨g58, 0, none⟩) x1_1.length x1_1.length) ∧ w'.cell? ⟨w.heap.size + 1, 0, none⟩ = some (.int .i64 a1_0) ∧ w'.cell? ⟨w.heap.size + 1, 1, none⟩ = some (.slice A1_1 x1_1.length c1_1)) (first | go_keep | exact hS)
          (first
            | (go_at_call 38
               have _t := tokA
               refine (toZeros_any a1_0 A1_1 c1_1 x1_1 _ ((X1_1.out.below S109.out).drewN 1) hn1_1).mono ?_
               rintro e W117 ⟨g118, rfl, hgg118, hkg118, hb⟩
               have hb := below_drew' hb
               have K119 := hid (OwnS.of_blk hkg118 (B := W102.heap.size) hgg118)
               clear hkg118 hgg118
               have S120 := hid hb
               have S121 := hid (S104.out.trans (S120.out.mono S104.out.size))
               have S122 := hid (S105.out.trans (S120.out.mono S105.out.size))
               have S123 := hid (S106.out.trans (S120.out.mono S106.out.size))
               have S124 := hid (S103.out.trans (S120.out.mono S103.out.size))
               have S125 := hid (S107.out.trans (S120.out.mono S107.out.size))
               have S126 := hid (S108.out.trans (S120.out.mono S108.out.size))
               have S127 := hid (S109.out.trans (S120.out.mono S109.out.size))
               have S128 := hid (S110.out.trans (S120.out.mono S110.out.size))
               clear hb
               clear tokA
               have hS := And.intro (B74.out.below S122.out).cells2 (B4.out.below S125.out).cells2
               simp only [and_assoc] at hS)
            | (go_at_call 40
               have _t := tokB
               refine (eqZeros_yes _ _ _ _ _ _ x1_1 _ rfl (OwnS.rd (K59.out.below S121.out)) (OwnS.rd K119.out) hn1_1).mono ?_
               rintro e W129 ⟨rfl, hb⟩
               have S130 := hid hb
               have S131 := hid (S121.out.trans (S130.out.mono S121.out.size))
               have S132 := hid (S122.out.trans (S130.out.mono S122.out.size))
               have S133 := hid (S123.out.trans (S130.out.mono S123.out.size))
               have S134 := hid (S124.out.trans (S130.out.mono S124.out.size))
               have S135 := hid (S125.out.trans (S130.out.mono S125.out.size))
               have S136 := hid (S126.out.trans (S130.out.mono S126.out.size))
               have S137 := hid (S127.out.trans (S130.out.mono S127.out.size))
               have S138 := hid (S128.out.trans (S130.out.mono S128.out.size))
               clear hb
               clear tokB
               clear hS
               have hS := And.intro (B74.out.below S132.out).cells2 (B4.out.below S135.out).cells2
               simp only [and_assoc] at hS))
        clear hS
        have hq0 : (0 : Int) ≤ 1 ∧ 1 ≤ 1000000000 := by omega
        have l141 : W45.heap.size < W129.heap.size := (B64.out.below S131.out).lt
        obtain ⟨c139, c140⟩ := (B64.out.below S131.out).cells2
        go_wp2_with fail
        refine (markZeros_any _ _ _ w.heap.size _ (1) _ (OwnS.mono (K47.out.below S138.out) (S38.out.size))  hn0_1 (by omega) (by omega) S137.out.size).mono ?_
        rintro e W142 ⟨rfl, hoM143, hbb, ht⟩
        have S144 := hid ((S137.out).trans hbb)
        have T145 := hid (Blk.touchAll (B3.out.below S135.out) ht (fun p hp => by simp only [List.mem_cons, List.not_mem_nil, or_false] at hp; subst hp; exact OwnS.other (K47.out.below S138.out) (B3.out.below S135.out) (by decide)))
        have T146 := hid (Blk.touchAll (B4.out.below S135.out) ht (fun p hp => by simp only [List.mem_cons, List.not_mem_nil, or_false] at hp; subst hp; exact OwnS.other (K47.out.below S138.out) (B4.out.below S135.out) (by decide)))
        have T147 := hid (OwnS.touchAll (Ow0_1.out.below S136.out) ht (fun p hp => by simp only [List.mem_cons, List.not_mem_nil, or_false] at hp; subst hp; exact (Apart.symm (OwnS.apart_lt Ow0_1.out K47.out (Nat.le_refl _)))))
        have T148 := hid (Blk.touchAll (B34.out.below S136.out) ht (fun p hp => by simp only [List.mem_cons, List.not_mem_nil, or_false] at hp; subst hp; exact OwnS.other (K47.out.below S138.out) (B34.out.below S136.out) (by decide)))
        have T149 := hid (Blk.touchAll (B64.out.below S131.out) ht (fun p hp => by simp only [List.mem_cons, List.not_mem_nil, or_false] at hp; subst hp; exact OwnS.other (K47.out.below S138.out) (B64.out.below S131.out) (by decide)))
        have T150 := hid (OwnS.touchAll (K59.out.below S131.out) ht (fun p hp => by simp only [List.mem_cons, List.not_mem_nil, or_false] at hp; subst hp; exact (OwnS.apart_lt K47.out K59.out (Nat.le_refl _))))
        have T151 := hid (Blk.touchAll (B74.out.below S132.out) ht (fun p hp => by simp only [List.mem_cons, List.not_mem_nil, or_false] at hp; subst hp; exact OwnS.other (K47.out.below S138.out) (B74.out.below S132.out) (by decide)))
        have T152 := hid (OwnS.touchAll (Og0_1.out.below S132.out) ht (fun p hp => by simp only [List.mem_cons, List.not_mem_nil, or_false] at hp; subst hp; exact (OwnS.apart_lt K47.out Og0_1.out (S60.out.size))))
        have T153 := hid (Blk.touchAll (B85.out.below S133.out) ht (fun p hp => by simp only [List.mem_cons, List.not_mem_nil, or_false] at hp; subst hp; exact OwnS.other (K47.out.below S138.out) (B85.out.below S133.out) (by decide)))
        have T154 := hid (OwnS.touchAll (K94.out.below S134.out) ht (fun p hp => by simp only [List.mem_cons, List.not_mem_nil, or_false] at hp; subst hp; exact (OwnS.apart_lt K47.out K94.out (S84.out.size))))
        have T155 := hid (OwnS.touchAll (K119.out.below S130.out) ht (fun p hp => by simp only [List.mem_cons, List.not_mem_nil, or_false] at hp; subst hp; exact (OwnS.apart_lt K47.out K119.out (S110.out.size))))
        clear hoM143 hbb ht
        have hq1 : (0 : Int) ≤ 1 + (x0_1.length : Int) ∧ 1 + (x0_1.length : Int) ≤ 1000000000 := by omega
        clear c139 c140 l141
        have l158 : W57.heap.size < W142.heap.size := T151.out.lt
        obtain ⟨c156, c157⟩ := T151.out.cells2
        go_wp2_with fail
        refine (markZeros_any _ _ _ w.heap.size _ (1 + (x0_1.length : Int)) _ (OwnS.mono T150.out (S50.out.size))  hn1_1 (by omega) (by omega) S144.out.size).mono ?_
        rintro e W159 ⟨rfl, hoM160, hbb, ht⟩
        have S161 := hid ((S144.out).trans hbb)
        have T162 := hid (Blk.touchAll T145.out ht (fun p hp => by simp only [List.mem_cons, List.not_mem_nil, or_false] at hp; subst hp; exact OwnS.other T150.out T145.out (by decide)))
        have T163 := hid (Blk.touchAll T146.out ht (fun p hp => by simp only [List.mem_cons, List.not_mem_nil, or_false] at hp; subst hp; exact OwnS.other T150.out T146.out (by decide)))
        have T164 := hid (OwnS.touchAll T147.out ht (fun p hp => by simp only [List.mem_cons, List.not_mem_nil, or_false] at hp; subst hp; exact (Apart.symm (OwnS.apart_lt Ow0_1.out K59.out (S48.out.size)))))
        have T165 := hid (Blk.touchAll T148.out ht (fun p hp => by simp only [List.mem_cons, List.not_mem_nil, or_false] at hp; subst hp; exact OwnS.other T150.out T148.out (by decide)))
        have T166 := hid (Blk.touchAll T149.out ht (fun p hp => by simp only [List.mem_cons, List.not_mem_nil, or_false] at hp; subst hp; exact OwnS.other T150.out T149.out (by decide)))
        have T167 := hid (Blk.touchAll T151.out ht (fun p hp => by simp only [List.mem_cons, List.not_mem_nil, or_false] at hp; subst hp; exact OwnS.other T150.out T151.out (by decide)))
        have T168 := hid (OwnS.touchAll T152.out ht (fun p hp => by simp only [List.mem_cons, List.not_mem_nil, or_false] at hp; subst hp; exact (OwnS.apart_lt K59.out Og0_1.out (Nat.le_refl _))))
        have T169 := hid (Blk.touchAll T153.out ht (fun p hp => by simp only [List.mem_cons, List.not_mem_nil, or_false] at hp; subst hp; exact OwnS.other T150.out T153.out (by decide)))
        have T170 := hid (OwnS.touchAll T154.out ht (fun p hp => by simp only [List.mem_cons, List.not_mem_nil, or_false] at hp; subst hp; exact (OwnS.apart_lt K59.out K94.out (S80.out.size))))
        have T171 := hid (OwnS.touchAll T155.out ht (fun p hp => by simp only [List.mem_cons, List.not_mem_nil, or_false] at hp; subst hp; exact (OwnS.apart_lt K59.out K119.out (S104.out.size))))
        clear hoM160 hbb ht
        have hqk : (0 : Int) ≤ 1 + (x0_1.length : Int) + (x1_1.length : Int) := by omega
        clear c156 c157 l158
        have l174 : W68.heap.size < W159.heap.size := T169.out.lt
        obtain ⟨c172, c173⟩ := T169.out.cells2
        have l177 : qbw < W159.heap.size := T165.out.lt
        obtain ⟨c175, c176⟩ := T165.out.cells2
        go_wp2_with fail
        refine (eqZeros_yes _ _ _ _ _ _ _ _ rfl (OwnS.rd T168.out) (OwnS.rd T164.out) hlg0_1).mono ?_
        rintro e W178 ⟨rfl, hb⟩
        have S179 := hid hb
        have S180 := hid (S161.out.trans (S179.out.mono S161.out.size))
        clear hb
        clear c172 c173 l174 c175 c176 l177
        have l183 : W68.heap.size < W178.heap.size := (T169.out.below S179.out).lt
        obtain ⟨c181, c182⟩ := (T169.out.below S179.out).cells2
        go_wp2_with fail
        refine (markZeros_any _ _ _ w.heap.size _ (1) _ (OwnS.mono (T168.out.below S179.out) (S63.out.size))  hlg0_1 (by omega) (by omega) S180.out.size).mono ?_
        rintro e W184 ⟨rfl, hoM185, hbb, ht⟩
        have S186 := hid ((S180.out).trans hbb)
        have T187 := hid (Blk.touchAll (T162.out.below S179.out) ht (fun p hp => by simp only [List.mem_cons, List.not_mem_nil, or_false] at hp; subst hp; exact OwnS.other (T168.out.below S179.out) (T162.out.below S179.out) (by decide)))
        have T188 := hid (Blk.touchAll (T163.out.below S179.out) ht (fun p hp => by simp only [List.mem_cons, List.not_mem_nil, or_false] at hp; subst hp; exact OwnS.other (T168.out.below S179.out) (T163.out.below S179.out) (by decide)))
        have T189 := hid (OwnS.touchAll (T164.out.below S179.out) ht (fun p hp => by simp only [List.mem_cons, List.not_mem_nil, or_false] at hp; subst hp; exact (Apart.symm (OwnS.apart_lt Ow0_1.out Og0_1.out (S62.out.size)))))
        have T190 := hid (Blk.touchAll (T165.out.below S179.out) ht (fun p hp => by simp only [List.mem_cons, List.not_mem_nil, or_false] at hp; subst hp; exact OwnS.other (T168.out.below S179.out) (T165.out.below S179.out) (by decide)))
        have T191 := hid (Blk.touchAll (T166.out.below S179.out) ht (fun p hp => by simp only [List.mem_cons, List.not_mem_nil, or_false] at hp; subst hp; exact OwnS.other (T168.out.below S179.out) (T166.out.below S179.out) (by decide)))
        have T192 := hid (Blk.touchAll (T167.out.below S179.out) ht (fun p hp => by simp only [List.mem_cons, List.not_mem_nil, or_false] at hp; subst hp; exact OwnS.other (T168.out.below S179.out) (T167.out.below S179.out) (by decide)))
        have T193 := hid (Blk.touchAll (T169.out.below S179.out) ht (fun p hp => by simp only [List.mem_cons, List.not_mem_nil, or_false] at hp; subst hp; exact OwnS.other (T168.out.below S179.out) (T169.out.below S179.out) (by decide)))
        have T194 := hid (OwnS.touchAll (T170.out.below S179.out) ht (fun p hp => by simp only [List.mem_cons, List.not_mem_nil, or_false] at hp; subst hp; exact (OwnS.apart_lt Og0_1.out K94.out (S79.out.size))))
        have T195 := hid (OwnS.touchAll (T171.out.below S179.out) ht (fun p hp => by simp only [List.mem_cons, List.not_mem_nil, or_false] at hp; subst hp; exact (OwnS.apart_lt Og0_1.out K119.out (S105.out.size))))
        have M185 := hid hoM185
        clear hoM185 hbb ht
        have hqm : (0 : Int) ≤ 1 + ((pJoinZeros a0_0 x0_1 a1_0 x1_1).1.2.length : Int) := by omega
        clear c181 c182 l183
        have l198 : W68.heap.size < W184.heap.size := T193.out.lt
        obtain ⟨c196, c197⟩ := T193.out.cells2
        go_wp2_with fail
        refine (heldZeros_yes _ _ _ _ (1) _ (OwnS.rd M185.out) hlg0_1 (by omega) (by omega)).mono ?_
        rintro e W199 ⟨rfl, hb⟩
        have S200 := hid hb
        have S201 := hid (S186.out.trans (S200.out.mono S186.out.size))
        clear hb
        clear c196 c197 l198
        have l204 : w.heap.size < W199.heap.size := (T187.out.below S200.out).lt
        obtain ⟨c202, c203⟩ := (T187.out.below S200.out).cells2
        have l207 : w.heap.size + 1 < W199.heap.size := (T188.out.below S200.out).lt
        obtain ⟨c205, c206⟩ := (T188.out.below S200.out).cells2
        go_wp2_with fail
        go_cut [15, 16] from 94 to 101 (fun vq v16 wx => ∃ (qb : Nat) (Ah0_1 : Option Addr) (ch0_1 : Nat), vq = .pointer (some ⟨qb, 0, none⟩) ∧ v16 = .bool (pJoinZeros a0_0 x0_1 a1_0 x1_1).2 ∧ Hid (Blk wx qb 55 [.int .i64 (pJoinZeros a0_0 x0_1 a1_0 x1_1).1.1, .slice Ah0_1 (pJoinZeros a0_0 x0_1 a1_0 x1_1).1.2.length ch0_1]) ∧ Hid (OwnS (Value.int .i64) wx W199.heap.size 2 Ah0_1 (pJoinZeros a0_0 x0_1 a1_0 x1_1).1.2) ∧ (pJoinZeros a0_0 x0_1 a1_0 x1_1).1.2.length ≤ 1048576 ∧ Hid (Below W199.heap.size W199 wx))
        case first =>
          have H0 := hid (Below.refl W199.heap.size W199)
          have tok0 : True := trivial
          have tok1 : True := trivial
          have tokX : True := trivial
          go_region_held3 (fun w' => w'.cell? ⟨w.heap.size, 0, none⟩ = some (.int .i64 a0_0) ∧ w'.cell? ⟨w.heap.size, 1, none⟩ = some (.slice A0_1 x0_1.length c0_1) ∧ w'.cell? ⟨w.heap.size + 1, 0, none⟩ = some (.int .i64 a1_0) ∧ w'.cell? ⟨w.heap.size + 1, 1, none⟩ = some (.slice A1_1 x1_1.length c1_1)) (first | go_keep | exact hS)
            (first
              | (go_at_call 38
                 have _t := tok0
                 refine (toZeros_any a0_0 A0_1 c0_1 x0_1 _ (RdL.below (X0_1.out.below S201.out) (by repeat first | with_reducible exact Below.refl _ _ | (refine Hid.out ?_; assumption) | refine below_drewN ?_ _ | refine below_drew1 ?_ | refine below_alloc_ ?_ _)) hn0_1).mono ?_
                 rintro e W208 ⟨g209, rfl, hgg209, hkg209, hb⟩
                 have H210 : Hid (Below W199.heap.size W199 W208) := below_next (by repeat first | with_reducible exact Below.refl _ _ | (refine Hid.out ?_; assumption) | refine below_drewN ?_ _ | refine below_drew1 ?_ | refine below_alloc_ ?_ _) hb
                 first
                   | (have hQ := hid (Blk.below (Blk.new W199 55 [.int .i64 0, .slice none 0 0]) (below_drew'' hb))
                      have hQge : W199.heap.size ≤ W199.heap.size := Below.size (by repeat first | with_reducible exact Below.refl _ _ | (refine Hid.out ?_; assumption) | refine below_drewN ?_ _ | refine below_drew1 ?_ | refine below_alloc_ ?_ _)
                      have hqm0 : w.heap.size ≠ W199.heap.size := by have := Blk.lt (T187.out.below S200.out); omega
                      have hqn0 := Ne.symm hqm0
                      have hqm1 : w.heap.size + 1 ≠ W199.heap.size := by have := Blk.lt (T188.out.below S200.out); omega
                      have hqn1 := Ne.symm hqm1)
                   | (have hQ := hid (Blk.below (Blk.new W199 55 [.int .i64 0, .slice none 0 0]) (below_drew' hb))
                      have hQge : W199.heap.size ≤ W199.heap.size := Below.size (by repeat first | with_reducible exact Below.refl _ _ | (refine Hid.out ?_; assumption) | refine below_drewN ?_ _ | refine below_drew1 ?_ | refine below_alloc_ ?_ _)
                      have hqm0 : w.heap.size ≠ W199.heap.size := by have := Blk.lt (T187.out.below S200.out); omega
                      have hqn0 := Ne.symm hqm0
                      have hqm1 : w.heap.size + 1 ≠ W199.heap.size := by have := Blk.lt (T188.out.below S200.out); omega
                      have hqn1 := Ne.symm hqm1)
                   | (have hQ := hid (Blk.below (Blk.new W199 55 [.int .i64 0, .slice none 0 0]) hb)
                      have hQge : W199.heap.size ≤ W199.heap.size := Below.size (by repeat first | with_reducible exact Below.refl _ _ | (refine Hid.out ?_; assumption) | refine below_drewN ?_ _ | refine below_drew1 ?_ | refine below_alloc_ ?_ _)
                      have hqm0 : w.heap.size ≠ W199.heap.size := by have := Blk.lt (T187.out.below S200.out); omega
                      have hqn0 := Ne.symm hqm0
                      have hqm1 : w.heap.size + 1 ≠ W199.heap.size := by have := Blk.lt (T188.out.below S200.out); omega
                      have hqn1 := Ne.symm hqm1)
                   | skip
                 have K211 := hid (OwnS.of_blk hkg209 (B := 0) (Nat.zero_le _))
                 clear hkg209 hgg209
                 clear tok0
                 have hS := And.intro (Blk.below (T187.out.below S200.out) H210.out).cells2 ((Blk.below (T188.out.below S200.out) H210.out).cells2)
                 simp only [and_assoc] at hS)
              | (go_at_call 38
                 have _t := tok1
                 refine (toZeros_any a1_0 A1_1 c1_1 x1_1 _ (RdL.below (X1_1.out.below S201.out) (by repeat first | with_reducible exact Below.refl _ _ | (refine Hid.out ?_; assumption) | refine below_drewN ?_ _ | refine below_drew1 ?_ | refine below_alloc_ ?_ _)) hn1_1).mono ?_
                 rintro e W212 ⟨g213, rfl, hgg213, hkg213, hb⟩
                 have H214 : Hid (Below W199.heap.size W199 W212) := below_next (by repeat first | with_reducible exact Below.refl _ _ | (refine Hid.out ?_; assumption) | refine below_drewN ?_ _ | refine below_drew1 ?_ | refine below_alloc_ ?_ _) hb
                 have H215 : Hid (Below W208.heap.size W208 W212) := below_next (by repeat first | with_reducible exact Below.refl _ _ | (refine Hid.out ?_; assumption) | refine below_drewN ?_ _ | refine below_drew1 ?_ | refine below_alloc_ ?_ _) hb
                 first
                   | (have hQ := hid (Blk.below hQ.out (Hid.out (below_next (B := W208.heap.size) (W := W208) (by repeat first | with_reducible exact Below.refl _ _ | (refine Hid.out ?_; assumption) | refine below_drewN ?_ _ | refine below_drew1 ?_ | refine below_alloc_ ?_ _) hb)))
                      have hQge := hQge)
                   | (have hQ := hid (Blk.below (Blk.new W208 55 [.int .i64 0, .slice none 0 0]) (below_drew'' hb))
                      have hQge : W199.heap.size ≤ W208.heap.size := Below.size (by repeat first | with_reducible exact Below.refl _ _ | (refine Hid.out ?_; assumption) | refine below_drewN ?_ _ | refine below_drew1 ?_ | refine below_alloc_ ?_ _)
                      have hqm0 : w.heap.size ≠ W208.heap.size := by have := Blk.lt (T187.out.below S200.out); omega
                      have hqn0 := Ne.symm hqm0
                      have hqm1 : w.heap.size + 1 ≠ W208.heap.size := by have := Blk.lt (T188.out.below S200.out); omega
                      have hqn1 := Ne.symm hqm1)
                   | (have hQ := hid (Blk.below (Blk.new W208 55 [.int .i64 0, .slice none 0 0]) (below_drew' hb))
                      have hQge : W199.heap.size ≤ W208.heap.size := Below.size (by repeat first | with_reducible exact Below.refl _ _ | (refine Hid.out ?_; assumption) | refine below_drewN ?_ _ | refine below_drew1 ?_ | refine below_alloc_ ?_ _)
                      have hqm0 : w.heap.size ≠ W208.heap.size := by have := Blk.lt (T187.out.below S200.out); omega
                      have hqn0 := Ne.symm hqm0
                      have hqm1 : w.heap.size + 1 ≠ W208.heap.size := by have := Blk.lt (T188.out.below S200.out); omega
                      have hqn1 := Ne.symm hqm1)
                   | (have hQ := hid (Blk.below (Blk.new W208 55 [.int .i64 0, .slice none 0 0]) hb)
                      have hQge : W199.heap.size ≤ W208.heap.size := Below.size (by repeat first | with_reducible exact Below.refl _ _ | (refine Hid.out ?_; assumption) | refine below_drewN ?_ _ | refine below_drew1 ?_ | refine below_alloc_ ?_ _)
                      have hqm0 : w.heap.size ≠ W208.heap.size := by have := Blk.lt (T187.out.below S200.out); omega
                      have hqn0 := Ne.symm hqm0
                      have hqm1 : w.heap.size + 1 ≠ W208.heap.size := by have := Blk.lt (T188.out.below S200.out); omega
                      have hqn1 := Ne.symm hqm1)
                   | skip
                 have K216 := hid (OwnS.of_blk hkg213 (B := 0) (Nat.zero_le _))
                 clear hkg213 hgg213
                 clear tok1
                 have hS := And.intro (Blk.below (T187.out.below S200.out) H214.out).cells2 ((Blk.below (T188.out.below S200.out) H214.out).cells2)
                 simp only [and_assoc] at hS)
              | (go_at_call 39
                 have _t := tokX
                 refine (iJoinZeros_any _ _ x0_1.length x0_1 _ _ x1_1.length x1_1 _ w0_0 (OwnS.rd (OwnS.below K211.out (by repeat first | with_reducible exact Below.refl _ _ | (refine Hid.out ?_; assumption) | refine below_drewN ?_ _ | refine below_drew1 ?_ | refine below_alloc_ ?_ _))) hn0_1 we0_1 w1_0 (OwnS.rd (OwnS.below K216.out (by repeat first | with_reducible exact Below.refl _ _ | (refine Hid.out ?_; assumption) | refine below_drewN ?_ _ | refine below_drew1 ?_ | refine below_alloc_ ?_ _))) hn1_1 we1_1).mono ?_
                 rintro e W217 ⟨Ah0_1, ch0_1, rfl, ho1, hl1, hb⟩
                 have H218 : Hid (Below W199.heap.size W199 W217) := below_next (by repeat first | with_reducible exact Below.refl _ _ | (refine Hid.out ?_; assumption) | refine below_drewN ?_ _ | refine below_drew1 ?_ | refine below_alloc_ ?_ _) hb
                 have H219 : Hid (Below W208.heap.size W208 W217) := below_next (by repeat first | with_reducible exact Below.refl _ _ | (refine Hid.out ?_; assumption) | refine below_drewN ?_ _ | refine below_drew1 ?_ | refine below_alloc_ ?_ _) hb
                 have H220 : Hid (Below W212.heap.size W212 W217) := below_next (by repeat first | with_reducible exact Below.refl _ _ | (refine Hid.out ?_; assumption) | refine below_drewN ?_ _ | refine below_drew1 ?_ | refine below_alloc_ ?_ _) hb
                 have ho1 := hid (OwnS.mono ho1 (B' := W199.heap.size) (Below.size (by repeat first | with_reducible exact Below.refl _ _ | (refine Hid.out ?_; assumption) | refine below_drewN ?_ _ | refine below_drew1 ?_ | refine below_alloc_ ?_ _)))
                 first
                   | (have hQ := hid (Blk.below hQ.out (Hid.out (below_next (B := W212.heap.size) (W := W212) (by repeat first | with_reducible exact Below.refl _ _ | (refine Hid.out ?_; assumption) | refine below_drewN ?_ _ | refine below_drew1 ?_ | refine below_alloc_ ?_ _) hb)))
                      have hQge := hQge)
                   | (have hQ := hid (Blk.below (Blk.new W212 55 [.int .i64 0, .slice none 0 0]) (below_drew'' hb))
                      have hQge : W199.heap.size ≤ W212.heap.size := Below.size (by repeat first | with_reducible exact Below.refl _ _ | (refine Hid.out ?_; assumption) | refine below_drewN ?_ _ | refine below_drew1 ?_ | refine below_alloc_ ?_ _)
                      have hqm0 : w.heap.size ≠ W212.heap.size := by have := Blk.lt (T187.out.below S200.out); omega
                      have hqn0 := Ne.symm hqm0
                      have hqm1 : w.heap.size + 1 ≠ W212.heap.size := by have := Blk.lt (T188.out.below S200.out); omega
                      have hqn1 := Ne.symm hqm1)
                   | (have hQ := hid (Blk.below (Blk.new W212 55 [.int .i64 0, .slice none 0 0]) (below_drew' hb))
                      have hQge : W199.heap.size ≤ W212.heap.size := Below.size (by repeat first | with_reducible exact Below.refl _ _ | (refine Hid.out ?_; assumption) | refine below_drewN ?_ _ | refine below_drew1 ?_ | refine below_alloc_ ?_ _)
                      have hqm0 : w.heap.size ≠ W212.heap.size := by have := Blk.lt (T187.out.below S200.out); omega
                      have hqn0 := Ne.symm hqm0
                      have hqm1 : w.heap.size + 1 ≠ W212.heap.size := by have := Blk.lt (T188.out.below S200.out); omega
                      have hqn1 := Ne.symm hqm1)
                   | (have hQ := hid (Blk.below (Blk.new W212 55 [.int .i64 0, .slice none 0 0]) hb)
                      have hQge : W199.heap.size ≤ W212.heap.size := Below.size (by repeat first | with_reducible exact Below.refl _ _ | (refine Hid.out ?_; assumption) | refine below_drewN ?_ _ | refine below_drew1 ?_ | refine below_alloc_ ?_ _)
                      have hqm0 : w.heap.size ≠ W212.heap.size := by have := Blk.lt (T187.out.below S200.out); omega
                      have hqn0 := Ne.symm hqm0
                      have hqm1 : w.heap.size + 1 ≠ W212.heap.size := by have := Blk.lt (T188.out.below S200.out); omega
                      have hqn1 := Ne.symm hqm1)
                   | skip
                 have HX := H218
                 first
                   | (obtain ⟨q0, q1⟩ := hQ.out.cells2
                      have qf0 := hQ.out.frozen 0
                      have qf1 := hQ.out.frozen 1)
                   | skip
                 clear hb
                 clear tokX
                 have hS := And.intro (Blk.below (T187.out.below S200.out) H218.out).cells2 ((Blk.below (T188.out.below S200.out) H218.out).cells2)
                 simp only [and_assoc] at hS))
          all_goals
            first
            | (have hql := hQ.out.lt
               go_wp2_with fail
               go_meet
               exact ⟨_, _, _, rfl, rfl, hid (Blk.set_ (Blk.set_ hQ.out 0 _) 1 _), hid (OwnS.setOther (OwnS.setOther ho1.out hQ.out (by decide) 0 _) (Blk.set_ hQ.out 0 _) (by decide) 1 _), hl1, hid (Below.setCell (Below.setCell HX.out hQge _) hQge _)⟩)
            | (go_wp2_with fail
               go_meet
               exact ⟨_, _, _, rfl, rfl, hid (Blk.new _ _ _), hid (OwnS.below ho1.out (below_a1 _ _)), hl1, hid (below_alloc_ HX.out _)⟩)
        case rest =>
          obtain ⟨qbh, Ah0_1, ch0_1, rfl, rfl, B222, Oh0_1, hlh0_1, S223⟩ := hcut
          obtain ⟨W224, hWx⟩ : ∃ W224, W224 = wc := ⟨_, rfl⟩
          subst hWx
          have S225 := hid (S200.out.trans (S223.out.mono S200.out.size))
          have S226 := hid (S201.out.trans (S223.out.mono S201.out.size))
          have l229 : qbh < W224.heap.size := B222.out.lt
          obtain ⟨c227, c228⟩ := B222.out.cells2
          have l232 : qbw < W224.heap.size := (T190.out.below S225.out).lt
          obtain ⟨c230, c231⟩ := (T190.out.below S225.out).cells2
          go_wp2_with fail
          refine (eqZeros_yes _ _ _ _ _ _ _ _ rfl (OwnS.rd Oh0_1.out) (OwnS.rd (T189.out.below S225.out)) hlh0_1).mono ?_
          rintro e W233 ⟨rfl, hb⟩
          have S234 := hid hb
          have S235 := hid (S225.out.trans (S234.out.mono S225.out.size))
          have S236 := hid (S226.out.trans (S234.out.mono S226.out.size))
          clear hb
          clear c227 c228 l229 c230 c231 l232
          have l239 : W68.heap.size < W233.heap.size := (T193.out.below S235.out).lt
          obtain ⟨c237, c238⟩ := (T193.out.below S235.out).cells2
          go_wp2_with fail
          refine (heldZeros_yes _ _ _ _ (1) _ (OwnS.rd (M185.out.below S235.out)) hlg0_1 (by omega) (by omega)).mono ?_
          rintro e W240 ⟨rfl, hb⟩
          have S241 := hid hb
          have S242 := hid (S235.out.trans (S241.out.mono S235.out.size))
          have S243 := hid (S236.out.trans (S241.out.mono S236.out.size))
          have S244 := hid (S234.out.trans (S241.out.mono S234.out.size))
          clear hb
          clear c237 c238 l239
          go_wp2
          go_ret
          exact ⟨rfl, S243.out⟩
    · skip
      have hp0 : 0 ≤ 1048576 - ((x0_1.length : Int)) := by omega
      go_enter Try.func8, Try.ntmps8
      have Z := hid (Below.refl w.heap.size w)
      go_wp2_with fail
      refine (szZeros_yes _ _ _ _ _ _ (by omega) (by omega) (by omega)).mono ?_
      rintro e W1 ⟨rfl, hb⟩
      have S2 := below_call (below_a2 _ _ _) hb
      have B3 := hid (Blk.below (Blk.alloc (Blk.new w 53 [.int .i64 a0_0, .slice A0_1 x0_1.length c0_1]) _) hb)
      have B4 := hid (Blk.below (Blk.new2 w _ 53 [.int .i64 a1_0, .slice A1_1 x1_1.length c1_1]) hb)
      clear hb
      have l7 : w.heap.size < W1.heap.size := B3.out.lt
      obtain ⟨c5, c6⟩ := B3.out.cells2
      have l10 : w.heap.size + 1 < W1.heap.size := B4.out.lt
      obtain ⟨c8, c9⟩ := B4.out.cells2
      go_wp2_with fail
      refine (szZeros_no _ _ _ _ _ _ (by omega) (by omega) hm1_1 (by omega)).mono ?_
      rintro e W11 ⟨rfl, hb⟩
      have S12 := hid hb
      have S13 := hid (S2.out.trans (S12.out.mono S2.out.size))
      clear hb
      go_wp2_with fail
      go_ret
      exact ⟨rfl, S13.out⟩
  · skip
    go_enter Try.func8, Try.ntmps8
    have Z := hid (Below.refl w.heap.size w)
    go_wp2_with fail
    refine (szZeros_no _ _ _ _ _ _ (by omega) (by omega) hm0_1 (by omega)).mono ?_
    rintro e W1 ⟨rfl, hb⟩
    have S2 := below_call (below_a2 _ _ _) hb
    have B3 := hid (Blk.below (Blk.alloc (Blk.new w 53 [.int .i64 a0_0, .slice A0_1 x0_1.length c0_1]) _) hb)
    have B4 := hid (Blk.below (Blk.new2 w _ 53 [.int .i64 a1_0, .slice A1_1 x1_1.length c1_1]) hb)
    clear hb
    go_wp2_with fail
    go_ret
    exact ⟨rfl, S2.out⟩

end Go.Proofs.Ytlcpchpodcchlaa
