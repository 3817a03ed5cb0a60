/-
  FnExactMeetSieves: the walk of the law, out of the contracts of spec.MeetSieves and impl.MeetSieves. Printed by gen_law.py.
-/
import Derived.Test.YtlcpchpodcchlaaStSieve
import Derived.Test.YtlcpchpodcchlaaBothImpl
import Derived.Test.YtlcpchpodcchlaaOpen
namespace Go.Proofs.Ytlcpchpodcchlaa
open Go.RowKit
set_option linter.unusedVariables false

set_option maxHeartbeats 1600000 in
theorem FnExactMeetSieves_any (a0_0 : Int) (a0_1 : Int) (A0_2 : Option Addr) (c0_2 : Nat) (x0_2 : List Bool) (a1_0 : Int) (a1_1 : Int) (A1_2 : Option Addr) (c1_2 : Nat) (x1_2 : List Bool) (w : World) (w0_0 : W64 a0_0) (w0_1 : W64 a0_1) (hx0_2 : RdL Value.bool w A0_2 x0_2) (hm0_2 : x0_2.length ≤ 9223372036854775807) (w1_0 : W64 a1_0) (w1_1 : W64 a1_1) (hx1_2 : RdL Value.bool w A1_2 x1_2) (hm1_2 : x1_2.length ≤ 9223372036854775807) :
    Calls Try.prog 7 #[.agg #[.int .i64 a0_0, .int .i64 a0_1, .slice A0_2 x0_2.length c0_2], .agg #[.int .i64 a1_0, .int .i64 a1_1, .slice A1_2 x1_2.length c1_2]] w fun e w' => e = .returned (.bool true) ∧ Below w.heap.size w w' := by
  have X0_2 := hid hx0_2
  have X1_2 := hid hx1_2
  clear hx0_2 hx1_2
  by_cases hn0 : (x0_2.length : Int) ≤ 1048576
  · skip
    by_cases hn1 : (x1_2.length : Int) ≤ 1048576 - ((x0_2.length : Int))
    · skip
      have hn0_2 : x0_2.length ≤ 1048576 := by omega
      have hn1_2 : x1_2.length ≤ 1048576 := by omega
      go_enter Try.func7, Try.ntmps7
      have Z := hid (Below.refl w.heap.size w)
      have hp0 : 0 ≤ 1048576 - ((x0_2.length : Int)) := by omega
      have hp1 : 0 ≤ 1048576 - ((x0_2.length : Int)) - ((x1_2.length : Int)) := by omega
      go_wp2_with fail
      refine (szSieve_yes _ _ _ _ _ _ _ (by omega) (by omega) (by omega)).mono ?_
      rintro e W1 ⟨rfl, hb⟩
      have S2 := below_call (below_a2 _ _ _) hb
      have B3 := hid (Blk.below (Blk.alloc (Blk.new w 37 [.int .i64 a0_0, .int .i64 a0_1, .slice A0_2 x0_2.length c0_2]) _) hb)
      have B4 := hid (Blk.below (Blk.new2 w _ 37 [.int .i64 a1_0, .int .i64 a1_1, .slice A1_2 x1_2.length c1_2]) hb)
      clear hb
      have l8 : w.heap.size < W1.heap.size := B3.out.lt
      obtain ⟨c5, c6, c7⟩ := B3.out.cells3
      have l12 : w.heap.size + 1 < W1.heap.size := B4.out.lt
      obtain ⟨c9, c10, c11⟩ := B4.out.cells3
      go_wp2_with fail
      refine (szSieve_yes _ _ _ _ _ _ _ (by omega) (by omega) (by omega)).mono ?_
      rintro e W13 ⟨rfl, hb⟩
      have S14 := hid hb
      have S15 := hid (S2.out.trans (S14.out.mono S2.out.size))
      clear hb
      clear c5 c6 c7 l8 c9 c10 c11 l12
      have l19 : w.heap.size < W13.heap.size := (B3.out.below S14.out).lt
      obtain ⟨c16, c17, c18⟩ := (B3.out.below S14.out).cells3
      have l23 : w.heap.size + 1 < W13.heap.size := (B4.out.below S14.out).lt
      obtain ⟨c20, c21, c22⟩ := (B4.out.below S14.out).cells3
      go_wp2_with fail
      go_cut [6, 7] from 27 to 34 (fun vq v7 wx => ∃ (qb : Nat) (Aw0_2 : Option Addr) (cw0_2 : Nat), vq = .pointer (some ⟨qb, 0, none⟩) ∧ v7 = .bool (pMeetSieves a0_0 a0_1 x0_2 a1_0 a1_1 x1_2).2 ∧ Hid (Blk wx qb 42 [.int .i64 (pMeetSieves a0_0 a0_1 x0_2 a1_0 a1_1 x1_2).1.1, .int .i64 (pMeetSieves a0_0 a0_1 x0_2 a1_0 a1_1 x1_2).1.2.1, .slice Aw0_2 (pMeetSieves a0_0 a0_1 x0_2 a1_0 a1_1 x1_2).1.2.2.length cw0_2]) ∧ Hid (OwnS Value.bool wx W13.heap.size 4 Aw0_2 (pMeetSieves a0_0 a0_1 x0_2 a1_0 a1_1 x1_2).1.2.2) ∧ (pMeetSieves a0_0 a0_1 x0_2 a1_0 a1_1 x1_2).1.2.2.length ≤ 1048576 ∧ Hid (Below W13.heap.size W13 wx))
      case first =>
        have H0 := hid (Below.refl W13.heap.size W13)
        have tok0 : True := trivial
        have tok1 : True := trivial
        have tokX : True := trivial
        go_region_held3 (fun w' => w'.cell? ⟨w.heap.size, 0, none⟩ = some (.int .i64 a0_0) ∧ w'.cell? ⟨w.heap.size, 1, none⟩ = some (.int .i64 a0_1) ∧ w'.cell? ⟨w.heap.size, 2, none⟩ = some (.slice A0_2 x0_2.length c0_2) ∧ w'.cell? ⟨w.heap.size + 1, 0, none⟩ = some (.int .i64 a1_0) ∧ w'.cell? ⟨w.heap.size + 1, 1, none⟩ = some (.int .i64 a1_1) ∧ w'.cell? ⟨w.heap.size + 1, 2, none⟩ = some (.slice A1_2 x1_2.length c1_2)) (first | go_keep | exact hS)
          (first
            | (go_at_call 26
               have _t := tok0
               refine (toSieve_any a0_0 a0_1 A0_2 c0_2 x0_2 _ (RdL.below (X0_2.out.below S15.out) (by repeat first | with_reducible exact Below.refl _ _ | (refine Hid.out ?_; assumption) | refine below_drewN ?_ _ | refine below_drew1 ?_ | refine below_alloc_ ?_ _)) hn0_2).mono ?_
               rintro e W24 ⟨g25, rfl, hgg25, hkg25, hb⟩
               have H26 : Hid (Below W13.heap.size W13 W24) := below_next (by repeat first | with_reducible exact Below.refl _ _ | (refine Hid.out ?_; assumption) | refine below_drewN ?_ _ | refine below_drew1 ?_ | refine below_alloc_ ?_ _) hb
               first
                 | (have hQ := hid (Blk.below (Blk.new W13 42 [.int .i64 0, .int .i64 0, .slice none 0 0]) (below_drew'' hb))
                    have hQge : W13.heap.size ≤ W13.heap.size := Below.size (by repeat first | with_reducible exact Below.refl _ _ | (refine Hid.out ?_; assumption) | refine below_drewN ?_ _ | refine below_drew1 ?_ | refine below_alloc_ ?_ _)
                    have hqm0 : w.heap.size ≠ W13.heap.size := by have := Blk.lt (B3.out.below S14.out); omega
                    have hqn0 := Ne.symm hqm0
                    have hqm1 : w.heap.size + 1 ≠ W13.heap.size := by have := Blk.lt (B4.out.below S14.out); omega
                    have hqn1 := Ne.symm hqm1)
                 | (have hQ := hid (Blk.below (Blk.new W13 42 [.int .i64 0, .int .i64 0, .slice none 0 0]) (below_drew' hb))
                    have hQge : W13.heap.size ≤ W13.heap.size := Below.size (by repeat first | with_reducible exact Below.refl _ _ | (refine Hid.out ?_; assumption) | refine below_drewN ?_ _ | refine below_drew1 ?_ | refine below_alloc_ ?_ _)
                    have hqm0 : w.heap.size ≠ W13.heap.size := by have := Blk.lt (B3.out.below S14.out); omega
                    have hqn0 := Ne.symm hqm0
                    have hqm1 : w.heap.size + 1 ≠ W13.heap.size := by have := Blk.lt (B4.out.below S14.out); omega
                    have hqn1 := Ne.symm hqm1)
                 | (have hQ := hid (Blk.below (Blk.new W13 42 [.int .i64 0, .int .i64 0, .slice none 0 0]) hb)
                    have hQge : W13.heap.size ≤ W13.heap.size := Below.size (by repeat first | with_reducible exact Below.refl _ _ | (refine Hid.out ?_; assumption) | refine below_drewN ?_ _ | refine below_drew1 ?_ | refine below_alloc_ ?_ _)
                    have hqm0 : w.heap.size ≠ W13.heap.size := by have := Blk.lt (B3.out.below S14.out); omega
                    have hqn0 := Ne.symm hqm0
                    have hqm1 : w.heap.size + 1 ≠ W13.heap.size := by have := Blk.lt (B4.out.below S14.out); omega
                    have hqn1 := Ne.symm hqm1)
                 | skip
               have K27 := hid (OwnS.of_blk hkg25 (B := 0) (Nat.zero_le _))
               clear hkg25 hgg25
               clear tok0
               have hS := And.intro (Blk.below (B3.out.below S14.out) H26.out).cells3 ((Blk.below (B4.out.below S14.out) H26.out).cells3)
               simp only [and_assoc] at hS)
            | (go_at_call 26
               have _t := tok1
               refine (toSieve_any a1_0 a1_1 A1_2 c1_2 x1_2 _ (RdL.below (X1_2.out.below S15.out) (by repeat first | with_reducible exact Below.refl _ _ | (refine Hid.out ?_; assumption) | refine below_drewN ?_ _ | refine below_drew1 ?_ | refine below_alloc_ ?_ _)) hn1_2).mono ?_
               rintro e W28 ⟨g29, rfl, hgg29, hkg29, hb⟩
               have H30 : Hid (Below W13.heap.size W13 W28) := below_next (by repeat first | with_reducible exact Below.refl _ _ | (refine Hid.out ?_; assumption) | refine below_drewN ?_ _ | refine below_drew1 ?_ | refine below_alloc_ ?_ _) hb
               have H31 : Hid (Below W24.heap.size W24 W28) := below_next (by repeat first | with_reducible exact Below.refl _ _ | (refine Hid.out ?_; assumption) | refine below_drewN ?_ _ | refine below_drew1 ?_ | refine below_alloc_ ?_ _) hb
               first
                 | (have hQ := hid (Blk.below hQ.out (Hid.out (below_next (B := W24.heap.size) (W := W24) (by repeat first | with_reducible exact Below.refl _ _ | (refine Hid.out ?_; assumption) | refine below_drewN ?_ _ | refine below_drew1 ?_ | refine below_alloc_ ?_ _) hb)))
                    have hQge := hQge)
                 | (have hQ := hid (Blk.below (Blk.new W24 42 [.int .i64 0, .int .i64 0, .slice none 0 0]) (below_drew'' hb))
                    have hQge : W13.heap.size ≤ W24.heap.size := Below.size (by repeat first | with_reducible exact Below.refl _ _ | (refine Hid.out ?_; assumption) | refine below_drewN ?_ _ | refine below_drew1 ?_ | refine below_alloc_ ?_ _)
                    have hqm0 : w.heap.size ≠ W24.heap.size := by have := Blk.lt (B3.out.below S14.out); omega
                    have hqn0 := Ne.symm hqm0
                    have hqm1 : w.heap.size + 1 ≠ W24.heap.size := by have := Blk.lt (B4.out.below S14.out); omega
                    have hqn1 := Ne.symm hqm1)
                 | (have hQ := hid (Blk.below (Blk.new W24 42 [.int .i64 0, .int .i64 0, .slice none 0 0]) (below_drew' hb))
                    have hQge : W13.heap.size ≤ W24.heap.size := Below.size (by repeat first | with_reducible exact Below.refl _ _ | (refine Hid.out ?_; assumption) | refine below_drewN ?_ _ | refine below_drew1 ?_ | refine below_alloc_ ?_ _)
                    have hqm0 : w.heap.size ≠ W24.heap.size := by have := Blk.lt (B3.out.below S14.out); omega
                    have hqn0 := Ne.symm hqm0
                    have hqm1 : w.heap.size + 1 ≠ W24.heap.size := by have := Blk.lt (B4.out.below S14.out); omega
                    have hqn1 := Ne.symm hqm1)
                 | (have hQ := hid (Blk.below (Blk.new W24 42 [.int .i64 0, .int .i64 0, .slice none 0 0]) hb)
                    have hQge : W13.heap.size ≤ W24.heap.size := Below.size (by repeat first | with_reducible exact Below.refl _ _ | (refine Hid.out ?_; assumption) | refine below_drewN ?_ _ | refine below_drew1 ?_ | refine below_alloc_ ?_ _)
                    have hqm0 : w.heap.size ≠ W24.heap.size := by have := Blk.lt (B3.out.below S14.out); omega
                    have hqn0 := Ne.symm hqm0
                    have hqm1 : w.heap.size + 1 ≠ W24.heap.size := by have := Blk.lt (B4.out.below S14.out); omega
                    have hqn1 := Ne.symm hqm1)
                 | skip
               have K32 := hid (OwnS.of_blk hkg29 (B := 0) (Nat.zero_le _))
               clear hkg29 hgg29
               clear tok1
               have hS := And.intro (Blk.below (B3.out.below S14.out) H30.out).cells3 ((Blk.below (B4.out.below S14.out) H30.out).cells3)
               simp only [and_assoc] at hS)
            | (go_at_call 34
               have _t := tokX
               refine (sMeetSieves_any _ _ _ x0_2.length x0_2 _ _ _ x1_2.length x1_2 _ w0_0 w0_1 (OwnS.rd (OwnS.below K27.out (by repeat first | with_reducible exact Below.refl _ _ | (refine Hid.out ?_; assumption) | refine below_drewN ?_ _ | refine below_drew1 ?_ | refine below_alloc_ ?_ _))) hn0_2 w1_0 w1_1 (OwnS.rd (OwnS.below K32.out (by repeat first | with_reducible exact Below.refl _ _ | (refine Hid.out ?_; assumption) | refine below_drewN ?_ _ | refine below_drew1 ?_ | refine below_alloc_ ?_ _))) hn1_2).mono ?_
               rintro e W33 ⟨Aw0_2, cw0_2, rfl, ho2, hl2, hb⟩
               have H34 : Hid (Below W13.heap.size W13 W33) := below_next (by repeat first | with_reducible exact Below.refl _ _ | (refine Hid.out ?_; assumption) | refine below_drewN ?_ _ | refine below_drew1 ?_ | refine below_alloc_ ?_ _) hb
               have H35 : Hid (Below W24.heap.size W24 W33) := below_next (by repeat first | with_reducible exact Below.refl _ _ | (refine Hid.out ?_; assumption) | refine below_drewN ?_ _ | refine below_drew1 ?_ | refine below_alloc_ ?_ _) hb
               have H36 : Hid (Below W28.heap.size W28 W33) := below_next (by repeat first | with_reducible exact Below.refl _ _ | (refine Hid.out ?_; assumption) | refine below_drewN ?_ _ | refine below_drew1 ?_ | refine below_alloc_ ?_ _) hb
               have ho2 := hid (OwnS.mono ho2 (B' := W13.heap.size) (Below.size (by repeat first | with_reducible exact Below.refl _ _ | (refine Hid.out ?_; assumption) | refine below_drewN ?_ _ | refine below_drew1 ?_ | refine below_alloc_ ?_ _)))
               first
                 | (have hQ := hid (Blk.below hQ.out (Hid.out (below_next (B := W28.heap.size) (W := W28) (by repeat first | with_reducible exact Below.refl _ _ | (refine Hid.out ?_; assumption) | refine below_drewN ?_ _ | refine below_drew1 ?_ | refine below_alloc_ ?_ _) hb)))
                    have hQge := hQge)
                 | (have hQ := hid (Blk.below (Blk.new W28 42 [.int .i64 0, .int .i64 0, .slice none 0 0]) (below_drew'' hb))
                    have hQge : W13.heap.size ≤ W28.heap.size := Below.size (by repeat first | with_reducible exact Below.refl _ _ | (refine Hid.out ?_; assumption) | refine below_drewN ?_ _ | refine below_drew1 ?_ | refine below_alloc_ ?_ _)
                    have hqm0 : w.heap.size ≠ W28.heap.size := by have := Blk.lt (B3.out.below S14.out); omega
                    have hqn0 := Ne.symm hqm0
                    have hqm1 : w.heap.size + 1 ≠ W28.heap.size := by have := Blk.lt (B4.out.below S14.out); omega
                    have hqn1 := Ne.symm hqm1)
                 | (have hQ := hid (Blk.below (Blk.new W28 42 [.int .i64 0, .int .i64 0, .slice none 0 0]) (below_drew' hb))
                    have hQge : W13.heap.size ≤ W28.heap.size := Below.size (by repeat first | with_reducible exact Below.refl _ _ | (refine Hid.out ?_; assumption) | refine below_drewN ?_ _ | refine below_drew1 ?_ | refine below_alloc_ ?_ _)
                    have hqm0 : w.heap.size ≠ W28.heap.size := by have := Blk.lt (B3.out.below S14.out); omega
                    have hqn0 := Ne.symm hqm0
                    have hqm1 : w.heap.size + 1 ≠ W28.heap.size := by have := Blk.lt (B4.out.below S14.out); omega
                    have hqn1 := Ne.symm hqm1)
                 | (have hQ := hid (Blk.below (Blk.new W28 42 [.int .i64 0, .int .i64 0, .slice none 0 0]) hb)
                    have hQge : W13.heap.size ≤ W28.heap.size := Below.size (by repeat first | with_reducible exact Below.refl _ _ | (refine Hid.out ?_; assumption) | refine below_drewN ?_ _ | refine below_drew1 ?_ | refine below_alloc_ ?_ _)
                    have hqm0 : w.heap.size ≠ W28.heap.size := by have := Blk.lt (B3.out.below S14.out); omega
                    have hqn0 := Ne.symm hqm0
                    have hqm1 : w.heap.size + 1 ≠ W28.heap.size := by have := Blk.lt (B4.out.below S14.out); omega
                    have hqn1 := Ne.symm hqm1)
                 | skip
               have HX := H34
               first
                 | (obtain ⟨q0, q1, q2⟩ := hQ.out.cells3
                    have qf0 := hQ.out.frozen 0
                    have qf1 := hQ.out.frozen 1
                    have qf2 := hQ.out.frozen 2)
                 | skip
               clear hb
               clear tokX
               have hS := And.intro (Blk.below (B3.out.below S14.out) H34.out).cells3 ((Blk.below (B4.out.below S14.out) H34.out).cells3)
               simp only [and_assoc] at hS))
        all_goals
          first
          | (have hql := hQ.out.lt
             go_wp2_with fail
             go_meet
             exact ⟨_, _, _, rfl, rfl, hid (Blk.set_ (Blk.set_ (Blk.set_ hQ.out 0 _) 1 _) 2 _), hid (OwnS.setOther (OwnS.setOther (OwnS.setOther ho2.out hQ.out (by decide) 0 _) (Blk.set_ hQ.out 0 _) (by decide) 1 _) (Blk.set_ (Blk.set_ hQ.out 0 _) 1 _) (by decide) 2 _), hl2, hid (Below.setCell (Below.setCell (Below.setCell HX.out hQge _) hQge _) hQge _)⟩)
          | (go_wp2_with fail
             go_meet
             exact ⟨_, _, _, rfl, rfl, hid (Blk.new _ _ _), hid (OwnS.below ho2.out (below_a1 _ _)), hl2, hid (below_alloc_ HX.out _)⟩)
      case rest =>
        obtain ⟨qbw, Aw0_2, cw0_2, rfl, rfl, B38, Ow0_2, hlw0_2, S39⟩ := hcut
        obtain ⟨W40, hWx⟩ : ∃ W40, W40 = wc := ⟨_, rfl⟩
        subst hWx
        have S41 := hid (S15.out.trans (S39.out.mono S15.out.size))
        have S42 := hid (S14.out.trans (S39.out.mono S14.out.size))
        have l46 : w.heap.size < W40.heap.size := (B3.out.below S42.out).lt
        obtain ⟨c43, c44, c45⟩ := (B3.out.below S42.out).cells3
        have l50 : w.heap.size + 1 < W40.heap.size := (B4.out.below S42.out).lt
        obtain ⟨c47, c48, c49⟩ := (B4.out.below S42.out).cells3
        go_wp2_with fail
        refine (toSieve_any a0_0 a0_1 A0_2 c0_2 x0_2 _ (X0_2.out.below S41.out) hn0_2).mono ?_
        rintro e W51 ⟨g52, rfl, hgg52, hkg52, hb⟩
        have K53 := hid (OwnS.of_blk hkg52 (B := W40.heap.size) hgg52)
        clear hkg52 hgg52
        have S54 := hid hb
        have S55 := hid (S41.out.trans (S54.out.mono S41.out.size))
        have S56 := hid (S42.out.trans (S54.out.mono S42.out.size))
        clear hb
        clear c43 c44 c45 l46 c47 c48 c49 l50
        have l60 : w.heap.size < W51.heap.size := (B3.out.below S56.out).lt
        obtain ⟨c57, c58, c59⟩ := (B3.out.below S56.out).cells3
        have l64 : w.heap.size + 1 < W51.heap.size := (B4.out.below S56.out).lt
        obtain ⟨c61, c62, c63⟩ := (B4.out.below S56.out).cells3
        go_wp2_with fail
        refine (toSieve_any a1_0 a1_1 A1_2 c1_2 x1_2 _ ((X1_2.out.below S55.out).below (below_a1 _ _)) hn1_2).mono ?_
        rintro e W65 ⟨g66, rfl, hgg66, hkg66, hb⟩
        have K67 := hid (OwnS.of_blk hkg66 (B := W51.heap.size) (Nat.le_trans (below_a1 _ _).size hgg66))
        clear hkg66 hgg66
        have S68 := below_call (below_a1 _ _) hb
        have S69 := hid (S55.out.trans (S68.out.mono S55.out.size))
        have S70 := hid (S56.out.trans (S68.out.mono S56.out.size))
        have S71 := hid (S54.out.trans (S68.out.mono S54.out.size))
        have B72 := hid (Blk.below (Blk.new W51 42 [.int .i64 a0_0, .int .i64 a0_1, .slice (some ⟨g52, 0, none⟩) x0_2.length x0_2.length]) hb)
        clear hb
        clear c57 c58 c59 l60 c61 c62 c63 l64
        have l76 : W51.heap.size < W65.heap.size := B72.out.lt
        obtain ⟨c73, c74, c75⟩ := B72.out.cells3
        go_wp2_with fail
        refine (iMeetSieves_any _ _ _ x0_2.length x0_2 _ _ _ x1_2.length x1_2 _ w0_0 w0_1 (OwnS.rd (OwnS.below (K53.out.below S68.out) (below_a1 _ _))) hn0_2 w1_0 w1_1 (OwnS.rd (OwnS.below K67.out (below_a1 _ _))) hn1_2).mono ?_
        rintro e W77 ⟨Ag0_2, cg0_2, rfl, hog0_2, hlg0_2, hb⟩
        have Og0_2 := hid (OwnS.mono hog0_2 (B' := W65.heap.size) (below_a1 _ _).size)
        clear hog0_2
        have S78 := below_call (below_a1 _ _) hb
        have S79 := hid (S70.out.trans (S78.out.mono S70.out.size))
        have S80 := hid (S68.out.trans (S78.out.mono S68.out.size))
        have S81 := hid (S69.out.trans (S78.out.mono S69.out.size))
        have S82 := hid (S71.out.trans (S78.out.mono S71.out.size))
        have B83 := hid (Blk.below (Blk.new W65 42 [.int .i64 a1_0, .int .i64 a1_1, .slice (some ⟨g66, 0, none⟩) x1_2.length x1_2.length]) hb)
        clear hb
        clear c73 c74 c75 l76
        have l87 : qbw < W77.heap.size := (B38.out.below S82.out).lt
        obtain ⟨c84, c85, c86⟩ := (B38.out.below S82.out).cells3
        go_wp2_with fail
        refine (eqSieve_yes _ _ _ _ _ _ _ _ _ rfl (OwnS.rd (OwnS.below Og0_2.out (below_a1 _ _))) (OwnS.rd (OwnS.below (Ow0_2.out.below S82.out) (below_a1 _ _))) hlg0_2).mono ?_
        rintro e W88 ⟨rfl, hb⟩
        have S89 := below_call (below_a1 _ _) hb
        have S90 := hid (S79.out.trans (S89.out.mono S79.out.size))
        have S91 := hid (S78.out.trans (S89.out.mono S78.out.size))
        have S92 := hid (S80.out.trans (S89.out.mono S80.out.size))
        have S93 := hid (S81.out.trans (S89.out.mono S81.out.size))
        have S94 := hid (S82.out.trans (S89.out.mono S82.out.size))
        have B95 := hid (Blk.below (Blk.new W77 42 [.int .i64 (pMeetSieves a0_0 a0_1 x0_2 a1_0 a1_1 x1_2).1.1, .int .i64 (pMeetSieves a0_0 a0_1 x0_2 a1_0 a1_1 x1_2).1.2.1, .slice Ag0_2 (pMeetSieves a0_0 a0_1 x0_2 a1_0 a1_1 x1_2).1.2.2.length cg0_2]) hb)
        clear hb
        clear c84 c85 c86 l87
        have l99 : W51.heap.size < W88.heap.size := (B72.out.below S91.out).lt
        obtain ⟨c96, c97, c98⟩ := (B72.out.below S91.out).cells3
        have l103 : w.heap.size < W88.heap.size := (B3.out.below S90.out).lt
        obtain ⟨c100, c101, c102⟩ := (B3.out.below S90.out).cells3
        go_wp2_with fail
        have tokA : True := trivial
        have tokB : True := trivial
        go_region_held3 (fun w' => w'.cell? ⟨W51.heap.size, 0, none⟩ = some (.int .i64 a0_0) ∧ w'.cell? ⟨W51.heap.size, 1, none⟩ = some (.int .i64 a0_1) ∧ w'.cell? ⟨W51.heap.size, 2, none⟩ = some (.slice (some ⟨g52, 0, none⟩) x0_2.length x0_2.length) ∧ w'.cell? ⟨w.heap.size, 0, none⟩ = some (.int .i64 a0_0) ∧ w'.cell? ⟨w.heap.size, 1, none⟩ = some (.int .i64 a0_1) ∧ w'.cell? ⟨w.heap.size, 2, none⟩ = some (.slice A0_2 x0_2.length c0_2)) (first | go_keep | exact hS)
          (first
            | (go_at_call 26
               have _t := tokA
               refine (toSieve_any a0_0 a0_1 A0_2 c0_2 x0_2 _ ((X0_2.out.below S93.out).drewN 1) hn0_2).mono ?_
               rintro e W104 ⟨g105, rfl, hgg105, hkg105, hb⟩
               have hb := below_drew' hb
               have K106 := hid (OwnS.of_blk hkg105 (B := W88.heap.size) hgg105)
               clear hkg105 hgg105
               have S107 := hid hb
               have S108 := hid (S90.out.trans (S107.out.mono S90.out.size))
               have S109 := hid (S91.out.trans (S107.out.mono S91.out.size))
               have S110 := hid (S92.out.trans (S107.out.mono S92.out.size))
               have S111 := hid (S89.out.trans (S107.out.mono S89.out.size))
               have S112 := hid (S93.out.trans (S107.out.mono S93.out.size))
               have S113 := hid (S94.out.trans (S107.out.mono S94.out.size))
               clear hb
               clear tokA
               have hS := And.intro (B72.out.below S109.out).cells3 (B3.out.below S108.out).cells3
               simp only [and_assoc] at hS)
            | (go_at_call 29
               have _t := tokB
               refine (eqSieve_yes _ _ _ _ _ _ _ x0_2 _ rfl (OwnS.rd (K53.out.below S110.out)) (OwnS.rd K106.out) hn0_2).mono ?_
               rintro e W114 ⟨rfl, hb⟩
               have S115 := hid hb
               have S116 := hid (S108.out.trans (S115.out.mono S108.out.size))
               have S117 := hid (S109.out.trans (S115.out.mono S109.out.size))
               have S118 := hid (S110.out.trans (S115.out.mono S110.out.size))
               have S119 := hid (S107.out.trans (S115.out.mono S107.out.size))
               have S120 := hid (S111.out.trans (S115.out.mono S111.out.size))
               have S121 := hid (S112.out.trans (S115.out.mono S112.out.size))
               have S122 := hid (S113.out.trans (S115.out.mono S113.out.size))
               clear hb
               clear tokB
               clear hS
               have hS := And.intro (B72.out.below S117.out).cells3 (B3.out.below S116.out).cells3
               simp only [and_assoc] at hS))
        clear hS
        have l126 : W65.heap.size < W114.heap.size := (B83.out.below S120.out).lt
        obtain ⟨c123, c124, c125⟩ := (B83.out.below S120.out).cells3
        have l130 : w.heap.size + 1 < W114.heap.size := (B4.out.below S116.out).lt
        obtain ⟨c127, c128, c129⟩ := (B4.out.below S116.out).cells3
        go_wp2_with fail
        have tokA : True := trivial
        have tokB : True := trivial
        go_region_held3 (fun w' => w'.cell? ⟨W65.heap.size, 0, none⟩ = some (.int .i64 a1_0) ∧ w'.cell? ⟨W65.heap.size, 1, none⟩ = some (.int .i64 a1_1) ∧ w'.cell? ⟨W65.heap.size, 2, none⟩ = some (.slice (some ⟨g66, 0, none⟩) x1_2.length x1_2.length) ∧ w'.cell? ⟨w.heap.size + 1, 0, none⟩ = some (.int .i64 a1_0) ∧ w'.cell? ⟨w.heap.size + 1, 1, none⟩ = some (.int .i64 a1_1) ∧ w'.cell? ⟨w.heap.size + 1, 2, none⟩ = some (.slice A1_2 x1_2.length c1_2)) (first | go_keep | exact hS)
          (first
            | (go_at_call 26
               have _t := tokA
               refine (toSieve_any a1_0 a1_1 A1_2 c1_2 x1_2 _ ((X1_2.out.below S121.out).drewN 1) hn1_2).mono ?_
               rintro e W131 ⟨g132, rfl, hgg132, hkg132, hb⟩
               have hb := below_drew' hb
               have K133 := hid (OwnS.of_blk hkg132 (B := W114.heap.size) hgg132)
               clear hkg132 hgg132
               have S134 := hid hb
               have S135 := hid (S116.out.trans (S134.out.mono S116.out.size))
               have S136 := hid (S117.out.trans (S134.out.mono S117.out.size))
               have S137 := hid (S118.out.trans (S134.out.mono S118.out.size))
               have S138 := hid (S119.out.trans (S134.out.mono S119.out.size))
               have S139 := hid (S120.out.trans (S134.out.mono S120.out.size))
               have S140 := hid (S115.out.trans (S134.out.mono S115.out.size))
               have S141 := hid (S121.out.trans (S134.out.mono S121.out.size))
               have S142 := hid (S122.out.trans (S134.out.mono S122.out.size))
               clear hb
               clear tokA
               have hS := And.intro (B83.out.below S139.out).cells3 (B4.out.below S135.out).cells3
               simp only [and_assoc] at hS)
            | (go_at_call 29
               have _t := tokB
               refine (eqSieve_yes _ _ _ _ _ _ _ x1_2 _ rfl (OwnS.rd (K67.out.below S136.out)) (OwnS.rd K133.out) hn1_2).mono ?_
               rintro e W143 ⟨rfl, hb⟩
               have S144 := hid hb
               have S145 := hid (S135.out.trans (S144.out.mono S135.out.size))
               have S146 := hid (S136.out.trans (S144.out.mono S136.out.size))
               have S147 := hid (S137.out.trans (S144.out.mono S137.out.size))
               have S148 := hid (S138.out.trans (S144.out.mono S138.out.size))
               have S149 := hid (S139.out.trans (S144.out.mono S139.out.size))
               have S150 := hid (S140.out.trans (S144.out.mono S140.out.size))
               have S151 := hid (S141.out.trans (S144.out.mono S141.out.size))
               have S152 := hid (S142.out.trans (S144.out.mono S142.out.size))
               clear hb
               clear tokB
               clear hS
               have hS := And.intro (B83.out.below S149.out).cells3 (B4.out.below S145.out).cells3
               simp only [and_assoc] at hS))
        clear hS
        have hq0 : (0 : Int) ≤ 1 ∧ 1 ≤ 1000000000 := by omega
        have l156 : W51.heap.size < W143.heap.size := (B72.out.below S146.out).lt
        obtain ⟨c153, c154, c155⟩ := (B72.out.below S146.out).cells3
        go_wp2_with fail
        refine (markSieve_any _ _ _ _ w.heap.size _ (1) _ (OwnS.mono (K53.out.below S147.out) (S41.out.size))  hn0_2 (by omega) (by omega) S151.out.size).mono ?_
        rintro e W157 ⟨rfl, hoM158, hbb, ht⟩
        have S159 := hid ((S151.out).trans hbb)
        have T160 := hid (Blk.touchAll (B3.out.below S145.out) ht (fun p hp => by simp only [List.mem_cons, List.not_mem_nil, or_false] at hp; subst hp; exact OwnS.other (K53.out.below S147.out) (B3.out.below S145.out) (by decide)))
        have T161 := hid (Blk.touchAll (B4.out.below S145.out) ht (fun p hp => by simp only [List.mem_cons, List.not_mem_nil, or_false] at hp; subst hp; exact OwnS.other (K53.out.below S147.out) (B4.out.below S145.out) (by decide)))
        have T162 := hid (OwnS.touchAll (Ow0_2.out.below S152.out) ht (fun p hp => by simp only [List.mem_cons, List.not_mem_nil, or_false] at hp; subst hp; exact (Apart.symm (OwnS.apart_lt Ow0_2.out K53.out (Nat.le_refl _)))))
        have T163 := hid (Blk.touchAll (B38.out.below S152.out) ht (fun p hp => by simp only [List.mem_cons, List.not_mem_nil, or_false] at hp; subst hp; exact OwnS.other (K53.out.below S147.out) (B38.out.below S152.out) (by decide)))
        have T164 := hid (Blk.touchAll (B72.out.below S146.out) ht (fun p hp => by simp only [List.mem_cons, List.not_mem_nil, or_false] at hp; subst hp; exact OwnS.other (K53.out.below S147.out) (B72.out.below S146.out) (by decide)))
        have T165 := hid (OwnS.touchAll (K67.out.below S146.out) ht (fun p hp => by simp only [List.mem_cons, List.not_mem_nil, or_false] at hp; subst hp; exact (OwnS.apart_lt K53.out K67.out (Nat.le_refl _))))
        have T166 := hid (Blk.touchAll (B83.out.below S149.out) ht (fun p hp => by simp only [List.mem_cons, List.not_mem_nil, or_false] at hp; subst hp; exact OwnS.other (K53.out.below S147.out) (B83.out.below S149.out) (by decide)))
        have T167 := hid (OwnS.touchAll (Og0_2.out.below S149.out) ht (fun p hp => by simp only [List.mem_cons, List.not_mem_nil, or_false] at hp; subst hp; exact (OwnS.apart_lt K53.out Og0_2.out (S68.out.size))))
        have T168 := hid (Blk.touchAll (B95.out.below S148.out) ht (fun p hp => by simp only [List.mem_cons, List.not_mem_nil, or_false] at hp; subst hp; exact OwnS.other (K53.out.below S147.out) (B95.out.below S148.out) (by decide)))
        have T169 := hid (OwnS.touchAll (K106.out.below S150.out) ht (fun p hp => by simp only [List.mem_cons, List.not_mem_nil, or_false] at hp; subst hp; exact (OwnS.apart_lt K53.out K106.out (S92.out.size))))
        have T170 := hid (OwnS.touchAll (K133.out.below S144.out) ht (fun p hp => by simp only [List.mem_cons, List.not_mem_nil, or_false] at hp; subst hp; exact (OwnS.apart_lt K53.out K133.out (S118.out.size))))
        clear hoM158 hbb ht
        have hq1 : (0 : Int) ≤ 1 + (x0_2.length : Int) ∧ 1 + (x0_2.length : Int) ≤ 1000000000 := by omega
        clear c153 c154 c155 l156
        have l174 : W65.heap.size < W157.heap.size := T166.out.lt
        obtain ⟨c171, c172, c173⟩ := T166.out.cells3
        go_wp2_with fail
        refine (markSieve_any _ _ _ _ w.heap.size _ (1 + (x0_2.length : Int)) _ (OwnS.mono T165.out (S55.out.size))  hn1_2 (by omega) (by omega) S159.out.size).mono ?_
        rintro e W175 ⟨rfl, hoM176, hbb, ht⟩
        have S177 := hid ((S159.out).trans hbb)
        have T178 := hid (Blk.touchAll T160.out ht (fun p hp => by simp only [List.mem_cons, List.not_mem_nil, or_false] at hp; subst hp; exact OwnS.other T165.out T160.out (by decide)))
        have T179 := hid (Blk.touchAll T161.out ht (fun p hp => by simp only [List.mem_cons, List.not_mem_nil, or_false] at hp; subst hp; exact OwnS.other T165.out T161.out (by decide)))
        have T180 := hid (OwnS.touchAll T162.out ht (fun p hp => by simp only [List.mem_cons, List.not_mem_nil, or_false] at hp; subst hp; exact (Apart.symm (OwnS.apart_lt Ow0_2.out K67.out (S54.out.size)))))
        have T181 := hid (Blk.touchAll T163.out ht (fun p hp => by simp only [List.mem_cons, List.not_mem_nil, or_false] at hp; subst hp; exact OwnS.other T165.out T163.out (by decide)))
        have T182 := hid (Blk.touchAll T164.out ht (fun p hp => by simp only [List.mem_cons, List.not_mem_nil, or_false] at hp; subst hp; exact OwnS.other T165.out T164.out (by decide)))
        have T183 := hid (Blk.touchAll T166.out ht (fun p hp => by simp only [List.mem_cons, List.not_mem_nil, or_false] at hp; subst hp; exact OwnS.other T165.out T166.out (by decide)))
        have T184 := hid (OwnS.touchAll T167.out ht (fun p hp => by simp only [List.mem_cons, List.not_mem_nil, or_false] at hp; subst hp; exact (OwnS.apart_lt K67.out Og0_2.out (Nat.le_refl _))))
        have T185 := hid (Blk.touchAll T168.out ht (fun p hp => by simp only [List.mem_cons, List.not_mem_nil, or_false] at hp; subst hp; exact OwnS.other T165.out T168.out (by decide)))
        have T186 := hid (OwnS.touchAll T169.out ht (fun p hp => by simp only [List.mem_cons, List.not_mem_nil, or_false] at hp; subst hp; exact (OwnS.apart_lt K67.out K106.out (S91.out.size))))
        have T187 := hid (OwnS.touchAll T170.out ht (fun p hp => by simp only [List.mem_cons, List.not_mem_nil, or_false] at hp; subst hp; exact (OwnS.apart_lt K67.out K133.out (S117.out.size))))
        clear hoM176 hbb ht
        have hqk : (0 : Int) ≤ 1 + (x0_2.length : Int) + (x1_2.length : Int) := by omega
        clear c171 c172 c173 l174
        have l191 : W77.heap.size < W175.heap.size := T185.out.lt
        obtain ⟨c188, c189, c190⟩ := T185.out.cells3
        have l195 : qbw < W175.heap.size := T181.out.lt
        obtain ⟨c192, c193, c194⟩ := T181.out.cells3
        go_wp2_with fail
        refine (eqSieve_yes _ _ _ _ _ _ _ _ _ rfl (OwnS.rd T184.out) (OwnS.rd T180.out) hlg0_2).mono ?_
        rintro e W196 ⟨rfl, hb⟩
        have S197 := hid hb
        have S198 := hid (S177.out.trans (S197.out.mono S177.out.size))
        clear hb
        clear c188 c189 c190 l191 c192 c193 c194 l195
        have l202 : W77.heap.size < W196.heap.size := (T185.out.below S197.out).lt
        obtain ⟨c199, c200, c201⟩ := (T185.out.below S197.out).cells3
        go_wp2_with fail
        refine (markSieve_any _ _ _ _ w.heap.size _ (1) _ (OwnS.mono (T184.out.below S197.out) (S69.out.size))  hlg0_2 (by omega) (by omega) S198.out.size).mono ?_
        rintro e W203 ⟨rfl, hoM204, hbb, ht⟩
        have S205 := hid ((S198.out).trans hbb)
        have T206 := hid (Blk.touchAll (T178.out.below S197.out) ht (fun p hp => by simp only [List.mem_cons, List.not_mem_nil, or_false] at hp; subst hp; exact OwnS.other (T184.out.below S197.out) (T178.out.below S197.out) (by decide)))
        have T207 := hid (Blk.touchAll (T179.out.below S197.out) ht (fun p hp => by simp only [List.mem_cons, List.not_mem_nil, or_false] at hp; subst hp; exact OwnS.other (T184.out.below S197.out) (T179.out.below S197.out) (by decide)))
        have T208 := hid (OwnS.touchAll (T180.out.below S197.out) ht (fun p hp => by simp only [List.mem_cons, List.not_mem_nil, or_false] at hp; subst hp; exact (Apart.symm (OwnS.apart_lt Ow0_2.out Og0_2.out (S71.out.size)))))
        have T209 := hid (Blk.touchAll (T181.out.below S197.out) ht (fun p hp => by simp only [List.mem_cons, List.not_mem_nil, or_false] at hp; subst hp; exact OwnS.other (T184.out.below S197.out) (T181.out.below S197.out) (by decide)))
        have T210 := hid (Blk.touchAll (T182.out.below S197.out) ht (fun p hp => by simp only [List.mem_cons, List.not_mem_nil, or_false] at hp; subst hp; exact OwnS.other (T184.out.below S197.out) (T182.out.below S197.out) (by decide)))
        have T211 := hid (Blk.touchAll (T183.out.below S197.out) ht (fun p hp => by simp only [List.mem_cons, List.not_mem_nil, or_false] at hp; subst hp; exact OwnS.other (T184.out.below S197.out) (T183.out.below S197.out) (by decide)))
        have T212 := hid (Blk.touchAll (T185.out.below S197.out) ht (fun p hp => by simp only [List.mem_cons, List.not_mem_nil, or_false] at hp; subst hp; exact OwnS.other (T184.out.below S197.out) (T185.out.below S197.out) (by decide)))
        have T213 := hid (OwnS.touchAll (T186.out.below S197.out) ht (fun p hp => by simp only [List.mem_cons, List.not_mem_nil, or_false] at hp; subst hp; exact (OwnS.apart_lt Og0_2.out K106.out (S89.out.size))))
        have T214 := hid (OwnS.touchAll (T187.out.below S197.out) ht (fun p hp => by simp only [List.mem_cons, List.not_mem_nil, or_false] at hp; subst hp; exact (OwnS.apart_lt Og0_2.out K133.out (S120.out.size))))
        have M204 := hid hoM204
        clear hoM204 hbb ht
        have hqm : (0 : Int) ≤ 1 + ((pMeetSieves a0_0 a0_1 x0_2 a1_0 a1_1 x1_2).1.2.2.length : Int) := by omega
        clear c199 c200 c201 l202
        have l218 : W77.heap.size < W203.heap.size := T212.out.lt
        obtain ⟨c215, c216, c217⟩ := T212.out.cells3
        go_wp2_with fail
        refine (heldSieve_yes _ _ _ _ _ (1) _ (OwnS.rd M204.out) hlg0_2 (by omega) (by omega)).mono ?_
        rintro e W219 ⟨rfl, hb⟩
        have S220 := hid hb
        have S221 := hid (S205.out.trans (S220.out.mono S205.out.size))
        clear hb
        clear c215 c216 c217 l218
        have l225 : w.heap.size < W219.heap.size := (T206.out.below S220.out).lt
        obtain ⟨c222, c223, c224⟩ := (T206.out.below S220.out).cells3
        have l229 : w.heap.size + 1 < W219.heap.size := (T207.out.below S220.out).lt
        obtain ⟨c226, c227, c228⟩ := (T207.out.below S220.out).cells3
        go_wp2_with fail
        go_cut [15, 16] from 94 to 101 (fun vq v16 wx => ∃ (qb : Nat) (Ah0_2 : Option Addr) (ch0_2 : Nat), vq = .pointer (some ⟨qb, 0, none⟩) ∧ v16 = .bool (pMeetSieves a0_0 a0_1 x0_2 a1_0 a1_1 x1_2).2 ∧ Hid (Blk wx qb 42 [.int .i64 (pMeetSieves a0_0 a0_1 x0_2 a1_0 a1_1 x1_2).1.1, .int .i64 (pMeetSieves a0_0 a0_1 x0_2 a1_0 a1_1 x1_2).1.2.1, .slice Ah0_2 (pMeetSieves a0_0 a0_1 x0_2 a1_0 a1_1 x1_2).1.2.2.length ch0_2]) ∧ Hid (OwnS Value.bool wx W219.heap.size 4 Ah0_2 (pMeetSieves a0_0 a0_1 x0_2 a1_0 a1_1 x1_2).1.2.2) ∧ (pMeetSieves a0_0 a0_1 x0_2 a1_0 a1_1 x1_2).1.2.2.length ≤ 1048576 ∧ Hid (Below W219.heap.size W219 wx))
        case first =>
          have H0 := hid (Below.refl W219.heap.size W219)
          have tok0 : True := trivial
          have tok1 : True := trivial
          have tokX : True := trivial
          go_region_held3 (fun w' => w'.cell? ⟨w.heap.size, 0, none⟩ = some (.int .i64 a0_0) ∧ w'.cell? ⟨w.heap.size, 1, none⟩ = some (.int .i64 a0_1) ∧ w'.cell? ⟨w.heap.size, 2, none⟩ = some (.slice A0_2 x0_2.length c0_2) ∧ w'.cell? ⟨w.heap.size + 1, 0, none⟩ = some (.int .i64 a1_0) ∧ w'.cell? ⟨w.heap.size + 1, 1, none⟩ = some (.int .i64 a1_1) ∧ w'.cell? ⟨w.heap.size + 1, 2, none⟩ = some (.slice A1_2 x1_2.length c1_2)) (first | go_keep | exact hS)
            (first
              | (go_at_call 26
                 have _t := tok0
                 refine (toSieve_any a0_0 a0_1 A0_2 c0_2 x0_2 _ (RdL.below (X0_2.out.below S221.out) (by repeat first | with_reducible exact Below.refl _ _ | (refine Hid.out ?_; assumption) | refine below_drewN ?_ _ | refine below_drew1 ?_ | refine below_alloc_ ?_ _)) hn0_2).mono ?_
                 rintro e W230 ⟨g231, rfl, hgg231, hkg231, hb⟩
                 have H232 : Hid (Below W219.heap.size W219 W230) := below_next (by repeat first | with_reducible exact Below.refl _ _ | (refine Hid.out ?_; assumption) | refine below_drewN ?_ _ | refine below_drew1 ?_ | refine below_alloc_ ?_ _) hb
                 first
                   | (have hQ := hid (Blk.below (Blk.new W219 42 [.int .i64 0, .int .i64 0, .slice none 0 0]) (below_drew'' hb))
                      have hQge : W219.heap.size ≤ W219.heap.size := Below.size (by repeat first | with_reducible exact Below.refl _ _ | (refine Hid.out ?_; assumption) | refine below_drewN ?_ _ | refine below_drew1 ?_ | refine below_alloc_ ?_ _)
                      have hqm0 : w.heap.size ≠ W219.heap.size := by have := Blk.lt (T206.out.below S220.out); omega
                      have hqn0 := Ne.symm hqm0
                      have hqm1 : w.heap.size + 1 ≠ W219.heap.size := by have := Blk.lt (T207.out.below S220.out); omega
                      have hqn1 := Ne.symm hqm1)
                   | (have hQ := hid (Blk.below (Blk.new W219 42 [.int .i64 0, .int .i64 0, .slice none 0 0]) (below_drew' hb))
                      have hQge : W219.heap.size ≤ W219.heap.size := Below.size (by repeat first | with_reducible exact Below.refl _ _ | (refine Hid.out ?_; assumption) | refine below_drewN ?_ _ | refine below_drew1 ?_ | refine below_alloc_ ?_ _)
                      have hqm0 : w.heap.size ≠ W219.heap.size := by have := Blk.lt (T206.out.below S220.out); omega
                      have hqn0 := Ne.symm hqm0
                      have hqm1 : w.heap.size + 1 ≠ W219.heap.size := by have := Blk.lt (T207.out.below S220.out); omega
                      have hqn1 := Ne.symm hqm1)
                   | (have hQ := hid (Blk.below (Blk.new W219 42 [.int .i64 0, .int .i64 0, .slice none 0 0]) hb)
                      have hQge : W219.heap.size ≤ W219.heap.size := Below.size (by repeat first | with_reducible exact Below.refl _ _ | (refine Hid.out ?_; assumption) | refine below_drewN ?_ _ | refine below_drew1 ?_ | refine below_alloc_ ?_ _)
                      have hqm0 : w.heap.size ≠ W219.heap.size := by have := Blk.lt (T206.out.below S220.out); omega
                      have hqn0 := Ne.symm hqm0
                      have hqm1 : w.heap.size + 1 ≠ W219.heap.size := by have := Blk.lt (T207.out.below S220.out); omega
                      have hqn1 := Ne.symm hqm1)
                   | skip
                 have K233 := hid (OwnS.of_blk hkg231 (B := 0) (Nat.zero_le _))
                 clear hkg231 hgg231
                 clear tok0
                 have hS := And.intro (Blk.below (T206.out.below S220.out) H232.out).cells3 ((Blk.below (T207.out.below S220.out) H232.out).cells3)
                 simp only [and_assoc] at hS)
              | (go_at_call 26
                 have _t := tok1
                 refine (toSieve_any a1_0 a1_1 A1_2 c1_2 x1_2 _ (RdL.below (X1_2.out.below S221.out) (by repeat first | with_reducible exact Below.refl _ _ | (refine Hid.out ?_; assumption) | refine below_drewN ?_ _ | refine below_drew1 ?_ | refine below_alloc_ ?_ _)) hn1_2).mono ?_
                 rintro e W234 ⟨g235, rfl, hgg235, hkg235, hb⟩
                 have H236 : Hid (Below W219.heap.size W219 W234) := below_next (by repeat first | with_reducible exact Below.refl _ _ | (refine Hid.out ?_; assumption) | refine below_drewN ?_ _ | refine below_drew1 ?_ | refine below_alloc_ ?_ _) hb
                 have H237 : Hid (Below W230.heap.size W230 W234) := below_next (by repeat first | with_reducible exact Below.refl _ _ | (refine Hid.out ?_; assumption) | refine below_drewN ?_ _ | refine below_drew1 ?_ | refine below_alloc_ ?_ _) hb
                 first
                   | (have hQ := hid (Blk.below hQ.out (Hid.out (below_next (B := W230.heap.size) (W := W230) (by repeat first | with_reducible exact Below.refl _ _ | (refine Hid.out ?_; assumption) | refine below_drewN ?_ _ | refine below_drew1 ?_ | refine below_alloc_ ?_ _) hb)))
                      have hQge := hQge)
                   | (have hQ := hid (Blk.below (Blk.new W230 42 [.int .i64 0, .int .i64 0, .slice none 0 0]) (below_drew'' hb))
                      have hQge : W219.heap.size ≤ W230.heap.size := Below.size (by repeat first | with_reducible exact Below.refl _ _ | (refine Hid.out ?_; assumption) | refine below_drewN ?_ _ | refine below_drew1 ?_ | refine below_alloc_ ?_ _)
                      have hqm0 : w.heap.size ≠ W230.heap.size := by have := Blk.lt (T206.out.below S220.out); omega
                      have hqn0 := Ne.symm hqm0
                      have hqm1 : w.heap.size + 1 ≠ W230.heap.size := by have := Blk.lt (T207.out.below S220.out); omega
                      have hqn1 := Ne.symm hqm1)
                   | (have hQ := hid (Blk.below (Blk.new W230 42 [.int .i64 0, .int .i64 0, .slice none 0 0]) (below_drew' hb))
                      have hQge : W219.heap.size ≤ W230.heap.size := Below.size (by repeat first | with_reducible exact Below.refl _ _ | (refine Hid.out ?_; assumption) | refine below_drewN ?_ _ | refine below_drew1 ?_ | refine below_alloc_ ?_ _)
                      have hqm0 : w.heap.size ≠ W230.heap.size := by have := Blk.lt (T206.out.below S220.out); omega
                      have hqn0 := Ne.symm hqm0
                      have hqm1 : w.heap.size + 1 ≠ W230.heap.size := by have := Blk.lt (T207.out.below S220.out); omega
                      have hqn1 := Ne.symm hqm1)
                   | (have hQ := hid (Blk.below (Blk.new W230 42 [.int .i64 0, .int .i64 0, .slice none 0 0]) hb)
                      have hQge : W219.heap.size ≤ W230.heap.size := Below.size (by repeat first | with_reducible exact Below.refl _ _ | (refine Hid.out ?_; assumption) | refine below_drewN ?_ _ | refine below_drew1 ?_ | refine below_alloc_ ?_ _)
                      have hqm0 : w.heap.size ≠ W230.heap.size := by have := Blk.lt (T206.out.below S220.out); omega
                      have hqn0 := Ne.symm hqm0
                      have hqm1 : w.heap.size + 1 ≠ W230.heap.size := by have := Blk.lt (T207.out.below S220.out); omega
                      have hqn1 := Ne.symm hqm1)
                   | skip
                 have K238 := hid (OwnS.of_blk hkg235 (B := 0) (Nat.zero_le _))
                 clear hkg235 hgg235
                 clear tok1
                 have hS := And.intro (Blk.below (T206.out.below S220.out) H236.out).cells3 ((Blk.below (T207.out.below S220.out) H236.out).cells3)
                 simp only [and_assoc] at hS)
              | (go_at_call 35
                 have _t := tokX
                 refine (iMeetSieves_any _ _ _ x0_2.length x0_2 _ _ _ x1_2.length x1_2 _ w0_0 w0_1 (OwnS.rd (OwnS.below K233.out (by repeat first | with_reducible exact Below.refl _ _ | (refine Hid.out ?_; assumption) | refine below_drewN ?_ _ | refine below_drew1 ?_ | refine below_alloc_ ?_ _))) hn0_2 w1_0 w1_1 (OwnS.rd (OwnS.below K238.out (by repeat first | with_reducible exact Below.refl _ _ | (refine Hid.out ?_; assumption) | refine below_drewN ?_ _ | refine below_drew1 ?_ | refine below_alloc_ ?_ _))) hn1_2).mono ?_
                 rintro e W239 ⟨Ah0_2, ch0_2, rfl, ho2, hl2, hb⟩
                 have H240 : Hid (Below W219.heap.size W219 W239) := below_next (by repeat first | with_reducible exact Below.refl _ _ | (refine Hid.out ?_; assumption) | refine below_drewN ?_ _ | refine below_drew1 ?_ | refine below_alloc_ ?_ _) hb
                 have H241 : Hid (Below W230.heap.size W230 W239) := below_next (by repeat first | with_reducible exact Below.refl _ _ | (refine Hid.out ?_; assumption) | refine below_drewN ?_ _ | refine below_drew1 ?_ | refine below_alloc_ ?_ _) hb
                 have H242 : Hid (Below W234.heap.size W234 W239) := below_next (by repeat first | with_reducible exact Below.refl _ _ | (refine Hid.out ?_; assumption) | refine below_drewN ?_ _ | refine below_drew1 ?_ | refine below_alloc_ ?_ _) hb
                 have ho2 := hid (OwnS.mono ho2 (B' := W219.heap.size) (Below.size (by repeat first | with_reducible exact Below.refl _ _ | (refine Hid.out ?_; assumption) | refine below_drewN ?_ _ | refine below_drew1 ?_ | refine below_alloc_ ?_ _)))
                 first
                   | (have hQ := hid (Blk.below hQ.out (Hid.out (below_next (B := W234.heap.size) (W := W234) (by repeat first | with_reducible exact Below.refl _ _ | (refine Hid.out ?_; assumption) | refine below_drewN ?_ _ | refine below_drew1 ?_ | refine below_alloc_ ?_ _) hb)))
                      have hQge := hQge)
                   | (have hQ := hid (Blk.below (Blk.new W234 42 [.int .i64 0, .int .i64 0, .slice none 0 0]) (below_drew'' hb))
                      have hQge : W219.heap.size ≤ W234.heap.size := Below.size (by repeat first | with_reducible exact Below.refl _ _ | (refine Hid.out ?_; assumption) | refine below_drewN ?_ _ | refine below_drew1 ?_ | refine below_alloc_ ?_ _)
                      have hqm0 : w.heap.size ≠ W234.heap.size := by have := Blk.lt (T206.out.below S220.out); omega
                      have hqn0 := Ne.symm hqm0
                      have hqm1 : w.heap.size + 1 ≠ W234.heap.size := by have := Blk.lt (T207.out.below S220.out); omega
                      have hqn1 := Ne.symm hqm1)
                   | (have hQ := hid (Blk.below (Blk.new W234 42 [.int .i64 0, .int .i64 0, .slice none 0 0]) (below_drew' hb))
                      have hQge : W219.heap.size ≤ W234.heap.size := Below.size (by repeat first | with_reducible exact Below.refl _ _ | (refine Hid.out ?_; assumption) | refine below_drewN ?_ _ | refine below_drew1 ?_ | refine below_alloc_ ?_ _)
                      have hqm0 : w.heap.size ≠ W234.heap.size := by have := Blk.lt (T206.out.below S220.out); omega
                      have hqn0 := Ne.symm hqm0
                      have hqm1 : w.heap.size + 1 ≠ W234.heap.size := by have := Blk.lt (T207.out.below S220.out); omega
                      have hqn1 := Ne.symm hqm1)
                   | (have hQ := hid (Blk.below (Blk.new W234 42 [.int .i64 0, .int .i64 0, .slice none 0 0]) hb)
                      have hQge : W219.heap.size ≤ W234.heap.size := Below.size (by repeat first | with_reducible exact Below.refl _ _ | (refine Hid.out ?_; assumption) | refine below_drewN ?_ _ | refine below_drew1 ?_ | refine below_alloc_ ?_ _)
                      have hqm0 : w.heap.size ≠ W234.heap.size := by have := Blk.lt (T206.out.below S220.out); omega
                      have hqn0 := Ne.symm hqm0
                      have hqm1 : w.heap.size + 1 ≠ W234.heap.size := by have := Blk.lt (T207.out.below S220.out); omega
                      have hqn1 := Ne.symm hqm1)
                   | skip
                 have HX := H240
                 first
                   | (obtain ⟨q0, q1, q2⟩ := hQ.out.cells3
                      have qf0 := hQ.out.frozen 0
                      have qf1 := hQ.out.frozen 1
                      have qf2 := hQ.out.frozen 2)
                   | skip
                 clear hb
                 clear tokX
                 have hS := And.intro (Blk.below (T206.out.below S220.out) H240.out).cells3 ((Blk.below (T207.out.below S220.out) H240.out).cells3)
                 simp only [and_assoc] at hS))
          all_goals
            first
            | (have hql := hQ.out.lt
               go_wp2_with fail
               go_meet
               exact ⟨_, _, _, rfl, rfl, hid (Blk.set_ (Blk.set_ (Blk.set_ hQ.out 0 _) 1 _) 2 _), hid (OwnS.setOther (OwnS.setOther (OwnS.setOther ho2.out hQ.out (by decide) 0 _) (Blk.set_ hQ.out 0 _) (by decide) 1 _) (Blk.set_ (Blk.set_ hQ.out 0 _) 1 _) (by decide) 2 _), hl2, hid (Below.setCell (Below.setCell (Below.setCell HX.out hQge _) hQge _) hQge _)⟩)
            | (go_wp2_with fail
               go_meet
               exact ⟨_, _, _, rfl, rfl, hid (Blk.new _ _ _), hid (OwnS.below ho2.out (below_a1 _ _)), hl2, hid (below_alloc_ HX.out _)⟩)
        case rest =>
          obtain ⟨qbh, Ah0_2, ch0_2, rfl, rfl, B244, Oh0_2, hlh0_2, S245⟩ := hcut
          obtain ⟨W246, hWx⟩ : ∃ W246, W246 = wc := ⟨_, rfl⟩
          subst hWx
          have S247 := hid (S221.out.trans (S245.out.mono S221.out.size))
          have S248 := hid (S220.out.trans (S245.out.mono S220.out.size))
          have l252 : qbh < W246.heap.size := B244.out.lt
          obtain ⟨c249, c250, c251⟩ := B244.out.cells3
          have l256 : qbw < W246.heap.size := (T209.out.below S248.out).lt
          obtain ⟨c253, c254, c255⟩ := (T209.out.below S248.out).cells3
          go_wp2_with fail
          refine (eqSieve_yes _ _ _ _ _ _ _ _ _ rfl (OwnS.rd Oh0_2.out) (OwnS.rd (T208.out.below S248.out)) hlh0_2).mono ?_
          rintro e W257 ⟨rfl, hb⟩
          have S258 := hid hb
          have S259 := hid (S247.out.trans (S258.out.mono S247.out.size))
          have S260 := hid (S248.out.trans (S258.out.mono S248.out.size))
          clear hb
          clear c249 c250 c251 l252 c253 c254 c255 l256
          have l264 : W77.heap.size < W257.heap.size := (T212.out.below S260.out).lt
          obtain ⟨c261, c262, c263⟩ := (T212.out.below S260.out).cells3
          go_wp2_with fail
          refine (heldSieve_yes _ _ _ _ _ (1) _ (OwnS.rd (M204.out.below S260.out)) hlg0_2 (by omega) (by omega)).mono ?_
          rintro e W265 ⟨rfl, hb⟩
          have S266 := hid hb
          have S267 := hid (S259.out.trans (S266.out.mono S259.out.size))
          have S268 := hid (S258.out.trans (S266.out.mono S258.out.size))
          have S269 := hid (S260.out.trans (S266.out.mono S260.out.size))
          clear hb
          clear c261 c262 c263 l264
          go_wp2
          go_ret
          exact ⟨rfl, S267.out⟩
    · skip
      have hp0 : 0 ≤ 1048576 - ((x0_2.length : Int)) := by omega
      go_enter Try.func7, Try.ntmps7
      have Z := hid (Below.refl w.heap.size w)
      go_wp2_with fail
      refine (szSieve_yes _ _ _ _ _ _ _ (by omega) (by omega) (by omega)).mono ?_
      rintro e W1 ⟨rfl, hb⟩
      have S2 := below_call (below_a2 _ _ _) hb
      have B3 := hid (Blk.below (Blk.alloc (Blk.new w 37 [.int .i64 a0_0, .int .i64 a0_1, .slice A0_2 x0_2.length c0_2]) _) hb)
      have B4 := hid (Blk.below (Blk.new2 w _ 37 [.int .i64 a1_0, .int .i64 a1_1, .slice A1_2 x1_2.length c1_2]) hb)
      clear hb
      have l8 : w.heap.size < W1.heap.size := B3.out.lt
      obtain ⟨c5, c6, c7⟩ := B3.out.cells3
      have l12 : w.heap.size + 1 < W1.heap.size := B4.out.lt
      obtain ⟨c9, c10, c11⟩ := B4.out.cells3
      go_wp2_with fail
      refine (szSieve_no _ _ _ _ _ _ _ (by omega) (by omega) hm1_2 (by omega)).mono ?_
      rintro e W13 ⟨rfl, hb⟩
      have S14 := hid hb
      have S15 := hid (S2.out.trans (S14.out.mono S2.out.size))
      clear hb
      go_wp2_with fail
      go_ret
      exact ⟨rfl, S15.out⟩
  · skip
    go_enter Try.func7, Try.ntmps7
    have Z := hid (Below.refl w.heap.size w)
    go_wp2_with fail
    refine (szSieve_no _ _ _ _ _ _ _ (by omega) (by omega) hm0_2 (by omega)).mono ?_
    rintro e W1 ⟨rfl, hb⟩
    have S2 := below_call (below_a2 _ _ _) hb
    have B3 := hid (Blk.below (Blk.alloc (Blk.new w 37 [.int .i64 a0_0, .int .i64 a0_1, .slice A0_2 x0_2.length c0_2]) _) hb)
    have B4 := hid (Blk.below (Blk.new2 w _ 37 [.int .i64 a1_0, .int .i64 a1_1, .slice A1_2 x1_2.length c1_2]) hb)
    clear hb
    go_wp2_with fail
    go_ret
    exact ⟨rfl, S2.out⟩

end Go.Proofs.Ytlcpchpodcchlaa
