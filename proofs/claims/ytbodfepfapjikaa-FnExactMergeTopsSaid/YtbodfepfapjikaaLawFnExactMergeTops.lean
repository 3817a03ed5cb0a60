/-
  FnExactMergeTops: the walk of the law, out of the contracts of spec.MergeTops and impl.MergeTops. Printed by gen_law.py.
-/
import Derived.Test.YtbodfepfapjikaaStTops
import Derived.Test.YtbodfepfapjikaaMTops
import Derived.Test.YtbodfepfapjikaaOpen
namespace Go.Proofs.Ytbodfepfapjikaa
open Go.RowKit
set_option linter.unusedVariables false

set_option maxHeartbeats 1600000 in
theorem FnExactMergeTops_any (a0_0 : Int) (A0_1 : Option Addr) (c0_1 : Nat) (x0_1 : List Int) (A0_2 : Option Addr) (c0_2 : Nat) (x0_2 : List Int) (A0_3 : Option Addr) (c0_3 : Nat) (x0_3 : List Int) (a1_0 : Int) (A1_1 : Option Addr) (c1_1 : Nat) (x1_1 : List Int) (A1_2 : Option Addr) (c1_2 : Nat) (x1_2 : List Int) (A1_3 : Option Addr) (c1_3 : Nat) (x1_3 : List Int) (w : World) (w0_0 : W64 a0_0) (hx0_1 : RdL (Value.int .i64) w A0_1 x0_1) (hm0_1 : x0_1.length ≤ 9223372036854775807) (we0_1 : ∀ y ∈ x0_1, W64 y) (hx0_2 : RdL (Value.int .i64) w A0_2 x0_2) (hm0_2 : x0_2.length ≤ 9223372036854775807) (we0_2 : ∀ y ∈ x0_2, W64 y) (hx0_3 : RdL (Value.int .i64) w A0_3 x0_3) (hm0_3 : x0_3.length ≤ 9223372036854775807) (we0_3 : ∀ y ∈ x0_3, W64 y) (w1_0 : W64 a1_0) (hx1_1 : RdL (Value.int .i64) w A1_1 x1_1) (hm1_1 : x1_1.length ≤ 9223372036854775807) (we1_1 : ∀ y ∈ x1_1, W64 y) (hx1_2 : RdL (Value.int .i64) w A1_2 x1_2) (hm1_2 : x1_2.length ≤ 9223372036854775807) (we1_2 : ∀ y ∈ x1_2, W64 y) (hx1_3 : RdL (Value.int .i64) w A1_3 x1_3) (hm1_3 : x1_3.length ≤ 9223372036854775807) (we1_3 : ∀ y ∈ x1_3, W64 y) :
    Calls Try.prog 10 #[.agg #[.int .i64 a0_0, .slice A0_1 x0_1.length c0_1, .slice A0_2 x0_2.length c0_2, .slice A0_3 x0_3.length c0_3], .agg #[.int .i64 a1_0, .slice A1_1 x1_1.length c1_1, .slice A1_2 x1_2.length c1_2, .slice A1_3 x1_3.length c1_3]] w fun e w' => e = .returned (.bool true) ∧ Below w.heap.size w w' := by
  have X0_1 := hid hx0_1
  have X0_2 := hid hx0_2
  have X0_3 := hid hx0_3
  have X1_1 := hid hx1_1
  have X1_2 := hid hx1_2
  have X1_3 := hid hx1_3
  clear hx0_1 hx0_2 hx0_3 hx1_1 hx1_2 hx1_3
  by_cases hn0 : (x0_1.length : Int) + (x0_2.length : Int) + (x0_3.length : Int) ≤ 1048576
  · skip
    by_cases hn1 : (x1_1.length : Int) + (x1_2.length : Int) + (x1_3.length : Int) ≤ 1048576 - ((x0_1.length : Int) + (x0_2.length : Int) + (x0_3.length : Int))
    · skip
      have hn0_1 : x0_1.length ≤ 1048576 := by omega
      have hn0_2 : x0_2.length ≤ 1048576 := by omega
      have hn0_3 : x0_3.length ≤ 1048576 := by omega
      have hn1_1 : x1_1.length ≤ 1048576 := by omega
      have hn1_2 : x1_2.length ≤ 1048576 := by omega
      have hn1_3 : x1_3.length ≤ 1048576 := by omega
      go_enter Try.func10, Try.ntmps10
      have Z := hid (Below.refl w.heap.size w)
      have hp0 : 0 ≤ 1048576 - ((x0_1.length : Int) + (x0_2.length : Int) + (x0_3.length : Int)) := by omega
      have hp1 : 0 ≤ 1048576 - ((x0_1.length : Int) + (x0_2.length : Int) + (x0_3.length : Int)) - ((x1_1.length : Int) + (x1_2.length : Int) + (x1_3.length : Int)) := by omega
      go_wp2_with fail
      refine (szTops_yes _ _ _ _ _ _ _ _ _ _ _ _ (by omega) (by omega) (by omega)).mono ?_
      rintro e W1 ⟨rfl, hb⟩
      have S2 := below_call (below_a2 _ _ _) hb
      have B3 := hid (Blk.below (Blk.alloc (Blk.new w 30 [.int .i64 a0_0, .slice A0_1 x0_1.length c0_1, .slice A0_2 x0_2.length c0_2, .slice A0_3 x0_3.length c0_3]) _) hb)
      have B4 := hid (Blk.below (Blk.new2 w _ 30 [.int .i64 a1_0, .slice A1_1 x1_1.length c1_1, .slice A1_2 x1_2.length c1_2, .slice A1_3 x1_3.length c1_3]) hb)
      clear hb
      have l9 : w.heap.size < W1.heap.size := B3.out.lt
      obtain ⟨c5, c6, c7, c8⟩ := B3.out.cells4
      have l14 : w.heap.size + 1 < W1.heap.size := B4.out.lt
      obtain ⟨c10, c11, c12, c13⟩ := B4.out.cells4
      go_wp2_with fail
      refine (szTops_yes _ _ _ _ _ _ _ _ _ _ _ _ (by omega) (by omega) (by omega)).mono ?_
      rintro e W15 ⟨rfl, hb⟩
      have S16 := hid hb
      have S17 := hid (S2.out.trans (S16.out.mono S2.out.size))
      clear hb
      clear c5 c6 c7 c8 l9 c10 c11 c12 c13 l14
      have l22 : w.heap.size < W15.heap.size := (B3.out.below S16.out).lt
      obtain ⟨c18, c19, c20, c21⟩ := (B3.out.below S16.out).cells4
      have l27 : w.heap.size + 1 < W15.heap.size := (B4.out.below S16.out).lt
      obtain ⟨c23, c24, c25, c26⟩ := (B4.out.below S16.out).cells4
      go_wp2_with fail
      go_cut [6, 7] from 27 to 34 (fun vq v7 wx => ∃ (qb : Nat) (Aw0_1 Aw0_2 Aw0_3 : Option Addr) (cw0_1 cw0_2 cw0_3 : Nat), vq = .pointer (some ⟨qb, 0, none⟩) ∧ v7 = .bool (pMergeTops a0_0 x0_1 x0_2 x0_3 a1_0 x1_1 x1_2 x1_3).2 ∧ Hid (Blk wx qb 33 [.int .i64 (pMergeTops a0_0 x0_1 x0_2 x0_3 a1_0 x1_1 x1_2 x1_3).1.1, .slice Aw0_1 (pMergeTops a0_0 x0_1 x0_2 x0_3 a1_0 x1_1 x1_2 x1_3).1.2.1.length cw0_1, .slice Aw0_2 (pMergeTops a0_0 x0_1 x0_2 x0_3 a1_0 x1_1 x1_2 x1_3).1.2.2.1.length cw0_2, .slice Aw0_3 (pMergeTops a0_0 x0_1 x0_2 x0_3 a1_0 x1_1 x1_2 x1_3).1.2.2.2.length cw0_3]) ∧ Hid (OwnS (Value.int .i64) wx W15.heap.size 2 Aw0_1 (pMergeTops a0_0 x0_1 x0_2 x0_3 a1_0 x1_1 x1_2 x1_3).1.2.1) ∧ Hid (OwnS (Value.int .i64) wx W15.heap.size 2 Aw0_2 (pMergeTops a0_0 x0_1 x0_2 x0_3 a1_0 x1_1 x1_2 x1_3).1.2.2.1) ∧ Hid (OwnS (Value.int .i64) wx W15.heap.size 2 Aw0_3 (pMergeTops a0_0 x0_1 x0_2 x0_3 a1_0 x1_1 x1_2 x1_3).1.2.2.2) ∧ (pMergeTops a0_0 x0_1 x0_2 x0_3 a1_0 x1_1 x1_2 x1_3).1.2.1.length ≤ 1048576 ∧ (pMergeTops a0_0 x0_1 x0_2 x0_3 a1_0 x1_1 x1_2 x1_3).1.2.2.1.length ≤ 1048576 ∧ (pMergeTops a0_0 x0_1 x0_2 x0_3 a1_0 x1_1 x1_2 x1_3).1.2.2.2.length ≤ 1048576 ∧ Apart Aw0_1 (pMergeTops a0_0 x0_1 x0_2 x0_3 a1_0 x1_1 x1_2 x1_3).1.2.1.length Aw0_2 (pMergeTops a0_0 x0_1 x0_2 x0_3 a1_0 x1_1 x1_2 x1_3).1.2.2.1.length ∧ Apart Aw0_1 (pMergeTops a0_0 x0_1 x0_2 x0_3 a1_0 x1_1 x1_2 x1_3).1.2.1.length Aw0_3 (pMergeTops a0_0 x0_1 x0_2 x0_3 a1_0 x1_1 x1_2 x1_3).1.2.2.2.length ∧ Apart Aw0_2 (pMergeTops a0_0 x0_1 x0_2 x0_3 a1_0 x1_1 x1_2 x1_3).1.2.2.1.length Aw0_3 (pMergeTops a0_0 x0_1 x0_2 x0_3 a1_0 x1_1 x1_2 x1_3).1.2.2.2.length ∧ Hid (Below W15.heap.size W15 wx))
      case first =>
        have H0 := hid (Below.refl W15.heap.size W15)
        have tok0 : True := trivial
        have tok1 : True := trivial
        have tokX : True := trivial
        go_region_held3 (fun w' => w'.cell? ⟨w.heap.size, 0, none⟩ = some (.int .i64 a0_0) ∧ w'.cell? ⟨w.heap.size, 1, none⟩ = some (.slice A0_1 x0_1.length c0_1) ∧ w'.cell? ⟨w.heap.size, 2, none⟩ = some (.slice A0_2 x0_2.length c0_2) ∧ w'.cell? ⟨w.heap.size, 3, none⟩ = some (.slice A0_3 x0_3.length c0_3) ∧ w'.cell? ⟨w.heap.size + 1, 0, none⟩ = some (.int .i64 a1_0) ∧ w'.cell? ⟨w.heap.size + 1, 1, none⟩ = some (.slice A1_1 x1_1.length c1_1) ∧ w'.cell? ⟨w.heap.size + 1, 2, none⟩ = some (.slice A1_2 x1_2.length c1_2) ∧ w'.cell? ⟨w.heap.size + 1, 3, none⟩ = some (.slice A1_3 x1_3.length c1_3)) (first | go_keep | exact hS)
          (first
            | (go_at_call 21
               have _t := tok0
               refine (toTops_any a0_0 A0_1 A0_2 A0_3 c0_1 c0_2 c0_3 x0_1 x0_2 x0_3 _ (RdL.below (X0_1.out.below S17.out) (by repeat first | with_reducible exact Below.refl _ _ | (refine Hid.out ?_; assumption) | refine below_drewN ?_ _ | refine below_drew1 ?_ | refine below_alloc_ ?_ _)) (RdL.below (X0_2.out.below S17.out) (by repeat first | with_reducible exact Below.refl _ _ | (refine Hid.out ?_; assumption) | refine below_drewN ?_ _ | refine below_drew1 ?_ | refine below_alloc_ ?_ _)) (RdL.below (X0_3.out.below S17.out) (by repeat first | with_reducible exact Below.refl _ _ | (refine Hid.out ?_; assumption) | refine below_drewN ?_ _ | refine below_drew1 ?_ | refine below_alloc_ ?_ _)) hn0_1 hn0_2 hn0_3).mono ?_
               rintro e W28 ⟨g29, g30, g31, rfl, hgg29, hkg29, hgg30, hkg30, hgg31, hkg31, hltg30, hltg31, hb⟩
               have H32 : Hid (Below W15.heap.size W15 W28) := below_next (by repeat first | with_reducible exact Below.refl _ _ | (refine Hid.out ?_; assumption) | refine below_drewN ?_ _ | refine below_drew1 ?_ | refine below_alloc_ ?_ _) hb
               first
                 | (have hQ := hid (Blk.below (Blk.new W15 33 [.int .i64 0, .slice none 0 0, .slice none 0 0, .slice none 0 0]) (below_drew'' hb))
                    have hQge : W15.heap.size ≤ W15.heap.size := Below.size (by repeat first | with_reducible exact Below.refl _ _ | (refine Hid.out ?_; assumption) | refine below_drewN ?_ _ | refine below_drew1 ?_ | refine below_alloc_ ?_ _)
                    have hqm0 : w.heap.size ≠ W15.heap.size := by have := Blk.lt (B3.out.below S16.out); omega
                    have hqn0 := Ne.symm hqm0
                    have hqm1 : w.heap.size + 1 ≠ W15.heap.size := by have := Blk.lt (B4.out.below S16.out); omega
                    have hqn1 := Ne.symm hqm1)
                 | (have hQ := hid (Blk.below (Blk.new W15 33 [.int .i64 0, .slice none 0 0, .slice none 0 0, .slice none 0 0]) (below_drew' hb))
                    have hQge : W15.heap.size ≤ W15.heap.size := Below.size (by repeat first | with_reducible exact Below.refl _ _ | (refine Hid.out ?_; assumption) | refine below_drewN ?_ _ | refine below_drew1 ?_ | refine below_alloc_ ?_ _)
                    have hqm0 : w.heap.size ≠ W15.heap.size := by have := Blk.lt (B3.out.below S16.out); omega
                    have hqn0 := Ne.symm hqm0
                    have hqm1 : w.heap.size + 1 ≠ W15.heap.size := by have := Blk.lt (B4.out.below S16.out); omega
                    have hqn1 := Ne.symm hqm1)
                 | (have hQ := hid (Blk.below (Blk.new W15 33 [.int .i64 0, .slice none 0 0, .slice none 0 0, .slice none 0 0]) hb)
                    have hQge : W15.heap.size ≤ W15.heap.size := Below.size (by repeat first | with_reducible exact Below.refl _ _ | (refine Hid.out ?_; assumption) | refine below_drewN ?_ _ | refine below_drew1 ?_ | refine below_alloc_ ?_ _)
                    have hqm0 : w.heap.size ≠ W15.heap.size := by have := Blk.lt (B3.out.below S16.out); omega
                    have hqn0 := Ne.symm hqm0
                    have hqm1 : w.heap.size + 1 ≠ W15.heap.size := by have := Blk.lt (B4.out.below S16.out); omega
                    have hqn1 := Ne.symm hqm1)
                 | skip
               have K33 := hid (OwnS.of_blk hkg29 (B := 0) (Nat.zero_le _))
               have K34 := hid (OwnS.of_blk hkg30 (B := 0) (Nat.zero_le _))
               have K35 := hid (OwnS.of_blk hkg31 (B := 0) (Nat.zero_le _))
               clear hkg29 hgg29 hkg30 hgg30 hkg31 hgg31
               clear tok0
               have hS := And.intro (Blk.below (B3.out.below S16.out) H32.out).cells4 ((Blk.below (B4.out.below S16.out) H32.out).cells4)
               simp only [and_assoc] at hS)
            | (go_at_call 21
               have _t := tok1
               refine (toTops_any a1_0 A1_1 A1_2 A1_3 c1_1 c1_2 c1_3 x1_1 x1_2 x1_3 _ (RdL.below (X1_1.out.below S17.out) (by repeat first | with_reducible exact Below.refl _ _ | (refine Hid.out ?_; assumption) | refine below_drewN ?_ _ | refine below_drew1 ?_ | refine below_alloc_ ?_ _)) (RdL.below (X1_2.out.below S17.out) (by repeat first | with_reducible exact Below.refl _ _ | (refine Hid.out ?_; assumption) | refine below_drewN ?_ _ | refine below_drew1 ?_ | refine below_alloc_ ?_ _)) (RdL.below (X1_3.out.below S17.out) (by repeat first | with_reducible exact Below.refl _ _ | (refine Hid.out ?_; assumption) | refine below_drewN ?_ _ | refine below_drew1 ?_ | refine below_alloc_ ?_ _)) hn1_1 hn1_2 hn1_3).mono ?_
               rintro e W36 ⟨g37, g38, g39, rfl, hgg37, hkg37, hgg38, hkg38, hgg39, hkg39, hltg38, hltg39, hb⟩
               have H40 : Hid (Below W15.heap.size W15 W36) := below_next (by repeat first | with_reducible exact Below.refl _ _ | (refine Hid.out ?_; assumption) | refine below_drewN ?_ _ | refine below_drew1 ?_ | refine below_alloc_ ?_ _) hb
               have H41 : Hid (Below W28.heap.size W28 W36) := below_next (by repeat first | with_reducible exact Below.refl _ _ | (refine Hid.out ?_; assumption) | refine below_drewN ?_ _ | refine below_drew1 ?_ | refine below_alloc_ ?_ _) hb
               first
                 | (have hQ := hid (Blk.below hQ.out (Hid.out (below_next (B := W28.heap.size) (W := W28) (by repeat first | with_reducible exact Below.refl _ _ | (refine Hid.out ?_; assumption) | refine below_drewN ?_ _ | refine below_drew1 ?_ | refine below_alloc_ ?_ _) hb)))
                    have hQge := hQge)
                 | (have hQ := hid (Blk.below (Blk.new W28 33 [.int .i64 0, .slice none 0 0, .slice none 0 0, .slice none 0 0]) (below_drew'' hb))
                    have hQge : W15.heap.size ≤ W28.heap.size := Below.size (by repeat first | with_reducible exact Below.refl _ _ | (refine Hid.out ?_; assumption) | refine below_drewN ?_ _ | refine below_drew1 ?_ | refine below_alloc_ ?_ _)
                    have hqm0 : w.heap.size ≠ W28.heap.size := by have := Blk.lt (B3.out.below S16.out); omega
                    have hqn0 := Ne.symm hqm0
                    have hqm1 : w.heap.size + 1 ≠ W28.heap.size := by have := Blk.lt (B4.out.below S16.out); omega
                    have hqn1 := Ne.symm hqm1)
                 | (have hQ := hid (Blk.below (Blk.new W28 33 [.int .i64 0, .slice none 0 0, .slice none 0 0, .slice none 0 0]) (below_drew' hb))
                    have hQge : W15.heap.size ≤ W28.heap.size := Below.size (by repeat first | with_reducible exact Below.refl _ _ | (refine Hid.out ?_; assumption) | refine below_drewN ?_ _ | refine below_drew1 ?_ | refine below_alloc_ ?_ _)
                    have hqm0 : w.heap.size ≠ W28.heap.size := by have := Blk.lt (B3.out.below S16.out); omega
                    have hqn0 := Ne.symm hqm0
                    have hqm1 : w.heap.size + 1 ≠ W28.heap.size := by have := Blk.lt (B4.out.below S16.out); omega
                    have hqn1 := Ne.symm hqm1)
                 | (have hQ := hid (Blk.below (Blk.new W28 33 [.int .i64 0, .slice none 0 0, .slice none 0 0, .slice none 0 0]) hb)
                    have hQge : W15.heap.size ≤ W28.heap.size := Below.size (by repeat first | with_reducible exact Below.refl _ _ | (refine Hid.out ?_; assumption) | refine below_drewN ?_ _ | refine below_drew1 ?_ | refine below_alloc_ ?_ _)
                    have hqm0 : w.heap.size ≠ W28.heap.size := by have := Blk.lt (B3.out.below S16.out); omega
                    have hqn0 := Ne.symm hqm0
                    have hqm1 : w.heap.size + 1 ≠ W28.heap.size := by have := Blk.lt (B4.out.below S16.out); omega
                    have hqn1 := Ne.symm hqm1)
                 | skip
               have K42 := hid (OwnS.of_blk hkg37 (B := 0) (Nat.zero_le _))
               have K43 := hid (OwnS.of_blk hkg38 (B := 0) (Nat.zero_le _))
               have K44 := hid (OwnS.of_blk hkg39 (B := 0) (Nat.zero_le _))
               clear hkg37 hgg37 hkg38 hgg38 hkg39 hgg39
               clear tok1
               have hS := And.intro (Blk.below (B3.out.below S16.out) H40.out).cells4 ((Blk.below (B4.out.below S16.out) H40.out).cells4)
               simp only [and_assoc] at hS)
            | (go_at_call 39
               have _t := tokX
               refine (sMergeTops_any _ _ x0_1.length x0_1 _ x0_2.length x0_2 _ x0_3.length x0_3 _ _ x1_1.length x1_1 _ x1_2.length x1_2 _ x1_3.length x1_3 _ w0_0 (OwnS.rd (OwnS.below K33.out (by repeat first | with_reducible exact Below.refl _ _ | (refine Hid.out ?_; assumption) | refine below_drewN ?_ _ | refine below_drew1 ?_ | refine below_alloc_ ?_ _))) hn0_1 we0_1 (OwnS.rd (OwnS.below K34.out (by repeat first | with_reducible exact Below.refl _ _ | (refine Hid.out ?_; assumption) | refine below_drewN ?_ _ | refine below_drew1 ?_ | refine below_alloc_ ?_ _))) hn0_2 we0_2 (OwnS.rd (OwnS.below K35.out (by repeat first | with_reducible exact Below.refl _ _ | (refine Hid.out ?_; assumption) | refine below_drewN ?_ _ | refine below_drew1 ?_ | refine below_alloc_ ?_ _))) hn0_3 we0_3 w1_0 (OwnS.rd (OwnS.below K42.out (by repeat first | with_reducible exact Below.refl _ _ | (refine Hid.out ?_; assumption) | refine below_drewN ?_ _ | refine below_drew1 ?_ | refine below_alloc_ ?_ _))) hn1_1 we1_1 (OwnS.rd (OwnS.below K43.out (by repeat first | with_reducible exact Below.refl _ _ | (refine Hid.out ?_; assumption) | refine below_drewN ?_ _ | refine below_drew1 ?_ | refine below_alloc_ ?_ _))) hn1_2 we1_2 (OwnS.rd (OwnS.below K44.out (by repeat first | with_reducible exact Below.refl _ _ | (refine Hid.out ?_; assumption) | refine below_drewN ?_ _ | refine below_drew1 ?_ | refine below_alloc_ ?_ _))) hn1_3 we1_3).mono ?_
               rintro e W45 ⟨Aw0_1, cw0_1, Aw0_2, cw0_2, Aw0_3, cw0_3, rfl, ho1, hl1, ho2, hl2, ho3, hl3, hp1_2, hp1_3, hp2_3, hb⟩
               have H46 : Hid (Below W15.heap.size W15 W45) := below_next (by repeat first | with_reducible exact Below.refl _ _ | (refine Hid.out ?_; assumption) | refine below_drewN ?_ _ | refine below_drew1 ?_ | refine below_alloc_ ?_ _) hb
               have H47 : Hid (Below W28.heap.size W28 W45) := below_next (by repeat first | with_reducible exact Below.refl _ _ | (refine Hid.out ?_; assumption) | refine below_drewN ?_ _ | refine below_drew1 ?_ | refine below_alloc_ ?_ _) hb
               have H48 : Hid (Below W36.heap.size W36 W45) := below_next (by repeat first | with_reducible exact Below.refl _ _ | (refine Hid.out ?_; assumption) | refine below_drewN ?_ _ | refine below_drew1 ?_ | refine below_alloc_ ?_ _) hb
               have ho1 := hid (OwnS.mono ho1 (B' := W15.heap.size) (Below.size (by repeat first | with_reducible exact Below.refl _ _ | (refine Hid.out ?_; assumption) | refine below_drewN ?_ _ | refine below_drew1 ?_ | refine below_alloc_ ?_ _)))
               have ho2 := hid (OwnS.mono ho2 (B' := W15.heap.size) (Below.size (by repeat first | with_reducible exact Below.refl _ _ | (refine Hid.out ?_; assumption) | refine below_drewN ?_ _ | refine below_drew1 ?_ | refine below_alloc_ ?_ _)))
               have ho3 := hid (OwnS.mono ho3 (B' := W15.heap.size) (Below.size (by repeat first | with_reducible exact Below.refl _ _ | (refine Hid.out ?_; assumption) | refine below_drewN ?_ _ | refine below_drew1 ?_ | refine below_alloc_ ?_ _)))
               first
                 | (have hQ := hid (Blk.below hQ.out (Hid.out (below_next (B := W36.heap.size) (W := W36) (by repeat first | with_reducible exact Below.refl _ _ | (refine Hid.out ?_; assumption) | refine below_drewN ?_ _ | refine below_drew1 ?_ | refine below_alloc_ ?_ _) hb)))
                    have hQge := hQge)
                 | (have hQ := hid (Blk.below (Blk.new W36 33 [.int .i64 0, .slice none 0 0, .slice none 0 0, .slice none 0 0]) (below_drew'' hb))
                    have hQge : W15.heap.size ≤ W36.heap.size := Below.size (by repeat first | with_reducible exact Below.refl _ _ | (refine Hid.out ?_; assumption) | refine below_drewN ?_ _ | refine below_drew1 ?_ | refine below_alloc_ ?_ _)
                    have hqm0 : w.heap.size ≠ W36.heap.size := by have := Blk.lt (B3.out.below S16.out); omega
                    have hqn0 := Ne.symm hqm0
                    have hqm1 : w.heap.size + 1 ≠ W36.heap.size := by have := Blk.lt (B4.out.below S16.out); omega
                    have hqn1 := Ne.symm hqm1)
                 | (have hQ := hid (Blk.below (Blk.new W36 33 [.int .i64 0, .slice none 0 0, .slice none 0 0, .slice none 0 0]) (below_drew' hb))
                    have hQge : W15.heap.size ≤ W36.heap.size := Below.size (by repeat first | with_reducible exact Below.refl _ _ | (refine Hid.out ?_; assumption) | refine below_drewN ?_ _ | refine below_drew1 ?_ | refine below_alloc_ ?_ _)
                    have hqm0 : w.heap.size ≠ W36.heap.size := by have := Blk.lt (B3.out.below S16.out); omega
                    have hqn0 := Ne.symm hqm0
                    have hqm1 : w.heap.size + 1 ≠ W36.heap.size := by have := Blk.lt (B4.out.below S16.out); omega
                    have hqn1 := Ne.symm hqm1)
                 | (have hQ := hid (Blk.below (Blk.new W36 33 [.int .i64 0, .slice none 0 0, .slice none 0 0, .slice none 0 0]) hb)
                    have hQge : W15.heap.size ≤ W36.heap.size := Below.size (by repeat first | with_reducible exact Below.refl _ _ | (refine Hid.out ?_; assumption) | refine below_drewN ?_ _ | refine below_drew1 ?_ | refine below_alloc_ ?_ _)
                    have hqm0 : w.heap.size ≠ W36.heap.size := by have := Blk.lt (B3.out.below S16.out); omega
                    have hqn0 := Ne.symm hqm0
                    have hqm1 : w.heap.size + 1 ≠ W36.heap.size := by have := Blk.lt (B4.out.below S16.out); omega
                    have hqn1 := Ne.symm hqm1)
                 | skip
               have HX := H46
               first
                 | (obtain ⟨q0, q1, q2, q3⟩ := hQ.out.cells4
                    have qf0 := hQ.out.frozen 0
                    have qf1 := hQ.out.frozen 1
                    have qf2 := hQ.out.frozen 2
                    have qf3 := hQ.out.frozen 3)
                 | skip
               clear hb
               clear tokX
               have hS := And.intro (Blk.below (B3.out.below S16.out) H46.out).cells4 ((Blk.below (B4.out.below S16.out) H46.out).cells4)
               simp only [and_assoc] at hS))
        all_goals
          first
          | (have hql := hQ.out.lt
             go_wp2_with fail
             go_meet
             exact ⟨_, _, _, _, _, _, _, rfl, rfl, hid (Blk.set_ (Blk.set_ (Blk.set_ (Blk.set_ hQ.out 0 _) 1 _) 2 _) 3 _), hid (OwnS.setOther (OwnS.setOther (OwnS.setOther (OwnS.setOther ho1.out hQ.out (by decide) 0 _) (Blk.set_ hQ.out 0 _) (by decide) 1 _) (Blk.set_ (Blk.set_ hQ.out 0 _) 1 _) (by decide) 2 _) (Blk.set_ (Blk.set_ (Blk.set_ hQ.out 0 _) 1 _) 2 _) (by decide) 3 _), hid (OwnS.setOther (OwnS.setOther (OwnS.setOther (OwnS.setOther ho2.out hQ.out (by decide) 0 _) (Blk.set_ hQ.out 0 _) (by decide) 1 _) (Blk.set_ (Blk.set_ hQ.out 0 _) 1 _) (by decide) 2 _) (Blk.set_ (Blk.set_ (Blk.set_ hQ.out 0 _) 1 _) 2 _) (by decide) 3 _), hid (OwnS.setOther (OwnS.setOther (OwnS.setOther (OwnS.setOther ho3.out hQ.out (by decide) 0 _) (Blk.set_ hQ.out 0 _) (by decide) 1 _) (Blk.set_ (Blk.set_ hQ.out 0 _) 1 _) (by decide) 2 _) (Blk.set_ (Blk.set_ (Blk.set_ hQ.out 0 _) 1 _) 2 _) (by decide) 3 _), hl1, hl2, hl3, hp1_2, hp1_3, hp2_3, hid (Below.setCell (Below.setCell (Below.setCell (Below.setCell HX.out hQge _) hQge _) hQge _) hQge _)⟩)
          | (go_wp2_with fail
             go_meet
             exact ⟨_, _, _, _, _, _, _, rfl, rfl, hid (Blk.new _ _ _), hid (OwnS.below ho1.out (below_a1 _ _)), hid (OwnS.below ho2.out (below_a1 _ _)), hid (OwnS.below ho3.out (below_a1 _ _)), hl1, hl2, hl3, hp1_2, hp1_3, hp2_3, hid (below_alloc_ HX.out _)⟩)
      case rest =>
        obtain ⟨qbw, Aw0_1, Aw0_2, Aw0_3, cw0_1, cw0_2, cw0_3, rfl, rfl, B50, Ow0_1, Ow0_2, Ow0_3, hlw0_1, hlw0_2, hlw0_3, hpw0_1_2, hpw0_1_3, hpw0_2_3, S51⟩ := hcut
        obtain ⟨W52, hWx⟩ : ∃ W52, W52 = wc := ⟨_, rfl⟩
        subst hWx
        have S53 := hid (S16.out.trans (S51.out.mono S16.out.size))
        have S54 := hid (S17.out.trans (S51.out.mono S17.out.size))
        have l59 : w.heap.size < W52.heap.size := (B3.out.below S53.out).lt
        obtain ⟨c55, c56, c57, c58⟩ := (B3.out.below S53.out).cells4
        have l64 : w.heap.size + 1 < W52.heap.size := (B4.out.below S53.out).lt
        obtain ⟨c60, c61, c62, c63⟩ := (B4.out.below S53.out).cells4
        go_wp2_with fail
        refine (toTops_any a0_0 A0_1 A0_2 A0_3 c0_1 c0_2 c0_3 x0_1 x0_2 x0_3 _ (X0_1.out.below S54.out) (X0_2.out.below S54.out) (X0_3.out.below S54.out) hn0_1 hn0_2 hn0_3).mono ?_
        rintro e W65 ⟨g66, g67, g68, rfl, hgg66, hkg66, hgg67, hkg67, hgg68, hkg68, hltg67, hltg68, hb⟩
        have K69 := hid (OwnS.of_blk hkg66 (B := W52.heap.size) hgg66)
        have K70 := hid (OwnS.of_blk hkg67 (B := W52.heap.size) hgg67)
        have K71 := hid (OwnS.of_blk hkg68 (B := W52.heap.size) hgg68)
        clear hkg66 hgg66 hkg67 hgg67 hkg68 hgg68
        have S72 := hid hb
        have S73 := hid (S53.out.trans (S72.out.mono S53.out.size))
        have S74 := hid (S54.out.trans (S72.out.mono S54.out.size))
        clear hb
        clear c55 c56 c57 c58 l59 c60 c61 c62 c63 l64
        have l79 : w.heap.size < W65.heap.size := (B3.out.below S73.out).lt
        obtain ⟨c75, c76, c77, c78⟩ := (B3.out.below S73.out).cells4
        have l84 : w.heap.size + 1 < W65.heap.size := (B4.out.below S73.out).lt
        obtain ⟨c80, c81, c82, c83⟩ := (B4.out.below S73.out).cells4
        go_wp2_with fail
        refine (toTops_any a1_0 A1_1 A1_2 A1_3 c1_1 c1_2 c1_3 x1_1 x1_2 x1_3 _ ((X1_1.out.below S74.out).below (below_a1 _ _)) ((X1_2.out.below S74.out).below (below_a1 _ _)) ((X1_3.out.below S74.out).below (below_a1 _ _)) hn1_1 hn1_2 hn1_3).mono ?_
        rintro e W85 ⟨g86, g87, g88, rfl, hgg86, hkg86, hgg87, hkg87, hgg88, hkg88, hltg87, hltg88, hb⟩
        have K89 := hid (OwnS.of_blk hkg86 (B := W65.heap.size) (Nat.le_trans (below_a1 _ _).size hgg86))
        have K90 := hid (OwnS.of_blk hkg87 (B := W65.heap.size) (Nat.le_trans (below_a1 _ _).size hgg87))
        have K91 := hid (OwnS.of_blk hkg88 (B := W65.heap.size) (Nat.le_trans (below_a1 _ _).size hgg88))
        clear hkg86 hgg86 hkg87 hgg87 hkg88 hgg88
        have S92 := below_call (below_a1 _ _) hb
        have S93 := hid (S72.out.trans (S92.out.mono S72.out.size))
        have S94 := hid (S73.out.trans (S92.out.mono S73.out.size))
        have S95 := hid (S74.out.trans (S92.out.mono S74.out.size))
        have B96 := hid (Blk.below (Blk.new W65 33 [.int .i64 a0_0, .slice (some ⟨g66, 0, none⟩) x0_1.length x0_1.length, .slice (some ⟨g67, 0, none⟩) x0_2.length x0_2.length, .slice (some ⟨g68, 0, none⟩) x0_3.length x0_3.length]) hb)
        clear hb
        clear c75 c76 c77 c78 l79 c80 c81 c82 c83 l84
        have l101 : W65.heap.size < W85.heap.size := B96.out.lt
        obtain ⟨c97, c98, c99, c100⟩ := B96.out.cells4
        go_wp2_with fail
        refine (iMergeTops_any _ _ x0_1.length x0_1 _ x0_2.length x0_2 _ x0_3.length x0_3 _ _ x1_1.length x1_1 _ x1_2.length x1_2 _ x1_3.length x1_3 _ w0_0 (OwnS.rd (OwnS.below (K69.out.below S92.out) (below_a1 _ _))) hn0_1 we0_1 (OwnS.rd (OwnS.below (K70.out.below S92.out) (below_a1 _ _))) hn0_2 we0_2 (OwnS.rd (OwnS.below (K71.out.below S92.out) (below_a1 _ _))) hn0_3 we0_3 w1_0 (OwnS.rd (OwnS.below K89.out (below_a1 _ _))) hn1_1 we1_1 (OwnS.rd (OwnS.below K90.out (below_a1 _ _))) hn1_2 we1_2 (OwnS.rd (OwnS.below K91.out (below_a1 _ _))) hn1_3 we1_3).mono ?_
        rintro e W102 ⟨Ag0_1, cg0_1, Ag0_2, cg0_2, Ag0_3, cg0_3, rfl, hog0_1, hlg0_1, hog0_2, hlg0_2, hog0_3, hlg0_3, hpg0_1_2, hpg0_1_3, hpg0_2_3, hb⟩
        have Og0_1 := hid (OwnS.mono hog0_1 (B' := W85.heap.size) (below_a1 _ _).size)
        clear hog0_1
        have Og0_2 := hid (OwnS.mono hog0_2 (B' := W85.heap.size) (below_a1 _ _).size)
        clear hog0_2
        have Og0_3 := hid (OwnS.mono hog0_3 (B' := W85.heap.size) (below_a1 _ _).size)
        clear hog0_3
        have S103 := below_call (below_a1 _ _) hb
        have S104 := hid (S93.out.trans (S103.out.mono S93.out.size))
        have S105 := hid (S94.out.trans (S103.out.mono S94.out.size))
        have S106 := hid (S95.out.trans (S103.out.mono S95.out.size))
        have S107 := hid (S92.out.trans (S103.out.mono S92.out.size))
        have B108 := hid (Blk.below (Blk.new W85 33 [.int .i64 a1_0, .slice (some ⟨g86, 0, none⟩) x1_1.length x1_1.length, .slice (some ⟨g87, 0, none⟩) x1_2.length x1_2.length, .slice (some ⟨g88, 0, none⟩) x1_3.length x1_3.length]) hb)
        clear hb
        clear c97 c98 c99 c100 l101
        have l113 : qbw < W102.heap.size := (B50.out.below S104.out).lt
        obtain ⟨c109, c110, c111, c112⟩ := (B50.out.below S104.out).cells4
        go_wp2_with fail
        refine (eqTops_yes _ _ _ _ _ _ _ _ _ _ _ _ _ _ _ _ _ _ _ _ rfl rfl rfl (OwnS.rd (OwnS.below Og0_1.out (below_a1 _ _))) (OwnS.rd (OwnS.below (Ow0_1.out.below S104.out) (below_a1 _ _))) (OwnS.rd (OwnS.below Og0_2.out (below_a1 _ _))) (OwnS.rd (OwnS.below (Ow0_2.out.below S104.out) (below_a1 _ _))) (OwnS.rd (OwnS.below Og0_3.out (below_a1 _ _))) (OwnS.rd (OwnS.below (Ow0_3.out.below S104.out) (below_a1 _ _))) hlg0_1 hlg0_2 hlg0_3).mono ?_
        rintro e W114 ⟨rfl, hb⟩
        have S115 := below_call (below_a1 _ _) hb
        have S116 := hid (S103.out.trans (S115.out.mono S103.out.size))
        have S117 := hid (S104.out.trans (S115.out.mono S104.out.size))
        have S118 := hid (S105.out.trans (S115.out.mono S105.out.size))
        have S119 := hid (S106.out.trans (S115.out.mono S106.out.size))
        have S120 := hid (S107.out.trans (S115.out.mono S107.out.size))
        have B121 := hid (Blk.below (Blk.new W102 33 [.int .i64 (pMergeTops a0_0 x0_1 x0_2 x0_3 a1_0 x1_1 x1_2 x1_3).1.1, .slice Ag0_1 (pMergeTops a0_0 x0_1 x0_2 x0_3 a1_0 x1_1 x1_2 x1_3).1.2.1.length cg0_1, .slice Ag0_2 (pMergeTops a0_0 x0_1 x0_2 x0_3 a1_0 x1_1 x1_2 x1_3).1.2.2.1.length cg0_2, .slice Ag0_3 (pMergeTops a0_0 x0_1 x0_2 x0_3 a1_0 x1_1 x1_2 x1_3).1.2.2.2.length cg0_3]) hb)
        clear hb
        clear c109 c110 c111 c112 l113
        have l126 : W65.heap.size < W114.heap.size := (B96.out.below S116.out).lt
        obtain ⟨c122, c123, c124, c125⟩ := (B96.out.below S116.out).cells4
        have l131 : w.heap.size < W114.heap.size := (B3.out.below S118.out).lt
        obtain ⟨c127, c128, c129, c130⟩ := (B3.out.below S118.out).cells4
        go_wp2_with fail
        have tokA : True := trivial
        have tokB : True := trivial
        go_region_held3 (fun w' => w'.cell? ⟨W65.heap.size, 0, none⟩ = some (.int .i64 a0_0) ∧ w'.cell? ⟨W65.heap.size, 1, none⟩ = some (.slice (some ⟨g66, 0, none⟩) x0_1.length x0_1.length) ∧ w'.cell? ⟨W65.heap.size, 2, none⟩ = some (.slice (some ⟨g67, 0, none⟩) x0_2.length x0_2.length) ∧ w'.cell? ⟨W65.heap.size, 3, none⟩ = some (.slice (some ⟨g68, 0, none⟩) x0_3.length x0_3.length) ∧ w'.cell? ⟨w.heap.size, 0, none⟩ = some (.int .i64 a0_0) ∧ w'.cell? ⟨w.heap.size, 1, none⟩ = some (.slice A0_1 x0_1.length c0_1) ∧ w'.cell? ⟨w.heap.size, 2, none⟩ = some (.slice A0_2 x0_2.length c0_2) ∧ w'.cell? ⟨w.heap.size, 3, none⟩ = some (.slice A0_3 x0_3.length c0_3)) (first | go_keep | exact hS)
          (first
            | (go_at_call 21
               have _t := tokA
               refine (toTops_any a0_0 A0_1 A0_2 A0_3 c0_1 c0_2 c0_3 x0_1 x0_2 x0_3 _ ((X0_1.out.below S119.out).drewN 1) ((X0_2.out.below S119.out).drewN 1) ((X0_3.out.below S119.out).drewN 1) hn0_1 hn0_2 hn0_3).mono ?_
               rintro e W132 ⟨g133, g134, g135, rfl, hgg133, hkg133, hgg134, hkg134, hgg135, hkg135, hltg134, hltg135, hb⟩
               have hb := below_drew' hb
               have K136 := hid (OwnS.of_blk hkg133 (B := W114.heap.size) hgg133)
               have K137 := hid (OwnS.of_blk hkg134 (B := W114.heap.size) hgg134)
               have K138 := hid (OwnS.of_blk hkg135 (B := W114.heap.size) hgg135)
               clear hkg133 hgg133 hkg134 hgg134 hkg135 hgg135
               have S139 := hid hb
               have S140 := hid (S115.out.trans (S139.out.mono S115.out.size))
               have S141 := hid (S116.out.trans (S139.out.mono S116.out.size))
               have S142 := hid (S117.out.trans (S139.out.mono S117.out.size))
               have S143 := hid (S118.out.trans (S139.out.mono S118.out.size))
               have S144 := hid (S119.out.trans (S139.out.mono S119.out.size))
               have S145 := hid (S120.out.trans (S139.out.mono S120.out.size))
               clear hb
               clear tokA
               have hS := And.intro (B96.out.below S141.out).cells4 (B3.out.below S143.out).cells4
               simp only [and_assoc] at hS)
            | (go_at_call 23
               have _t := tokB
               refine (eqTops_yes _ _ _ _ _ _ _ _ _ _ _ _ _ _ _ _ x0_1 x0_2 x0_3 _ rfl rfl rfl (OwnS.rd (K69.out.below S145.out)) (OwnS.rd K136.out) (OwnS.rd (K70.out.below S145.out)) (OwnS.rd K137.out) (OwnS.rd (K71.out.below S145.out)) (OwnS.rd K138.out) hn0_1 hn0_2 hn0_3).mono ?_
               rintro e W146 ⟨rfl, hb⟩
               have S147 := hid hb
               have S148 := hid (S140.out.trans (S147.out.mono S140.out.size))
               have S149 := hid (S141.out.trans (S147.out.mono S141.out.size))
               have S150 := hid (S139.out.trans (S147.out.mono S139.out.size))
               have S151 := hid (S142.out.trans (S147.out.mono S142.out.size))
               have S152 := hid (S143.out.trans (S147.out.mono S143.out.size))
               have S153 := hid (S144.out.trans (S147.out.mono S144.out.size))
               have S154 := hid (S145.out.trans (S147.out.mono S145.out.size))
               clear hb
               clear tokB
               clear hS
               have hS := And.intro (B96.out.below S149.out).cells4 (B3.out.below S152.out).cells4
               simp only [and_assoc] at hS))
        clear hS
        have l159 : W85.heap.size < W146.heap.size := (B108.out.below S148.out).lt
        obtain ⟨c155, c156, c157, c158⟩ := (B108.out.below S148.out).cells4
        have l164 : w.heap.size + 1 < W146.heap.size := (B4.out.below S152.out).lt
        obtain ⟨c160, c161, c162, c163⟩ := (B4.out.below S152.out).cells4
        go_wp2_with fail
        have tokA : True := trivial
        have tokB : True := trivial
        go_region_held3 (fun w' => w'.cell? ⟨W85.heap.size, 0, none⟩ = some (.int .i64 a1_0) ∧ w'.cell? ⟨W85.heap.size, 1, none⟩ = some (.slice (some ⟨g86, 0, none⟩) x1_1.length x1_1.length) ∧ w'.cell? ⟨W85.heap.size, 2, none⟩ = some (.slice (some ⟨g87, 0, none⟩) x1_2.length x1_2.length) ∧ w'.cell? ⟨W85.heap.size, 3, none⟩ = some (.slice (some ⟨g88, 0, none⟩) x1_3.length x1_3.length) ∧ w'.cell? ⟨w.heap.size + 1, 0, none⟩ = some (.int .i64 a1_0) ∧ w'.cell? ⟨w.heap.size + 1, 1, none⟩ = some (.slice A1_1 x1_1.length c1_1) ∧ w'.cell? ⟨w.heap.size + 1, 2, none⟩ = some (.slice A1_2 x1_2.length c1_2) ∧ w'.cell? ⟨w.heap.size + 1, 3, none⟩ = some (.slice A1_3 x1_3.length c1_3)) (first | go_keep | exact hS)
          (first
            | (go_at_call 21
               have _t := tokA
               refine (toTops_any a1_0 A1_1 A1_2 A1_3 c1_1 c1_2 c1_3 x1_1 x1_2 x1_3 _ ((X1_1.out.below S153.out).drewN 1) ((X1_2.out.below S153.out).drewN 1) ((X1_3.out.below S153.out).drewN 1) hn1_1 hn1_2 hn1_3).mono ?_
               rintro e W165 ⟨g166, g167, g168, rfl, hgg166, hkg166, hgg167, hkg167, hgg168, hkg168, hltg167, hltg168, hb⟩
               have hb := below_drew' hb
               have K169 := hid (OwnS.of_blk hkg166 (B := W146.heap.size) hgg166)
               have K170 := hid (OwnS.of_blk hkg167 (B := W146.heap.size) hgg167)
               have K171 := hid (OwnS.of_blk hkg168 (B := W146.heap.size) hgg168)
               clear hkg166 hgg166 hkg167 hgg167 hkg168 hgg168
               have S172 := hid hb
               have S173 := hid (S148.out.trans (S172.out.mono S148.out.size))
               have S174 := hid (S149.out.trans (S172.out.mono S149.out.size))
               have S175 := hid (S150.out.trans (S172.out.mono S150.out.size))
               have S176 := hid (S151.out.trans (S172.out.mono S151.out.size))
               have S177 := hid (S152.out.trans (S172.out.mono S152.out.size))
               have S178 := hid (S147.out.trans (S172.out.mono S147.out.size))
               have S179 := hid (S153.out.trans (S172.out.mono S153.out.size))
               have S180 := hid (S154.out.trans (S172.out.mono S154.out.size))
               clear hb
               clear tokA
               have hS := And.intro (B108.out.below S173.out).cells4 (B4.out.below S177.out).cells4
               simp only [and_assoc] at hS)
            | (go_at_call 23
               have _t := tokB
               refine (eqTops_yes _ _ _ _ _ _ _ _ _ _ _ _ _ _ _ _ x1_1 x1_2 x1_3 _ rfl rfl rfl (OwnS.rd (K89.out.below S174.out)) (OwnS.rd K169.out) (OwnS.rd (K90.out.below S174.out)) (OwnS.rd K170.out) (OwnS.rd (K91.out.below S174.out)) (OwnS.rd K171.out) hn1_1 hn1_2 hn1_3).mono ?_
               rintro e W181 ⟨rfl, hb⟩
               have S182 := hid hb
               have S183 := hid (S173.out.trans (S182.out.mono S173.out.size))
               have S184 := hid (S174.out.trans (S182.out.mono S174.out.size))
               have S185 := hid (S175.out.trans (S182.out.mono S175.out.size))
               have S186 := hid (S176.out.trans (S182.out.mono S176.out.size))
               have S187 := hid (S177.out.trans (S182.out.mono S177.out.size))
               have S188 := hid (S178.out.trans (S182.out.mono S178.out.size))
               have S189 := hid (S179.out.trans (S182.out.mono S179.out.size))
               have S190 := hid (S180.out.trans (S182.out.mono S180.out.size))
               clear hb
               clear tokB
               clear hS
               have hS := And.intro (B108.out.below S183.out).cells4 (B4.out.below S187.out).cells4
               simp only [and_assoc] at hS))
        clear hS
        have hq0 : (0 : Int) ≤ 1 ∧ 1 ≤ 1000000000 := by omega
        have l195 : W65.heap.size < W181.heap.size := (B96.out.below S184.out).lt
        obtain ⟨c191, c192, c193, c194⟩ := (B96.out.below S184.out).cells4
        go_wp2_with fail
        refine (markTops_any _ _ _ _ _ _ _ w.heap.size _ _ _ (1) _ (OwnS.mono (K69.out.below S190.out) (S54.out.size)) (OwnS.mono (K70.out.below S190.out) (S54.out.size)) (OwnS.mono (K71.out.below S190.out) (S54.out.size)) (apart_ne (by have := hltg67; omega)) (apart_ne (by have := hltg67; have := hltg68; omega)) (apart_ne (by have := hltg68; omega)) hn0_1 hn0_2 hn0_3 (by omega) (by omega) S189.out.size).mono ?_
        rintro e W196 ⟨rfl, hoM197, hoM198, hoM199, hbb, ht⟩
        have S200 := hid ((S189.out).trans hbb)
        have T201 := hid (Blk.touchAll (B3.out.below S187.out) ht (fun p hp => by simp only [List.mem_cons, List.not_mem_nil, or_false] at hp; rcases hp with rfl | rfl | rfl; exact OwnS.other (K69.out.below S190.out) (B3.out.below S187.out) (by decide); exact OwnS.other (K70.out.below S190.out) (B3.out.below S187.out) (by decide); exact OwnS.other (K71.out.below S190.out) (B3.out.below S187.out) (by decide)))
        have T202 := hid (Blk.touchAll (B4.out.below S187.out) ht (fun p hp => by simp only [List.mem_cons, List.not_mem_nil, or_false] at hp; rcases hp with rfl | rfl | rfl; exact OwnS.other (K69.out.below S190.out) (B4.out.below S187.out) (by decide); exact OwnS.other (K70.out.below S190.out) (B4.out.below S187.out) (by decide); exact OwnS.other (K71.out.below S190.out) (B4.out.below S187.out) (by decide)))
        have T203 := hid (OwnS.touchAll (Ow0_1.out.below S186.out) ht (fun p hp => by simp only [List.mem_cons, List.not_mem_nil, or_false] at hp; rcases hp with rfl | rfl | rfl; exact (Apart.symm (OwnS.apart_lt Ow0_1.out K69.out (Nat.le_refl _))); exact (Apart.symm (OwnS.apart_lt Ow0_1.out K70.out (Nat.le_refl _))); exact (Apart.symm (OwnS.apart_lt Ow0_1.out K71.out (Nat.le_refl _)))))
        have T204 := hid (OwnS.touchAll (Ow0_2.out.below S186.out) ht (fun p hp => by simp only [List.mem_cons, List.not_mem_nil, or_false] at hp; rcases hp with rfl | rfl | rfl; exact (Apart.symm (OwnS.apart_lt Ow0_2.out K69.out (Nat.le_refl _))); exact (Apart.symm (OwnS.apart_lt Ow0_2.out K70.out (Nat.le_refl _))); exact (Apart.symm (OwnS.apart_lt Ow0_2.out K71.out (Nat.le_refl _)))))
        have T205 := hid (OwnS.touchAll (Ow0_3.out.below S186.out) ht (fun p hp => by simp only [List.mem_cons, List.not_mem_nil, or_false] at hp; rcases hp with rfl | rfl | rfl; exact (Apart.symm (OwnS.apart_lt Ow0_3.out K69.out (Nat.le_refl _))); exact (Apart.symm (OwnS.apart_lt Ow0_3.out K70.out (Nat.le_refl _))); exact (Apart.symm (OwnS.apart_lt Ow0_3.out K71.out (Nat.le_refl _)))))
        have T206 := hid (Blk.touchAll (B50.out.below S186.out) ht (fun p hp => by simp only [List.mem_cons, List.not_mem_nil, or_false] at hp; rcases hp with rfl | rfl | rfl; exact OwnS.other (K69.out.below S190.out) (B50.out.below S186.out) (by decide); exact OwnS.other (K70.out.below S190.out) (B50.out.below S186.out) (by decide); exact OwnS.other (K71.out.below S190.out) (B50.out.below S186.out) (by decide)))
        have T207 := hid (Blk.touchAll (B96.out.below S184.out) ht (fun p hp => by simp only [List.mem_cons, List.not_mem_nil, or_false] at hp; rcases hp with rfl | rfl | rfl; exact OwnS.other (K69.out.below S190.out) (B96.out.below S184.out) (by decide); exact OwnS.other (K70.out.below S190.out) (B96.out.below S184.out) (by decide); exact OwnS.other (K71.out.below S190.out) (B96.out.below S184.out) (by decide)))
        have T208 := hid (OwnS.touchAll (K89.out.below S184.out) ht (fun p hp => by simp only [List.mem_cons, List.not_mem_nil, or_false] at hp; rcases hp with rfl | rfl | rfl; exact (OwnS.apart_lt K69.out K89.out (Nat.le_refl _)); exact (OwnS.apart_lt K70.out K89.out (Nat.le_refl _)); exact (OwnS.apart_lt K71.out K89.out (Nat.le_refl _))))
        have T209 := hid (OwnS.touchAll (K90.out.below S184.out) ht (fun p hp => by simp only [List.mem_cons, List.not_mem_nil, or_false] at hp; rcases hp with rfl | rfl | rfl; exact (OwnS.apart_lt K69.out K90.out (Nat.le_refl _)); exact (OwnS.apart_lt K70.out K90.out (Nat.le_refl _)); exact (OwnS.apart_lt K71.out K90.out (Nat.le_refl _))))
        have T210 := hid (OwnS.touchAll (K91.out.below S184.out) ht (fun p hp => by simp only [List.mem_cons, List.not_mem_nil, or_false] at hp; rcases hp with rfl | rfl | rfl; exact (OwnS.apart_lt K69.out K91.out (Nat.le_refl _)); exact (OwnS.apart_lt K70.out K91.out (Nat.le_refl _)); exact (OwnS.apart_lt K71.out K91.out (Nat.le_refl _))))
        have T211 := hid (Blk.touchAll (B108.out.below S183.out) ht (fun p hp => by simp only [List.mem_cons, List.not_mem_nil, or_false] at hp; rcases hp with rfl | rfl | rfl; exact OwnS.other (K69.out.below S190.out) (B108.out.below S183.out) (by decide); exact OwnS.other (K70.out.below S190.out) (B108.out.below S183.out) (by decide); exact OwnS.other (K71.out.below S190.out) (B108.out.below S183.out) (by decide)))
        have T212 := hid (OwnS.touchAll (Og0_1.out.below S183.out) ht (fun p hp => by simp only [List.mem_cons, List.not_mem_nil, or_false] at hp; rcases hp with rfl | rfl | rfl; exact (OwnS.apart_lt K69.out Og0_1.out (S92.out.size)); exact (OwnS.apart_lt K70.out Og0_1.out (S92.out.size)); exact (OwnS.apart_lt K71.out Og0_1.out (S92.out.size))))
        have T213 := hid (OwnS.touchAll (Og0_2.out.below S183.out) ht (fun p hp => by simp only [List.mem_cons, List.not_mem_nil, or_false] at hp; rcases hp with rfl | rfl | rfl; exact (OwnS.apart_lt K69.out Og0_2.out (S92.out.size)); exact (OwnS.apart_lt K70.out Og0_2.out (S92.out.size)); exact (OwnS.apart_lt K71.out Og0_2.out (S92.out.size))))
        have T214 := hid (OwnS.touchAll (Og0_3.out.below S183.out) ht (fun p hp => by simp only [List.mem_cons, List.not_mem_nil, or_false] at hp; rcases hp with rfl | rfl | rfl; exact (OwnS.apart_lt K69.out Og0_3.out (S92.out.size)); exact (OwnS.apart_lt K70.out Og0_3.out (S92.out.size)); exact (OwnS.apart_lt K71.out Og0_3.out (S92.out.size))))
        have T215 := hid (Blk.touchAll (B121.out.below S185.out) ht (fun p hp => by simp only [List.mem_cons, List.not_mem_nil, or_false] at hp; rcases hp with rfl | rfl | rfl; exact OwnS.other (K69.out.below S190.out) (B121.out.below S185.out) (by decide); exact OwnS.other (K70.out.below S190.out) (B121.out.below S185.out) (by decide); exact OwnS.other (K71.out.below S190.out) (B121.out.below S185.out) (by decide)))
        have T216 := hid (OwnS.touchAll (K136.out.below S188.out) ht (fun p hp => by simp only [List.mem_cons, List.not_mem_nil, or_false] at hp; rcases hp with rfl | rfl | rfl; exact (OwnS.apart_lt K69.out K136.out (S120.out.size)); exact (OwnS.apart_lt K70.out K136.out (S120.out.size)); exact (OwnS.apart_lt K71.out K136.out (S120.out.size))))
        have T217 := hid (OwnS.touchAll (K137.out.below S188.out) ht (fun p hp => by simp only [List.mem_cons, List.not_mem_nil, or_false] at hp; rcases hp with rfl | rfl | rfl; exact (OwnS.apart_lt K69.out K137.out (S120.out.size)); exact (OwnS.apart_lt K70.out K137.out (S120.out.size)); exact (OwnS.apart_lt K71.out K137.out (S120.out.size))))
        have T218 := hid (OwnS.touchAll (K138.out.below S188.out) ht (fun p hp => by simp only [List.mem_cons, List.not_mem_nil, or_false] at hp; rcases hp with rfl | rfl | rfl; exact (OwnS.apart_lt K69.out K138.out (S120.out.size)); exact (OwnS.apart_lt K70.out K138.out (S120.out.size)); exact (OwnS.apart_lt K71.out K138.out (S120.out.size))))
        have T219 := hid (OwnS.touchAll (K169.out.below S182.out) ht (fun p hp => by simp only [List.mem_cons, List.not_mem_nil, or_false] at hp; rcases hp with rfl | rfl | rfl; exact (OwnS.apart_lt K69.out K169.out (S154.out.size)); exact (OwnS.apart_lt K70.out K169.out (S154.out.size)); exact (OwnS.apart_lt K71.out K169.out (S154.out.size))))
        have T220 := hid (OwnS.touchAll (K170.out.below S182.out) ht (fun p hp => by simp only [List.mem_cons, List.not_mem_nil, or_false] at hp; rcases hp with rfl | rfl | rfl; exact (OwnS.apart_lt K69.out K170.out (S154.out.size)); exact (OwnS.apart_lt K70.out K170.out (S154.out.size)); exact (OwnS.apart_lt K71.out K170.out (S154.out.size))))
        have T221 := hid (OwnS.touchAll (K171.out.below S182.out) ht (fun p hp => by simp only [List.mem_cons, List.not_mem_nil, or_false] at hp; rcases hp with rfl | rfl | rfl; exact (OwnS.apart_lt K69.out K171.out (S154.out.size)); exact (OwnS.apart_lt K70.out K171.out (S154.out.size)); exact (OwnS.apart_lt K71.out K171.out (S154.out.size))))
        clear hoM197 hoM198 hoM199 hbb ht
        have hq1 : (0 : Int) ≤ 1 + (x0_1.length : Int) + (x0_2.length : Int) + (x0_3.length : Int) ∧ 1 + (x0_1.length : Int) + (x0_2.length : Int) + (x0_3.length : Int) ≤ 1000000000 := by omega
        clear c191 c192 c193 c194 l195
        have l226 : W85.heap.size < W196.heap.size := T211.out.lt
        obtain ⟨c222, c223, c224, c225⟩ := T211.out.cells4
        go_wp2_with fail
        refine (markTops_any _ _ _ _ _ _ _ w.heap.size _ _ _ (1 + (x0_1.length : Int) + (x0_2.length : Int) + (x0_3.length : Int)) _ (OwnS.mono T208.out (S74.out.size)) (OwnS.mono T209.out (S74.out.size)) (OwnS.mono T210.out (S74.out.size)) (apart_ne (by have := hltg87; omega)) (apart_ne (by have := hltg87; have := hltg88; omega)) (apart_ne (by have := hltg88; omega)) hn1_1 hn1_2 hn1_3 (by omega) (by omega) S200.out.size).mono ?_
        rintro e W227 ⟨rfl, hoM228, hoM229, hoM230, hbb, ht⟩
        have S231 := hid ((S200.out).trans hbb)
        have T232 := hid (Blk.touchAll T201.out ht (fun p hp => by simp only [List.mem_cons, List.not_mem_nil, or_false] at hp; rcases hp with rfl | rfl | rfl; exact OwnS.other T208.out T201.out (by decide); exact OwnS.other T209.out T201.out (by decide); exact OwnS.other T210.out T201.out (by decide)))
        have T233 := hid (Blk.touchAll T202.out ht (fun p hp => by simp only [List.mem_cons, List.not_mem_nil, or_false] at hp; rcases hp with rfl | rfl | rfl; exact OwnS.other T208.out T202.out (by decide); exact OwnS.other T209.out T202.out (by decide); exact OwnS.other T210.out T202.out (by decide)))
        have T234 := hid (OwnS.touchAll T203.out ht (fun p hp => by simp only [List.mem_cons, List.not_mem_nil, or_false] at hp; rcases hp with rfl | rfl | rfl; exact (Apart.symm (OwnS.apart_lt Ow0_1.out K89.out (S72.out.size))); exact (Apart.symm (OwnS.apart_lt Ow0_1.out K90.out (S72.out.size))); exact (Apart.symm (OwnS.apart_lt Ow0_1.out K91.out (S72.out.size)))))
        have T235 := hid (OwnS.touchAll T204.out ht (fun p hp => by simp only [List.mem_cons, List.not_mem_nil, or_false] at hp; rcases hp with rfl | rfl | rfl; exact (Apart.symm (OwnS.apart_lt Ow0_2.out K89.out (S72.out.size))); exact (Apart.symm (OwnS.apart_lt Ow0_2.out K90.out (S72.out.size))); exact (Apart.symm (OwnS.apart_lt Ow0_2.out K91.out (S72.out.size)))))
        have T236 := hid (OwnS.touchAll T205.out ht (fun p hp => by simp only [List.mem_cons, List.not_mem_nil, or_false] at hp; rcases hp with rfl | rfl | rfl; exact (Apart.symm (OwnS.apart_lt Ow0_3.out K89.out (S72.out.size))); exact (Apart.symm (OwnS.apart_lt Ow0_3.out K90.out (S72.out.size))); exact (Apart.symm (OwnS.apart_lt Ow0_3.out K91.out (S72.out.size)))))
        have T237 := hid (Blk.touchAll T206.out ht (fun p hp => by simp only [List.mem_cons, List.not_mem_nil, or_false] at hp; rcases hp with rfl | rfl | rfl; exact OwnS.other T208.out T206.out (by decide); exact OwnS.other T209.out T206.out (by decide); exact OwnS.other T210.out T206.out (by decide)))
        have T238 := hid (Blk.touchAll T207.out ht (fun p hp => by simp only [List.mem_cons, List.not_mem_nil, or_false] at hp; rcases hp with rfl | rfl | rfl; exact OwnS.other T208.out T207.out (by decide); exact OwnS.other T209.out T207.out (by decide); exact OwnS.other T210.out T207.out (by decide)))
        have T239 := hid (Blk.touchAll T211.out ht (fun p hp => by simp only [List.mem_cons, List.not_mem_nil, or_false] at hp; rcases hp with rfl | rfl | rfl; exact OwnS.other T208.out T211.out (by decide); exact OwnS.other T209.out T211.out (by decide); exact OwnS.other T210.out T211.out (by decide)))
        have T240 := hid (OwnS.touchAll T212.out ht (fun p hp => by simp only [List.mem_cons, List.not_mem_nil, or_false] at hp; rcases hp with rfl | rfl | rfl; exact (OwnS.apart_lt K89.out Og0_1.out (Nat.le_refl _)); exact (OwnS.apart_lt K90.out Og0_1.out (Nat.le_refl _)); exact (OwnS.apart_lt K91.out Og0_1.out (Nat.le_refl _))))
        have T241 := hid (OwnS.touchAll T213.out ht (fun p hp => by simp only [List.mem_cons, List.not_mem_nil, or_false] at hp; rcases hp with rfl | rfl | rfl; exact (OwnS.apart_lt K89.out Og0_2.out (Nat.le_refl _)); exact (OwnS.apart_lt K90.out Og0_2.out (Nat.le_refl _)); exact (OwnS.apart_lt K91.out Og0_2.out (Nat.le_refl _))))
        have T242 := hid (OwnS.touchAll T214.out ht (fun p hp => by simp only [List.mem_cons, List.not_mem_nil, or_false] at hp; rcases hp with rfl | rfl | rfl; exact (OwnS.apart_lt K89.out Og0_3.out (Nat.le_refl _)); exact (OwnS.apart_lt K90.out Og0_3.out (Nat.le_refl _)); exact (OwnS.apart_lt K91.out Og0_3.out (Nat.le_refl _))))
        have T243 := hid (Blk.touchAll T215.out ht (fun p hp => by simp only [List.mem_cons, List.not_mem_nil, or_false] at hp; rcases hp with rfl | rfl | rfl; exact OwnS.other T208.out T215.out (by decide); exact OwnS.other T209.out T215.out (by decide); exact OwnS.other T210.out T215.out (by decide)))
        have T244 := hid (OwnS.touchAll T216.out ht (fun p hp => by simp only [List.mem_cons, List.not_mem_nil, or_false] at hp; rcases hp with rfl | rfl | rfl; exact (OwnS.apart_lt K89.out K136.out (S116.out.size)); exact (OwnS.apart_lt K90.out K136.out (S116.out.size)); exact (OwnS.apart_lt K91.out K136.out (S116.out.size))))
        have T245 := hid (OwnS.touchAll T217.out ht (fun p hp => by simp only [List.mem_cons, List.not_mem_nil, or_false] at hp; rcases hp with rfl | rfl | rfl; exact (OwnS.apart_lt K89.out K137.out (S116.out.size)); exact (OwnS.apart_lt K90.out K137.out (S116.out.size)); exact (OwnS.apart_lt K91.out K137.out (S116.out.size))))
        have T246 := hid (OwnS.touchAll T218.out ht (fun p hp => by simp only [List.mem_cons, List.not_mem_nil, or_false] at hp; rcases hp with rfl | rfl | rfl; exact (OwnS.apart_lt K89.out K138.out (S116.out.size)); exact (OwnS.apart_lt K90.out K138.out (S116.out.size)); exact (OwnS.apart_lt K91.out K138.out (S116.out.size))))
        have T247 := hid (OwnS.touchAll T219.out ht (fun p hp => by simp only [List.mem_cons, List.not_mem_nil, or_false] at hp; rcases hp with rfl | rfl | rfl; exact (OwnS.apart_lt K89.out K169.out (S149.out.size)); exact (OwnS.apart_lt K90.out K169.out (S149.out.size)); exact (OwnS.apart_lt K91.out K169.out (S149.out.size))))
        have T248 := hid (OwnS.touchAll T220.out ht (fun p hp => by simp only [List.mem_cons, List.not_mem_nil, or_false] at hp; rcases hp with rfl | rfl | rfl; exact (OwnS.apart_lt K89.out K170.out (S149.out.size)); exact (OwnS.apart_lt K90.out K170.out (S149.out.size)); exact (OwnS.apart_lt K91.out K170.out (S149.out.size))))
        have T249 := hid (OwnS.touchAll T221.out ht (fun p hp => by simp only [List.mem_cons, List.not_mem_nil, or_false] at hp; rcases hp with rfl | rfl | rfl; exact (OwnS.apart_lt K89.out K171.out (S149.out.size)); exact (OwnS.apart_lt K90.out K171.out (S149.out.size)); exact (OwnS.apart_lt K91.out K171.out (S149.out.size))))
        clear hoM228 hoM229 hoM230 hbb ht
        have hqk : (0 : Int) ≤ 1 + (x0_1.length : Int) + (x0_2.length : Int) + (x0_3.length : Int) + (x1_1.length : Int) + (x1_2.length : Int) + (x1_3.length : Int) := by omega
        clear c222 c223 c224 c225 l226
        have l254 : W102.heap.size < W227.heap.size := T243.out.lt
        obtain ⟨c250, c251, c252, c253⟩ := T243.out.cells4
        have l259 : qbw < W227.heap.size := T237.out.lt
        obtain ⟨c255, c256, c257, c258⟩ := T237.out.cells4
        go_wp2_with fail
        refine (eqTops_yes _ _ _ _ _ _ _ _ _ _ _ _ _ _ _ _ _ _ _ _ rfl rfl rfl (OwnS.rd T240.out) (OwnS.rd T234.out) (OwnS.rd T241.out) (OwnS.rd T235.out) (OwnS.rd T242.out) (OwnS.rd T236.out) hlg0_1 hlg0_2 hlg0_3).mono ?_
        rintro e W260 ⟨rfl, hb⟩
        have S261 := hid hb
        have S262 := hid (S231.out.trans (S261.out.mono S231.out.size))
        clear hb
        clear c250 c251 c252 c253 l254 c255 c256 c257 c258 l259
        have l267 : W102.heap.size < W260.heap.size := (T243.out.below S261.out).lt
        obtain ⟨c263, c264, c265, c266⟩ := (T243.out.below S261.out).cells4
        go_wp2_with fail
        refine (markTops_any _ _ _ _ _ _ _ w.heap.size _ _ _ (1) _ (OwnS.mono (T240.out.below S261.out) (S95.out.size)) (OwnS.mono (T241.out.below S261.out) (S95.out.size)) (OwnS.mono (T242.out.below S261.out) (S95.out.size)) (hpg0_1_2) (hpg0_1_3) (hpg0_2_3) hlg0_1 hlg0_2 hlg0_3 (by omega) (by omega) S262.out.size).mono ?_
        rintro e W268 ⟨rfl, hoM269, hoM270, hoM271, hbb, ht⟩
        have S272 := hid ((S262.out).trans hbb)
        have T273 := hid (Blk.touchAll (T232.out.below S261.out) ht (fun p hp => by simp only [List.mem_cons, List.not_mem_nil, or_false] at hp; rcases hp with rfl | rfl | rfl; exact OwnS.other (T240.out.below S261.out) (T232.out.below S261.out) (by decide); exact OwnS.other (T241.out.below S261.out) (T232.out.below S261.out) (by decide); exact OwnS.other (T242.out.below S261.out) (T232.out.below S261.out) (by decide)))
        have T274 := hid (Blk.touchAll (T233.out.below S261.out) ht (fun p hp => by simp only [List.mem_cons, List.not_mem_nil, or_false] at hp; rcases hp with rfl | rfl | rfl; exact OwnS.other (T240.out.below S261.out) (T233.out.below S261.out) (by decide); exact OwnS.other (T241.out.below S261.out) (T233.out.below S261.out) (by decide); exact OwnS.other (T242.out.below S261.out) (T233.out.below S261.out) (by decide)))
        have T275 := hid (OwnS.touchAll (T234.out.below S261.out) ht (fun p hp => by simp only [List.mem_cons, List.not_mem_nil, or_false] at hp; rcases hp with rfl | rfl | rfl; exact (Apart.symm (OwnS.apart_lt Ow0_1.out Og0_1.out (S93.out.size))); exact (Apart.symm (OwnS.apart_lt Ow0_1.out Og0_2.out (S93.out.size))); exact (Apart.symm (OwnS.apart_lt Ow0_1.out Og0_3.out (S93.out.size)))))
        have T276 := hid (OwnS.touchAll (T235.out.below S261.out) ht (fun p hp => by simp only [List.mem_cons, List.not_mem_nil, or_false] at hp; rcases hp with rfl | rfl | rfl; exact (Apart.symm (OwnS.apart_lt Ow0_2.out Og0_1.out (S93.out.size))); exact (Apart.symm (OwnS.apart_lt Ow0_2.out Og0_2.out (S93.out.size))); exact (Apart.symm (OwnS.apart_lt Ow0_2.out Og0_3.out (S93.out.size)))))
        have T277 := hid (OwnS.touchAll (T236.out.below S261.out) ht (fun p hp => by simp only [List.mem_cons, List.not_mem_nil, or_false] at hp; rcases hp with rfl | rfl | rfl; exact (Apart.symm (OwnS.apart_lt Ow0_3.out Og0_1.out (S93.out.size))); exact (Apart.symm (OwnS.apart_lt Ow0_3.out Og0_2.out (S93.out.size))); exact (Apart.symm (OwnS.apart_lt Ow0_3.out Og0_3.out (S93.out.size)))))
        have T278 := hid (Blk.touchAll (T237.out.below S261.out) ht (fun p hp => by simp only [List.mem_cons, List.not_mem_nil, or_false] at hp; rcases hp with rfl | rfl | rfl; exact OwnS.other (T240.out.below S261.out) (T237.out.below S261.out) (by decide); exact OwnS.other (T241.out.below S261.out) (T237.out.below S261.out) (by decide); exact OwnS.other (T242.out.below S261.out) (T237.out.below S261.out) (by decide)))
        have T279 := hid (Blk.touchAll (T238.out.below S261.out) ht (fun p hp => by simp only [List.mem_cons, List.not_mem_nil, or_false] at hp; rcases hp with rfl | rfl | rfl; exact OwnS.other (T240.out.below S261.out) (T238.out.below S261.out) (by decide); exact OwnS.other (T241.out.below S261.out) (T238.out.below S261.out) (by decide); exact OwnS.other (T242.out.below S261.out) (T238.out.below S261.out) (by decide)))
        have T280 := hid (Blk.touchAll (T239.out.below S261.out) ht (fun p hp => by simp only [List.mem_cons, List.not_mem_nil, or_false] at hp; rcases hp with rfl | rfl | rfl; exact OwnS.other (T240.out.below S261.out) (T239.out.below S261.out) (by decide); exact OwnS.other (T241.out.below S261.out) (T239.out.below S261.out) (by decide); exact OwnS.other (T242.out.below S261.out) (T239.out.below S261.out) (by decide)))
        have T281 := hid (Blk.touchAll (T243.out.below S261.out) ht (fun p hp => by simp only [List.mem_cons, List.not_mem_nil, or_false] at hp; rcases hp with rfl | rfl | rfl; exact OwnS.other (T240.out.below S261.out) (T243.out.below S261.out) (by decide); exact OwnS.other (T241.out.below S261.out) (T243.out.below S261.out) (by decide); exact OwnS.other (T242.out.below S261.out) (T243.out.below S261.out) (by decide)))
        have T282 := hid (OwnS.touchAll (T244.out.below S261.out) ht (fun p hp => by simp only [List.mem_cons, List.not_mem_nil, or_false] at hp; rcases hp with rfl | rfl | rfl; exact (OwnS.apart_lt Og0_1.out K136.out (S115.out.size)); exact (OwnS.apart_lt Og0_2.out K136.out (S115.out.size)); exact (OwnS.apart_lt Og0_3.out K136.out (S115.out.size))))
        have T283 := hid (OwnS.touchAll (T245.out.below S261.out) ht (fun p hp => by simp only [List.mem_cons, List.not_mem_nil, or_false] at hp; rcases hp with rfl | rfl | rfl; exact (OwnS.apart_lt Og0_1.out K137.out (S115.out.size)); exact (OwnS.apart_lt Og0_2.out K137.out (S115.out.size)); exact (OwnS.apart_lt Og0_3.out K137.out (S115.out.size))))
        have T284 := hid (OwnS.touchAll (T246.out.below S261.out) ht (fun p hp => by simp only [List.mem_cons, List.not_mem_nil, or_false] at hp; rcases hp with rfl | rfl | rfl; exact (OwnS.apart_lt Og0_1.out K138.out (S115.out.size)); exact (OwnS.apart_lt Og0_2.out K138.out (S115.out.size)); exact (OwnS.apart_lt Og0_3.out K138.out (S115.out.size))))
        have T285 := hid (OwnS.touchAll (T247.out.below S261.out) ht (fun p hp => by simp only [List.mem_cons, List.not_mem_nil, or_false] at hp; rcases hp with rfl | rfl | rfl; exact (OwnS.apart_lt Og0_1.out K169.out (S148.out.size)); exact (OwnS.apart_lt Og0_2.out K169.out (S148.out.size)); exact (OwnS.apart_lt Og0_3.out K169.out (S148.out.size))))
        have T286 := hid (OwnS.touchAll (T248.out.below S261.out) ht (fun p hp => by simp only [List.mem_cons, List.not_mem_nil, or_false] at hp; rcases hp with rfl | rfl | rfl; exact (OwnS.apart_lt Og0_1.out K170.out (S148.out.size)); exact (OwnS.apart_lt Og0_2.out K170.out (S148.out.size)); exact (OwnS.apart_lt Og0_3.out K170.out (S148.out.size))))
        have T287 := hid (OwnS.touchAll (T249.out.below S261.out) ht (fun p hp => by simp only [List.mem_cons, List.not_mem_nil, or_false] at hp; rcases hp with rfl | rfl | rfl; exact (OwnS.apart_lt Og0_1.out K171.out (S148.out.size)); exact (OwnS.apart_lt Og0_2.out K171.out (S148.out.size)); exact (OwnS.apart_lt Og0_3.out K171.out (S148.out.size))))
        have M269 := hid hoM269
        have M270 := hid hoM270
        have M271 := hid hoM271
        clear hoM269 hoM270 hoM271 hbb ht
        have hqm : (0 : Int) ≤ 1 + ((pMergeTops a0_0 x0_1 x0_2 x0_3 a1_0 x1_1 x1_2 x1_3).1.2.1.length : Int) + ((pMergeTops a0_0 x0_1 x0_2 x0_3 a1_0 x1_1 x1_2 x1_3).1.2.2.1.length : Int) + ((pMergeTops a0_0 x0_1 x0_2 x0_3 a1_0 x1_1 x1_2 x1_3).1.2.2.2.length : Int) := by omega
        clear c263 c264 c265 c266 l267
        have l292 : W102.heap.size < W268.heap.size := T281.out.lt
        obtain ⟨c288, c289, c290, c291⟩ := T281.out.cells4
        go_wp2_with fail
        refine (heldTops_yes _ _ _ _ _ _ _ _ _ _ (1) _ (OwnS.rd M269.out) (OwnS.rd M270.out) (OwnS.rd M271.out) hlg0_1 hlg0_2 hlg0_3 (by omega) (by omega)).mono ?_
        rintro e W293 ⟨rfl, hb⟩
        have S294 := hid hb
        have S295 := hid (S272.out.trans (S294.out.mono S272.out.size))
        clear hb
        clear c288 c289 c290 c291 l292
        have l300 : w.heap.size < W293.heap.size := (T273.out.below S294.out).lt
        obtain ⟨c296, c297, c298, c299⟩ := (T273.out.below S294.out).cells4
        have l305 : w.heap.size + 1 < W293.heap.size := (T274.out.below S294.out).lt
        obtain ⟨c301, c302, c303, c304⟩ := (T274.out.below S294.out).cells4
        go_wp2_with fail
        go_cut [15, 16] from 94 to 101 (fun vq v16 wx => ∃ (qb : Nat) (Ah0_1 Ah0_2 Ah0_3 : Option Addr) (ch0_1 ch0_2 ch0_3 : Nat), vq = .pointer (some ⟨qb, 0, none⟩) ∧ v16 = .bool (pMergeTops a0_0 x0_1 x0_2 x0_3 a1_0 x1_1 x1_2 x1_3).2 ∧ Hid (Blk wx qb 33 [.int .i64 (pMergeTops a0_0 x0_1 x0_2 x0_3 a1_0 x1_1 x1_2 x1_3).1.1, .slice Ah0_1 (pMergeTops a0_0 x0_1 x0_2 x0_3 a1_0 x1_1 x1_2 x1_3).1.2.1.length ch0_1, .slice Ah0_2 (pMergeTops a0_0 x0_1 x0_2 x0_3 a1_0 x1_1 x1_2 x1_3).1.2.2.1.length ch0_2, .slice Ah0_3 (pMergeTops a0_0 x0_1 x0_2 x0_3 a1_0 x1_1 x1_2 x1_3).1.2.2.2.length ch0_3]) ∧ Hid (OwnS (Value.int .i64) wx W293.heap.size 2 Ah0_1 (pMergeTops a0_0 x0_1 x0_2 x0_3 a1_0 x1_1 x1_2 x1_3).1.2.1) ∧ Hid (OwnS (Value.int .i64) wx W293.heap.size 2 Ah0_2 (pMergeTops a0_0 x0_1 x0_2 x0_3 a1_0 x1_1 x1_2 x1_3).1.2.2.1) ∧ Hid (OwnS (Value.int .i64) wx W293.heap.size 2 Ah0_3 (pMergeTops a0_0 x0_1 x0_2 x0_3 a1_0 x1_1 x1_2 x1_3).1.2.2.2) ∧ (pMergeTops a0_0 x0_1 x0_2 x0_3 a1_0 x1_1 x1_2 x1_3).1.2.1.length ≤ 1048576 ∧ (pMergeTops a0_0 x0_1 x0_2 x0_3 a1_0 x1_1 x1_2 x1_3).1.2.2.1.length ≤ 1048576 ∧ (pMergeTops a0_0 x0_1 x0_2 x0_3 a1_0 x1_1 x1_2 x1_3).1.2.2.2.length ≤ 1048576 ∧ Apart Ah0_1 (pMergeTops a0_0 x0_1 x0_2 x0_3 a1_0 x1_1 x1_2 x1_3).1.2.1.length Ah0_2 (pMergeTops a0_0 x0_1 x0_2 x0_3 a1_0 x1_1 x1_2 x1_3).1.2.2.1.length ∧ Apart Ah0_1 (pMergeTops a0_0 x0_1 x0_2 x0_3 a1_0 x1_1 x1_2 x1_3).1.2.1.length Ah0_3 (pMergeTops a0_0 x0_1 x0_2 x0_3 a1_0 x1_1 x1_2 x1_3).1.2.2.2.length ∧ Apart Ah0_2 (pMergeTops a0_0 x0_1 x0_2 x0_3 a1_0 x1_1 x1_2 x1_3).1.2.2.1.length Ah0_3 (pMergeTops a0_0 x0_1 x0_2 x0_3 a1_0 x1_1 x1_2 x1_3).1.2.2.2.length ∧ Hid (Below W293.heap.size W293 wx))
        case first =>
          have H0 := hid (Below.refl W293.heap.size W293)
          have tok0 : True := trivial
          have tok1 : True := trivial
          have tokX : True := trivial
          go_region_held3 (fun w' => w'.cell? ⟨w.heap.size, 0, none⟩ = some (.int .i64 a0_0) ∧ w'.cell? ⟨w.heap.size, 1, none⟩ = some (.slice A0_1 x0_1.length c0_1) ∧ w'.cell? ⟨w.heap.size, 2, none⟩ = some (.slice A0_2 x0_2.length c0_2) ∧ w'.cell? ⟨w.heap.size, 3, none⟩ = some (.slice A0_3 x0_3.length c0_3) ∧ w'.cell? ⟨w.heap.size + 1, 0, none⟩ = some (.int .i64 a1_0) ∧ w'.cell? ⟨w.heap.size + 1, 1, none⟩ = some (.slice A1_1 x1_1.length c1_1) ∧ w'.cell? ⟨w.heap.size + 1, 2, none⟩ = some (.slice A1_2 x1_2.length c1_2) ∧ w'.cell? ⟨w.heap.size + 1, 3, none⟩ = some (.slice A1_3 x1_3.length c1_3)) (first | go_keep | exact hS)
            (first
              | (go_at_call 21
                 have _t := tok0
                 refine (toTops_any a0_0 A0_1 A0_2 A0_3 c0_1 c0_2 c0_3 x0_1 x0_2 x0_3 _ (RdL.below (X0_1.out.below S295.out) (by repeat first | with_reducible exact Below.refl _ _ | (refine Hid.out ?_; assumption) | refine below_drewN ?_ _ | refine below_drew1 ?_ | refine below_alloc_ ?_ _)) (RdL.below (X0_2.out.below S295.out) (by repeat first | with_reducible exact Below.refl _ _ | (refine Hid.out ?_; assumption) | refine below_drewN ?_ _ | refine below_drew1 ?_ | refine below_alloc_ ?_ _)) (RdL.below (X0_3.out.below S295.out) (by repeat first | with_reducible exact Below.refl _ _ | (refine Hid.out ?_; assumption) | refine below_drewN ?_ _ | refine below_drew1 ?_ | refine below_alloc_ ?_ _)) hn0_1 hn0_2 hn0_3).mono ?_
                 rintro e W306 ⟨g307, g308, g309, rfl, hgg307, hkg307, hgg308, hkg308, hgg309, hkg309, hltg308, hltg309, hb⟩
                 have H310 : Hid (Below W293.heap.size W293 W306) := below_next (by repeat first | with_reducible exact Below.refl _ _ | (refine Hid.out ?_; assumption) | refine below_drewN ?_ _ | refine below_drew1 ?_ | refine below_alloc_ ?_ _) hb
                 first
                   | (have hQ := hid (Blk.below (Blk.new W293 33 [.int .i64 0, .slice none 0 0, .slice none 0 0, .slice none 0 0]) (below_drew'' hb))
                      have hQge : W293.heap.size ≤ W293.heap.size := Below.size (by repeat first | with_reducible exact Below.refl _ _ | (refine Hid.out ?_; assumption) | refine below_drewN ?_ _ | refine below_drew1 ?_ | refine below_alloc_ ?_ _)
                      have hqm0 : w.heap.size ≠ W293.heap.size := by have := Blk.lt (T273.out.below S294.out); omega
                      have hqn0 := Ne.symm hqm0
                      have hqm1 : w.heap.size + 1 ≠ W293.heap.size := by have := Blk.lt (T274.out.below S294.out); omega
                      have hqn1 := Ne.symm hqm1)
                   | (have hQ := hid (Blk.below (Blk.new W293 33 [.int .i64 0, .slice none 0 0, .slice none 0 0, .slice none 0 0]) (below_drew' hb))
                      have hQge : W293.heap.size ≤ W293.heap.size := Below.size (by repeat first | with_reducible exact Below.refl _ _ | (refine Hid.out ?_; assumption) | refine below_drewN ?_ _ | refine below_drew1 ?_ | refine below_alloc_ ?_ _)
                      have hqm0 : w.heap.size ≠ W293.heap.size := by have := Blk.lt (T273.out.below S294.out); omega
                      have hqn0 := Ne.symm hqm0
                      have hqm1 : w.heap.size + 1 ≠ W293.heap.size := by have := Blk.lt (T274.out.below S294.out); omega
                      have hqn1 := Ne.symm hqm1)
                   | (have hQ := hid (Blk.below (Blk.new W293 33 [.int .i64 0, .slice none 0 0, .slice none 0 0, .slice none 0 0]) hb)
                      have hQge : W293.heap.size ≤ W293.heap.size := Below.size (by repeat first | with_reducible exact Below.refl _ _ | (refine Hid.out ?_; assumption) | refine below_drewN ?_ _ | refine below_drew1 ?_ | refine below_alloc_ ?_ _)
                      have hqm0 : w.heap.size ≠ W293.heap.size := by have := Blk.lt (T273.out.below S294.out); omega
                      have hqn0 := Ne.symm hqm0
                      have hqm1 : w.heap.size + 1 ≠ W293.heap.size := by have := Blk.lt (T274.out.below S294.out); omega
                      have hqn1 := Ne.symm hqm1)
                   | skip
                 have K311 := hid (OwnS.of_blk hkg307 (B := 0) (Nat.zero_le _))
                 have K312 := hid (OwnS.of_blk hkg308 (B := 0) (Nat.zero_le _))
                 have K313 := hid (OwnS.of_blk hkg309 (B := 0) (Nat.zero_le _))
                 clear hkg307 hgg307 hkg308 hgg308 hkg309 hgg309
                 clear tok0
                 have hS := And.intro (Blk.below (T273.out.below S294.out) H310.out).cells4 ((Blk.below (T274.out.below S294.out) H310.out).cells4)
                 simp only [and_assoc] at hS)
              | (go_at_call 21
                 have _t := tok1
                 refine (toTops_any a1_0 A1_1 A1_2 A1_3 c1_1 c1_2 c1_3 x1_1 x1_2 x1_3 _ (RdL.below (X1_1.out.below S295.out) (by repeat first | with_reducible exact Below.refl _ _ | (refine Hid.out ?_; assumption) | refine below_drewN ?_ _ | refine below_drew1 ?_ | refine below_alloc_ ?_ _)) (RdL.below (X1_2.out.below S295.out) (by repeat first | with_reducible exact Below.refl _ _ | (refine Hid.out ?_; assumption) | refine below_drewN ?_ _ | refine below_drew1 ?_ | refine below_alloc_ ?_ _)) (RdL.below (X1_3.out.below S295.out) (by repeat first | with_reducible exact Below.refl _ _ | (refine Hid.out ?_; assumption) | refine below_drewN ?_ _ | refine below_drew1 ?_ | refine below_alloc_ ?_ _)) hn1_1 hn1_2 hn1_3).mono ?_
                 rintro e W314 ⟨g315, g316, g317, rfl, hgg315, hkg315, hgg316, hkg316, hgg317, hkg317, hltg316, hltg317, hb⟩
                 have H318 : Hid (Below W293.heap.size W293 W314) := below_next (by repeat first | with_reducible exact Below.refl _ _ | (refine Hid.out ?_; assumption) | refine below_drewN ?_ _ | refine below_drew1 ?_ | refine below_alloc_ ?_ _) hb
                 have H319 : Hid (Below W306.heap.size W306 W314) := below_next (by repeat first | with_reducible exact Below.refl _ _ | (refine Hid.out ?_; assumption) | refine below_drewN ?_ _ | refine below_drew1 ?_ | refine below_alloc_ ?_ _) hb
                 first
                   | (have hQ := hid (Blk.below hQ.out (Hid.out (below_next (B := W306.heap.size) (W := W306) (by repeat first | with_reducible exact Below.refl _ _ | (refine Hid.out ?_; assumption) | refine below_drewN ?_ _ | refine below_drew1 ?_ | refine below_alloc_ ?_ _) hb)))
                      have hQge := hQge)
                   | (have hQ := hid (Blk.below (Blk.new W306 33 [.int .i64 0, .slice none 0 0, .slice none 0 0, .slice none 0 0]) (below_drew'' hb))
                      have hQge : W293.heap.size ≤ W306.heap.size := Below.size (by repeat first | with_reducible exact Below.refl _ _ | (refine Hid.out ?_; assumption) | refine below_drewN ?_ _ | refine below_drew1 ?_ | refine below_alloc_ ?_ _)
                      have hqm0 : w.heap.size ≠ W306.heap.size := by have := Blk.lt (T273.out.below S294.out); omega
                      have hqn0 := Ne.symm hqm0
                      have hqm1 : w.heap.size + 1 ≠ W306.heap.size := by have := Blk.lt (T274.out.below S294.out); omega
                      have hqn1 := Ne.symm hqm1)
                   | (have hQ := hid (Blk.below (Blk.new W306 33 [.int .i64 0, .slice none 0 0, .slice none 0 0, .slice none 0 0]) (below_drew' hb))
                      have hQge : W293.heap.size ≤ W306.heap.size := Below.size (by repeat first | with_reducible exact Below.refl _ _ | (refine Hid.out ?_; assumption) | refine below_drewN ?_ _ | refine below_drew1 ?_ | refine below_alloc_ ?_ _)
                      have hqm0 : w.heap.size ≠ W306.heap.size := by have := Blk.lt (T273.out.below S294.out); omega
                      have hqn0 := Ne.symm hqm0
                      have hqm1 : w.heap.size + 1 ≠ W306.heap.size := by have := Blk.lt (T274.out.below S294.out); omega
                      have hqn1 := Ne.symm hqm1)
                   | (have hQ := hid (Blk.below (Blk.new W306 33 [.int .i64 0, .slice none 0 0, .slice none 0 0, .slice none 0 0]) hb)
                      have hQge : W293.heap.size ≤ W306.heap.size := Below.size (by repeat first | with_reducible exact Below.refl _ _ | (refine Hid.out ?_; assumption) | refine below_drewN ?_ _ | refine below_drew1 ?_ | refine below_alloc_ ?_ _)
                      have hqm0 : w.heap.size ≠ W306.heap.size := by have := Blk.lt (T273.out.below S294.out); omega
                      have hqn0 := Ne.symm hqm0
                      have hqm1 : w.heap.size + 1 ≠ W306.heap.size := by have := Blk.lt (T274.out.below S294.out); omega
                      have hqn1 := Ne.symm hqm1)
                   | skip
                 have K320 := hid (OwnS.of_blk hkg315 (B := 0) (Nat.zero_le _))
                 have K321 := hid (OwnS.of_blk hkg316 (B := 0) (Nat.zero_le _))
                 have K322 := hid (OwnS.of_blk hkg317 (B := 0) (Nat.zero_le _))
                 clear hkg315 hgg315 hkg316 hgg316 hkg317 hgg317
                 clear tok1
                 have hS := And.intro (Blk.below (T273.out.below S294.out) H318.out).cells4 ((Blk.below (T274.out.below S294.out) H318.out).cells4)
                 simp only [and_assoc] at hS)
              | (go_at_call 40
                 have _t := tokX
                 refine (iMergeTops_any _ _ x0_1.length x0_1 _ x0_2.length x0_2 _ x0_3.length x0_3 _ _ x1_1.length x1_1 _ x1_2.length x1_2 _ x1_3.length x1_3 _ w0_0 (OwnS.rd (OwnS.below K311.out (by repeat first | with_reducible exact Below.refl _ _ | (refine Hid.out ?_; assumption) | refine below_drewN ?_ _ | refine below_drew1 ?_ | refine below_alloc_ ?_ _))) hn0_1 we0_1 (OwnS.rd (OwnS.below K312.out (by repeat first | with_reducible exact Below.refl _ _ | (refine Hid.out ?_; assumption) | refine below_drewN ?_ _ | refine below_drew1 ?_ | refine below_alloc_ ?_ _))) hn0_2 we0_2 (OwnS.rd (OwnS.below K313.out (by repeat first | with_reducible exact Below.refl _ _ | (refine Hid.out ?_; assumption) | refine below_drewN ?_ _ | refine below_drew1 ?_ | refine below_alloc_ ?_ _))) hn0_3 we0_3 w1_0 (OwnS.rd (OwnS.below K320.out (by repeat first | with_reducible exact Below.refl _ _ | (refine Hid.out ?_; assumption) | refine below_drewN ?_ _ | refine below_drew1 ?_ | refine below_alloc_ ?_ _))) hn1_1 we1_1 (OwnS.rd (OwnS.below K321.out (by repeat first | with_reducible exact Below.refl _ _ | (refine Hid.out ?_; assumption) | refine below_drewN ?_ _ | refine below_drew1 ?_ | refine below_alloc_ ?_ _))) hn1_2 we1_2 (OwnS.rd (OwnS.below K322.out (by repeat first | with_reducible exact Below.refl _ _ | (refine Hid.out ?_; assumption) | refine below_drewN ?_ _ | refine below_drew1 ?_ | refine below_alloc_ ?_ _))) hn1_3 we1_3).mono ?_
                 rintro e W323 ⟨Ah0_1, ch0_1, Ah0_2, ch0_2, Ah0_3, ch0_3, rfl, ho1, hl1, ho2, hl2, ho3, hl3, hp1_2, hp1_3, hp2_3, hb⟩
                 have H324 : Hid (Below W293.heap.size W293 W323) := below_next (by repeat first | with_reducible exact Below.refl _ _ | (refine Hid.out ?_; assumption) | refine below_drewN ?_ _ | refine below_drew1 ?_ | refine below_alloc_ ?_ _) hb
                 have H325 : Hid (Below W306.heap.size W306 W323) := below_next (by repeat first | with_reducible exact Below.refl _ _ | (refine Hid.out ?_; assumption) | refine below_drewN ?_ _ | refine below_drew1 ?_ | refine below_alloc_ ?_ _) hb
                 have H326 : Hid (Below W314.heap.size W314 W323) := below_next (by repeat first | with_reducible exact Below.refl _ _ | (refine Hid.out ?_; assumption) | refine below_drewN ?_ _ | refine below_drew1 ?_ | refine below_alloc_ ?_ _) hb
                 have ho1 := hid (OwnS.mono ho1 (B' := W293.heap.size) (Below.size (by repeat first | with_reducible exact Below.refl _ _ | (refine Hid.out ?_; assumption) | refine below_drewN ?_ _ | refine below_drew1 ?_ | refine below_alloc_ ?_ _)))
                 have ho2 := hid (OwnS.mono ho2 (B' := W293.heap.size) (Below.size (by repeat first | with_reducible exact Below.refl _ _ | (refine Hid.out ?_; assumption) | refine below_drewN ?_ _ | refine below_drew1 ?_ | refine below_alloc_ ?_ _)))
                 have ho3 := hid (OwnS.mono ho3 (B' := W293.heap.size) (Below.size (by repeat first | with_reducible exact Below.refl _ _ | (refine Hid.out ?_; assumption) | refine below_drewN ?_ _ | refine below_drew1 ?_ | refine below_alloc_ ?_ _)))
                 first
                   | (have hQ := hid (Blk.below hQ.out (Hid.out (below_next (B := W314.heap.size) (W := W314) (by repeat first | with_reducible exact Below.refl _ _ | (refine Hid.out ?_; assumption) | refine below_drewN ?_ _ | refine below_drew1 ?_ | refine below_alloc_ ?_ _) hb)))
                      have hQge := hQge)
                   | (have hQ := hid (Blk.below (Blk.new W314 33 [.int .i64 0, .slice none 0 0, .slice none 0 0, .slice none 0 0]) (below_drew'' hb))
                      have hQge : W293.heap.size ≤ W314.heap.size := Below.size (by repeat first | with_reducible exact Below.refl _ _ | (refine Hid.out ?_; assumption) | refine below_drewN ?_ _ | refine below_drew1 ?_ | refine below_alloc_ ?_ _)
                      have hqm0 : w.heap.size ≠ W314.heap.size := by have := Blk.lt (T273.out.below S294.out); omega
                      have hqn0 := Ne.symm hqm0
                      have hqm1 : w.heap.size + 1 ≠ W314.heap.size := by have := Blk.lt (T274.out.below S294.out); omega
                      have hqn1 := Ne.symm hqm1)
                   | (have hQ := hid (Blk.below (Blk.new W314 33 [.int .i64 0, .slice none 0 0, .slice none 0 0, .slice none 0 0]) (below_drew' hb))
                      have hQge : W293.heap.size ≤ W314.heap.size := Below.size (by repeat first | with_reducible exact Below.refl _ _ | (refine Hid.out ?_; assumption) | refine below_drewN ?_ _ | refine below_drew1 ?_ | refine below_alloc_ ?_ _)
                      have hqm0 : w.heap.size ≠ W314.heap.size := by have := Blk.lt (T273.out.below S294.out); omega
                      have hqn0 := Ne.symm hqm0
                      have hqm1 : w.heap.size + 1 ≠ W314.heap.size := by have := Blk.lt (T274.out.below S294.out); omega
                      have hqn1 := Ne.symm hqm1)
                   | (have hQ := hid (Blk.below (Blk.new W314 33 [.int .i64 0, .slice none 0 0, .slice none 0 0, .slice none 0 0]) hb)
                      have hQge : W293.heap.size ≤ W314.heap.size := Below.size (by repeat first | with_reducible exact Below.refl _ _ | (refine Hid.out ?_; assumption) | refine below_drewN ?_ _ | refine below_drew1 ?_ | refine below_alloc_ ?_ _)
                      have hqm0 : w.heap.size ≠ W314.heap.size := by have := Blk.lt (T273.out.below S294.out); omega
                      have hqn0 := Ne.symm hqm0
                      have hqm1 : w.heap.size + 1 ≠ W314.heap.size := by have := Blk.lt (T274.out.below S294.out); omega
                      have hqn1 := Ne.symm hqm1)
                   | skip
                 have HX := H324
                 first
                   | (obtain ⟨q0, q1, q2, q3⟩ := hQ.out.cells4
                      have qf0 := hQ.out.frozen 0
                      have qf1 := hQ.out.frozen 1
                      have qf2 := hQ.out.frozen 2
                      have qf3 := hQ.out.frozen 3)
                   | skip
                 clear hb
                 clear tokX
                 have hS := And.intro (Blk.below (T273.out.below S294.out) H324.out).cells4 ((Blk.below (T274.out.below S294.out) H324.out).cells4)
                 simp only [and_assoc] at hS))
          all_goals
            first
            | (have hql := hQ.out.lt
               go_wp2_with fail
               go_meet
               exact ⟨_, _, _, _, _, _, _, rfl, rfl, hid (Blk.set_ (Blk.set_ (Blk.set_ (Blk.set_ hQ.out 0 _) 1 _) 2 _) 3 _), hid (OwnS.setOther (OwnS.setOther (OwnS.setOther (OwnS.setOther ho1.out hQ.out (by decide) 0 _) (Blk.set_ hQ.out 0 _) (by decide) 1 _) (Blk.set_ (Blk.set_ hQ.out 0 _) 1 _) (by decide) 2 _) (Blk.set_ (Blk.set_ (Blk.set_ hQ.out 0 _) 1 _) 2 _) (by decide) 3 _), hid (OwnS.setOther (OwnS.setOther (OwnS.setOther (OwnS.setOther ho2.out hQ.out (by decide) 0 _) (Blk.set_ hQ.out 0 _) (by decide) 1 _) (Blk.set_ (Blk.set_ hQ.out 0 _) 1 _) (by decide) 2 _) (Blk.set_ (Blk.set_ (Blk.set_ hQ.out 0 _) 1 _) 2 _) (by decide) 3 _), hid (OwnS.setOther (OwnS.setOther (OwnS.setOther (OwnS.setOther ho3.out hQ.out (by decide) 0 _) (Blk.set_ hQ.out 0 _) (by decide) 1 _) (Blk.set_ (Blk.set_ hQ.out 0 _) 1 _) (by decide) 2 _) (Blk.set_ (Blk.set_ (Blk.set_ hQ.out 0 _) 1 _) 2 _) (by decide) 3 _), hl1, hl2, hl3, hp1_2, hp1_3, hp2_3, hid (Below.setCell (Below.setCell (Below.setCell (Below.setCell HX.out hQge _) hQge _) hQge _) hQge _)⟩)
            | (go_wp2_with fail
               go_meet
               exact ⟨_, _, _, _, _, _, _, rfl, rfl, hid (Blk.new _ _ _), hid (OwnS.below ho1.out (below_a1 _ _)), hid (OwnS.below ho2.out (below_a1 _ _)), hid (OwnS.below ho3.out (below_a1 _ _)), hl1, hl2, hl3, hp1_2, hp1_3, hp2_3, hid (below_alloc_ HX.out _)⟩)
        case rest =>
          obtain ⟨qbh, Ah0_1, Ah0_2, Ah0_3, ch0_1, ch0_2, ch0_3, rfl, rfl, B328, Oh0_1, Oh0_2, Oh0_3, hlh0_1, hlh0_2, hlh0_3, hph0_1_2, hph0_1_3, hph0_2_3, S329⟩ := hcut
          obtain ⟨W330, hWx⟩ : ∃ W330, W330 = wc := ⟨_, rfl⟩
          subst hWx
          have S331 := hid (S294.out.trans (S329.out.mono S294.out.size))
          have S332 := hid (S295.out.trans (S329.out.mono S295.out.size))
          have l337 : qbh < W330.heap.size := B328.out.lt
          obtain ⟨c333, c334, c335, c336⟩ := B328.out.cells4
          have l342 : qbw < W330.heap.size := (T278.out.below S331.out).lt
          obtain ⟨c338, c339, c340, c341⟩ := (T278.out.below S331.out).cells4
          go_wp2_with fail
          refine (eqTops_yes _ _ _ _ _ _ _ _ _ _ _ _ _ _ _ _ _ _ _ _ rfl rfl rfl (OwnS.rd Oh0_1.out) (OwnS.rd (T275.out.below S331.out)) (OwnS.rd Oh0_2.out) (OwnS.rd (T276.out.below S331.out)) (OwnS.rd Oh0_3.out) (OwnS.rd (T277.out.below S331.out)) hlh0_1 hlh0_2 hlh0_3).mono ?_
          rintro e W343 ⟨rfl, hb⟩
          have S344 := hid hb
          have S345 := hid (S331.out.trans (S344.out.mono S331.out.size))
          have S346 := hid (S332.out.trans (S344.out.mono S332.out.size))
          clear hb
          clear c333 c334 c335 c336 l337 c338 c339 c340 c341 l342
          have l351 : W102.heap.size < W343.heap.size := (T281.out.below S345.out).lt
          obtain ⟨c347, c348, c349, c350⟩ := (T281.out.below S345.out).cells4
          go_wp2_with fail
          refine (heldTops_yes _ _ _ _ _ _ _ _ _ _ (1) _ (OwnS.rd (M269.out.below S345.out)) (OwnS.rd (M270.out.below S345.out)) (OwnS.rd (M271.out.below S345.out)) hlg0_1 hlg0_2 hlg0_3 (by omega) (by omega)).mono ?_
          rintro e W352 ⟨rfl, hb⟩
          have S353 := hid hb
          have S354 := hid (S345.out.trans (S353.out.mono S345.out.size))
          have S355 := hid (S344.out.trans (S353.out.mono S344.out.size))
          have S356 := hid (S346.out.trans (S353.out.mono S346.out.size))
          clear hb
          clear c347 c348 c349 c350 l351
          go_wp2
          go_ret
          exact ⟨rfl, S356.out⟩
    · skip
      have hp0 : 0 ≤ 1048576 - ((x0_1.length : Int) + (x0_2.length : Int) + (x0_3.length : Int)) := by omega
      go_enter Try.func10, Try.ntmps10
      have Z := hid (Below.refl w.heap.size w)
      go_wp2_with fail
      refine (szTops_yes _ _ _ _ _ _ _ _ _ _ _ _ (by omega) (by omega) (by omega)).mono ?_
      rintro e W1 ⟨rfl, hb⟩
      have S2 := below_call (below_a2 _ _ _) hb
      have B3 := hid (Blk.below (Blk.alloc (Blk.new w 30 [.int .i64 a0_0, .slice A0_1 x0_1.length c0_1, .slice A0_2 x0_2.length c0_2, .slice A0_3 x0_3.length c0_3]) _) hb)
      have B4 := hid (Blk.below (Blk.new2 w _ 30 [.int .i64 a1_0, .slice A1_1 x1_1.length c1_1, .slice A1_2 x1_2.length c1_2, .slice A1_3 x1_3.length c1_3]) hb)
      clear hb
      have l9 : w.heap.size < W1.heap.size := B3.out.lt
      obtain ⟨c5, c6, c7, c8⟩ := B3.out.cells4
      have l14 : w.heap.size + 1 < W1.heap.size := B4.out.lt
      obtain ⟨c10, c11, c12, c13⟩ := B4.out.cells4
      go_wp2_with fail
      refine (szTops_no _ _ _ _ _ _ _ _ _ _ _ _ (by omega) (by omega) hm1_1 hm1_2 hm1_3 (by omega)).mono ?_
      rintro e W15 ⟨rfl, hb⟩
      have S16 := hid hb
      have S17 := hid (S2.out.trans (S16.out.mono S2.out.size))
      clear hb
      go_wp2_with fail
      go_ret
      exact ⟨rfl, S17.out⟩
  · skip
    go_enter Try.func10, Try.ntmps10
    have Z := hid (Below.refl w.heap.size w)
    go_wp2_with fail
    refine (szTops_no _ _ _ _ _ _ _ _ _ _ _ _ (by omega) (by omega) hm0_1 hm0_2 hm0_3 (by omega)).mono ?_
    rintro e W1 ⟨rfl, hb⟩
    have S2 := below_call (below_a2 _ _ _) hb
    have B3 := hid (Blk.below (Blk.alloc (Blk.new w 30 [.int .i64 a0_0, .slice A0_1 x0_1.length c0_1, .slice A0_2 x0_2.length c0_2, .slice A0_3 x0_3.length c0_3]) _) hb)
    have B4 := hid (Blk.below (Blk.new2 w _ 30 [.int .i64 a1_0, .slice A1_1 x1_1.length c1_1, .slice A1_2 x1_2.length c1_2, .slice A1_3 x1_3.length c1_3]) hb)
    clear hb
    go_wp2_with fail
    go_ret
    exact ⟨rfl, S2.out⟩

end Go.Proofs.Ytbodfepfapjikaa
