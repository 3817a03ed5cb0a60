/-
  FnExactValidSieve: the walk of the law.
-/
import Derived.Test.YtekgohnggnlonaaSieve
import Derived.Test.YtekgohnggnlonaaOpen
namespace Go.Proofs.Ytekgohnggnlonaa
open Go.RowKit

set_option maxHeartbeats 400000 in
theorem FnExactValidSieve_any (r s : Int) (A : Option Addr) (c : Nat) (xs : List Bool) (w : World) (_wr : W64 r) (_ws : W64 s) (hx : RdL Value.bool w A xs) (hm : xs.length ≤ 9223372036854775807) :
    Calls Try.prog 3 #[.agg #[.int .i64 r, .int .i64 s, .slice A xs.length c]] w fun e w' => e = .returned (.bool true) ∧ Below w.heap.size w w' := by
  by_cases hn : (xs.length : Int) ≤ 1048576
  · have X0 := hid hx
    clear hx
    have b1 : Blk (w.alloc (.cells #[.int .i64 r, .int .i64 s, .slice A xs.length c] 24)) w.heap.size 24 [.int .i64 r, .int .i64 s, .slice A xs.length c] := Blk.new _ _ _
    have B1 := hid b1
    clear b1
    go_enter Try.func3, Try.ntmps3
    go_wp2_with fail
    refine (szSieve_yes _ _ _ _ _ _ _ (by omega) (by omega) hn).mono ?_
    rintro e w1 ⟨rfl, hb⟩
    have hs1 := below_call (below_a1 _ _) hb
    have X1 := hid (X0.out.below hs1.out)
    have B1a := hid (B1.out.below hb)
    obtain ⟨c0, c1, c2⟩ := B1a.out.cells3
    clear hb B1
    go_wp2_with fail
    refine (toSieve_any A c xs r s _ X1.out (by omega)).mono ?_
    rintro e w2 ⟨g1, rfl, hg1, hk1, hb⟩
    have hs2 := hid (hs1.out.trans (hb.mono hs1.out.size))
    have X2 := hid (X1.out.below hb)
    have B1b := hid (B1a.out.below hb)
    clear hb B1a c0 c1 c2
    go_wp2_with fail
    refine (sValidSieve_any _ _ _ _ _ _).mono ?_
    rintro e w3 ⟨rfl, hb⟩
    have hs3 := hid (hs2.out.trans (hb.mono hs2.out.size))
    have X3 := hid (X2.out.below hb)
    have B3 := hid (B1b.out.below hb)
    obtain ⟨c0, c1, c2⟩ := B3.out.cells3
    clear hb B1b hg1 hk1
    go_wp2_with fail
    refine (toSieve_any A c xs r s _ X3.out (by omega)).mono ?_
    rintro e w4 ⟨g2, rfl, hg2, hk2, hb⟩
    have hs4 := hid (hs3.out.trans (hb.mono hs3.out.size))
    have X4 := hid (X3.out.below hb)
    have B4 := hid (B3.out.below hb)
    have K4 := hid hk2
    clear hb B3 c0 c1 c2 hk2
    go_wp2_with fail
    refine (iValidSieve_any _ _ _ _ _ _).mono ?_
    rintro e w5 ⟨rfl, hb⟩
    have hs5 := hid (hs4.out.trans ((below_call (below_a1 _ _) hb).out.mono hs4.out.size))
    have hq := hid (below_call (below_a1 _ _) hb).out
    have X5 := hid (X4.out.below hq.out)
    have B5 := hid (B4.out.below hq.out)
    have K5 := hid (K4.out.below hq.out)
    have N5 := hid ((Blk.new w4 27 [.int .i64 r, .int .i64 s, .slice (some ⟨g2, 0, none⟩) xs.length xs.length]).below hb)
    obtain ⟨c0, c1, c2⟩ := B5.out.cells3
    obtain ⟨d0, d1, d2⟩ := N5.out.cells3
    clear hb B4 K4
    go_wp2_with fail
    go_region_held3 (fun w' => w'.cell? ⟨w.heap.size, 0, none⟩ = some (.int .i64 r) ∧ w'.cell? ⟨w.heap.size, 1, none⟩ = some (.int .i64 s) ∧ w'.cell? ⟨w.heap.size, 2, none⟩ = some (.slice A xs.length c) ∧
        w'.cell? ⟨w4.heap.size, 0, none⟩ = some (.int .i64 r) ∧ w'.cell? ⟨w4.heap.size, 1, none⟩ = some (.int .i64 s) ∧ w'.cell? ⟨w4.heap.size, 2, none⟩ = some (.slice (some ⟨g2, 0, none⟩) xs.length xs.length)) (first | go_keep | exact hS)
      (first
        | (go_at_call 17
           refine (toSieve_any A c xs r s _ (X5.out.drewN 1) (by omega)).mono ?_
           rintro e w6 ⟨g3, rfl, hg3, hk3, hb⟩
           have hb := below_drew' hb
           have hs6 := hid (hs5.out.trans (hb.mono hs5.out.size))
           have B6 := hid (B5.out.below hb)
           have N6 := hid (N5.out.below hb)
           have K6 := hid (K5.out.below hb)
           have L6 := hid hk3
           have hS := And.intro B6.out.cells3 N6.out.cells3
           simp only [and_assoc] at hS
           clear hb hk3)
        | (go_at_call 19
           refine (eqSieve_yes _ _ _ _ _ xs rfl r s _ K6.out.rd0 L6.out.rd0 (by omega)).mono ?_
           rintro e w7 ⟨rfl, hb⟩
           have hs7 := hid (hs6.out.trans (hb.mono hs6.out.size))
           have B7 := hid (B6.out.below hb)
           have N7 := hid (N6.out.below hb)
           clear hS
           have hS := And.intro B7.out.cells3 N7.out.cells3
           simp only [and_assoc] at hS
           clear hb))
    go_wp2
    go_ret
    exact ⟨rfl, hs7.out⟩
  · go_enter Try.func3, Try.ntmps3
    go_wp2_with fail
    refine (szSieve_no _ _ _ _ _ _ _ (by omega) (by omega) hm (by omega)).mono ?_
    rintro e w1 ⟨rfl, hb1⟩
    go_wp2_with fail
    go_ret
    exact ⟨rfl, (below_call (below_a1 _ _) hb1).out⟩

end Go.Proofs.Ytekgohnggnlonaa
