/-
  FnExactNewSieve: the walk of the law, out of the contracts of spec.NewSieve and impl.NewSieve. Printed by gen_law.py.
-/
import Derived.Test.YtekgohnggnlonaaStSieve
import Derived.Test.YtekgohnggnlonaaNewSieve
import Derived.Test.YtekgohnggnlonaaOpen
namespace Go.Proofs.Ytekgohnggnlonaa
open Go.RowKit
set_option linter.unusedVariables false

set_option maxHeartbeats 1600000 in
theorem FnExactNewSieve_any (a0 : Int) (a1 : Int) (a2 : Int) (w : World) (w0 : W64 a0) (w1 : W64 a1) (w2 : W64 a2) :
    Calls Try.prog 4 #[.int .i64 a0, .int .i64 a1, .int .i64 a2] w fun e w' => e = .returned (.bool true) ∧ Below w.heap.size w w' := by
  go_enter Try.func4, Try.ntmps4
  have Z := hid (Below.refl w.heap.size w)
  go_wp2_with fail
  refine (sNewSieve_any _ _ _ _ w0 w1 w2).mono ?_
  rintro e W1 ⟨Aw0_2, cw0_2, rfl, how0_2, hlw0_2, hb⟩
  have Ow0_2 := hid how0_2
  clear how0_2
  have S2 := hid hb
  clear hb
  go_wp2_with fail
  refine (iNewSieve_any _ _ _ _ w0 w1 w2).mono ?_
  rintro e W3 ⟨Ag0_2, cg0_2, rfl, hog0_2, hlg0_2, hb⟩
  have Og0_2 := hid (OwnS.mono hog0_2 (B' := W1.heap.size) (below_a1 _ _).size)
  clear hog0_2
  have S4 := below_call (below_a1 _ _) hb
  have S5 := hid (S2.out.trans (S4.out.mono S2.out.size))
  have B6 := hid (Blk.below (Blk.new W1 27 [.int .i64 (pNewSieve a0 a1 a2).1.1, .int .i64 (pNewSieve a0 a1 a2).1.2.1, .slice Aw0_2 (pNewSieve a0 a1 a2).1.2.2.length cw0_2]) hb)
  clear hb
  have l10 : W1.heap.size < W3.heap.size := B6.out.lt
  obtain ⟨c7, c8, c9⟩ := B6.out.cells3
  go_wp2_with fail
  refine (eqSieve_yes _ _ _ _ _ _ _ _ _ rfl (OwnS.rd (OwnS.below Og0_2.out (below_a1 _ _))) (OwnS.rd (OwnS.below (Ow0_2.out.below S4.out) (below_a1 _ _))) hlg0_2).mono ?_
  rintro e W11 ⟨rfl, hb⟩
  have S12 := below_call (below_a1 _ _) hb
  have S13 := hid (S5.out.trans (S12.out.mono S5.out.size))
  have S14 := hid (S4.out.trans (S12.out.mono S4.out.size))
  have B15 := hid (Blk.below (Blk.new W3 27 [.int .i64 (pNewSieve a0 a1 a2).1.1, .int .i64 (pNewSieve a0 a1 a2).1.2.1, .slice Ag0_2 (pNewSieve a0 a1 a2).1.2.2.length cg0_2]) hb)
  clear hb
  clear c7 c8 c9 l10
  have l19 : W3.heap.size < W11.heap.size := B15.out.lt
  obtain ⟨c16, c17, c18⟩ := B15.out.cells3
  go_wp2_with fail
  refine (markSieve_any _ _ _ _ w.heap.size _ (1) _ (OwnS.mono (Og0_2.out.below S12.out) (S2.out.size))  hlg0_2 (by omega) (by omega) S13.out.size).mono ?_
  rintro e W20 ⟨rfl, hoM21, hbb, ht⟩
  have S22 := hid ((S13.out).trans hbb)
  have T23 := hid (OwnS.touchAll (Ow0_2.out.below S14.out) ht (fun p hp => by simp only [List.mem_cons, List.not_mem_nil, or_false] at hp; subst hp; exact (Apart.symm (OwnS.apart_lt Ow0_2.out Og0_2.out (Nat.le_refl _)))))
  have T24 := hid (Blk.touchAll (B6.out.below S12.out) ht (fun p hp => by simp only [List.mem_cons, List.not_mem_nil, or_false] at hp; subst hp; exact OwnS.other (Og0_2.out.below S12.out) (B6.out.below S12.out) (by decide)))
  have T25 := hid (Blk.touchAll B15.out ht (fun p hp => by simp only [List.mem_cons, List.not_mem_nil, or_false] at hp; subst hp; exact OwnS.other (Og0_2.out.below S12.out) B15.out (by decide)))
  have M21 := hid hoM21
  clear hoM21 hbb ht
  have hqm : (0 : Int) ≤ 1 + ((pNewSieve a0 a1 a2).1.2.2.length : Int) := by omega
  clear c16 c17 c18 l19
  have l29 : W3.heap.size < W20.heap.size := T25.out.lt
  obtain ⟨c26, c27, c28⟩ := T25.out.cells3
  go_wp2_with fail
  refine (heldSieve_yes _ _ _ _ _ (1) _ (OwnS.rd M21.out) hlg0_2 (by omega) (by omega)).mono ?_
  rintro e W30 ⟨rfl, hb⟩
  have S31 := hid hb
  have S32 := hid (S22.out.trans (S31.out.mono S22.out.size))
  clear hb
  clear c26 c27 c28 l29
  go_wp2_with fail
  refine (iNewSieve_any _ _ _ _ w0 w1 w2).mono ?_
  rintro e W33 ⟨Ah0_2, ch0_2, rfl, hoh0_2, hlh0_2, hb⟩
  have Oh0_2 := hid hoh0_2
  clear hoh0_2
  have S34 := hid hb
  have S35 := hid (S32.out.trans (S34.out.mono S32.out.size))
  have S36 := hid (S31.out.trans (S34.out.mono S31.out.size))
  clear hb
  have l40 : W1.heap.size < W33.heap.size := (T24.out.below S36.out).lt
  obtain ⟨c37, c38, c39⟩ := (T24.out.below S36.out).cells3
  go_wp2_with fail
  refine (eqSieve_yes _ _ _ _ _ _ _ _ _ rfl (OwnS.rd (OwnS.below Oh0_2.out (below_a1 _ _))) (OwnS.rd (OwnS.below (T23.out.below S36.out) (below_a1 _ _))) hlh0_2).mono ?_
  rintro e W41 ⟨rfl, hb⟩
  have S42 := below_call (below_a1 _ _) hb
  have S43 := hid (S35.out.trans (S42.out.mono S35.out.size))
  have S44 := hid (S36.out.trans (S42.out.mono S36.out.size))
  have B45 := hid (Blk.below (Blk.new W33 27 [.int .i64 (pNewSieve a0 a1 a2).1.1, .int .i64 (pNewSieve a0 a1 a2).1.2.1, .slice Ah0_2 (pNewSieve a0 a1 a2).1.2.2.length ch0_2]) hb)
  clear hb
  clear c37 c38 c39 l40
  have l49 : W3.heap.size < W41.heap.size := (T25.out.below S44.out).lt
  obtain ⟨c46, c47, c48⟩ := (T25.out.below S44.out).cells3
  go_wp2_with fail
  refine (heldSieve_yes _ _ _ _ _ (1) _ (OwnS.rd (M21.out.below S44.out)) hlg0_2 (by omega) (by omega)).mono ?_
  rintro e W50 ⟨rfl, hb⟩
  have S51 := hid hb
  have S52 := hid (S43.out.trans (S51.out.mono S43.out.size))
  have S53 := hid (S42.out.trans (S51.out.mono S42.out.size))
  have S54 := hid (S44.out.trans (S51.out.mono S44.out.size))
  clear hb
  clear c46 c47 c48 l49
  go_wp2
  go_ret
  exact ⟨rfl, S52.out⟩

end Go.Proofs.Ytekgohnggnlonaa
