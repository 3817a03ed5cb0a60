/-
  FnExactNewCells: the walk of the law, out of the contracts of spec.NewCells and impl.NewCells. Printed by gen_law.py.
-/
import Derived.Test.YtlcpchpodcchlaaStCells
import Derived.Test.YtlcpchpodcchlaaNewCells
import Derived.Test.YtlcpchpodcchlaaOpen
namespace Go.Proofs.Ytlcpchpodcchlaa
open Go.RowKit
set_option linter.unusedVariables false

set_option maxHeartbeats 1600000 in
theorem FnExactNewCells_any (a0 : Int) (a1 : Int) (a2 : Int) (w : World) (w0 : W64 a0) (w1 : W64 a1) (w2 : W64 a2) :
    Calls Try.prog 4 #[.int .i64 a0, .int .i64 a1, .int .i64 a2] w fun e w' => e = .returned (.bool true) ∧ Below w.heap.size w w' := by
  go_enter Try.func4, Try.ntmps4
  have Z := hid (Below.refl w.heap.size w)
  go_wp2_with fail
  refine (sNewCells_any _ _ _ _ w0 w1 w2).mono ?_
  rintro e W1 ⟨Aw0_3, cw0_3, rfl, how0_3, hlw0_3, hb⟩
  have Ow0_3 := hid how0_3
  clear how0_3
  have S2 := hid hb
  clear hb
  go_wp2_with fail
  refine (iNewCells_any _ _ _ _ w0 w1 w2).mono ?_
  rintro e W3 ⟨Ag0_3, cg0_3, rfl, hog0_3, hlg0_3, hb⟩
  have Og0_3 := hid (OwnS.mono hog0_3 (B' := W1.heap.size) (below_a1 _ _).size)
  clear hog0_3
  have S4 := below_call (below_a1 _ _) hb
  have S5 := hid (S2.out.trans (S4.out.mono S2.out.size))
  have B6 := hid (Blk.below (Blk.new W1 29 [.int .i64 (pNewCells a0 a1 a2).1.1, .int .i64 (pNewCells a0 a1 a2).1.2.1, .int .i64 (pNewCells a0 a1 a2).1.2.2.1, .slice Aw0_3 (pNewCells a0 a1 a2).1.2.2.2.length cw0_3]) hb)
  clear hb
  have l11 : W1.heap.size < W3.heap.size := B6.out.lt
  obtain ⟨c7, c8, c9, c10⟩ := B6.out.cells4
  go_wp2_with fail
  refine (eqCells_yes _ _ _ _ _ _ _ _ _ _ rfl (OwnS.rd (OwnS.below Og0_3.out (below_a1 _ _))) (OwnS.rd (OwnS.below (Ow0_3.out.below S4.out) (below_a1 _ _))) hlg0_3).mono ?_
  rintro e W12 ⟨rfl, hb⟩
  have S13 := below_call (below_a1 _ _) hb
  have S14 := hid (S5.out.trans (S13.out.mono S5.out.size))
  have S15 := hid (S4.out.trans (S13.out.mono S4.out.size))
  have B16 := hid (Blk.below (Blk.new W3 29 [.int .i64 (pNewCells a0 a1 a2).1.1, .int .i64 (pNewCells a0 a1 a2).1.2.1, .int .i64 (pNewCells a0 a1 a2).1.2.2.1, .slice Ag0_3 (pNewCells a0 a1 a2).1.2.2.2.length cg0_3]) hb)
  clear hb
  clear c7 c8 c9 c10 l11
  have l21 : W3.heap.size < W12.heap.size := B16.out.lt
  obtain ⟨c17, c18, c19, c20⟩ := B16.out.cells4
  go_wp2_with fail
  refine (markCells_any _ _ _ _ _ w.heap.size _ (1) _ (OwnS.mono (Og0_3.out.below S13.out) (S2.out.size))  hlg0_3 (by omega) (by omega) S14.out.size).mono ?_
  rintro e W22 ⟨rfl, hoM23, hbb, ht⟩
  have S24 := hid ((S14.out).trans hbb)
  have T25 := hid (OwnS.touchAll (Ow0_3.out.below S15.out) ht (fun p hp => by simp only [List.mem_cons, List.not_mem_nil, or_false] at hp; subst hp; exact (Apart.symm (OwnS.apart_lt Ow0_3.out Og0_3.out (Nat.le_refl _)))))
  have T26 := hid (Blk.touchAll (B6.out.below S13.out) ht (fun p hp => by simp only [List.mem_cons, List.not_mem_nil, or_false] at hp; subst hp; exact OwnS.other (Og0_3.out.below S13.out) (B6.out.below S13.out) (by decide)))
  have T27 := hid (Blk.touchAll B16.out ht (fun p hp => by simp only [List.mem_cons, List.not_mem_nil, or_false] at hp; subst hp; exact OwnS.other (Og0_3.out.below S13.out) B16.out (by decide)))
  have M23 := hid hoM23
  clear hoM23 hbb ht
  have hqm : (0 : Int) ≤ 1 + ((pNewCells a0 a1 a2).1.2.2.2.length : Int) := by omega
  clear c17 c18 c19 c20 l21
  have l32 : W3.heap.size < W22.heap.size := T27.out.lt
  obtain ⟨c28, c29, c30, c31⟩ := T27.out.cells4
  go_wp2_with fail
  refine (heldCells_yes _ _ _ _ _ _ (1) _ (OwnS.rd M23.out) hlg0_3 (by omega) (by omega)).mono ?_
  rintro e W33 ⟨rfl, hb⟩
  have S34 := hid hb
  have S35 := hid (S24.out.trans (S34.out.mono S24.out.size))
  clear hb
  clear c28 c29 c30 c31 l32
  go_wp2_with fail
  refine (iNewCells_any _ _ _ _ w0 w1 w2).mono ?_
  rintro e W36 ⟨Ah0_3, ch0_3, rfl, hoh0_3, hlh0_3, hb⟩
  have Oh0_3 := hid hoh0_3
  clear hoh0_3
  have S37 := hid hb
  have S38 := hid (S35.out.trans (S37.out.mono S35.out.size))
  have S39 := hid (S34.out.trans (S37.out.mono S34.out.size))
  clear hb
  have l44 : W1.heap.size < W36.heap.size := (T26.out.below S39.out).lt
  obtain ⟨c40, c41, c42, c43⟩ := (T26.out.below S39.out).cells4
  go_wp2_with fail
  refine (eqCells_yes _ _ _ _ _ _ _ _ _ _ rfl (OwnS.rd (OwnS.below Oh0_3.out (below_a1 _ _))) (OwnS.rd (OwnS.below (T25.out.below S39.out) (below_a1 _ _))) hlh0_3).mono ?_
  rintro e W45 ⟨rfl, hb⟩
  have S46 := below_call (below_a1 _ _) hb
  have S47 := hid (S38.out.trans (S46.out.mono S38.out.size))
  have S48 := hid (S39.out.trans (S46.out.mono S39.out.size))
  have B49 := hid (Blk.below (Blk.new W36 29 [.int .i64 (pNewCells a0 a1 a2).1.1, .int .i64 (pNewCells a0 a1 a2).1.2.1, .int .i64 (pNewCells a0 a1 a2).1.2.2.1, .slice Ah0_3 (pNewCells a0 a1 a2).1.2.2.2.length ch0_3]) hb)
  clear hb
  clear c40 c41 c42 c43 l44
  have l54 : W3.heap.size < W45.heap.size := (T27.out.below S48.out).lt
  obtain ⟨c50, c51, c52, c53⟩ := (T27.out.below S48.out).cells4
  go_wp2_with fail
  refine (heldCells_yes _ _ _ _ _ _ (1) _ (OwnS.rd (M23.out.below S48.out)) hlg0_3 (by omega) (by omega)).mono ?_
  rintro e W55 ⟨rfl, hb⟩
  have S56 := hid hb
  have S57 := hid (S47.out.trans (S56.out.mono S47.out.size))
  have S58 := hid (S46.out.trans (S56.out.mono S46.out.size))
  have S59 := hid (S48.out.trans (S56.out.mono S48.out.size))
  clear hb
  clear c50 c51 c52 c53 l54
  go_wp2
  go_ret
  exact ⟨rfl, S57.out⟩

end Go.Proofs.Ytlcpchpodcchlaa
