/-
  FnExactKeysOfText: the walk of the law, out of the contracts of the reference and the program.
-/
import Derived.Test.YtbodfepfapjikaaDoorText
namespace Go.Proofs.YtbodfepfapjikaaDoor
open Go.RowKit
set_option linter.unusedVariables false
set_option linter.unusedSimpArgs false

theorem pKeys_len (t : List UInt8) : (pKeysOfText t).1.length ≤ 1048576 := by
  unfold pKeysOfText
  split
  · show (keysT t).length ≤ 1048576
    omega
  · simp
set_option maxHeartbeats 1600000 in
theorem FnExactKeysOfText_any (s : ByteArray) (m : Int) (w : World) (hs : s.size ≤ 9223372036854775807) (hm : w.cell? ⟨1, 0, none⟩ = some (.int .i64 m)) :
    Calls Tryd.prog 3 #[.string s] w fun e w' => e = .returned (.bool true) ∧ Below w.heap.size w w' := by
  by_cases hn : (s.size : Int) ≤ 1048576
  · have hn1 : s.size ≤ 1048576 := by omega
    have hl := pKeys_len s.data.toList
    obtain ⟨p, hp⟩ : ∃ p, p = pKeysOfText s.data.toList := ⟨_, rfl⟩
    have CS := hid (fun w => sKeysOfText_any s w hn1)
    have hmb : Hid (∀ w', Below w.heap.size w w' → w'.cell? ⟨1, 0, none⟩ = some (.int .i64 m)) := fun w' hb => (hb.cell (p := ⟨1, 0, none⟩) (World.block_lt_of_cell? w _ hm)).trans hm
    have CI := hid (fun w hm => iKeysOfText_any s m w hn1 hm)
    rw [← hp] at CS CI hl
    clear hm hp
    obtain ⟨px, pb⟩ := p
    have hl : px.length ≤ 1048576 := hl
    go_enter Tryd.func3, Tryd.ntmps3
    go_wp2_with fail
    refine (CS.out _).mono ?_
    rintro e W1 ⟨Aw, cw, rfl, how, hb⟩
    have Ow := hid how
    have S1 := hid hb
    clear how hb CS
    go_wp2_with fail
    refine (CI.out _ (hmb.out _ S1.out)).mono ?_
    rintro e W2 ⟨Ag, cg, rfl, hog, hb⟩
    have Og := hid hog
    have S2 := hid hb
    have S3 := hid (S1.out.trans (S2.out.mono S1.out.size))
    clear hog hb
    go_wp2_with fail
    refine (eqInt64S_any _ _ _ _ _ _ _ (OwnS.rd Og.out) (OwnS.rd (Ow.out.below S2.out)) hl).mono ?_
    rintro e W4 ⟨rfl, nd, hnd⟩
    simp only [decide_true]
    have hb := below_of_draw hnd
    clear hnd
    have S4 := hid hb
    have S5 := hid (S3.out.trans (S4.out.mono S3.out.size))
    have S6 := hid (S2.out.trans (S4.out.mono S2.out.size))
    clear hb
    go_wp2_with fail
    refine (markInt64S_any _ _ w.heap.size _ (1) _ (OwnS.mono (Og.out.below S4.out) S1.out.size) hl (by omega) (by omega)).mono ?_
    rintro e W7 ⟨rfl, hoM, htt⟩
    have hbb := htt.below (OwnS.mono (Og.out.below S4.out) S1.out.size)
    have ht := TouchAll.of_touch htt
    have S7 := hid ((S5.out).trans hbb)
    have Tw := hid (OwnS.touchAll (Ow.out.below S6.out) ht (fun p hp => by simp only [List.mem_cons, List.not_mem_nil, or_false] at hp; subst hp; exact (Apart.symm (OwnS.apart_lt Ow.out Og.out (Nat.le_refl _)))))
    have M := hid hoM
    clear hoM hbb ht htt
    have hqm : (0 : Int) ≤ 1 + (px.length : Int) := by omega
    go_wp2_with fail
    refine (heldInt64S_yes _ _ _ (1) _ (OwnS.rd M.out) hl (by omega) (by omega)).mono ?_
    rintro e W8 ⟨rfl, rfl⟩
    go_wp2_with fail
    refine (CI.out _ (hmb.out _ S7.out)).mono ?_
    rintro e W9 ⟨Ah, ch, rfl, hoh, hb⟩
    have Oh := hid hoh
    have S9 := hid hb
    have S10 := hid (S7.out.trans (S9.out.mono S7.out.size))
    clear hoh hb
    go_wp2_with fail
    refine (eqInt64S_any _ _ _ _ _ _ _ (OwnS.rd Oh.out) (OwnS.rd (Tw.out.below S9.out)) hl).mono ?_
    rintro e W11 ⟨rfl, nd, hnd⟩
    simp only [decide_true]
    have hb := below_of_draw hnd
    clear hnd
    have S11 := hid hb
    have S12 := hid (S10.out.trans (S11.out.mono S10.out.size))
    have S13 := hid (S9.out.trans (S11.out.mono S9.out.size))
    clear hb
    go_wp2_with fail
    refine (heldInt64S_yes _ _ _ (1) _ (OwnS.rd (M.out.below S13.out)) hl (by omega) (by omega)).mono ?_
    rintro e W14 ⟨rfl, rfl⟩
    go_wp2
    go_ret
    exact ⟨rfl, S12.out⟩
  · have hd : (1048576 : Int) < s.size := by omega
    go_enter Tryd.func3, Tryd.ntmps3
    go_wp2
    go_ret
    exact ⟨rfl, Below.refl _ _⟩
end Go.Proofs.YtbodfepfapjikaaDoor
