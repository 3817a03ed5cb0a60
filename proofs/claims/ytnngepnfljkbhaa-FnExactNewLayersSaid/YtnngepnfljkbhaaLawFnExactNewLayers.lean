/-
  FnExactNewLayers: the walk of the law, out of the contracts of spec.NewLayers and impl.NewLayers.
-/
import Derived.Test.YtnngepnfljkbhaaNewLayers
import Derived.Test.YtnngepnfljkbhaaLayLaw
import Derived.Test.YtnngepnfljkbhaaOpen
namespace Go.Proofs.Ytnngepnfljkbhaa
open Go.RowKit
set_option linter.unusedVariables false

theorem offL_le {L : List Lay} (h : ∀ e ∈ L, e.x.length ≤ 384) (n : Nat) : offL L n ≤ 387 * (n : Int) := by
  induction n with
  | zero => simp [offL]
  | succ n ih =>
    simp only [offL]
    cases hn : L[n]? with
    | none => simp; omega
    | some e => have := h e (List.mem_of_getElem? hn); simp; omega

set_option maxHeartbeats 1600000 in
theorem FnExactNewLayers_any (a0 a1 a2 : Int) (w : World) (w0 : W64 a0) (w1 : W64 a1) (w2 : W64 a2) :
    Calls Try.prog 8 #[.int .i64 a0, .int .i64 a1, .int .i64 a2] w fun e w' => e = .returned (.bool true) ∧ Below w.heap.size w w' := by
  obtain ⟨p, hp⟩ : ∃ p, p = pNewLayers a0 a1 a2 := ⟨_, rfl⟩
  have CS : Hid (∀ w', Calls Try.prog 34 #[.int .i64 a0, .int .i64 a1, .int .i64 a2] w' (RetCS w' p)) := fun w' => hp ▸ sNewLayers_any a0 a1 a2 w' w0 w1 w2
  have CI : Hid (∀ w', Calls Try.prog 35 #[.int .i64 a0, .int .i64 a1, .int .i64 a2] w' (RetCS w' p)) := fun w' => hp ▸ iNewLayers_any a0 a1 a2 w' w0 w1 w2
  obtain ⟨pl, pb⟩ := p
  clear hp
  go_enter Try.func8, Try.ntmps8
  go_wp2_with (go_at_call 34; with_reducible refine (CS.out _).mono ?_)
  rintro e W1 ⟨Aw, cw, Lw, rfl, hpw, how, hlw, hxw, hb1⟩
  have HPW := hid hpw
  have OW := hid how
  have S1 := hid hb1
  clear hpw how hb1
  go_wp2_with (go_at_call 35; with_reducible refine (CI.out _).mono ?_)
  rintro e W2 ⟨Ag, cg, Lg, rfl, hpg, hog, hlg, hxg, hb2⟩
  have HPG := hid hpg
  have OG := hid hog
  have S2 := hid hb2
  have OW2 := hid (OW.out.below hb2)
  clear hpg hog hb2
  go_wp2_with fail
  refine (eqCellsS_yes Ag Aw cg cw Lg Lw _ OG.out.rd OW2.out.rd (HPG.out.trans HPW.out.symm) (by omega) (fun e he => by have := hxg e he; omega)).mono ?_
  rintro e W3 ⟨rfl, hb3⟩
  have S3 := hid hb3
  have OG3 := hid (OG.out.below hb3)
  clear hb3
  have hof := offL_le hxg Lg.length
  have hof0 := offL_ge Lg Lg.length
  obtain ⟨m, hm⟩ : ∃ m, m = 1 + offL Lg Lg.length := ⟨_, rfl⟩
  have hm1 : 1 ≤ m := by omega
  have hmb : 1 + offL Lg Lg.length ≤ 1000000000 := by omega
  have HM := hid hm
  have HXG := hid hxg
  have HXW := hid hxw
  have hmn : ¬ m < 0 := by omega
  have CM : Hid (Calls Try.prog 37 #[.slice Ag Lg.length cg, .int .i64 1] W3 fun e w' => e = .returned (.int .i64 m) ∧ OwnC w' W1.heap.size Ag (markT 1 Lg Lg.length) ∧ Below W1.heap.size W3 w') := by
    have h := markCellsS_any Ag cg W1.heap.size Lg 1 W3 OG3.out (by omega) (fun e he => by have := HXG.out e he; omega) (by omega) hmb (Nat.le_trans S2.out.size S3.out.size)
    rw [← HM.out] at h
    exact h
  clear hm hof hof0 hxg hxw
  go_wp2_with (go_at_call 37; with_reducible refine CM.out.mono ?_; rintro e W4 ⟨rfl, hm4, hb4⟩)
  have M4 := hid hm4
  have S4 := hid hb4
  have CH : Hid (∀ w', RdC w' Ag (markT 1 Lg Lg.length) → Calls Try.prog 38 #[.slice Ag Lg.length cg, .int .i64 1] w' fun e w'' => e = .returned (.int .i64 m) ∧ w' = w'') := fun w' hr => by
    have h := heldCellsS_yes Ag cg Lg 1 w' hr (by omega) (fun e he => by have := HXG.out e he; omega) (by omega) hmb
    rw [← HM.out] at h
    exact h
  have W1to4 : Hid (Below W1.heap.size W1 W4) := (S2.out.trans (S3.out.mono S2.out.size)).trans S4.out
  clear hm4 hb4 CM OW2 OG OG3
  go_wp2_with (go_at_call 38; with_reducible refine (CH.out _ M4.out.rd).mono ?_; rintro e w' ⟨rfl, rfl⟩)
  go_wp2_with (go_at_call 35; with_reducible refine (CI.out _).mono ?_)
  rintro e W5 ⟨Ah, ch, Lh, rfl, hph, hoh, hlh, hxh, hb5⟩
  have OW5 := hid (OW.out.below (W1to4.out.trans (hb5.mono W1to4.out.size)))
  have M5 := hid (M4.out.below hb5)
  have OH := hid hoh
  have HPH := hid hph
  have S5 := hid hb5
  clear hoh hph hb5
  go_wp2_with fail
  refine (eqCellsS_yes Ah Aw ch cw Lh Lw _ OH.out.rd OW5.out.rd (HPH.out.trans HPW.out.symm) (by omega) (fun e he => by have := hxh e he; omega)).mono ?_
  rintro e W6 ⟨rfl, hb6⟩
  have M6 := hid (M5.out.below hb6)
  have Z := hid ((S1.out.trans (W1to4.out.mono S1.out.size)).trans ((S5.out.trans (hb6.mono S5.out.size)).mono (Nat.le_trans S1.out.size W1to4.out.size)))
  clear hb6
  go_wp2_with (go_at_call 38; with_reducible refine (CH.out _ M6.out.rd).mono ?_; rintro e w' ⟨rfl, rfl⟩)
  go_ret
  exact ⟨rfl, Z.out⟩
end Go.Proofs.Ytnngepnfljkbhaa
