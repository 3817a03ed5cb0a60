/-
  For every input the law FnSigned returns true, and each argument reads afterwards as it read before. No condition.
-/
import Derived.Test.YtbodfepfapjikaaRows
import Derived.Test.YtbodfepfapjikaaLawFnSigned
import Derived.Test.YtbodfepfapjikaaOpen
import Derived.Test.YtbodfepfapjikaaOpenB
import Derived.ShutString
import Derived.ChangeOld
namespace Go.Proofs.Ytbodfepfapjikaa.fnSigned
open Go.ChangeShapes Go.WideShapes Go.ChangeAt Go.RowKit
set_option linter.unusedVariables false

theorem own : ownKnob Try.prog.godebug = none := by kernel_rfl
theorem laidOut : laidOutB Try.prog = true := by kernel_rfl

set_option maxRecDepth 100000 in
set_option maxHeartbeats 400000 in
theorem lifted (os : Os) (started : os.Started) (H : Type) (enc : TypeId × Value → H) :
    ReturnsInHanded {} Try.checked os 12 .any (Rows.fnSignedSpec.pre6 enc Try.prog Try.f12 Rows.fnSignedRow.domain false) (Rows.fnSignedSpec.post enc Try.prog Try.f12 false true false false) := by
  refine returnsInHanded_of_change (C := Try.checked) own started (by kernel_rfl) Try.func12
    (ChangeSpec.witness6 (enc := enc) (C := Try.checked) false ⟨#[], #[.slice none 0 0, .slice none 0 0], []⟩ 8 (by kernel_rfl) (by kernel_rfl) (by kernel_rfl) (by kernel_rfl)) ?_
  intro W base args ds gs before hval0 hW hcnd _
  have hval : ∀ (j : Nat) t v, Try.f12.params[j]? = some t → args[j]? = some v → Value.okWide Try.prog W .any base t v := hval0
  have hW' := hW
  obtain ⟨p, q, hA0, hV, rfl, hfz, hnd⟩ := hW
  have hA : DataW.TrodAll enc Try.prog W 0 (fun _ => true) true Try.f12.params.toList args.toList ds p := hA0
  rw [Try.params12] at hA hval
  obtain ⟨v0, vs0, d0, ds0, p0, q0, hargs, rfl, rfl, h0, r0⟩ := trodAll_cons hA
  obtain ⟨v1, vs1, d1, ds1, p1, q1, rfl, rfl, rfl, h1, r1⟩ := trodAll_cons r0
  obtain ⟨rfl, rfl, rfl⟩ := trodAll_nil r1
  obtain rfl : args = #[v0, v1] := by cases args; simp_all
  obtain ⟨rfl, rfl⟩ := trodVars_none hV
  have k0 := h0
  have lt0 : ∀ x ∈ p0, x.block < W.heap.size := by obtain ⟨m, hm⟩ := k0; exact DataW.trod_lt m _ _ _ hm
  obtain ⟨fu0, hf0⟩ := h0
  obtain ⟨a0, len0, cap0, rfl⟩ := okWide_slice Try.underlying62 (hval 0 62 v0 rfl rfl)
  obtain ⟨A0, c0, x0, n0, he0, hl0, hm0, hx0, we0⟩ := open_byteL Try.underlying62 Try.underlying5 (by kernel_rfl) (show DataW.trod enc Try.prog W 0 (fun _ => true) true fu0 62 [.slice a0 len0 cap0] = some _ from by simpa [Value.cells] using hf0)
  injection he0 with e0_1 e0_2 e0_3
  have e0_1 := Eq.symm e0_1
  subst e0_1
  have e0_2 := Eq.symm e0_2
  subst e0_2
  have e0_3 := Eq.symm e0_3
  subst e0_3
  obtain rfl := hl0.out
  have k1 := h1
  have lt1 : ∀ x ∈ p1, x.block < W.heap.size := by obtain ⟨m, hm⟩ := k1; exact DataW.trod_lt m _ _ _ hm
  obtain ⟨fu1, hf1⟩ := h1
  obtain ⟨a1, len1, cap1, rfl⟩ := okWide_slice Try.underlying62 (hval 1 62 v1 rfl rfl)
  obtain ⟨A1, c1, x1, n1, he1, hl1, hm1, hx1, we1⟩ := open_byteL Try.underlying62 Try.underlying5 (by kernel_rfl) (show DataW.trod enc Try.prog W 0 (fun _ => true) true fu1 62 [.slice a1 len1 cap1] = some _ from by simpa [Value.cells] using hf1)
  injection he1 with e1_1 e1_2 e1_3
  have e1_1 := Eq.symm e1_1
  subst e1_1
  have e1_2 := Eq.symm e1_2
  subst e1_2
  have e1_3 := Eq.symm e1_3
  subst e1_3
  obtain rfl := hl1.out
  clear hA0 hval0
  refine (FnSigned_any A0 c0 x0 A1 c1 x1 W hx0 hm0 we0 hx1 hm1 we1).mono fun e W' ⟨he, bel⟩ => ?_
  subst he
  exact ⟨_, rfl, _, _, _, [], _, [], hW', trodAll_mk1 (shut_bool Try.underlying4 _), (trodAll_cons_mk (Below.trod laidOut (by kernel_rfl) (of_decide_eq_true (by kernel_rfl)) k0 bel lt0) (trodAll_cons_mk (Below.trod laidOut (by kernel_rfl) (of_decide_eq_true (by kernel_rfl)) k1 bel lt1) trodAll_mk0)), rfl, bel.frame _, fun h => by cases h⟩

theorem over : Rows.fnSignedRow.holds Try.pinned (OpenSpec.ofChange Rows.fnSignedSpec) :=
  OpenClaim.holds_of_wide 12 Try.f12 rfl rfl rfl rfl rfl rfl rfl ⟨rfl, rfl, rfl, rfl, rfl⟩ rfl rfl rfl rfl rfl (by kernel_rfl) Try.func12 (by kernel_rfl)
    (of_decide_eq_true (by kernel_rfl)) (by unfold Func.isWrapper; first | (rw [if_pos (by decide +kernel)]; kernel_rfl) | (rw [if_neg (by decide +kernel)]; exact ⟨rfl, rfl⟩))
    (fun os started H enc _ => lifted os started H enc)

theorem proved : Rows.FnSignedSaid := over
#print axioms proved
end Go.Proofs.Ytbodfepfapjikaa.fnSigned
