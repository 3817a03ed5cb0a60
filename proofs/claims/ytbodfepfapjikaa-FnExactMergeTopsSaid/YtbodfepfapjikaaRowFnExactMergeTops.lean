/-
  For every input the law FnExactMergeTops returns true, and each argument reads afterwards as it read before. No condition.
-/
import Derived.Test.YtbodfepfapjikaaRows
import Derived.Test.YtbodfepfapjikaaLawFnExactMergeTops
import Derived.Test.YtbodfepfapjikaaOpen
import Derived.ShutString
import Derived.ChangeOld
namespace Go.Proofs.Ytbodfepfapjikaa.fnExactMergeTops
open Go.ChangeShapes Go.WideShapes Go.ChangeAt Go.RowKit
set_option linter.unusedVariables false

theorem own : ownKnob Try.prog.godebug = none := by kernel_rfl
theorem laidOut : laidOutB Try.prog = true := by kernel_rfl

set_option maxRecDepth 100000 in
set_option maxHeartbeats 400000 in
theorem lifted (os : Os) (started : os.Started) (H : Type) (enc : TypeId × Value → H) :
    ReturnsInHanded {} Try.checked os 10 .any (Rows.fnExactMergeTopsSpec.pre6 enc Try.prog Try.f10 Rows.fnExactMergeTopsRow.domain false) (Rows.fnExactMergeTopsSpec.post enc Try.prog Try.f10 false true false false) := by
  refine returnsInHanded_of_change (C := Try.checked) own started (by kernel_rfl) Try.func10
    (ChangeSpec.witness6 (enc := enc) (C := Try.checked) false ⟨#[], #[.agg #[.int .i64 0, .slice none 0 0, .slice none 0 0, .slice none 0 0], .agg #[.int .i64 0, .slice none 0 0, .slice none 0 0, .slice none 0 0]], []⟩ 8 (by kernel_rfl) (by kernel_rfl) (by kernel_rfl) (by kernel_rfl)) ?_
  intro W base args ds gs before hval0 hW hcnd _
  have hval : ∀ (j : Nat) t v, Try.f10.params[j]? = some t → args[j]? = some v → Value.okWide Try.prog W .any base t v := hval0
  have hW' := hW
  obtain ⟨p, q, hA0, hV, rfl, hfz, hnd⟩ := hW
  have hA : DataW.TrodAll enc Try.prog W 0 (fun _ => true) true Try.f10.params.toList args.toList ds p := hA0
  rw [Try.params10] at hA hval
  obtain ⟨v0, vs0, d0, ds0, p0, q0, hargs, rfl, rfl, h0, r0⟩ := trodAll_cons hA
  obtain ⟨v1, vs1, d1, ds1, p1, q1, rfl, rfl, rfl, h1, r1⟩ := trodAll_cons r0
  obtain ⟨rfl, rfl, rfl⟩ := trodAll_nil r1
  obtain rfl : args = #[v0, v1] := by cases args; simp_all
  obtain ⟨rfl, rfl⟩ := trodVars_none hV
  have k0 := h0
  have lt0 : ∀ x ∈ p0, x.block < W.heap.size := by obtain ⟨m, hm⟩ := k0; exact DataW.trod_lt m _ _ _ hm
  obtain ⟨v0_0, v0_1, v0_2, v0_3, y0_0, y0_1, y0_2, y0_3, fu0, rfl, rfl, rfl, h0_0, h0_1, h0_2, h0_3⟩ := Joins.open_agg4 Try.underlying30 (by kernel_rfl) (by kernel_rfl) (hval 0 30 v0 rfl rfl) h0
  obtain ⟨a0_0, e0_0, -, w0_0⟩ := DataW.trod_int Try.underlying2 h0_0
  simp only [List.cons.injEq, and_true] at e0_0
  subst e0_0
  obtain ⟨A0_1, c0_1, x0_1, n0_1, rfl, hl0_1, hm0_1, hx0_1, we0_1⟩ := open_intL Try.underlying22 Try.underlying2 (by kernel_rfl) h0_1
  obtain rfl := hl0_1.out
  obtain ⟨A0_2, c0_2, x0_2, n0_2, rfl, hl0_2, hm0_2, hx0_2, we0_2⟩ := open_intL Try.underlying22 Try.underlying2 (by kernel_rfl) h0_2
  obtain rfl := hl0_2.out
  obtain ⟨A0_3, c0_3, x0_3, n0_3, rfl, hl0_3, hm0_3, hx0_3, we0_3⟩ := open_intL Try.underlying22 Try.underlying2 (by kernel_rfl) h0_3
  obtain rfl := hl0_3.out
  have k1 := h1
  have lt1 : ∀ x ∈ p1, x.block < W.heap.size := by obtain ⟨m, hm⟩ := k1; exact DataW.trod_lt m _ _ _ hm
  obtain ⟨v1_0, v1_1, v1_2, v1_3, y1_0, y1_1, y1_2, y1_3, fu1, rfl, rfl, rfl, h1_0, h1_1, h1_2, h1_3⟩ := Joins.open_agg4 Try.underlying30 (by kernel_rfl) (by kernel_rfl) (hval 1 30 v1 rfl rfl) h1
  obtain ⟨a1_0, e1_0, -, w1_0⟩ := DataW.trod_int Try.underlying2 h1_0
  simp only [List.cons.injEq, and_true] at e1_0
  subst e1_0
  obtain ⟨A1_1, c1_1, x1_1, n1_1, rfl, hl1_1, hm1_1, hx1_1, we1_1⟩ := open_intL Try.underlying22 Try.underlying2 (by kernel_rfl) h1_1
  obtain rfl := hl1_1.out
  obtain ⟨A1_2, c1_2, x1_2, n1_2, rfl, hl1_2, hm1_2, hx1_2, we1_2⟩ := open_intL Try.underlying22 Try.underlying2 (by kernel_rfl) h1_2
  obtain rfl := hl1_2.out
  obtain ⟨A1_3, c1_3, x1_3, n1_3, rfl, hl1_3, hm1_3, hx1_3, we1_3⟩ := open_intL Try.underlying22 Try.underlying2 (by kernel_rfl) h1_3
  obtain rfl := hl1_3.out
  clear hA0 hval0
  refine (FnExactMergeTops_any a0_0 A0_1 c0_1 x0_1 A0_2 c0_2 x0_2 A0_3 c0_3 x0_3 a1_0 A1_1 c1_1 x1_1 A1_2 c1_2 x1_2 A1_3 c1_3 x1_3 W w0_0 hx0_1 hm0_1 we0_1 hx0_2 hm0_2 we0_2 hx0_3 hm0_3 we0_3 w1_0 hx1_1 hm1_1 we1_1 hx1_2 hm1_2 we1_2 hx1_3 hm1_3 we1_3).mono fun e W' ⟨he, bel⟩ => ?_
  subst he
  exact ⟨_, rfl, _, _, _, [], _, [], hW', trodAll_mk1 (shut_bool Try.underlying4 _), (trodAll_cons_mk (Below.trod laidOut (by kernel_rfl) (of_decide_eq_true (by kernel_rfl)) k0 bel lt0) (trodAll_cons_mk (Below.trod laidOut (by kernel_rfl) (of_decide_eq_true (by kernel_rfl)) k1 bel lt1) trodAll_mk0)), rfl, bel.frame _, fun h => by cases h⟩

theorem over : Rows.fnExactMergeTopsRow.holds Try.pinned (OpenSpec.ofChange Rows.fnExactMergeTopsSpec) :=
  OpenClaim.holds_of_wide 10 Try.f10 rfl rfl rfl rfl rfl rfl rfl ⟨rfl, rfl, rfl, rfl, rfl⟩ rfl rfl rfl rfl rfl (by kernel_rfl) Try.func10 (by kernel_rfl)
    (of_decide_eq_true (by kernel_rfl)) (by unfold Func.isWrapper; first | (rw [if_pos (by decide +kernel)]; kernel_rfl) | (rw [if_neg (by decide +kernel)]; exact ⟨rfl, rfl⟩))
    (fun os started H enc _ => lifted os started H enc)

theorem proved : Rows.FnExactMergeTopsSaid := over
#print axioms proved
end Go.Proofs.Ytbodfepfapjikaa.fnExactMergeTops
