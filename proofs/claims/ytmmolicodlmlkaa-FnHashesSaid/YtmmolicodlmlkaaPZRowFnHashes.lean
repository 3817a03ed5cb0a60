/-
  For every input the law FnHashes returns true, and each argument reads afterwards as it read before. No condition.
-/
import Derived.Test.YtmmolicodlmlkaaRows
import Derived.Test.YtmmolicodlmlkaaPM
import Derived.Test.YtmmolicodlmlkaaPJ
import Derived.Test.YtmmolicodlmlkaaPG
import Derived.ShutString
import Derived.ChangeOld
namespace Go.Proofs.Ytmmolicodlmlkaa.fnHashes
open Go.ChangeShapes Go.WideShapes Go.ChangeAt Go.RowKit
open Go.Proofs.Ytmmolicodlmlkaa.Ph Go.Proofs.Ytmmolicodlmlkaa.Rel
set_option linter.unusedVariables false

theorem own : ownKnob Try.prog.godebug = none := by kernel_rfl
theorem laidOut : laidOutB Try.prog = true := by kernel_rfl
/-- The block of a slice that is an argument: cells. -/
theorem okw_slice {P : Program} {W : World} {base : Nat} {t e : TypeId} {a : Addr} {n c : Nat} (ht : P.underlying t = some (.slice e)) (h : Value.okWide P W .any base t (.slice (some a) n c)) : a.block < W.heap.size ∧ Plz W a := by
  unfold Value.okWide at h
  rw [ht] at h
  simp only at h
  unfold Cell.okWide at h
  rw [ht] at h
  simp only at h
  unfold Cell.ok at h
  rw [ht] at h
  simp only at h
  obtain ⟨_, _, _, hsp, row, cells, hs, _⟩ := h
  unfold World.shape? at hs
  cases hb : W.heap[a.block]? with
  | none => rw [hb] at hs; cases hs
  | some o =>
    rw [hb] at hs
    refine ⟨(Array.getElem?_eq_some_iff.1 hb).1, ?_, hsp⟩
    rw [hb]
    cases o <;> first | rfl | cases hs
/-- The world at the start holds all variables of packages. -/
theorem begun : decide (Try.prog.globals.size < (begin Try.prog (fun _ _ => 0) default).world.heap.size) = true := by kernel_rfl
theorem glob_of {W : World} (h : W.ShapedOpen Try.prog) : Try.prog.globals.size ≤ W.heap.size := by
  obtain ⟨o, _, h1, _⟩ := h.2 Try.prog.globals.size (Nat.le_refl _) (of_decide_eq_true begun)
  exact Nat.le_of_lt (Array.getElem?_eq_some_iff.1 h1).1
set_option maxRecDepth 100000 in
theorem runs (H : Type) (enc : TypeId × Value → H) (W : World) (base : Nat) (args : Array Value) (ds gs : List (DataW H)) (before : List MemPlace) (hG : Try.prog.globals.size ≤ W.heap.size)
    (hval0 : ∀ (j : Nat) t v, Try.f10.params[j]? = some t → args[j]? = some v → Value.okWide Try.prog W .any base t v)
    (hW : DataW.Whole enc Try.prog Try.f10.params.toList Rows.fnHashesSpec.vars false W args.toList ds gs before) :
    ∃ M last o w' t', runNT Try.prog (M + 1) (Conc.solo (Conc.G (Frame.enter Try.prog 10 args .normal) []) W) #[] = (.ended o w', t') ∧ runN Try.prog M (Conc.solo (Conc.G (Frame.enter Try.prog 10 args .normal) []) W) = .next last ∧
      step Try.prog last = .ended o w' ∧ Conc.Good Try.prog (fun v W' => Rows.fnHashesSpec.post enc Try.prog Try.f10 false true false false W args v W') last o w' t' := by
  have hval : ∀ (j : Nat) t v, Try.f10.params[j]? = some t → args[j]? = some v → Value.okWide Try.prog W .any base t v := hval0
  have hW' := hW
  obtain ⟨p, q, hA0, hV, rfl, hfz, hnd⟩ := hW
  have hA : DataW.TrodAll enc Try.prog W 0 (fun _ => true) true Try.f10.params.toList args.toList ds p := hA0
  rw [Try.params10] at hA hval
  obtain ⟨v0, vs0, d0, ds0, p0, q0, hargs, rfl, rfl, h0, r0⟩ := trodAll_cons hA
  obtain ⟨v1, vs1, d1, ds1, p1, q1, rfl, rfl, rfl, h1, r1⟩ := trodAll_cons r0
  obtain ⟨rfl, rfl, rfl⟩ := trodAll_nil r1
  obtain rfl : args = #[v0, v1] := by cases args; simp_all
  obtain ⟨rfl, rfl⟩ := trodVars_none hV
  have k0 := h0
  have lt0 : ∀ x ∈ p0, x.block < W.heap.size := by obtain ⟨m, hm⟩ := k0; exact DataW.trod_lt m _ _ _ hm
  obtain ⟨fu0, hf0⟩ := h0
  have ok0 := hval 0 46 v0 rfl rfl
  obtain ⟨a0, len0, cap0, rfl⟩ := okWide_slice Try.underlying46 ok0
  have bl0 : ArgP (fun y => y < W.heap.size) W a0 := fun a e => by subst e; exact okw_slice Try.underlying46 ok0
  obtain ⟨A0, c0, x0, n0, he0, hl0, hm0, hx0, we0⟩ := open_byteL Try.underlying46 Try.underlying5 (by kernel_rfl) (show DataW.trod enc Try.prog W 0 (fun _ => true) true fu0 46 [.slice a0 len0 cap0] = some _ from by simpa [Value.cells] using hf0)
  injection he0 with e0_1 e0_2 e0_3
  have e0_1 := Eq.symm e0_1
  subst e0_1
  have e0_2 := Eq.symm e0_2
  subst e0_2
  have e0_3 := Eq.symm e0_3
  subst e0_3
  obtain rfl := hl0.out
  have k1 := h1
  have lt1 : ∀ x ∈ p1, x.block < W.heap.size := by obtain ⟨m, hm⟩ := k1; exact DataW.trod_lt m _ _ _ hm
  obtain ⟨fu1, hf1⟩ := h1
  have ok1 := hval 1 46 v1 rfl rfl
  obtain ⟨a1, len1, cap1, rfl⟩ := okWide_slice Try.underlying46 ok1
  have bl1 : ArgP (fun y => y < W.heap.size) W a1 := fun a e => by subst e; exact okw_slice Try.underlying46 ok1
  obtain ⟨A1, c1, x1, n1, he1, hl1, hm1, hx1, we1⟩ := open_byteL Try.underlying46 Try.underlying5 (by kernel_rfl) (show DataW.trod enc Try.prog W 0 (fun _ => true) true fu1 46 [.slice a1 len1 cap1] = some _ from by simpa [Value.cells] using hf1)
  injection he1 with e1_1 e1_2 e1_3
  have e1_1 := Eq.symm e1_1
  subst e1_1
  have e1_2 := Eq.symm e1_2
  subst e1_2
  have e1_3 := Eq.symm e1_3
  subst e1_3
  obtain rfl := hl1.out
  clear hA0 hval0
  obtain ⟨M, last, o, w', t', e1, e2, e3, e4⟩ := hrun (W := W) hG hx0 we0 bl0 hx1 we1 bl1
  refine ⟨M, last, o, w', t', e1, e2, e3, e4.mono fun v hF => ?_⟩
  obtain ⟨rfl, bel⟩ := hF
  exact ⟨_, _, _, [], _, [], hW', trodAll_mk1 (shut_bool Try.underlying4 _), (trodAll_cons_mk (Below.trod laidOut (by kernel_rfl) (of_decide_eq_true (by kernel_rfl)) k0 bel lt0) (trodAll_cons_mk (Below.trod laidOut (by kernel_rfl) (of_decide_eq_true (by kernel_rfl)) k1 bel lt1) (trodAll_mk0))), rfl, bel.frame _, fun h => by cases h⟩
set_option maxRecDepth 100000 in
set_option maxHeartbeats 400000 in
theorem lifted (os : Os) (started : os.Started) (H : Type) (enc : TypeId × Value → H) :
    ReturnsInLeavingWide {} Try.checked os 10 .any (Rows.fnHashesSpec.pre6 enc Try.prog Try.f10 Rows.fnHashesRow.domain false) (Rows.fnHashesSpec.post enc Try.prog Try.f10 false true false false) := by
  refine returnsInLeavingWide_of_good (C := Try.checked) own started (ChangeSpec.witness6 (enc := enc) (C := Try.checked) false ⟨#[], #[.slice none 0 0, .slice none 0 0], []⟩ 8 (by kernel_rfl) (by kernel_rfl) (by kernel_rfl) (by kernel_rfl)) ?_
  intro w tape i _ hsh _ hok hpre _
  obtain ⟨_, _, _, fn', hfn', _, _, _, _, hval⟩ := hok
  have e : fn' = Try.f10 := Option.some.inj (hfn'.symm.trans Try.func10)
  subst e
  obtain ⟨⟨ds, gs, before, hw, hc⟩, hz⟩ := hpre
  have hw' := DataW.Whole.of_heap (w' := w.forCall tape i) (by rfl) hw
  obtain ⟨M, last, o, w', t', h1, h2, h3, h4⟩ := runs H enc (w.forCall tape i) w.heap.size i.args ds gs before (glob_of hsh) hval hw'
  exact ⟨M, last, o, w', t', h1, h2, h3, h4.mono fun v hp => ChangeSpec.post_blind hp⟩

theorem over : Rows.fnHashesRow.holds Try.pinned (OpenSpec.ofChange Rows.fnHashesSpec) :=
  OpenClaim.holds_of_wide_leaving 10 Try.f10 rfl rfl rfl rfl rfl rfl rfl ⟨rfl, rfl, rfl, rfl, rfl⟩ rfl rfl rfl rfl rfl (by kernel_rfl) Try.func10 (by kernel_rfl)
    (of_decide_eq_true (by kernel_rfl)) (by unfold Func.isWrapper; first | (rw [if_pos (by decide +kernel)]; kernel_rfl) | (rw [if_neg (by decide +kernel)]; exact ⟨rfl, rfl⟩))
    (fun os started H enc _ => lifted os started H enc)

theorem proved : Rows.FnHashesSaid := over
#print axioms proved
end Go.Proofs.Ytmmolicodlmlkaa.fnHashes
