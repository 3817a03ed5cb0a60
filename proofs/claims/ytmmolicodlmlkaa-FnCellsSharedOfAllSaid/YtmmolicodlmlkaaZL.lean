/-
  Parts of the proof: Pieces of a walk in company, from any frame: what its slots hold may be hidden. FnRowsSharedOfAll, alone: from behind the program's two calls to its return. FnExactRowsShared beside leavers: to the first call of the program. FnExactRowsShared beside leavers: from the first to the second call of the program. FnExactRowsShared beside leavers: from the second call of the program to the end. FnExactRowsShared from its start, at the machine: one good run. FnRowsSharedOfAll beside leavers: its pieces about the program's calls. No condition.
-/
import Derived.Test.YtmmolicodlmlkaaZJ
import Derived.Test.YtmmolicodlmlkaaZK
set_option linter.unusedVariables false
set_option linter.unusedSimpArgs false
namespace Go.Proofs.Ytmmolicodlmlkaa.Ph
open Go.Conc Go.RowKit
open Go.Proofs.Ytmmolicodlmlkaa.Rel
set_option linter.unusedVariables false

/-- The lone walk's slots. -/
def absA (Fs : Fns) (B : Nat) (a : Act) : Act := ⟨a.tmps.map (absV Fs B), []⟩
section
variable {P : Program} {fs : FuncId → Bool} {v : World} {Rd S : Nat → Prop} {cs : List Frame} {main : Bool}
/-- ████ UP TO A CUT, IN COMPANY. ████ -/
theorem cut_companyJ {f : FuncId} {c : Code} {n : Nat} {a : Act} {Pre : Act → World → Prop} (hz : ZeroOk P) (hG : P.globals.size ≤ v.heap.size) (hO : ∀ ρ, FnsOk ⟨P, ρ, fnsOf fs v (fun b => S b ∨ Rd b) S⟩) (hS : ∀ b, S b → b < v.heap.size) (hR : ∀ b, Rd b → b < v.heap.size ∧ ¬ S b)
    (hsp : spineOk P (fnsOf fs v (fun b => S b ∨ Rd b) S) n c = true) (hd : a.defers = [])
    (hl : ∀ τ, Rel.Reach P n c Pre (absA (fnsOf fs v (fun b => S b ∨ Rd b) S) v.heap.size a) { loneW (fnsOf fs v (fun b => S b ∨ Rd b) S) v with tape := τ, drawn := 0 }) :
    Go1 P main (RS Rd) (DS Rd) (fun S' g w => ∃ ρ a' wl, g = G ((base f).at ⟨a'.tmps.map (ren ρ), []⟩ [.code (cut n c).2]) cs ∧ Pre a' wl ∧ (∀ x ∈ a'.tmps, okJ (fnsOf fs v (fun b => S b ∨ Rd b) S) wl.heap.size x = true) ∧ Rel.Left P (fnsOf fs v (fun b => S b ∨ Rd b) S) v Rd S ρ wl S' w) S (G ((base f).at a [.code c]) cs) v := by
  classical
  have hal : ∀ b, b < v.heap.size → (fnsOf fs v (fun b => S b ∨ Rd b) S).al b = true → S b ∨ Rd b := by
    intro b hb h
    simp only [fnsOf, hb, if_true, Bool.and_eq_true, decide_eq_true_eq] at h
    exact h.1
  generalize hFs : fnsOf fs v (fun b => S b ∨ Rd b) S = Fs at *
  let StopL : Frame → List Frame → World → Prop := fun fl cl w => ∃ a', fl = (base f).at a' [.code (.refuse "")] ∧ cl = [badF] ∧ Pre a' w
  have U := setup_lone (P := P) (fs := fs) (v := v) (Rd := Rd) (S := S) (cs := cs) (kl := [.code (.refuse "")]) (kc := [.code (cut n c).2]) (fl0 := (base f).at (absA (fnsOf fs v (fun b => S b ∨ Rd b) S) v.heap.size a) [.code (cut n c).1]) (fc0 := (base f).at a [.code c]) (StopL := StopL) hz hG (by rw [hFs]; exact hO) hS hR (.inr rfl)
    (by
      rw [hFs]
      intro ρ hρ
      refine ⟨rfl, ⟨?_, fun x hx => by obtain ⟨y, _, rfl⟩ := Array.mem_map.1 hx; exact absV_ok _ _ y⟩, ⟨[], _, _, rfl, rfl, by simp, tl_cut n c hsp⟩, rfl, hd, .inl ⟨rfl, rfl⟩, rfl, rfl, rfl, rfl⟩
      apply Array.ext (by simp [Frame.at, absA])
      intro i h1 h2
      simp only [Frame.at, absA, Array.getElem_map]
      exact (absV_ren hρ _).symm)
    (by
      rw [hFs]
      intro τ
      obtain ⟨a', w', hp, M, hM⟩ := hl τ (base f) [badF]
      exact ⟨M, _, _, w', hM, a', rfl, rfl, hp⟩)
    (fun fl cl w ⟨a', h1, h2, _⟩ => ⟨fun ch e => (by rw [h1] at e; cases e), (by rw [h2]; simp)⟩)
  rw [hFs] at U
  refine Go1.bind (fun s a => RS.refl a) (transfer (main := main) U) fun s g w ⟨ρ, fl, cl, wl, hA, a', hfl, hcl, hp⟩ => Go1.stop fun w₁ h₁ => ?_
  subst hcl; subst hfl
  obtain ⟨fc, cc, rfl, hst⟩ := hA.st
  have hfr : FR ⟨P, ρ, Fs⟩ wl.heap.size [.code (.refuse "")] [.code (cut n c).2] ((base f).at a' [.code (.refuse "")]) fc ∧ cc = cs := by
    rcases hst.fr with ⟨h, _, h2⟩ | ⟨_, _, _, h⟩
    · exact ⟨h, h2⟩
    · exfalso
      cases h with
      | cons _ _ _ h => cases h
  obtain ⟨hfr, rfl⟩ := hfr
  have htodo : fc.todo = [.code (cut n c).2] := by
    obtain ⟨its, tl, tc, t1, t2, _, hT⟩ := hfr.todo
    have t1 : [Item.code (.refuse "")] = its ++ tl := t1
    cases hT with
    | here =>
      cases its with
      | nil => exact t2
      | cons x its => cases its <;> simp at t1
    | seq _ _ =>
      cases its with
      | nil => simp at t1
      | cons x its => cases its <;> simp at t1
  have hm : fc.mode = .run := by
    rcases hfr.mode with ⟨_, h⟩ | ⟨h, _⟩
    · exact h
    · cases h
  refine ⟨ρ, a', wl, ?_, hp, hfr.tmps.2, hA.left hal h₁⟩
  have e : fc = (base f).at ⟨a'.tmps.map (ren ρ), []⟩ [.code (cut n c).2] := by
    have h1 := hfr.fn
    have h2 := hfr.tmps.1
    have h3 := hfr.defc
    have h4 := hfr.kindc
    have h5 := hfr.roc
    obtain ⟨q1, q2, q3, q4, q5, q6, q7⟩ := fc
    simp only at h1 h2 h3 h4 h5 htodo hm
    subst h1; subst h2; subst h3; subst h4; subst h5; subst htodo; subst hm
    rfl
  rw [e]
/-- ████ TO THE RETURN, IN COMPANY. ████ -/
theorem end_companyJ {f : FuncId} {fn0 : Func} {c : Code} {a : Act} {Q : Value → World → Prop} (hz : ZeroOk P) (hG : P.globals.size ≤ v.heap.size) (hO : ∀ ρ, FnsOk ⟨P, ρ, fnsOf fs v (fun b => S b ∨ Rd b) S⟩) (hS : ∀ b, S b → b < v.heap.size) (hR : ∀ b, Rd b → b < v.heap.size ∧ ¬ S b)
    (hf0 : P.funcs[f]? = some fn0) (hres0 : fn0.results.all resOk = true) (hc : codeOk P (fnsOf fs v (fun b => S b ∨ Rd b) S) c = true) (hd : a.defers = [])
    (hl : ∀ τ, Rel.Ends P f c Q (absA (fnsOf fs v (fun b => S b ∨ Rd b) S) v.heap.size a) { loneW (fnsOf fs v (fun b => S b ∨ Rd b) S) v with tape := τ, drawn := 0 }) :
    Go1 P main (RS Rd) (DS Rd) (RetC P (fnsOf fs v (fun b => S b ∨ Rd b) S) v Rd S f cs Q) S (G ((base f).at a [.code c]) cs) v := by
  classical
  have hal : ∀ b, b < v.heap.size → (fnsOf fs v (fun b => S b ∨ Rd b) S).al b = true → (S b ∨ Rd b) ∧ plainO v.heap[b]? = true := by
    intro b hb h
    simp only [fnsOf, hb, if_true, Bool.and_eq_true, decide_eq_true_eq] at h
    exact h
  have hwrs : ∀ b, b < v.heap.size → (fnsOf fs v (fun b => S b ∨ Rd b) S).wr b = true → S b := by
    intro b hb h
    simpa only [fnsOf, hb, if_true, decide_eq_true_eq] using h
  generalize hFs : fnsOf fs v (fun b => S b ∨ Rd b) S = Fs at *
  let StopL : Frame → List Frame → World → Prop := fun fl cl w => ∃ u, Q u w ∧ cl = [badF] ∧ fl.fn = f ∧ fl.leaving P w (.returned u)
  have U := setup_lone (P := P) (fs := fs) (v := v) (Rd := Rd) (S := S) (cs := cs) (kl := []) (kc := []) (fl0 := (base f).at (absA (fnsOf fs v (fun b => S b ∨ Rd b) S) v.heap.size a) [.code c]) (fc0 := (base f).at a [.code c]) (StopL := StopL) hz hG (by rw [hFs]; exact hO) hS hR (.inl ⟨rfl, rfl⟩)
    (by
      rw [hFs]
      intro ρ hρ
      refine ⟨rfl, ⟨?_, fun x hx => by obtain ⟨y, _, rfl⟩ := Array.mem_map.1 hx; exact absV_ok _ _ y⟩, ⟨[.code c], [], [], rfl, rfl, fun it hit => by simp at hit; rw [hit]; exact hc, .here⟩, rfl, hd, .inl ⟨rfl, rfl⟩, rfl, rfl, rfl, rfl⟩
      apply Array.ext (by simp [Frame.at, absA])
      intro i h1 h2
      simp only [Frame.at, absA, Array.getElem_map]
      exact (absV_ren hρ _).symm)
    (by
      rw [hFs]
      intro τ
      obtain ⟨e, a', w', ⟨he, hdf, fn, u, hfn, hr, hq⟩, harr⟩ := hl τ (base f) [] [badF]
      rcases he with rfl | rfl
      · obtain ⟨M, hM⟩ := Steps.trans harr (.one step_end)
        exact ⟨M, _, _, w', hM, u, hq, rfl, rfl, rfl, hdf, rfl, fn, hfn, hr⟩
      · obtain ⟨todo, M, hM⟩ := harr
        exact ⟨M, _, _, w', hM, u, hq, rfl, rfl, rfl, hdf, rfl, fn, hfn, hr⟩)
    (fun fl cl w ⟨u, _, h1, _, h2⟩ => ⟨fun ch h => (by rw [h2.1] at h; cases h), (by rw [h1]; simp)⟩)
  rw [hFs] at U
  refine (Go1.bind (fun s a => RS.refl a) (transfer (main := main) U) fun s g w ⟨ρ, fl, cl, wl, hA, u, hq, hcl, hfn, hlv⟩ => Go1.stop fun w₁ h₁ => ?_)
  subst hcl
  obtain ⟨fc, cc, rfl, hst⟩ := hA.st
  have hfr : FR ⟨P, ρ, Fs⟩ wl.heap.size [] [] fl fc ∧ cc = cs := by
    rcases hst.fr with ⟨h, _, h2⟩ | ⟨_, _, _, h⟩
    · exact ⟨h, h2⟩
    · exfalso
      cases h with
      | cons _ _ _ h => cases h
  obtain ⟨hfr, rfl⟩ := hfr
  obtain ⟨hm, hd, hk, fn, hfn1, hres⟩ := hlv
  have hmode : fc.mode = .returning := by
    rcases hfr.mode with ⟨h1, _⟩ | ⟨_, h2⟩
    · rw [hm] at h1; cases h1
    · exact h2
  have g1 := hf0
  have g5 := hres0
  have g1' : P.funcs[f]? = some fn0 := g1
  rw [hfn] at hfn1
  rw [g1'] at hfn1
  obtain rfl := Option.some.inj hfn1
  obtain ⟨e2, hout⟩ := ret_out (fun b hb h => (hal b hb h).1) hwrs hA hfr g5 hres h₁
  have hwr1 : WR ⟨P, ρ, Fs⟩ wl w₁ := hA.wr.rely fun c hc hca => by
    show w₁.heap[ρ.f c]? = w.heap[ρ.f c]?
    rcases Nat.lt_or_ge c v.heap.size with hb | hb
    · rw [hA.id c hb]
      rcases (hal c hb hca).1 with h | h
      · exact h₁.own c ((hA.mine c).2 (.inl h))
      · exact h₁.rd c h
    · exact h₁.own _ (hA.cover c hb hc)
  exact ⟨⟨ρ, fc, u, wl, rfl, hfr.fn.trans hfn, hmode, hfr.defc, hfr.kindc, ⟨fn0, g1', hout⟩, hq, e2, hA.id, hA.new, hwr1, hA.low, hA.mine⟩, h₁.tape.trans hA.tape, h₁.os.trans hA.os, h₁.output.trans hA.output, Nat.le_trans hA.size h₁.size, fun b hb => (h₁.rd b hb).trans (hA.rd b hb)⟩
/-- ████ TO A RETURN AHEAD OF A CUT, IN COMPANY. ████ -/
theorem ret_companyJ {f : FuncId} {fn0 : Func} {c : Code} {n : Nat} {a : Act} {Q : Value → World → Prop} (hz : ZeroOk P) (hG : P.globals.size ≤ v.heap.size) (hO : ∀ ρ, FnsOk ⟨P, ρ, fnsOf fs v (fun b => S b ∨ Rd b) S⟩) (hS : ∀ b, S b → b < v.heap.size) (hR : ∀ b, Rd b → b < v.heap.size ∧ ¬ S b)
    (hf0 : P.funcs[f]? = some fn0) (hres0 : fn0.results.all resOk = true) (hsp : spineOk P (fnsOf fs v (fun b => S b ∨ Rd b) S) n c = true) (hd : a.defers = [])
    (hl : ∀ τ, Rets P f n c Q (absA (fnsOf fs v (fun b => S b ∨ Rd b) S) v.heap.size a) { loneW (fnsOf fs v (fun b => S b ∨ Rd b) S) v with tape := τ, drawn := 0 }) :
    Go1 P main (RS Rd) (DS Rd) (RetC P (fnsOf fs v (fun b => S b ∨ Rd b) S) v Rd S f cs Q) S (G ((base f).at a [.code c]) cs) v := by
  classical
  have hal : ∀ b, b < v.heap.size → (fnsOf fs v (fun b => S b ∨ Rd b) S).al b = true → (S b ∨ Rd b) ∧ plainO v.heap[b]? = true := by
    intro b hb h
    simp only [fnsOf, hb, if_true, Bool.and_eq_true, decide_eq_true_eq] at h
    exact h
  have hwrs : ∀ b, b < v.heap.size → (fnsOf fs v (fun b => S b ∨ Rd b) S).wr b = true → S b := by
    intro b hb h
    simpa only [fnsOf, hb, if_true, decide_eq_true_eq] using h
  generalize hFs : fnsOf fs v (fun b => S b ∨ Rd b) S = Fs at *
  let StopL : Frame → List Frame → World → Prop := fun fl cl w => ∃ u, Q u w ∧ cl = [badF] ∧ fl.fn = f ∧ fl.leaving P w (.returned u)
  have U := setup_lone (P := P) (fs := fs) (v := v) (Rd := Rd) (S := S) (cs := cs) (kl := [.code (.refuse "")]) (kc := [.code (cut n c).2]) (fl0 := (base f).at (absA (fnsOf fs v (fun b => S b ∨ Rd b) S) v.heap.size a) [.code (cut n c).1]) (fc0 := (base f).at a [.code c]) (StopL := StopL) hz hG (by rw [hFs]; exact hO) hS hR (.inr rfl)
    (by
      rw [hFs]
      intro ρ hρ
      refine ⟨rfl, ⟨?_, fun x hx => by obtain ⟨y, _, rfl⟩ := Array.mem_map.1 hx; exact absV_ok _ _ y⟩, ⟨[], _, _, rfl, rfl, by simp, tl_cut n c hsp⟩, rfl, hd, .inl ⟨rfl, rfl⟩, rfl, rfl, rfl, rfl⟩
      apply Array.ext (by simp [Frame.at, absA])
      intro i h1 h2
      simp only [Frame.at, absA, Array.getElem_map]
      exact (absV_ren hρ _).symm)
    (by
      rw [hFs]
      intro τ
      obtain ⟨e, a', w', ⟨rfl, hdf, fn, u, hfn, hr, hq⟩, harr⟩ := hl τ (base f) [] [badF]
      obtain ⟨todo, M, hM⟩ := harr
      exact ⟨M, _, _, w', hM, u, hq, rfl, rfl, rfl, hdf, rfl, fn, hfn, hr⟩)
    (fun fl cl w ⟨u, _, h1, _, h2⟩ => ⟨fun ch h => (by rw [h2.1] at h; cases h), (by rw [h1]; simp)⟩)
  rw [hFs] at U
  refine (Go1.bind (fun s a => RS.refl a) (transfer (main := main) U) fun s g w ⟨ρ, fl, cl, wl, hA, u, hq, hcl, hfn, hlv⟩ => Go1.stop fun w₁ h₁ => ?_)
  subst hcl
  obtain ⟨fc, cc, rfl, hst⟩ := hA.st
  have hfr : FR ⟨P, ρ, Fs⟩ wl.heap.size [.code (.refuse "")] [.code (cut n c).2] fl fc ∧ cc = cs := by
    rcases hst.fr with ⟨h, _, h2⟩ | ⟨_, _, _, h⟩
    · exact ⟨h, h2⟩
    · exfalso
      cases h with
      | cons _ _ _ h => cases h
  obtain ⟨hfr, rfl⟩ := hfr
  obtain ⟨hm, hd, hk, fn, hfn1, hres⟩ := hlv
  have hmode : fc.mode = .returning := by
    rcases hfr.mode with ⟨h1, _⟩ | ⟨_, h2⟩
    · rw [hm] at h1; cases h1
    · exact h2
  have g1 := hf0
  have g5 := hres0
  have g1' : P.funcs[f]? = some fn0 := g1
  rw [hfn] at hfn1
  rw [g1'] at hfn1
  obtain rfl := Option.some.inj hfn1
  obtain ⟨e2, hout⟩ := ret_out (fun b hb h => (hal b hb h).1) hwrs hA hfr g5 hres h₁
  have hwr1 : WR ⟨P, ρ, Fs⟩ wl w₁ := hA.wr.rely fun c hc hca => by
    show w₁.heap[ρ.f c]? = w.heap[ρ.f c]?
    rcases Nat.lt_or_ge c v.heap.size with hb | hb
    · rw [hA.id c hb]
      rcases (hal c hb hca).1 with h | h
      · exact h₁.own c ((hA.mine c).2 (.inl h))
      · exact h₁.rd c h
    · exact h₁.own _ (hA.cover c hb hc)
  exact ⟨⟨ρ, fc, u, wl, rfl, hfr.fn.trans hfn, hmode, hfr.defc, hfr.kindc, ⟨fn0, g1', hout⟩, hq, e2, hA.id, hA.new, hwr1, hA.low, hA.mine⟩, h₁.tape.trans hA.tape, h₁.os.trans hA.os, h₁.output.trans hA.output, Nat.le_trans hA.size h₁.size, fun b hb => (h₁.rd b hb).trans (hA.rd b hb)⟩
end
section
variable {P : Program} {fs : FuncId → Bool} {v : World} {F W : Nat → Prop} {cs : List Frame}
theorem gl_cutJ {f : FuncId} {c : Code} {n : Nat} {a : Act} {Pre : Act → World → Prop} (hsub : ∀ b, W b → F b) (hF : ∀ b, F b → b < v.heap.size) (hz : ZeroOk P) (hG : P.globals.size ≤ v.heap.size) (hO : ∀ f, fs f = true → ∃ fn, P.funcs[f]? = some fn ∧ fnOk P fs fn = true)
    (hsp : spineOk P ⟨fs, fun _ => false, fun _ => false, fun _ => false⟩ n c = true) (hd : a.defers = []) (hl : ∀ τ, Rel.Reach P n c Pre (absA (fnsQ fs v F W) v.heap.size a) { loneW (fnsQ fs v F W) v with tape := τ, drawn := 0 }) :
    GL P (fun t g w => ∃ s, t = (fun b => (F b ∧ ¬ W b) ∨ s b) ∧ ∃ ρ a' wl, g = G ((base f).at ⟨a'.tmps.map (ren ρ), []⟩ [.code (cut n c).2]) cs ∧ Pre a' wl ∧ (∀ x ∈ a'.tmps, okJ (fnsQ fs v F W) wl.heap.size x = true) ∧ Rel.Left P (fnsQ fs v F W) v (fun b => F b ∧ ¬ W b) W ρ wl s w) F (G ((base f).at a [.code c]) cs) v :=
  gl_of hsub (cut_companyJ hz hG (fun ρ => by unfold fnsOf; exact fnsOk_of hO) (fun b hb => hF b (hsub b hb)) (fun b hb => ⟨hF b hb.1, hb.2⟩) (by unfold fnsOf; exact spine_mono n c hsp) hd hl)
theorem gl_retJ {f : FuncId} {fn0 : Func} {c : Code} {n : Nat} {a : Act} {Q : Value → World → Prop} (hsub : ∀ b, W b → F b) (hF : ∀ b, F b → b < v.heap.size) (hz : ZeroOk P) (hG : P.globals.size ≤ v.heap.size) (hO : ∀ f, fs f = true → ∃ fn, P.funcs[f]? = some fn ∧ fnOk P fs fn = true)
    (hf0 : P.funcs[f]? = some fn0) (hres0 : fn0.results.all resOk = true) (hsp : spineOk P ⟨fs, fun _ => false, fun _ => false, fun _ => false⟩ n c = true) (hd : a.defers = []) (hl : ∀ τ, Rets P f n c Q (absA (fnsQ fs v F W) v.heap.size a) { loneW (fnsQ fs v F W) v with tape := τ, drawn := 0 }) :
    GL P (fun t g w => ∃ s, t = (fun b => (F b ∧ ¬ W b) ∨ s b) ∧ RetC P (fnsQ fs v F W) v (fun b => F b ∧ ¬ W b) W f cs Q s g w) F (G ((base f).at a [.code c]) cs) v :=
  gl_of hsub (ret_companyJ hz hG (fun ρ => by unfold fnsOf; exact fnsOk_of hO) (fun b hb => hF b (hsub b hb)) (fun b hb => ⟨hF b hb.1, hb.2⟩) hf0 hres0 (by unfold fnsOf; exact spine_mono n c hsp) hd hl)
theorem gl_endJ {f : FuncId} {fn0 : Func} {c : Code} {a : Act} {Q : Value → World → Prop} (hsub : ∀ b, W b → F b) (hF : ∀ b, F b → b < v.heap.size) (hz : ZeroOk P) (hG : P.globals.size ≤ v.heap.size) (hO : ∀ f, fs f = true → ∃ fn, P.funcs[f]? = some fn ∧ fnOk P fs fn = true)
    (hf0 : P.funcs[f]? = some fn0) (hres0 : fn0.results.all resOk = true) (hc : codeOk P ⟨fs, fun _ => false, fun _ => false, fun _ => false⟩ c = true) (hd : a.defers = []) (hl : ∀ τ, Rel.Ends P f c Q (absA (fnsQ fs v F W) v.heap.size a) { loneW (fnsQ fs v F W) v with tape := τ, drawn := 0 }) :
    GL P (fun t g w => ∃ s, t = (fun b => (F b ∧ ¬ W b) ∨ s b) ∧ RetC P (fnsQ fs v F W) v (fun b => F b ∧ ¬ W b) W f cs Q s g w) F (G ((base f).at a [.code c]) cs) v :=
  gl_of hsub (end_companyJ hz hG (fun ρ => by unfold fnsOf; exact fnsOk_of hO) (fun b hb => hF b (hsub b hb)) (fun b hb => ⟨hF b hb.1, hb.2⟩) hf0 hres0 (by unfold fnsOf; exact code_mono c hc) hd hl)
end
end Go.Proofs.Ytmmolicodlmlkaa.Ph
namespace Go.Proofs.Ytmmolicodlmlkaa.Ph
open Go.Conc Go.ConcN Go.RowKit
open Go.Proofs.Ytmmolicodlmlkaa.Rel
set_option linter.unusedVariables false
set_option linter.unusedSimpArgs false

abbrev arrR (T : Nat → Value) (v0 v1 v2 v3 v9 v10 v11 v12 : Value) : Array Value := #[v0, v1, v2, v3, T 4, T 5, T 6, T 7, T 8, v9, v10, v11, v12, T 13, T 14, T 15, T 16, T 17, T 18, T 19, T 20, T 21, T 22, T 23, T 24, T 25, T 26, T 27, T 28, T 29, T 30, T 31, T 32, T 33, T 34, T 35, T 36, T 37, T 38, T 39, T 40, T 41, T 42, T 43, T 44, T 45, T 46, T 47, T 48, T 49, T 50, T 51, T 52, T 53, T 54, T 55, T 56, T 57, T 58, T 59, T 60, T 61, T 62, T 63, T 64, T 65, T 66, T 67, T 68, T 69, T 70, T 71, T 72, T 73, T 74, T 75, T 76, T 77, T 78, T 79, T 80, T 81]
noncomputable def rtail : Code := match Try.f7.body with | some (.seq _ (.seq _ (.seq _ (.seq _ c)))) => c | _ => .skip
/-- What the reference makes, read. -/
theorem rws_rd {w0 w : World} {x sl : List Int} {v : Value} {R : Nat → Option Addr} {cc : Nat → Nat} (h : Rws w0 x sl v sl.length R cc w) : ∃ A' c', v = .slice A' sl.length c' ∧ RdLL w A' (rowsOf x sl) := by
  obtain ⟨hn, ⟨rfl, hz⟩ | ⟨g, cap, cur, rfl, hg, hcur, hnc, _, hcs, ht⟩⟩ := h.own
  · have : sl = [] := List.eq_nil_of_length_eq_zero hz
    subst this
    exact ⟨none, 0, rfl, fun o ho => absurd ho (by simp [rowsOf])⟩
  · refine ⟨some ⟨g, 0, none⟩, cap, rfl, fun o ho => ?_⟩
    have ho' : o < sl.length := by rw [rowsOf_length] at ho; exact ho
    rw [Nat.mul_one] at ht
    have hco : cur[o]? = some (.slice (R o) x.length (cc o)) := by
      have : cur.toList[o]? = some (.slice (R o) x.length (cc o)) := by
        have e : cur.toList = ((List.range sl.length).map fun o => .slice (R o) x.length (cc o)) ++ cur.toList.drop sl.length := by rw [← ht, List.take_append_drop]
        rw [e, List.getElem?_append_left (by simp; exact ho')]
        simp [ho']
      simpa using this
    refine ⟨g, 0, R o, cc o, rfl, ?_, ?_⟩
    · rw [rowsOf_at x sl o ho, rowH_length, Nat.zero_add]
      simp [World.cell?, hcur, hco]
    · rw [rowsOf_at x sl o ho]
      exact ((h.row o ho').1).rd
theorem rows_lens {x sl : List Int} {kw : Int} (h : gateRS x sl kw = true) : (rowsOf x sl).length ≤ 1048576 ∧ ∀ e ∈ rowsOf x sl, e.length ≤ 1048576 := by
  simp only [gateRS, Bool.and_eq_true, decide_eq_true_eq] at h
  obtain ⟨⟨⟨h1, h2⟩, h3⟩, h4⟩ := h
  obtain ⟨h5, _⟩ := keysQ_iff h1
  refine ⟨by rw [rowsOf_length]; omega, fun e he => ?_⟩
  simp only [rowsOf, List.mem_map] at he
  obtain ⟨s, _, rfl⟩ := he
  rw [rowH_length]; omega
theorem inB_yes {k : Int} (h1 : ¬ k < 1) (h2 : ¬ k > 8) : Go.Proofs.Ytmmolicodlmlkaa.inB k 1 8 = true := by simp [Go.Proofs.Ytmmolicodlmlkaa.inB]; omega
theorem gate_same {x sl : List Int} {kw kh : Int} (h1 : Go.Proofs.Ytmmolicodlmlkaa.inB kw 1 8 = true) (h2 : Go.Proofs.Ytmmolicodlmlkaa.inB kh 1 8 = true) : gateRS x sl kh = gateRS x sl kw := by unfold gateRS; rw [h1, h2]
set_option maxRecDepth 100000 in
set_option maxHeartbeats 8000000 in
theorem rtail_ends (T : Nat → Value) (A : Option Addr) (c : Nat) (x : List Int) (A2 : Option Addr) (c2 : Nat) (sl : List Int) (kw kh : Int) (Ag : Option Addr) (cg : Nat) (Ah : Option Addr) (ch : Nat) (w : World) (hx : RdL (Value.int .i64) w A x) (hs : RdL (Value.int .i64) w A2 sl)
    (hg : RdLL w Ag (resOf (gateRS x sl kw) x sl)) (hh : RdLL w Ah (resOf (gateRS x sl kh) x sl)) :
    Rel.Ends Try.prog 7 rtail (fun u w' => u = .bool true)
      ⟨arrR T (.slice A x.length c) (.slice A2 sl.length c2) (.int .i64 kw) (.int .i64 kh) (.slice Ag (resOf (gateRS x sl kw) x sl).length cg) (.bool (gateRS x sl kw)) (.slice Ah (resOf (gateRS x sl kh) x sl).length ch) (.bool (gateRS x sl kh)), []⟩ w := by
  have HX := hid hx
  have HS := hid hs
  have HG := hid hg
  have HH := hid hh
  have hsp := sRowsShared_any A c x A2 c2 sl kw w hx hs
  rw [gate_eq] at hsp
  have HSP := hid hsp
  clear hx hs hg hh hsp
  simp only [rtail, Try.f7, Rel.Ends]
  obtain ⟨g2, hg2⟩ : ∃ g, g = gateRS x sl kh := ⟨_, rfl⟩
  obtain ⟨xh, hxh⟩ : ∃ l, l = resOf g2 x sl := ⟨_, rfl⟩
  have HXH := hid hxh
  have HG2 := hid hg2
  rw [← hg2, ← hxh] at HH ⊢
  clear hxh hg2
  have HK := hid (fun (h1 : ¬ kw < 1) (h2 : ¬ kw > 8) (h3 : ¬ kh < 1) (h4 : ¬ kh > 8) => gate_same (x := x) (sl := sl) (inB_yes h1 h2) (inB_yes h3 h4))
  have HL := hid (fun h => rows_lens (x := x) (sl := sl) (kw := kw) h)
  cases hgk : gateRS x sl kw with
  | false =>
    rw [hgk] at HG HSP HK
    go_wp2_with fail
    refine HSP.out.mono ?_
    rintro e w1 ⟨hb, h⟩
    rcases h with ⟨_, rfl⟩ | ⟨h, _⟩
    rotate_left
    · cases h
    simp only [show resOf false x sl = [] from rfl, List.length_nil]
    by_cases k1 : kw < 1
    · go_wp2
      kernel_rfl
    by_cases k2 : kw > 8
    · go_wp2
      kernel_rfl
    by_cases k3 : kh < 1
    · go_wp2
      kernel_rfl
    by_cases k4 : kh > 8
    · go_wp2
      kernel_rfl
    have hk := HK.out (by omega) (by omega) (by omega) (by omega)
    rw [← HG2.out] at hk
    subst hk
    go_wp2
    kernel_rfl
  | true =>
    rw [hgk] at HG HSP HK
    obtain ⟨hl1, hl2⟩ := HL.out hgk
    have HL1 := hid hl1
    have HL2 := hid hl2
    have hlen : Hid ((rowsOf x sl).length = sl.length) := rowsOf_length x sl
    clear hgk HL hl1 hl2
    go_wp2_with fail
    refine HSP.out.mono ?_
    rintro e w1 ⟨hb, h⟩
    rcases h with ⟨h, _⟩ | ⟨_, v, R, cc, rfl, hR⟩
    · cases h
    obtain ⟨A', c', rfl, hZ⟩ := rws_rd hR
    have G1 := hid (HG.out.below hb)
    have H1 := hid (HH.out.below hb)
    have Z1 := hid hZ
    clear hR hZ hb
    rw [show resOf true x sl = rowsOf x sl from rfl] at G1 ⊢
    rw [← hlen.out]
    have C1 : Hid (∀ w', w' = w1 → Calls Try.prog 32 #[.slice Ag (rowsOf x sl).length cg, .slice A' (rowsOf x sl).length c'] w' fun e w'' => e = .returned (.bool true) ∧ Below w'.heap.size w' w'') := fun w' e => by
      subst e
      exact sameRows_yes Ag A' cg c' (rowsOf x sl) w' G1.out Z1.out HL1.out HL2.out
    go_wp2_with fail
    refine (C1.out _ rfl).mono ?_
    rintro e w2 ⟨rfl, hb2⟩
    have G2 := hid (G1.out.below hb2)
    have H2 := hid (H1.out.below hb2)
    clear hb2 C1
    by_cases k1 : kw < 1
    · go_wp2
      kernel_rfl
    by_cases k2 : kw > 8
    · go_wp2
      kernel_rfl
    by_cases k3 : kh < 1
    · go_wp2
      kernel_rfl
    by_cases k4 : kh > 8
    · go_wp2
      kernel_rfl
    have hk := HK.out (by omega) (by omega) (by omega) (by omega)
    rw [← HG2.out] at hk
    subst hk
    have hxh2 := HXH.out
    rw [show resOf true x sl = rowsOf x sl from rfl] at hxh2
    clear HXH
    subst hxh2
    have C2 : Hid (∀ w', w' = w2 → Calls Try.prog 32 #[.slice Ag (rowsOf x sl).length cg, .slice Ah (rowsOf x sl).length ch] w' fun e w'' => e = .returned (.bool true) ∧ Below w'.heap.size w' w'') := fun w' e => by
      subst e
      exact sameRows_yes Ag Ah cg ch (rowsOf x sl) w' G2.out H2.out HL1.out HL2.out
    go_wp2_with (go_at_call 32; refine (C2.out _ rfl).mono ?_; rintro e w3 ⟨rfl, hb3⟩)
    kernel_rfl
end Go.Proofs.Ytmmolicodlmlkaa.Ph
namespace Go.Proofs.Ytmmolicodlmlkaa.Ph
open Go.Conc Go.ConcN Go.RowKit Go.Conc.Lib Go.ConcR.Gen Go.ConcN.Gen
open Go.ConcR (KK wgBlock WgAt stA smA rd wr mk DC0 Payload)
open Go.Proofs.Ytmmolicodlmlkaa.Rel
set_option linter.unusedVariables false
set_option linter.unusedSimpArgs false

theorem nm_toI : (Try.f13.name == "runtime.NumGoroutine") = false := by kernel_rfl
theorem nm_eqI : (Try.f15.name == "runtime.NumGoroutine") = false := by kernel_rfl
theorem nm_eqSS : (Try.f20.name == "runtime.NumGoroutine") = false := by kernel_rfl
theorem nm_mark : (Try.f16.name == "runtime.NumGoroutine") = false := by kernel_rfl
theorem nm_markSS : (Try.f21.name == "runtime.NumGoroutine") = false := by kernel_rfl
theorem nm_heldSS : (Try.f22.name == "runtime.NumGoroutine") = false := by kernel_rfl
theorem nm_sRows : (Try.f23.name == "runtime.NumGoroutine") = false := by kernel_rfl
theorem nm_iRows : (Try.f24.name == "runtime.NumGoroutine") = false := by kernel_rfl
noncomputable def lr8 : Array Oper := match Try.f5.body with | some (.seq _ (.seq _ (.seq _ (.seq _ (.seq _ (.seq _ (.seq (.region _ ops _) _))))))) => ops | _ => #[]
noncomputable def lc9 : Code := match Try.f5.body with | some (.seq _ (.seq _ (.seq _ (.seq _ (.seq _ (.seq _ (.seq _ c))))))) => c | _ => .skip
section
variable {W₀ : World} {S : Nat → Prop} {w : World} {A A2 : Option Addr} {c c2 : Nat} {x sl : List Int} {kw : Int}
set_option maxRecDepth 100000 in
set_option maxHeartbeats 8000000 in
theorem law_a {F : Nat → Prop} (hF : LH W₀ [.arg A x, .arg A2 sl] F [] S w) (hxn : x.length ≤ 1048576) (hsn : sl.length ≤ 1048576) :
    GL Try.prog (fun t g w' => ∃ T : Array Value, ∃ Aw cw x0 x1 F', g = G (Frame.enter Try.prog 24 #[.slice (some ⟨x0, 0, none⟩) x.length x.length, .slice (some ⟨x1, 0, none⟩) sl.length sl.length, .int .i64 kw] .normal) [(base 5).at ⟨T, []⟩ [.inRegion lr8 [3, 4, 5, 6, 7, 8], .code lc9]] ∧
      T.size = 119 ∧ T[0]? = some (.slice A x.length c) ∧ T[1]? = some (.slice A2 sl.length c2) ∧ T[2]? = some (.int .i64 kw) ∧ T[7]? = some (.slice Aw (resOf (gateRS x sl kw) x sl).length cw) ∧ T[8]? = some (.bool (gateRS x sl kw)) ∧ T[9]? = some (.slice (some ⟨x0, 0, none⟩) x.length x.length) ∧ T[10]? = some (.slice (some ⟨x1, 0, none⟩) sl.length sl.length) ∧
      LH W₀ [.ss Aw (resOf (gateRS x sl kw) x sl), .arg A x, .arg A2 sl] F' [((fun y => y = x1), .own (some ⟨x1, 0, none⟩) sl), ((fun y => y = x0), .own (some ⟨x0, 0, none⟩) x)] t w') S (G (Frame.enter Try.prog 5 #[.slice A x.length c, .slice A2 sl.length c2, .int .i64 kw] .normal) []) w := by
  have rl : ∀ {l : List Fc} {F : Nat → Prop} {own : List ((Nat → Prop) × Fc)} {S : Nat → Prop} {a b : World}, LH W₀ l F own S a → RS No S a b → LH W₀ l F own S b := fun h r => h.rely r
  rw [enter_at _ Try.func5 rfl]
  refine gl_go (n := 100) ?_
  walk_nrmf Try.f5
  -- region 0
  (u_in rl hF; rw [stepG_seq]; simp only [goes_go]; refine ⟨by (refine de1_none ?_; intro e he; simp at he), ?_⟩)
  (u_in rl hF; rw [stepG_region]; simp only [goes_go, List.size_toArray, List.length_cons, List.length_nil, Nat.reduceAdd, Nat.zero_add, List.range, List.range.loop]; refine ⟨by (refine de1_none ?_; intro e he; simp at he), ?_⟩)
  u_in rl hF
  refine goes_oper_k rfl rfl (by k_ne) (fun K hK => ?_)
  go_simp
  refine hK _ _ ⟨?_, ?_⟩
  · refine de1_none ?_
    intro e he
    have hm := mem_listed he
    simp [go_sem, *] at hm
  clear hK K
  try w_num
  (u_in rl hF; rw [stepG_region_end]; simp only [goes_go]; refine ⟨by (refine de1_none ?_; intro e he; simp at he), ?_⟩)
  -- region 1
  (u_in rl hF; rw [stepG_seq]; simp only [goes_go]; refine ⟨by (refine de1_none ?_; intro e he; simp at he), ?_⟩)
  (u_in rl hF; rw [stepG_seq]; simp only [goes_go]; refine ⟨by (refine de1_none ?_; intro e he; simp at he), ?_⟩)
  (u_in rl hF; rw [stepG_region]; simp only [goes_go, List.size_toArray, List.length_cons, List.length_nil, Nat.reduceAdd, Nat.zero_add, List.range, List.range.loop]; refine ⟨by (refine de1_none ?_; intro e he; simp at he), ?_⟩)
  u_in rl hF
  refine goes_oper_k rfl rfl (by k_ne) (fun K hK => ?_)
  go_simp
  refine hK _ _ ⟨?_, ?_⟩
  · refine de1_none ?_
    intro e he
    have hm := mem_listed he
    simp [go_sem, *] at hm
  clear hK K
  try w_num
  u_in rl hF
  refine goes_oper_k rfl rfl (by k_ne) (fun K hK => ?_)
  go_simp
  refine hK _ _ ⟨?_, ?_⟩
  · refine de1_none ?_
    intro e he
    have hm := mem_listed he
    simp [go_sem, *] at hm
  clear hK K
  try w_num
  u_in rl hF
  refine goes_oper_k rfl rfl (by k_ne) (fun K hK => ?_)
  go_simp
  refine hK _ _ ⟨?_, ?_⟩
  · refine de1_none ?_
    intro e he
    have hm := mem_listed he
    simp [go_sem, *] at hm
  clear hK K
  try w_num
  (u_in rl hF; rw [stepG_region_end]; simp only [goes_go]; refine ⟨by (refine de1_none ?_; intro e he; simp at he), ?_⟩)
  (u_in rl hF; rw [stepG_cond (t := false) (by first | rfl | (simp [Act.eval]; omega))]; simp only [goes_go, if_true, if_false, Bool.false_eq_true, ↓reduceIte]; refine ⟨by (refine de1_none ?_; intro e he; simp at he), ?_⟩)
  (u_in rl hF; rw [stepG_skip]; simp only [goes_go]; refine ⟨by (refine de1_none ?_; intro e he; simp at he), ?_⟩)
  -- region 3
  (u_in rl hF; rw [stepG_seq]; simp only [goes_go]; refine ⟨by (refine de1_none ?_; intro e he; simp at he), ?_⟩)
  (u_in rl hF; rw [stepG_seq]; simp only [goes_go]; refine ⟨by (refine de1_none ?_; intro e he; simp at he), ?_⟩)
  (u_in rl hF; rw [stepG_region]; simp only [goes_go, List.size_toArray, List.length_cons, List.length_nil, Nat.reduceAdd, Nat.zero_add, List.range, List.range.loop]; refine ⟨by (refine de1_none ?_; intro e he; simp at he), ?_⟩)
  u_in rl hF
  refine goes_oper_k rfl rfl (by k_ne) (fun K hK => ?_)
  go_simp
  refine hK _ _ ⟨?_, ?_⟩
  · refine de1_none ?_
    intro e he
    have hm := mem_listed he
    simp [go_sem, *] at hm
  clear hK K
  try w_num
  u_in rl hF
  refine goes_oper_k rfl rfl (by k_ne) (fun K hK => ?_)
  go_simp
  refine hK _ _ ⟨?_, ?_⟩
  · refine de1_none ?_
    intro e he
    have hm := mem_listed he
    simp [go_sem, *] at hm
  clear hK K
  try w_num
  u_in rl hF
  refine goes_oper_k rfl rfl (by k_ne) (fun K hK => ?_)
  go_simp
  refine hK _ _ ⟨?_, ?_⟩
  · refine de1_none ?_
    intro e he
    have hm := mem_listed he
    simp [go_sem, *] at hm
  clear hK K
  try w_num
  (u_in rl hF; rw [stepG_region_end]; simp only [goes_go]; refine ⟨by (refine de1_none ?_; intro e he; simp at he), ?_⟩)
  (u_in rl hF; rw [stepG_cond (t := false) (by first | rfl | (simp [Act.eval]; omega))]; simp only [goes_go, if_true, if_false, Bool.false_eq_true, ↓reduceIte]; refine ⟨by (refine de1_none ?_; intro e he; simp at he), ?_⟩)
  (u_in rl hF; rw [stepG_skip]; simp only [goes_go]; refine ⟨by (refine de1_none ?_; intro e he; simp at he), ?_⟩)
  -- region 5
  (u_in rl hF; rw [stepG_seq]; simp only [goes_go]; refine ⟨by (refine de1_none ?_; intro e he; simp at he), ?_⟩)
  (u_in rl hF; rw [stepG_region]; simp only [goes_go, List.size_toArray, List.length_cons, List.length_nil, Nat.reduceAdd, Nat.zero_add, List.range, List.range.loop]; refine ⟨by (refine de1_none ?_; intro e he; simp at he), ?_⟩)
  u_in rl hF
  refine goes_oper_k rfl rfl (by k_ne) (fun K hK => ?_)
  go_simp
  refine hK _ _ ⟨?_, ?_⟩
  · refine de1_none ?_
    intro e he
    have hm := mem_listed he
    simp [go_sem, *] at hm
  clear hK K
  try w_num
  u_in rl hF
  refine goes_call rfl rfl (by k_ne) rfl Try.func13 nm_toI rfl ⟨by (refine de1_none ?_; intro e he; simp at he), ?_⟩
  rw [← enter_at _ Try.func13 rfl]
  refine Goes.stop fun w₁ h₁ => ?_
  replace hF := rl hF h₁
  clear h₁
  walk_nrm
  refine Go1.bind (fun _ a => RS.refl a) (toI_gl hF.low hF.glob (hF.base (f := .arg A x) (by simp)).2 (hF.base (f := .arg A x) (by simp)).1 hxn) ?_
  rintro t g w' ⟨gx, rfl, hK⟩
  replace hF := hF.copy hK
  clear hK
  refine gl_go (n := 100) ?_
  walk_nrm
  u_in rl hF
  refine goes_oper_k rfl rfl (by k_ne) (fun K hK => ?_)
  go_simp
  refine hK _ _ ⟨?_, ?_⟩
  · refine de1_none ?_
    intro e he
    have hm := mem_listed he
    simp [go_sem, *] at hm
  clear hK K
  try w_num
  u_in rl hF
  refine goes_call rfl rfl (by k_ne) rfl Try.func13 nm_toI rfl ⟨by (refine de1_none ?_; intro e he; simp at he), ?_⟩
  rw [← enter_at _ Try.func13 rfl]
  refine Goes.stop fun w₁ h₁ => ?_
  replace hF := rl hF h₁
  clear h₁
  walk_nrm
  refine Go1.bind (fun _ a => RS.refl a) (toI_gl hF.low hF.glob (hF.base (f := .arg A2 sl) (by simp)).2 (hF.base (f := .arg A2 sl) (by simp)).1 hsn) ?_
  rintro t g w' ⟨gs, rfl, hK⟩
  replace hF := hF.copy hK
  clear hK
  refine gl_go (n := 100) ?_
  walk_nrm
  u_in rl hF
  refine goes_oper_k rfl rfl (by k_ne) (fun K hK => ?_)
  go_simp
  refine hK _ _ ⟨?_, ?_⟩
  · refine de1_none ?_
    intro e he
    have hm := mem_listed he
    simp [go_sem, *] at hm
  clear hK K
  try w_num
  u_in rl hF
  refine goes_call rfl rfl (by k_ne) rfl Try.func23 nm_sRows rfl ⟨by (refine de1_none ?_; intro e he; simp at he), ?_⟩
  rw [← enter_at _ Try.func23 rfl]
  refine Goes.stop fun w₁ h₁ => ?_
  replace hF := rl hF h₁
  clear h₁
  walk_nrm
  refine Go1.bind (fun _ a => RS.refl a) (sRows_gl hF (hF.mine (p := ((fun y => y = gx), .own (some ⟨gx, 0, none⟩) x)) (.tail _ (.head _))).1.rd (hF.mine (p := ((fun y => y = gx), .own (some ⟨gx, 0, none⟩) x)) (.tail _ (.head _))).2.p (hF.mine (p := ((fun y => y = gs), .own (some ⟨gs, 0, none⟩) sl)) (.head _)).1.rd (hF.mine (p := ((fun y => y = gs), .own (some ⟨gs, 0, none⟩) sl)) (.head _)).2.p) ?_
  rintro t g w' ⟨Aw, cw, F', rfl, hF2⟩
  replace hF := hF2.drop.drop
  clear hF2
  refine gl_go (n := 100) ?_
  walk_nrm
  u_in rl hF
  refine goes_oper_k rfl rfl (by k_ne) (fun K hK => ?_)
  go_simp
  refine hK _ _ ⟨?_, ?_⟩
  · refine de1_none ?_
    intro e he
    have hm := mem_listed he
    simp [go_sem, *] at hm
  clear hK K
  try w_num
  u_in rl hF
  refine goes_oper_k rfl rfl (by k_ne) (fun K hK => ?_)
  go_simp
  refine hK _ _ ⟨?_, ?_⟩
  · refine de1_none ?_
    intro e he
    have hm := mem_listed he
    simp [go_sem, *] at hm
  clear hK K
  try w_num
  u_in rl hF
  refine goes_oper_k rfl rfl (by k_ne) (fun K hK => ?_)
  go_simp
  refine hK _ _ ⟨?_, ?_⟩
  · refine de1_none ?_
    intro e he
    have hm := mem_listed he
    simp [go_sem, *] at hm
  clear hK K
  try w_num
  u_in rl hF
  refine goes_oper_k rfl rfl (by k_ne) (fun K hK => ?_)
  go_simp
  refine hK _ _ ⟨?_, ?_⟩
  · refine de1_none ?_
    intro e he
    have hm := mem_listed he
    simp [go_sem, *] at hm
  clear hK K
  try w_num
  u_in rl hF
  refine goes_oper_k rfl rfl (by k_ne) (fun K hK => ?_)
  go_simp
  refine hK _ _ ⟨?_, ?_⟩
  · refine de1_none ?_
    intro e he
    have hm := mem_listed he
    simp [go_sem, *] at hm
  clear hK K
  try w_num
  (u_in rl hF; rw [stepG_region_end]; simp only [goes_go]; refine ⟨by (refine de1_none ?_; intro e he; simp at he), ?_⟩)
  -- region 6
  (u_in rl hF; rw [stepG_seq]; simp only [goes_go]; refine ⟨by (refine de1_none ?_; intro e he; simp at he), ?_⟩)
  (u_in rl hF; rw [stepG_region]; simp only [goes_go, List.size_toArray, List.length_cons, List.length_nil, Nat.reduceAdd, Nat.zero_add, List.range, List.range.loop]; refine ⟨by (refine de1_none ?_; intro e he; simp at he), ?_⟩)
  u_in rl hF
  refine goes_oper_k rfl rfl (by k_ne) (fun K hK => ?_)
  go_simp
  refine hK _ _ ⟨?_, ?_⟩
  · refine de1_none ?_
    intro e he
    have hm := mem_listed he
    simp [go_sem, *] at hm
  clear hK K
  try w_num
  u_in rl hF
  refine goes_call rfl rfl (by k_ne) rfl Try.func13 nm_toI rfl ⟨by (refine de1_none ?_; intro e he; simp at he), ?_⟩
  rw [← enter_at _ Try.func13 rfl]
  refine Goes.stop fun w₁ h₁ => ?_
  replace hF := rl hF h₁
  clear h₁
  walk_nrm
  refine Go1.bind (fun _ a => RS.refl a) (toI_gl hF.low hF.glob (hF.base (f := .arg A x) (by simp)).2 (hF.base (f := .arg A x) (by simp)).1 hxn) ?_
  rintro t g w' ⟨x0, rfl, hK⟩
  replace hF := hF.copy hK
  clear hK
  refine gl_go (n := 100) ?_
  walk_nrm
  u_in rl hF
  refine goes_oper_k rfl rfl (by k_ne) (fun K hK => ?_)
  go_simp
  refine hK _ _ ⟨?_, ?_⟩
  · refine de1_none ?_
    intro e he
    have hm := mem_listed he
    simp [go_sem, *] at hm
  clear hK K
  try w_num
  (u_in rl hF; rw [stepG_region_end]; simp only [goes_go]; refine ⟨by (refine de1_none ?_; intro e he; simp at he), ?_⟩)
  -- region 7
  (u_in rl hF; rw [stepG_seq]; simp only [goes_go]; refine ⟨by (refine de1_none ?_; intro e he; simp at he), ?_⟩)
  (u_in rl hF; rw [stepG_region]; simp only [goes_go, List.size_toArray, List.length_cons, List.length_nil, Nat.reduceAdd, Nat.zero_add, List.range, List.range.loop]; refine ⟨by (refine de1_none ?_; intro e he; simp at he), ?_⟩)
  u_in rl hF
  refine goes_oper_k rfl rfl (by k_ne) (fun K hK => ?_)
  go_simp
  refine hK _ _ ⟨?_, ?_⟩
  · refine de1_none ?_
    intro e he
    have hm := mem_listed he
    simp [go_sem, *] at hm
  clear hK K
  try w_num
  u_in rl hF
  refine goes_call rfl rfl (by k_ne) rfl Try.func13 nm_toI rfl ⟨by (refine de1_none ?_; intro e he; simp at he), ?_⟩
  rw [← enter_at _ Try.func13 rfl]
  refine Goes.stop fun w₁ h₁ => ?_
  replace hF := rl hF h₁
  clear h₁
  walk_nrm
  refine Go1.bind (fun _ a => RS.refl a) (toI_gl hF.low hF.glob (hF.base (f := .arg A2 sl) (by simp)).2 (hF.base (f := .arg A2 sl) (by simp)).1 hsn) ?_
  rintro t g w' ⟨x1, rfl, hK⟩
  replace hF := hF.copy hK
  clear hK
  refine gl_go (n := 100) ?_
  walk_nrm
  u_in rl hF
  refine goes_oper_k rfl rfl (by k_ne) (fun K hK => ?_)
  go_simp
  refine hK _ _ ⟨?_, ?_⟩
  · refine de1_none ?_
    intro e he
    have hm := mem_listed he
    simp [go_sem, *] at hm
  clear hK K
  try w_num
  (u_in rl hF; rw [stepG_region_end]; simp only [goes_go]; refine ⟨by (refine de1_none ?_; intro e he; simp at he), ?_⟩)
  -- region 8
  (u_in rl hF; rw [stepG_seq]; simp only [goes_go]; refine ⟨by (refine de1_none ?_; intro e he; simp at he), ?_⟩)
  (u_in rl hF; rw [stepG_region]; simp only [goes_go, List.size_toArray, List.length_cons, List.length_nil, Nat.reduceAdd, Nat.zero_add, List.range, List.range.loop]; refine ⟨by (refine de1_none ?_; intro e he; simp at he), ?_⟩)
  u_in rl hF
  refine goes_oper_k rfl rfl (by k_ne) (fun K hK => ?_)
  go_simp
  refine hK _ _ ⟨?_, ?_⟩
  · refine de1_none ?_
    intro e he
    have hm := mem_listed he
    simp [go_sem, *] at hm
  clear hK K
  try w_num
  u_in rl hF
  refine goes_oper_k rfl rfl (by k_ne) (fun K hK => ?_)
  go_simp
  refine hK _ _ ⟨?_, ?_⟩
  · refine de1_none ?_
    intro e he
    have hm := mem_listed he
    simp [go_sem, *] at hm
  clear hK K
  try w_num
  u_in rl hF
  refine goes_oper_k rfl rfl (by k_ne) (fun K hK => ?_)
  go_simp
  refine hK _ _ ⟨?_, ?_⟩
  · refine de1_none ?_
    intro e he
    have hm := mem_listed he
    simp [go_sem, *] at hm
  clear hK K
  try w_num
  u_in rl hF
  refine goes_call rfl rfl (by k_ne) rfl Try.func24 nm_iRows rfl ⟨by (refine de1_none ?_; intro e he; simp at he), ?_⟩
  rw [← enter_at _ Try.func24 rfl]
  refine Goes.stop fun w₁ h₁ => Go1.stop fun w₂ h₂ => ?_
  replace hF := rl (rl hF h₁) h₂
  walk_nrm
  exact ⟨_, Aw, cw, x0, x1, F', rfl, rfl, rfl, rfl, rfl, rfl, rfl, rfl, rfl, hF⟩
end
end Go.Proofs.Ytmmolicodlmlkaa.Ph
namespace Go.Proofs.Ytmmolicodlmlkaa.Ph
open Go.Conc Go.ConcN Go.RowKit Go.Conc.Lib Go.ConcR.Gen Go.ConcN.Gen
open Go.ConcR (KK wgBlock WgAt stA smA rd wr mk DC0 Payload)
open Go.Proofs.Ytmmolicodlmlkaa.Rel
set_option linter.unusedVariables false
set_option linter.unusedSimpArgs false

noncomputable def lr28 : Array Oper := match Try.f5.body with | some (.seq _ (.seq _ (.seq _ (.seq _ (.seq _ (.seq _ (.seq _ (.seq _ (.seq _ (.seq _ (.seq _ (.seq _ (.seq _ (.seq _ (.seq _ (.seq _ (.seq _ (.seq _ (.seq _ (.seq _ (.seq (.region _ ops _) _))))))))))))))))))))) => ops | _ => #[]
noncomputable def lc29 : Code := match Try.f5.body with | some (.seq _ (.seq _ (.seq _ (.seq _ (.seq _ (.seq _ (.seq _ (.seq _ (.seq _ (.seq _ (.seq _ (.seq _ (.seq _ (.seq _ (.seq _ (.seq _ (.seq _ (.seq _ (.seq _ (.seq _ (.seq _ c))))))))))))))))))))) => c | _ => .skip
theorem litT {T : Array Value} (h : T.size = 119) : ∃ v : Nat → Value, T = (v 0 :: v 1 :: v 2 :: v 3 :: v 4 :: v 5 :: v 6 :: v 7 :: v 8 :: v 9 :: v 10 :: v 11 :: v 12 :: v 13 :: v 14 :: v 15 :: v 16 :: v 17 :: v 18 :: v 19 :: v 20 :: v 21 :: v 22 :: v 23 :: v 24 :: v 25 :: v 26 :: v 27 :: v 28 :: v 29 :: v 30 :: v 31 :: v 32 :: v 33 :: v 34 :: v 35 :: v 36 :: v 37 :: v 38 :: v 39 :: v 40 :: v 41 :: v 42 :: v 43 :: v 44 :: v 45 :: v 46 :: v 47 :: v 48 :: v 49 :: v 50 :: v 51 :: v 52 :: v 53 :: v 54 :: v 55 :: v 56 :: v 57 :: v 58 :: v 59 :: v 60 :: v 61 :: v 62 :: v 63 :: v 64 :: v 65 :: v 66 :: v 67 :: v 68 :: v 69 :: v 70 :: v 71 :: v 72 :: v 73 :: v 74 :: v 75 :: v 76 :: v 77 :: v 78 :: v 79 :: v 80 :: v 81 :: v 82 :: v 83 :: v 84 :: v 85 :: v 86 :: v 87 :: v 88 :: v 89 :: v 90 :: v 91 :: v 92 :: v 93 :: v 94 :: v 95 :: v 96 :: v 97 :: v 98 :: v 99 :: v 100 :: v 101 :: v 102 :: v 103 :: v 104 :: v 105 :: v 106 :: v 107 :: v 108 :: v 109 :: v 110 :: v 111 :: v 112 :: v 113 :: v 114 :: v 115 :: v 116 :: v 117 :: v 118 :: []).toArray := by
  refine ⟨fun i => T.getD i undef, ?_⟩
  have e : (T.getD 0 undef :: T.getD 1 undef :: T.getD 2 undef :: T.getD 3 undef :: T.getD 4 undef :: T.getD 5 undef :: T.getD 6 undef :: T.getD 7 undef :: T.getD 8 undef :: T.getD 9 undef :: T.getD 10 undef :: T.getD 11 undef :: T.getD 12 undef :: T.getD 13 undef :: T.getD 14 undef :: T.getD 15 undef :: T.getD 16 undef :: T.getD 17 undef :: T.getD 18 undef :: T.getD 19 undef :: T.getD 20 undef :: T.getD 21 undef :: T.getD 22 undef :: T.getD 23 undef :: T.getD 24 undef :: T.getD 25 undef :: T.getD 26 undef :: T.getD 27 undef :: T.getD 28 undef :: T.getD 29 undef :: T.getD 30 undef :: T.getD 31 undef :: T.getD 32 undef :: T.getD 33 undef :: T.getD 34 undef :: T.getD 35 undef :: T.getD 36 undef :: T.getD 37 undef :: T.getD 38 undef :: T.getD 39 undef :: T.getD 40 undef :: T.getD 41 undef :: T.getD 42 undef :: T.getD 43 undef :: T.getD 44 undef :: T.getD 45 undef :: T.getD 46 undef :: T.getD 47 undef :: T.getD 48 undef :: T.getD 49 undef :: T.getD 50 undef :: T.getD 51 undef :: T.getD 52 undef :: T.getD 53 undef :: T.getD 54 undef :: T.getD 55 undef :: T.getD 56 undef :: T.getD 57 undef :: T.getD 58 undef :: T.getD 59 undef :: T.getD 60 undef :: T.getD 61 undef :: T.getD 62 undef :: T.getD 63 undef :: T.getD 64 undef :: T.getD 65 undef :: T.getD 66 undef :: T.getD 67 undef :: T.getD 68 undef :: T.getD 69 undef :: T.getD 70 undef :: T.getD 71 undef :: T.getD 72 undef :: T.getD 73 undef :: T.getD 74 undef :: T.getD 75 undef :: T.getD 76 undef :: T.getD 77 undef :: T.getD 78 undef :: T.getD 79 undef :: T.getD 80 undef :: T.getD 81 undef :: T.getD 82 undef :: T.getD 83 undef :: T.getD 84 undef :: T.getD 85 undef :: T.getD 86 undef :: T.getD 87 undef :: T.getD 88 undef :: T.getD 89 undef :: T.getD 90 undef :: T.getD 91 undef :: T.getD 92 undef :: T.getD 93 undef :: T.getD 94 undef :: T.getD 95 undef :: T.getD 96 undef :: T.getD 97 undef :: T.getD 98 undef :: T.getD 99 undef :: T.getD 100 undef :: T.getD 101 undef :: T.getD 102 undef :: T.getD 103 undef :: T.getD 104 undef :: T.getD 105 undef :: T.getD 106 undef :: T.getD 107 undef :: T.getD 108 undef :: T.getD 109 undef :: T.getD 110 undef :: T.getD 111 undef :: T.getD 112 undef :: T.getD 113 undef :: T.getD 114 undef :: T.getD 115 undef :: T.getD 116 undef :: T.getD 117 undef :: T.getD 118 undef :: []).toArray = (Array.range 119).map fun i => T.getD i undef := by kernel_rfl
  rw [e]
  apply Array.ext
  · simp [h]
  · intro i h1 h2
    simp [h1]
theorem ev_neq_bool (a b : Bool) (w : World) : (binOp .neq 4 (.bool a) (.bool b)).events Try.prog w #[] = #[] := by cases a <;> cases b <;> kernel_rfl
theorem ev_neq_int (a b : Int) (w : World) : (binOp .neq 3 (.int .i64 a) (.int .i64 b)).events Try.prog w #[] = #[] := by kernel_rfl
theorem LH.perm {W₀ : World} {l : List Fc} {F S : Nat → Prop} {own own' : List ((Nat → Prop) × Fc)} {w : World} (h : LH W₀ l F own S w) (hp : own.Perm own') : LH W₀ l F own' S w :=
  ⟨h.tw, h.old, h.low, h.glob, h.fc, h.sub, fun p hp' => h.ow p (hp.mem_iff.2 hp'), (hp.pairwise_iff fun {a b} hab y hb ha => hab y ha hb).1 h.dis⟩
section
variable {W₀ : World} {S : Nat → Prop} {w : World} {A A2 Aw Ag : Option Addr} {c c2 cw cg x0 x1 : Nat} {x sl : List Int} {xss : List (List Int)} {kw : Int} {g1 : Bool} {T : Array Value} {F Gg : Nat → Prop}
set_option maxRecDepth 100000 in
set_option maxHeartbeats 8000000 in
theorem law_b (hF : LH W₀ [.ss Aw xss, .arg A x, .arg A2 sl] F [(Gg, .sso Ag xss), ((fun y => y = x1), .own (some ⟨x1, 0, none⟩) sl), ((fun y => y = x0), .own (some ⟨x0, 0, none⟩) x)] S w) (hxn : x.length ≤ 1048576) (hsn : sl.length ≤ 1048576) (hxl : xss.length ≤ 1048576) (hxe : ∀ e ∈ xss, e.length ≤ 1048576) (hsum : sumLL xss ≤ 100000000)
    (hT : T.size = 119) (h0 : T[0]? = some (.slice A x.length c)) (h1 : T[1]? = some (.slice A2 sl.length c2)) (h2 : T[2]? = some (.int .i64 kw)) (h7 : T[7]? = some (.slice Aw xss.length cw)) (h8 : T[8]? = some (.bool g1)) (h9 : T[9]? = some (.slice (some ⟨x0, 0, none⟩) x.length x.length)) (h10 : T[10]? = some (.slice (some ⟨x1, 0, none⟩) sl.length sl.length)) :
    GL Try.prog (fun t g w' => ∃ T : Array Value, ∃ y0 y1, g = G (Frame.enter Try.prog 24 #[.slice (some ⟨y0, 0, none⟩) x.length x.length, .slice (some ⟨y1, 0, none⟩) sl.length sl.length, .int .i64 kw] .normal) [(base 5).at ⟨T, []⟩ [.inRegion lr28 [5, 6, 7, 8, 9, 10], .code lc29]] ∧
      T.size = 119 ∧ T[7]? = some (.slice Aw xss.length cw) ∧ T[8]? = some (.bool g1) ∧ T[11]? = some (.slice Ag xss.length cg) ∧ T[14]? = some (.int .i64 (1 + sumLL xss)) ∧
      LH W₀ [.ss Aw xss, .arg A x, .arg A2 sl] F [((fun y => y = y1), .own (some ⟨y1, 0, none⟩) sl), ((fun y => y = y0), .own (some ⟨y0, 0, none⟩) x), (Gg, .sso Ag (marksLL 1 xss))] t w') S (G ((base 5).at (Act.put ⟨T, []⟩ ((lr8[3]?).bind (·.dst)) (.tuple #[.slice Ag xss.length cg, .bool g1])) [.inRegion lr8 [4, 5, 6, 7, 8], .code lc9]) []) w := by
  have rl : ∀ {l : List Fc} {F : Nat → Prop} {own : List ((Nat → Prop) × Fc)} {S : Nat → Prop} {a b : World}, LH W₀ l F own S a → RS No S a b → LH W₀ l F own S b := fun h r => h.rely r
  obtain ⟨v, rfl⟩ := litT hT
  replace h0 : v 0 = .slice A x.length c := Option.some.inj h0
  replace h1 : v 1 = .slice A2 sl.length c2 := Option.some.inj h1
  replace h2 : v 2 = .int .i64 kw := Option.some.inj h2
  replace h7 : v 7 = .slice Aw xss.length cw := Option.some.inj h7
  replace h8 : v 8 = .bool g1 := Option.some.inj h8
  replace h9 : v 9 = .slice (some ⟨x0, 0, none⟩) x.length x.length := Option.some.inj h9
  replace h10 : v 10 = .slice (some ⟨x1, 0, none⟩) sl.length sl.length := Option.some.inj h10
  rw [h0, h1, h2, h7, h8, h9, h10]
  clear h0 h1 h2 h7 h8 h9 h10 hT
  have hnk : ¬ ((1 : Int) + x.length + sl.length < 0) := by omega
  have hnq : ¬ ((1 : Int) + (sumLL xss : Int) < 0) := by omega
  have hev1 := ev_neq_bool
  have hev2 := ev_neq_int
  refine gl_go (n := 100) ?_
  simp only [lr8, lc9, Try.f5]
  walk_nrm
  u_in rl hF
  refine goes_oper_k rfl rfl (by k_ne) (fun K hK => ?_)
  go_simp
  refine hK _ _ ⟨?_, ?_⟩
  · refine de1_none ?_
    intro e he
    have hm := mem_listed he
    simp [go_sem, *] at hm
  clear hK K
  try w_num
  u_in rl hF
  refine goes_oper_k rfl rfl (by k_ne) (fun K hK => ?_)
  go_simp
  refine hK _ _ ⟨?_, ?_⟩
  · refine de1_none ?_
    intro e he
    have hm := mem_listed he
    simp [go_sem, *] at hm
  clear hK K
  try w_num
  u_in rl hF
  refine goes_oper_k rfl rfl (by k_ne) (fun K hK => ?_)
  go_simp
  refine hK _ _ ⟨?_, ?_⟩
  · refine de1_none ?_
    intro e he
    have hm := mem_listed he
    simp [go_sem, *] at hm
  clear hK K
  try w_num
  u_in rl hF
  refine goes_oper_k rfl rfl (by k_ne) (fun K hK => ?_)
  go_simp
  refine hK _ _ ⟨?_, ?_⟩
  · refine de1_none ?_
    intro e he
    have hm := mem_listed he
    simp [go_sem, *] at hm
  clear hK K
  try w_num
  u_in rl hF
  refine goes_oper_k rfl rfl (by k_ne) (fun K hK => ?_)
  go_simp
  refine hK _ _ ⟨?_, ?_⟩
  · refine de1_none ?_
    intro e he
    have hm := mem_listed he
    simp [go_sem, *] at hm
  clear hK K
  try w_num
  (u_in rl hF; rw [stepG_region_end]; simp only [goes_go]; refine ⟨by (refine de1_none ?_; intro e he; simp at he), ?_⟩)
  -- region 9
  (u_in rl hF; rw [stepG_seq]; simp only [goes_go]; refine ⟨by (refine de1_none ?_; intro e he; simp at he), ?_⟩)
  (u_in rl hF; rw [stepG_seq]; simp only [goes_go]; refine ⟨by (refine de1_none ?_; intro e he; simp at he), ?_⟩)
  (u_in rl hF; rw [stepG_region]; simp only [goes_go, List.size_toArray, List.length_cons, List.length_nil, Nat.reduceAdd, Nat.zero_add, List.range, List.range.loop]; refine ⟨by (refine de1_none ?_; intro e he; simp at he), ?_⟩)
  u_in rl hF
  refine goes_oper_k rfl rfl (by k_ne) (fun K hK => ?_)
  go_simp
  refine hK _ _ ⟨?_, ?_⟩
  · refine de1_none ?_
    intro e he
    have hm := mem_listed he
    simp [go_sem, *] at hm
  clear hK K
  try w_num
  u_in rl hF
  refine goes_oper_k rfl rfl (by k_ne) (fun K hK => ?_)
  go_simp
  refine hK _ _ ⟨?_, ?_⟩
  · refine de1_none ?_
    intro e he
    have hm := mem_listed he
    simp [go_sem, *] at hm
  clear hK K
  try w_num
  u_in rl hF
  refine goes_call rfl rfl (by k_ne) rfl Try.func20 nm_eqSS rfl ⟨by (refine de1_none ?_; intro e he; simp at he), ?_⟩
  rw [← enter_at _ Try.func20 rfl]
  refine Goes.stop fun w₁ h₁ => ?_
  replace hF := rl hF h₁
  clear h₁
  walk_nrm
  refine Go1.bind (fun _ a => RS.refl a) (eqSS_gl hF.lf (hF.mine (p := (Gg, .sso Ag xss)) (.head _)).1 (hF.base (f := .ss Aw xss) (by simp)) hxl hxe) ?_
  rintro t g w' ⟨rfl, hK⟩
  replace hF := hF.lk hK
  clear hK
  refine gl_go (n := 100) ?_
  walk_nrm
  u_in rl hF
  refine goes_oper_k rfl rfl (by k_ne) (fun K hK => ?_)
  go_simp
  refine hK _ _ ⟨?_, ?_⟩
  · refine de1_none ?_
    intro e he
    have hm := mem_listed he
    simp [go_sem, *] at hm
  clear hK K
  try w_num
  u_in rl hF
  refine goes_oper_k rfl rfl (by k_ne) (fun K hK => ?_)
  go_simp
  refine hK _ _ ⟨?_, ?_⟩
  · refine de1_none ?_
    intro e he
    have hm := mem_listed he
    simp [go_sem, *] at hm
  clear hK K
  try w_num
  u_in rl hF
  refine goes_oper_k rfl rfl (by k_ne) (fun K hK => ?_)
  go_simp
  refine hK _ _ ⟨?_, ?_⟩
  · refine de1_none ?_
    intro e he
    have hm := mem_listed he
    simp [go_sem, *] at hm
  clear hK K
  try w_num
  u_in rl hF
  refine goes_oper_k rfl rfl (by k_ne) (fun K hK => ?_)
  go_simp
  refine hK _ _ ⟨?_, ?_⟩
  · refine de1_none ?_
    intro e he
    have hm := mem_listed he
    simp [go_sem, *] at hm
  clear hK K
  try w_num
  u_in rl hF
  refine goes_oper_k rfl rfl (by k_ne) (fun K hK => ?_)
  go_simp
  refine hK _ _ ⟨?_, ?_⟩
  · refine de1_none ?_
    intro e he
    have hm := mem_listed he
    simp [go_sem, *] at hm
  clear hK K
  try w_num
  u_in rl hF
  refine goes_oper_k rfl rfl (by k_ne) (fun K hK => ?_)
  go_simp
  refine hK _ _ ⟨?_, ?_⟩
  · refine de1_none ?_
    intro e he
    have hm := mem_listed he
    simp [go_sem, *] at hm
  clear hK K
  try w_num
  (u_in rl hF; rw [stepG_region_end]; simp only [goes_go]; refine ⟨by (refine de1_none ?_; intro e he; simp at he), ?_⟩)
  (u_in rl hF; rw [stepG_cond (t := false) (by first | rfl | (simp [Act.eval]; omega))]; simp only [goes_go, if_true, if_false, Bool.false_eq_true, ↓reduceIte]; refine ⟨by (refine de1_none ?_; intro e he; simp at he), ?_⟩)
  (u_in rl hF; rw [stepG_skip]; simp only [goes_go]; refine ⟨by (refine de1_none ?_; intro e he; simp at he), ?_⟩)
  -- region 11
  (u_in rl hF; rw [stepG_seq]; simp only [goes_go]; refine ⟨by (refine de1_none ?_; intro e he; simp at he), ?_⟩)
  (u_in rl hF; rw [stepG_seq]; simp only [goes_go]; refine ⟨by (refine de1_none ?_; intro e he; simp at he), ?_⟩)
  (u_in rl hF; rw [stepG_region]; simp only [goes_go, List.size_toArray, List.length_cons, List.length_nil, Nat.reduceAdd, Nat.zero_add, List.range, List.range.loop]; refine ⟨by (refine de1_none ?_; intro e he; simp at he), ?_⟩)
  u_in rl hF
  refine goes_oper_k rfl rfl (by k_ne) (fun K hK => ?_)
  go_simp
  refine hK _ _ ⟨?_, ?_⟩
  · refine de1_none ?_
    intro e he
    have hm := mem_listed he
    simp [go_sem, *] at hm
  clear hK K
  try w_num
  u_in rl hF
  refine goes_oper_k rfl rfl (by k_ne) (fun K hK => ?_)
  go_simp
  refine hK _ _ ⟨?_, ?_⟩
  · refine de1_none ?_
    intro e he
    have hm := mem_listed he
    simp [go_sem, *] at hm
  clear hK K
  try w_num
  u_in rl hF
  refine goes_call rfl rfl (by k_ne) rfl Try.func13 nm_toI rfl ⟨by (refine de1_none ?_; intro e he; simp at he), ?_⟩
  rw [← enter_at _ Try.func13 rfl]
  refine Goes.stop fun w₁ h₁ => ?_
  replace hF := rl hF h₁
  clear h₁
  walk_nrm
  refine Go1.bind (fun _ a => RS.refl a) (toI_gl hF.low hF.glob (hF.base (f := .arg A x) (by simp)).2 (hF.base (f := .arg A x) (by simp)).1 hxn) ?_
  rintro t g w' ⟨tx, rfl, hK⟩
  replace hF := hF.copy hK
  clear hK
  refine gl_go (n := 100) ?_
  walk_nrm
  u_in rl hF
  refine goes_call rfl rfl (by k_ne) rfl Try.func15 nm_eqI rfl ⟨by (refine de1_none ?_; intro e he; simp at he), ?_⟩
  rw [← enter_at _ Try.func15 rfl]
  refine Goes.stop fun w₁ h₁ => ?_
  replace hF := rl hF h₁
  clear h₁
  walk_nrm
  refine Go1.bind (fun _ a => RS.refl a) (eqI_gl hF.lf (hF.mine (p := ((fun y => y = x0), .own (some ⟨x0, 0, none⟩) x)) (.tail _ (.tail _ (.tail _ (.head _))))).1.rd (hF.mine (p := ((fun y => y = x0), .own (some ⟨x0, 0, none⟩) x)) (.tail _ (.tail _ (.tail _ (.head _))))).2 (hF.mine (p := ((fun y => y = tx), .own (some ⟨tx, 0, none⟩) x)) (.head _)).1.rd (hF.mine (p := ((fun y => y = tx), .own (some ⟨tx, 0, none⟩) x)) (.head _)).2 hxn) ?_
  rintro t g w' ⟨rfl, hK⟩
  replace hF := (hF.lk hK).drop
  clear hK
  refine gl_go (n := 100) ?_
  walk_nrm
  u_in rl hF
  refine goes_oper_k rfl rfl (by k_ne) (fun K hK => ?_)
  go_simp
  refine hK _ _ ⟨?_, ?_⟩
  · refine de1_none ?_
    intro e he
    have hm := mem_listed he
    simp [go_sem, *] at hm
  clear hK K
  try w_num
  (u_in rl hF; rw [stepG_region_end]; simp only [goes_go]; refine ⟨by (refine de1_none ?_; intro e he; simp at he), ?_⟩)
  (u_in rl hF; rw [stepG_cond (t := false) (by first | rfl | (simp [Act.eval]; omega))]; simp only [goes_go, if_true, if_false, Bool.false_eq_true, ↓reduceIte]; refine ⟨by (refine de1_none ?_; intro e he; simp at he), ?_⟩)
  (u_in rl hF; rw [stepG_skip]; simp only [goes_go]; refine ⟨by (refine de1_none ?_; intro e he; simp at he), ?_⟩)
  -- region 13
  (u_in rl hF; rw [stepG_seq]; simp only [goes_go]; refine ⟨by (refine de1_none ?_; intro e he; simp at he), ?_⟩)
  (u_in rl hF; rw [stepG_seq]; simp only [goes_go]; refine ⟨by (refine de1_none ?_; intro e he; simp at he), ?_⟩)
  (u_in rl hF; rw [stepG_region]; simp only [goes_go, List.size_toArray, List.length_cons, List.length_nil, Nat.reduceAdd, Nat.zero_add, List.range, List.range.loop]; refine ⟨by (refine de1_none ?_; intro e he; simp at he), ?_⟩)
  u_in rl hF
  refine goes_oper_k rfl rfl (by k_ne) (fun K hK => ?_)
  go_simp
  refine hK _ _ ⟨?_, ?_⟩
  · refine de1_none ?_
    intro e he
    have hm := mem_listed he
    simp [go_sem, *] at hm
  clear hK K
  try w_num
  u_in rl hF
  refine goes_oper_k rfl rfl (by k_ne) (fun K hK => ?_)
  go_simp
  refine hK _ _ ⟨?_, ?_⟩
  · refine de1_none ?_
    intro e he
    have hm := mem_listed he
    simp [go_sem, *] at hm
  clear hK K
  try w_num
  u_in rl hF
  refine goes_call rfl rfl (by k_ne) rfl Try.func13 nm_toI rfl ⟨by (refine de1_none ?_; intro e he; simp at he), ?_⟩
  rw [← enter_at _ Try.func13 rfl]
  refine Goes.stop fun w₁ h₁ => ?_
  replace hF := rl hF h₁
  clear h₁
  walk_nrm
  refine Go1.bind (fun _ a => RS.refl a) (toI_gl hF.low hF.glob (hF.base (f := .arg A2 sl) (by simp)).2 (hF.base (f := .arg A2 sl) (by simp)).1 hsn) ?_
  rintro t g w' ⟨ts, rfl, hK⟩
  replace hF := hF.copy hK
  clear hK
  refine gl_go (n := 100) ?_
  walk_nrm
  u_in rl hF
  refine goes_call rfl rfl (by k_ne) rfl Try.func15 nm_eqI rfl ⟨by (refine de1_none ?_; intro e he; simp at he), ?_⟩
  rw [← enter_at _ Try.func15 rfl]
  refine Goes.stop fun w₁ h₁ => ?_
  replace hF := rl hF h₁
  clear h₁
  walk_nrm
  refine Go1.bind (fun _ a => RS.refl a) (eqI_gl hF.lf (hF.mine (p := ((fun y => y = x1), .own (some ⟨x1, 0, none⟩) sl)) (.tail _ (.tail _ (.head _)))).1.rd (hF.mine (p := ((fun y => y = x1), .own (some ⟨x1, 0, none⟩) sl)) (.tail _ (.tail _ (.head _)))).2 (hF.mine (p := ((fun y => y = ts), .own (some ⟨ts, 0, none⟩) sl)) (.head _)).1.rd (hF.mine (p := ((fun y => y = ts), .own (some ⟨ts, 0, none⟩) sl)) (.head _)).2 hsn) ?_
  rintro t g w' ⟨rfl, hK⟩
  replace hF := (hF.lk hK).drop
  clear hK
  refine gl_go (n := 100) ?_
  walk_nrm
  u_in rl hF
  refine goes_oper_k rfl rfl (by k_ne) (fun K hK => ?_)
  go_simp
  refine hK _ _ ⟨?_, ?_⟩
  · refine de1_none ?_
    intro e he
    have hm := mem_listed he
    simp [go_sem, *] at hm
  clear hK K
  try w_num
  (u_in rl hF; rw [stepG_region_end]; simp only [goes_go]; refine ⟨by (refine de1_none ?_; intro e he; simp at he), ?_⟩)
  (u_in rl hF; rw [stepG_cond (t := false) (by first | rfl | (simp [Act.eval]; omega))]; simp only [goes_go, if_true, if_false, Bool.false_eq_true, ↓reduceIte]; refine ⟨by (refine de1_none ?_; intro e he; simp at he), ?_⟩)
  (u_in rl hF; rw [stepG_skip]; simp only [goes_go]; refine ⟨by (refine de1_none ?_; intro e he; simp at he), ?_⟩)
  -- region 15
  (u_in rl hF; rw [stepG_seq]; simp only [goes_go]; refine ⟨by (refine de1_none ?_; intro e he; simp at he), ?_⟩)
  (u_in rl hF; rw [stepG_region]; simp only [goes_go, List.size_toArray, List.length_cons, List.length_nil, Nat.reduceAdd, Nat.zero_add, List.range, List.range.loop]; refine ⟨by (refine de1_none ?_; intro e he; simp at he), ?_⟩)
  u_in rl hF
  refine goes_oper_k rfl rfl (by k_ne) (fun K hK => ?_)
  go_simp
  refine hK _ _ ⟨?_, ?_⟩
  · refine de1_none ?_
    intro e he
    have hm := mem_listed he
    simp [go_sem, *] at hm
  clear hK K
  try w_num
  (u_in rl hF; rw [stepG_region_end]; simp only [goes_go]; refine ⟨by (refine de1_none ?_; intro e he; simp at he), ?_⟩)
  -- region 16
  (u_in rl hF; rw [stepG_seq]; simp only [goes_go]; refine ⟨by (refine de1_none ?_; intro e he; simp at he), ?_⟩)
  (u_in rl hF; rw [stepG_region]; simp only [goes_go, List.size_toArray, List.length_cons, List.length_nil, Nat.reduceAdd, Nat.zero_add, List.range, List.range.loop]; refine ⟨by (refine de1_none ?_; intro e he; simp at he), ?_⟩)
  u_in rl hF
  refine goes_oper_k rfl rfl (by k_ne) (fun K hK => ?_)
  go_simp
  refine hK _ _ ⟨?_, ?_⟩
  · refine de1_none ?_
    intro e he
    have hm := mem_listed he
    simp [go_sem, *] at hm
  clear hK K
  try w_num
  u_in rl hF
  refine goes_oper_k rfl rfl (by k_ne) (fun K hK => ?_)
  go_simp
  refine hK _ _ ⟨?_, ?_⟩
  · refine de1_none ?_
    intro e he
    have hm := mem_listed he
    simp [go_sem, *] at hm
  clear hK K
  try w_num
  u_in rl hF
  refine goes_call rfl rfl (by k_ne) rfl Try.func16 nm_mark rfl ⟨by (refine de1_none ?_; intro e he; simp at he), ?_⟩
  rw [← enter_at _ Try.func16 rfl]
  refine Goes.stop fun w₁ h₁ => ?_
  replace hF := rl hF h₁
  clear h₁
  walk_nrm
  replace hF := hF.perm (own' := [((fun y => y = x0), .own (some ⟨x0, 0, none⟩) x), (Gg, .sso Ag xss), ((fun y => y = x1), .own (some ⟨x1, 0, none⟩) sl)]) (by exact (List.Perm.cons _ (List.Perm.swap _ _ _)).trans (List.Perm.swap _ _ _))
  refine Go1.bind (fun _ a => RS.refl a) (mark_gl hF hxn (by omega) (by omega)) ?_
  rintro t g w' ⟨rfl, hF2⟩
  replace hF := hF2
  clear hF2
  refine gl_go (n := 100) ?_
  walk_nrm
  u_in rl hF
  refine goes_oper_k rfl rfl (by k_ne) (fun K hK => ?_)
  go_simp
  refine hK _ _ ⟨?_, ?_⟩
  · refine de1_none ?_
    intro e he
    have hm := mem_listed he
    simp [go_sem, *] at hm
  clear hK K
  try w_num
  (u_in rl hF; rw [stepG_region_end]; simp only [goes_go]; refine ⟨by (refine de1_none ?_; intro e he; simp at he), ?_⟩)
  -- region 17
  (u_in rl hF; rw [stepG_seq]; simp only [goes_go]; refine ⟨by (refine de1_none ?_; intro e he; simp at he), ?_⟩)
  (u_in rl hF; rw [stepG_region]; simp only [goes_go, List.size_toArray, List.length_cons, List.length_nil, Nat.reduceAdd, Nat.zero_add, List.range, List.range.loop]; refine ⟨by (refine de1_none ?_; intro e he; simp at he), ?_⟩)
  u_in rl hF
  refine goes_oper_k rfl rfl (by k_ne) (fun K hK => ?_)
  go_simp
  refine hK _ _ ⟨?_, ?_⟩
  · refine de1_none ?_
    intro e he
    have hm := mem_listed he
    simp [go_sem, *] at hm
  clear hK K
  try w_num
  u_in rl hF
  refine goes_oper_k rfl rfl (by k_ne) (fun K hK => ?_)
  go_simp
  refine hK _ _ ⟨?_, ?_⟩
  · refine de1_none ?_
    intro e he
    have hm := mem_listed he
    simp [go_sem, *] at hm
  clear hK K
  try w_num
  u_in rl hF
  refine goes_call rfl rfl (by k_ne) rfl Try.func16 nm_mark rfl ⟨by (refine de1_none ?_; intro e he; simp at he), ?_⟩
  rw [← enter_at _ Try.func16 rfl]
  refine Goes.stop fun w₁ h₁ => ?_
  replace hF := rl hF h₁
  clear h₁
  walk_nrm
  replace hF := hF.perm (own' := [((fun y => y = x1), .own (some ⟨x1, 0, none⟩) sl), (Gg, .sso Ag xss)]) (by exact List.Perm.swap _ _ _)
  refine Go1.bind (fun _ a => RS.refl a) (mark_gl hF hsn (by omega) (by omega)) ?_
  rintro t g w' ⟨rfl, hF2⟩
  replace hF := hF2
  clear hF2
  refine gl_go (n := 100) ?_
  walk_nrm
  u_in rl hF
  refine goes_oper_k rfl rfl (by k_ne) (fun K hK => ?_)
  go_simp
  refine hK _ _ ⟨?_, ?_⟩
  · refine de1_none ?_
    intro e he
    have hm := mem_listed he
    simp [go_sem, *] at hm
  clear hK K
  try w_num
  (u_in rl hF; rw [stepG_region_end]; simp only [goes_go]; refine ⟨by (refine de1_none ?_; intro e he; simp at he), ?_⟩)
  -- region 18
  (u_in rl hF; rw [stepG_seq]; simp only [goes_go]; refine ⟨by (refine de1_none ?_; intro e he; simp at he), ?_⟩)
  (u_in rl hF; rw [stepG_seq]; simp only [goes_go]; refine ⟨by (refine de1_none ?_; intro e he; simp at he), ?_⟩)
  (u_in rl hF; rw [stepG_region]; simp only [goes_go, List.size_toArray, List.length_cons, List.length_nil, Nat.reduceAdd, Nat.zero_add, List.range, List.range.loop]; refine ⟨by (refine de1_none ?_; intro e he; simp at he), ?_⟩)
  u_in rl hF
  refine goes_oper_k rfl rfl (by k_ne) (fun K hK => ?_)
  go_simp
  refine hK _ _ ⟨?_, ?_⟩
  · refine de1_none ?_
    intro e he
    have hm := mem_listed he
    simp [go_sem, *] at hm
  clear hK K
  try w_num
  u_in rl hF
  refine goes_oper_k rfl rfl (by k_ne) (fun K hK => ?_)
  go_simp
  refine hK _ _ ⟨?_, ?_⟩
  · refine de1_none ?_
    intro e he
    have hm := mem_listed he
    simp [go_sem, *] at hm
  clear hK K
  try w_num
  u_in rl hF
  refine goes_oper_k rfl rfl (by k_ne) (fun K hK => ?_)
  go_simp
  refine hK _ _ ⟨?_, ?_⟩
  · refine de1_none ?_
    intro e he
    have hm := mem_listed he
    simp [go_sem, *] at hm
  clear hK K
  try w_num
  u_in rl hF
  refine goes_oper_k rfl rfl (by k_ne) (fun K hK => ?_)
  go_simp
  refine hK _ _ ⟨?_, ?_⟩
  · refine de1_none ?_
    intro e he
    have hm := mem_listed he
    simp [go_sem, *] at hm
  clear hK K
  try w_num
  u_in rl hF
  refine goes_oper_k rfl rfl (by k_ne) (fun K hK => ?_)
  go_simp
  refine hK _ _ ⟨?_, ?_⟩
  · refine de1_none ?_
    intro e he
    have hm := mem_listed he
    simp [go_sem, *] at hm
  clear hK K
  try w_num
  u_in rl hF
  refine goes_call rfl rfl (by k_ne) rfl Try.func20 nm_eqSS rfl ⟨by (refine de1_none ?_; intro e he; simp at he), ?_⟩
  rw [← enter_at _ Try.func20 rfl]
  refine Goes.stop fun w₁ h₁ => ?_
  replace hF := rl hF h₁
  clear h₁
  walk_nrm
  refine Go1.bind (fun _ a => RS.refl a) (eqSS_gl hF.lf (hF.mine (p := (Gg, .sso Ag xss)) (.head _)).1 (hF.base (f := .ss Aw xss) (by simp)) hxl hxe) ?_
  rintro t g w' ⟨rfl, hK⟩
  replace hF := hF.lk hK
  clear hK
  refine gl_go (n := 100) ?_
  walk_nrm
  u_in rl hF
  refine goes_oper_k rfl rfl (by k_ne) (fun K hK => ?_)
  go_simp
  refine hK _ _ ⟨?_, ?_⟩
  · refine de1_none ?_
    intro e he
    have hm := mem_listed he
    simp [go_sem, *] at hm
  clear hK K
  try w_num
  u_in rl hF
  refine goes_oper_k rfl rfl (by k_ne) (fun K hK => ?_)
  go_simp
  refine hK _ _ ⟨?_, ?_⟩
  · refine de1_none ?_
    intro e he
    have hm := mem_listed he
    simp [go_sem, *] at hm
  clear hK K
  try w_num
  u_in rl hF
  refine goes_oper_k rfl rfl (by k_ne) (fun K hK => ?_)
  go_simp
  refine hK _ _ ⟨?_, ?_⟩
  · refine de1_none ?_
    intro e he
    have hm := mem_listed he
    simp [go_sem, *] at hm
  clear hK K
  try w_num
  u_in rl hF
  refine goes_oper_k rfl rfl (by k_ne) (fun K hK => ?_)
  go_simp
  refine hK _ _ ⟨?_, ?_⟩
  · refine de1_none ?_
    intro e he
    have hm := mem_listed he
    simp [go_sem, *] at hm
  clear hK K
  try w_num
  u_in rl hF
  refine goes_oper_k rfl rfl (by k_ne) (fun K hK => ?_)
  go_simp
  refine hK _ _ ⟨?_, ?_⟩
  · refine de1_none ?_
    intro e he
    have hm := mem_listed he
    simp [go_sem, *] at hm
  clear hK K
  try w_num
  u_in rl hF
  refine goes_oper_k rfl rfl (by k_ne) (fun K hK => ?_)
  go_simp
  refine hK _ _ ⟨?_, ?_⟩
  · refine de1_none ?_
    intro e he
    have hm := mem_listed he
    simp [go_sem, *] at hm
  clear hK K
  try w_num
  u_in rl hF
  refine goes_oper_k rfl rfl (by k_ne) (fun K hK => ?_)
  go_simp
  refine hK _ _ ⟨?_, ?_⟩
  · refine de1_none ?_
    intro e he
    have hm := mem_listed he
    simp [go_sem, *] at hm
  clear hK K
  try w_num
  (u_in rl hF; rw [stepG_region_end]; simp only [goes_go]; refine ⟨by (refine de1_none ?_; intro e he; simp at he), ?_⟩)
  (u_in rl hF; rw [stepG_cond (t := false) (by first | rfl | (simp [Act.eval]; omega))]; simp only [goes_go, if_true, if_false, Bool.false_eq_true, ↓reduceIte]; refine ⟨by (refine de1_none ?_; intro e he; simp at he), ?_⟩)
  (u_in rl hF; rw [stepG_skip]; simp only [goes_go]; refine ⟨by (refine de1_none ?_; intro e he; simp at he), ?_⟩)
  -- region 20
  (u_in rl hF; rw [stepG_seq]; simp only [goes_go]; refine ⟨by (refine de1_none ?_; intro e he; simp at he), ?_⟩)
  (u_in rl hF; rw [stepG_region]; simp only [goes_go, List.size_toArray, List.length_cons, List.length_nil, Nat.reduceAdd, Nat.zero_add, List.range, List.range.loop]; refine ⟨by (refine de1_none ?_; intro e he; simp at he), ?_⟩)
  u_in rl hF
  refine goes_oper_k rfl rfl (by k_ne) (fun K hK => ?_)
  go_simp
  refine hK _ _ ⟨?_, ?_⟩
  · refine de1_none ?_
    intro e he
    have hm := mem_listed he
    simp [go_sem, *] at hm
  clear hK K
  try w_num
  (u_in rl hF; rw [stepG_region_end]; simp only [goes_go]; refine ⟨by (refine de1_none ?_; intro e he; simp at he), ?_⟩)
  -- region 21
  (u_in rl hF; rw [stepG_seq]; simp only [goes_go]; refine ⟨by (refine de1_none ?_; intro e he; simp at he), ?_⟩)
  (u_in rl hF; rw [stepG_region]; simp only [goes_go, List.size_toArray, List.length_cons, List.length_nil, Nat.reduceAdd, Nat.zero_add, List.range, List.range.loop]; refine ⟨by (refine de1_none ?_; intro e he; simp at he), ?_⟩)
  u_in rl hF
  refine goes_oper_k rfl rfl (by k_ne) (fun K hK => ?_)
  go_simp
  refine hK _ _ ⟨?_, ?_⟩
  · refine de1_none ?_
    intro e he
    have hm := mem_listed he
    simp [go_sem, *] at hm
  clear hK K
  try w_num
  u_in rl hF
  refine goes_oper_k rfl rfl (by k_ne) (fun K hK => ?_)
  go_simp
  refine hK _ _ ⟨?_, ?_⟩
  · refine de1_none ?_
    intro e he
    have hm := mem_listed he
    simp [go_sem, *] at hm
  clear hK K
  try w_num
  u_in rl hF
  refine goes_call rfl rfl (by k_ne) rfl Try.func21 nm_markSS rfl ⟨by (refine de1_none ?_; intro e he; simp at he), ?_⟩
  rw [← enter_at _ Try.func21 rfl]
  refine Goes.stop fun w₁ h₁ => ?_
  replace hF := rl hF h₁
  clear h₁
  walk_nrm
  refine Go1.bind (fun _ a => RS.refl a) (markSS_gl hF hxl hxe (by omega) (by omega)) ?_
  rintro t g w' ⟨rfl, hF2⟩
  replace hF := hF2
  clear hF2
  refine gl_go (n := 100) ?_
  walk_nrm
  u_in rl hF
  refine goes_oper_k rfl rfl (by k_ne) (fun K hK => ?_)
  go_simp
  refine hK _ _ ⟨?_, ?_⟩
  · refine de1_none ?_
    intro e he
    have hm := mem_listed he
    simp [go_sem, *] at hm
  clear hK K
  try w_num
  (u_in rl hF; rw [stepG_region_end]; simp only [goes_go]; refine ⟨by (refine de1_none ?_; intro e he; simp at he), ?_⟩)
  -- region 22
  (u_in rl hF; rw [stepG_seq]; simp only [goes_go]; refine ⟨by (refine de1_none ?_; intro e he; simp at he), ?_⟩)
  (u_in rl hF; rw [stepG_region]; simp only [goes_go, List.size_toArray, List.length_cons, List.length_nil, Nat.reduceAdd, Nat.zero_add, List.range, List.range.loop]; refine ⟨by (refine de1_none ?_; intro e he; simp at he), ?_⟩)
  u_in rl hF
  refine goes_oper_k rfl rfl (by k_ne) (fun K hK => ?_)
  go_simp
  refine hK _ _ ⟨?_, ?_⟩
  · refine de1_none ?_
    intro e he
    have hm := mem_listed he
    simp [go_sem, *] at hm
  clear hK K
  try w_num
  (u_in rl hF; rw [stepG_region_end]; simp only [goes_go]; refine ⟨by (refine de1_none ?_; intro e he; simp at he), ?_⟩)
  -- region 23
  (u_in rl hF; rw [stepG_seq]; simp only [goes_go]; refine ⟨by (refine de1_none ?_; intro e he; simp at he), ?_⟩)
  (u_in rl hF; rw [stepG_region]; simp only [goes_go, List.size_toArray, List.length_cons, List.length_nil, Nat.reduceAdd, Nat.zero_add, List.range, List.range.loop]; refine ⟨by (refine de1_none ?_; intro e he; simp at he), ?_⟩)
  u_in rl hF
  refine goes_oper_k rfl rfl (by k_ne) (fun K hK => ?_)
  go_simp
  refine hK _ _ ⟨?_, ?_⟩
  · refine de1_none ?_
    intro e he
    have hm := mem_listed he
    simp [go_sem, *] at hm
  clear hK K
  try w_num
  u_in rl hF
  refine goes_oper_k rfl rfl (by k_ne) (fun K hK => ?_)
  go_simp
  refine hK _ _ ⟨?_, ?_⟩
  · refine de1_none ?_
    intro e he
    have hm := mem_listed he
    simp [go_sem, *] at hm
  clear hK K
  try w_num
  u_in rl hF
  refine goes_call rfl rfl (by k_ne) rfl Try.func22 nm_heldSS rfl ⟨by (refine de1_none ?_; intro e he; simp at he), ?_⟩
  rw [← enter_at _ Try.func22 rfl]
  refine Goes.stop fun w₁ h₁ => ?_
  replace hF := rl hF h₁
  clear h₁
  walk_nrm
  refine Go1.bind (fun _ a => RS.refl a) (heldSS_gl hF.lf (hF.mine (p := (Gg, .sso Ag (marksLL 1 xss))) (.head _)).1 hxl hxe (by omega) (by omega)) ?_
  rintro t g w' ⟨rfl, hK⟩
  replace hF := hF.lk hK
  clear hK
  refine gl_go (n := 100) ?_
  walk_nrm
  u_in rl hF
  refine goes_oper_k rfl rfl (by k_ne) (fun K hK => ?_)
  go_simp
  refine hK _ _ ⟨?_, ?_⟩
  · refine de1_none ?_
    intro e he
    have hm := mem_listed he
    simp [go_sem, *] at hm
  clear hK K
  try w_num
  (u_in rl hF; rw [stepG_region_end]; simp only [goes_go]; refine ⟨by (refine de1_none ?_; intro e he; simp at he), ?_⟩)
  -- region 24
  (u_in rl hF; rw [stepG_seq]; simp only [goes_go]; refine ⟨by (refine de1_none ?_; intro e he; simp at he), ?_⟩)
  (u_in rl hF; rw [stepG_seq]; simp only [goes_go]; refine ⟨by (refine de1_none ?_; intro e he; simp at he), ?_⟩)
  (u_in rl hF; rw [stepG_region]; simp only [goes_go, List.size_toArray, List.length_cons, List.length_nil, Nat.reduceAdd, Nat.zero_add, List.range, List.range.loop]; refine ⟨by (refine de1_none ?_; intro e he; simp at he), ?_⟩)
  u_in rl hF
  refine goes_oper_k rfl rfl (by k_ne) (fun K hK => ?_)
  go_simp
  refine hK _ _ ⟨?_, ?_⟩
  · refine de1_none ?_
    intro e he
    have hm := mem_listed he
    simp [go_sem, *] at hm
  clear hK K
  try w_num
  u_in rl hF
  refine goes_oper_k rfl rfl (by k_ne) (fun K hK => ?_)
  go_simp
  refine hK _ _ ⟨?_, ?_⟩
  · refine de1_none ?_
    intro e he
    have hm := mem_listed he
    simp [go_sem, *] at hm
  clear hK K
  try w_num
  (u_in rl hF; rw [stepG_region_end]; simp only [goes_go]; refine ⟨by (refine de1_none ?_; intro e he; simp at he), ?_⟩)
  (u_in rl hF; rw [stepG_cond (t := false) (by first | rfl | (simp [Act.eval]; omega))]; simp only [goes_go, if_true, if_false, Bool.false_eq_true, ↓reduceIte]; refine ⟨by (refine de1_none ?_; intro e he; simp at he), ?_⟩)
  (u_in rl hF; rw [stepG_skip]; simp only [goes_go]; refine ⟨by (refine de1_none ?_; intro e he; simp at he), ?_⟩)
  -- region 26
  (u_in rl hF; rw [stepG_seq]; simp only [goes_go]; refine ⟨by (refine de1_none ?_; intro e he; simp at he), ?_⟩)
  (u_in rl hF; rw [stepG_seq]; simp only [goes_go]; refine ⟨by (refine de1_none ?_; intro e he; simp at he), ?_⟩)
  (u_in rl hF; rw [stepG_region]; simp only [goes_go, List.size_toArray, List.length_cons, List.length_nil, Nat.reduceAdd, Nat.zero_add, List.range, List.range.loop]; refine ⟨by (refine de1_none ?_; intro e he; simp at he), ?_⟩)
  u_in rl hF
  refine goes_oper_k rfl rfl (by k_ne) (fun K hK => ?_)
  go_simp
  refine hK _ _ ⟨?_, ?_⟩
  · refine de1_none ?_
    intro e he
    have hm := mem_listed he
    simp [go_sem, *] at hm
  clear hK K
  try w_num
  u_in rl hF
  refine goes_oper_k rfl rfl (by k_ne) (fun K hK => ?_)
  go_simp
  refine hK _ _ ⟨?_, ?_⟩
  · refine de1_none ?_
    intro e he
    have hm := mem_listed he
    simp [go_sem, *] at hm
  clear hK K
  try w_num
  u_in rl hF
  refine goes_oper_k rfl rfl (by k_ne) (fun K hK => ?_)
  go_simp
  refine hK _ _ ⟨?_, ?_⟩
  · refine de1_none ?_
    intro e he
    have hm := mem_listed he
    simp [go_sem, *] at hm
  clear hK K
  try w_num
  (u_in rl hF; rw [stepG_region_end]; simp only [goes_go]; refine ⟨by (refine de1_none ?_; intro e he; simp at he), ?_⟩)
  (u_in rl hF; rw [stepG_cond (t := false) (by first | rfl | (simp [Act.eval]; omega))]; simp only [goes_go, if_true, if_false, Bool.false_eq_true, ↓reduceIte]; refine ⟨by (refine de1_none ?_; intro e he; simp at he), ?_⟩)
  (u_in rl hF; rw [stepG_skip]; simp only [goes_go]; refine ⟨by (refine de1_none ?_; intro e he; simp at he), ?_⟩)
  -- region 28
  (u_in rl hF; rw [stepG_seq]; simp only [goes_go]; refine ⟨by (refine de1_none ?_; intro e he; simp at he), ?_⟩)
  (u_in rl hF; rw [stepG_region]; simp only [goes_go, List.size_toArray, List.length_cons, List.length_nil, Nat.reduceAdd, Nat.zero_add, List.range, List.range.loop]; refine ⟨by (refine de1_none ?_; intro e he; simp at he), ?_⟩)
  u_in rl hF
  refine goes_oper_k rfl rfl (by k_ne) (fun K hK => ?_)
  go_simp
  refine hK _ _ ⟨?_, ?_⟩
  · refine de1_none ?_
    intro e he
    have hm := mem_listed he
    simp [go_sem, *] at hm
  clear hK K
  try w_num
  u_in rl hF
  refine goes_call rfl rfl (by k_ne) rfl Try.func13 nm_toI rfl ⟨by (refine de1_none ?_; intro e he; simp at he), ?_⟩
  rw [← enter_at _ Try.func13 rfl]
  refine Goes.stop fun w₁ h₁ => ?_
  replace hF := rl hF h₁
  clear h₁
  walk_nrm
  refine Go1.bind (fun _ a => RS.refl a) (toI_gl hF.low hF.glob (hF.base (f := .arg A x) (by simp)).2 (hF.base (f := .arg A x) (by simp)).1 hxn) ?_
  rintro t g w' ⟨y0, rfl, hK⟩
  replace hF := hF.copy hK
  clear hK
  refine gl_go (n := 100) ?_
  walk_nrm
  u_in rl hF
  refine goes_oper_k rfl rfl (by k_ne) (fun K hK => ?_)
  go_simp
  refine hK _ _ ⟨?_, ?_⟩
  · refine de1_none ?_
    intro e he
    have hm := mem_listed he
    simp [go_sem, *] at hm
  clear hK K
  try w_num
  u_in rl hF
  refine goes_call rfl rfl (by k_ne) rfl Try.func13 nm_toI rfl ⟨by (refine de1_none ?_; intro e he; simp at he), ?_⟩
  rw [← enter_at _ Try.func13 rfl]
  refine Goes.stop fun w₁ h₁ => ?_
  replace hF := rl hF h₁
  clear h₁
  walk_nrm
  refine Go1.bind (fun _ a => RS.refl a) (toI_gl hF.low hF.glob (hF.base (f := .arg A2 sl) (by simp)).2 (hF.base (f := .arg A2 sl) (by simp)).1 hsn) ?_
  rintro t g w' ⟨y1, rfl, hK⟩
  replace hF := hF.copy hK
  clear hK
  refine gl_go (n := 100) ?_
  walk_nrm
  u_in rl hF
  refine goes_oper_k rfl rfl (by k_ne) (fun K hK => ?_)
  go_simp
  refine hK _ _ ⟨?_, ?_⟩
  · refine de1_none ?_
    intro e he
    have hm := mem_listed he
    simp [go_sem, *] at hm
  clear hK K
  try w_num
  u_in rl hF
  refine goes_call rfl rfl (by k_ne) rfl Try.func24 nm_iRows rfl ⟨by (refine de1_none ?_; intro e he; simp at he), ?_⟩
  rw [← enter_at _ Try.func24 rfl]
  refine Goes.stop fun w₁ h₁ => Go1.stop fun w₂ h₂ => ?_
  replace hF := rl (rl hF h₁) h₂
  walk_nrm
  refine ⟨_, y0, y1, rfl, ?_⟩
  exact ⟨rfl, rfl, rfl, rfl, rfl, hF⟩
end
end Go.Proofs.Ytmmolicodlmlkaa.Ph
namespace Go.Proofs.Ytmmolicodlmlkaa.Ph
open Go.Conc Go.ConcN Go.RowKit Go.Conc.Lib Go.ConcR.Gen Go.ConcN.Gen
open Go.ConcR (KK wgBlock WgAt stA smA rd wr mk DC0 Payload)
open Go.Proofs.Ytmmolicodlmlkaa.Rel
set_option linter.unusedVariables false
set_option linter.unusedSimpArgs false

/-- The last frame's return. -/
theorem stepG_done {P : Program} {b : Frame} {a : Act} {todo : List Item} {w : World} {fn : Func} {t : Tmp} (hn : b.kind = .normal) (hd : a.defers = []) (hf : P.funcs[b.fn]? = some fn) (hr : fn.results = #[.tmp t]) (hi : P.inits.idxOf? b.fn = none) :
    stepG P true (G { b.at a todo with mode := .returning } []) w = .ended (.done (a.tmps.getD t undef)) w #[] := by
  have h1 := results_tmp hr a.tmps P w
  have h2 := events_results_tmp (P := P) (w := w) hr a.tmps #[]
  simp [G, stepG, unwind, doReturn, Frame.at, hn, hd, hf, h1, h2, hi, seen, GStep.after]
/-- The law's end. -/
def LawEnd (W₀ : World) (S : Nat → Prop) (g : Goroutine) (w : World) : Prop := g.status = .running ∧ ∀ w₁, RS No S w w₁ → ∃ v, stepG Try.prog true g w₁ = .ended (.done v) w₁ #[] ∧ v = .bool true ∧ Below W₀.heap.size W₀ w₁
section
variable {W₀ : World} {S : Nat → Prop} {w : World} {A A2 Aw Ag Ah : Option Addr} {c c2 cw cg ch y0 y1 : Nat} {x sl : List Int} {xss : List (List Int)} {g1 : Bool} {T : Array Value} {F Gg Gh : Nat → Prop}
set_option maxRecDepth 100000 in
set_option maxHeartbeats 8000000 in
theorem law_c (hF : LH W₀ [.ss Aw xss, .arg A x, .arg A2 sl] F [(Gh, .sso Ah xss), ((fun y => y = y1), .own (some ⟨y1, 0, none⟩) sl), ((fun y => y = y0), .own (some ⟨y0, 0, none⟩) x), (Gg, .sso Ag (marksLL 1 xss))] S w) (hxl : xss.length ≤ 1048576) (hxe : ∀ e ∈ xss, e.length ≤ 1048576) (hsum : sumLL xss ≤ 100000000)
    (hT : T.size = 119) (h7 : T[7]? = some (.slice Aw xss.length cw)) (h8 : T[8]? = some (.bool g1)) (h11 : T[11]? = some (.slice Ag xss.length cg)) (h14 : T[14]? = some (.int .i64 (1 + sumLL xss))) :
    GL Try.prog (LawEnd W₀) S (G ((base 5).at (Act.put ⟨T, []⟩ ((lr28[5]?).bind (·.dst)) (.tuple #[.slice Ah xss.length ch, .bool g1])) [.inRegion lr28 [6, 7, 8, 9, 10], .code lc29]) []) w := by
  have rl : ∀ {l : List Fc} {F : Nat → Prop} {own : List ((Nat → Prop) × Fc)} {S : Nat → Prop} {a b : World}, LH W₀ l F own S a → RS No S a b → LH W₀ l F own S b := fun h r => h.rely r
  obtain ⟨v, rfl⟩ := litT hT
  replace h7 : v 7 = .slice Aw xss.length cw := Option.some.inj h7
  replace h8 : v 8 = .bool g1 := Option.some.inj h8
  replace h11 : v 11 = .slice Ag xss.length cg := Option.some.inj h11
  replace h14 : v 14 = .int .i64 (1 + sumLL xss) := Option.some.inj h14
  rw [h7, h8, h11, h14]
  clear h7 h8 h11 h14 hT
  have hnq : ¬ ((1 : Int) + (sumLL xss : Int) < 0) := by omega
  have hev1 := ev_neq_bool
  have hev2 := ev_neq_int
  refine gl_go (n := 100) ?_
  simp only [lr28, lc29, Try.f5]
  walk_nrm
  u_in rl hF
  refine goes_oper_k rfl rfl (by k_ne) (fun K hK => ?_)
  go_simp
  refine hK _ _ ⟨?_, ?_⟩
  · refine de1_none ?_
    intro e he
    have hm := mem_listed he
    simp [go_sem, *] at hm
  clear hK K
  try w_num
  u_in rl hF
  refine goes_oper_k rfl rfl (by k_ne) (fun K hK => ?_)
  go_simp
  refine hK _ _ ⟨?_, ?_⟩
  · refine de1_none ?_
    intro e he
    have hm := mem_listed he
    simp [go_sem, *] at hm
  clear hK K
  try w_num
  u_in rl hF
  refine goes_oper_k rfl rfl (by k_ne) (fun K hK => ?_)
  go_simp
  refine hK _ _ ⟨?_, ?_⟩
  · refine de1_none ?_
    intro e he
    have hm := mem_listed he
    simp [go_sem, *] at hm
  clear hK K
  try w_num
  u_in rl hF
  refine goes_oper_k rfl rfl (by k_ne) (fun K hK => ?_)
  go_simp
  refine hK _ _ ⟨?_, ?_⟩
  · refine de1_none ?_
    intro e he
    have hm := mem_listed he
    simp [go_sem, *] at hm
  clear hK K
  try w_num
  u_in rl hF
  refine goes_oper_k rfl rfl (by k_ne) (fun K hK => ?_)
  go_simp
  refine hK _ _ ⟨?_, ?_⟩
  · refine de1_none ?_
    intro e he
    have hm := mem_listed he
    simp [go_sem, *] at hm
  clear hK K
  try w_num
  (u_in rl hF; rw [stepG_region_end]; simp only [goes_go]; refine ⟨by (refine de1_none ?_; intro e he; simp at he), ?_⟩)
  -- region 29
  (u_in rl hF; rw [stepG_seq]; simp only [goes_go]; refine ⟨by (refine de1_none ?_; intro e he; simp at he), ?_⟩)
  (u_in rl hF; rw [stepG_seq]; simp only [goes_go]; refine ⟨by (refine de1_none ?_; intro e he; simp at he), ?_⟩)
  (u_in rl hF; rw [stepG_region]; simp only [goes_go, List.size_toArray, List.length_cons, List.length_nil, Nat.reduceAdd, Nat.zero_add, List.range, List.range.loop]; refine ⟨by (refine de1_none ?_; intro e he; simp at he), ?_⟩)
  u_in rl hF
  refine goes_oper_k rfl rfl (by k_ne) (fun K hK => ?_)
  go_simp
  refine hK _ _ ⟨?_, ?_⟩
  · refine de1_none ?_
    intro e he
    have hm := mem_listed he
    simp [go_sem, *] at hm
  clear hK K
  try w_num
  u_in rl hF
  refine goes_oper_k rfl rfl (by k_ne) (fun K hK => ?_)
  go_simp
  refine hK _ _ ⟨?_, ?_⟩
  · refine de1_none ?_
    intro e he
    have hm := mem_listed he
    simp [go_sem, *] at hm
  clear hK K
  try w_num
  u_in rl hF
  refine goes_call rfl rfl (by k_ne) rfl Try.func20 nm_eqSS rfl ⟨by (refine de1_none ?_; intro e he; simp at he), ?_⟩
  rw [← enter_at _ Try.func20 rfl]
  refine Goes.stop fun w₁ h₁ => ?_
  replace hF := rl hF h₁
  clear h₁
  walk_nrm
  refine Go1.bind (fun _ a => RS.refl a) (eqSS_gl hF.lf (hF.mine (p := (Gh, .sso Ah xss)) (.head _)).1 (hF.base (f := .ss Aw xss) (by simp)) hxl hxe) ?_
  rintro t g w' ⟨rfl, hK⟩
  replace hF := hF.lk hK
  clear hK
  refine gl_go (n := 100) ?_
  walk_nrm
  u_in rl hF
  refine goes_oper_k rfl rfl (by k_ne) (fun K hK => ?_)
  go_simp
  refine hK _ _ ⟨?_, ?_⟩
  · refine de1_none ?_
    intro e he
    have hm := mem_listed he
    simp [go_sem, *] at hm
  clear hK K
  try w_num
  u_in rl hF
  refine goes_oper_k rfl rfl (by k_ne) (fun K hK => ?_)
  go_simp
  refine hK _ _ ⟨?_, ?_⟩
  · refine de1_none ?_
    intro e he
    have hm := mem_listed he
    simp [go_sem, *] at hm
  clear hK K
  try w_num
  u_in rl hF
  refine goes_oper_k rfl rfl (by k_ne) (fun K hK => ?_)
  go_simp
  refine hK _ _ ⟨?_, ?_⟩
  · refine de1_none ?_
    intro e he
    have hm := mem_listed he
    simp [go_sem, *] at hm
  clear hK K
  try w_num
  u_in rl hF
  refine goes_oper_k rfl rfl (by k_ne) (fun K hK => ?_)
  go_simp
  refine hK _ _ ⟨?_, ?_⟩
  · refine de1_none ?_
    intro e he
    have hm := mem_listed he
    simp [go_sem, *] at hm
  clear hK K
  try w_num
  u_in rl hF
  refine goes_oper_k rfl rfl (by k_ne) (fun K hK => ?_)
  go_simp
  refine hK _ _ ⟨?_, ?_⟩
  · refine de1_none ?_
    intro e he
    have hm := mem_listed he
    simp [go_sem, *] at hm
  clear hK K
  try w_num
  u_in rl hF
  refine goes_oper_k rfl rfl (by k_ne) (fun K hK => ?_)
  go_simp
  refine hK _ _ ⟨?_, ?_⟩
  · refine de1_none ?_
    intro e he
    have hm := mem_listed he
    simp [go_sem, *] at hm
  clear hK K
  try w_num
  (u_in rl hF; rw [stepG_region_end]; simp only [goes_go]; refine ⟨by (refine de1_none ?_; intro e he; simp at he), ?_⟩)
  (u_in rl hF; rw [stepG_cond (t := false) (by first | rfl | (simp [Act.eval]; omega))]; simp only [goes_go, if_true, if_false, Bool.false_eq_true, ↓reduceIte]; refine ⟨by (refine de1_none ?_; intro e he; simp at he), ?_⟩)
  (u_in rl hF; rw [stepG_skip]; simp only [goes_go]; refine ⟨by (refine de1_none ?_; intro e he; simp at he), ?_⟩)
  -- region 31
  (u_in rl hF; rw [stepG_seq]; simp only [goes_go]; refine ⟨by (refine de1_none ?_; intro e he; simp at he), ?_⟩)
  (u_in rl hF; rw [stepG_region]; simp only [goes_go, List.size_toArray, List.length_cons, List.length_nil, Nat.reduceAdd, Nat.zero_add, List.range, List.range.loop]; refine ⟨by (refine de1_none ?_; intro e he; simp at he), ?_⟩)
  u_in rl hF
  refine goes_oper_k rfl rfl (by k_ne) (fun K hK => ?_)
  go_simp
  refine hK _ _ ⟨?_, ?_⟩
  · refine de1_none ?_
    intro e he
    have hm := mem_listed he
    simp [go_sem, *] at hm
  clear hK K
  try w_num
  (u_in rl hF; rw [stepG_region_end]; simp only [goes_go]; refine ⟨by (refine de1_none ?_; intro e he; simp at he), ?_⟩)
  -- region 32
  (u_in rl hF; rw [stepG_seq]; simp only [goes_go]; refine ⟨by (refine de1_none ?_; intro e he; simp at he), ?_⟩)
  (u_in rl hF; rw [stepG_region]; simp only [goes_go, List.size_toArray, List.length_cons, List.length_nil, Nat.reduceAdd, Nat.zero_add, List.range, List.range.loop]; refine ⟨by (refine de1_none ?_; intro e he; simp at he), ?_⟩)
  u_in rl hF
  refine goes_oper_k rfl rfl (by k_ne) (fun K hK => ?_)
  go_simp
  refine hK _ _ ⟨?_, ?_⟩
  · refine de1_none ?_
    intro e he
    have hm := mem_listed he
    simp [go_sem, *] at hm
  clear hK K
  try w_num
  u_in rl hF
  refine goes_oper_k rfl rfl (by k_ne) (fun K hK => ?_)
  go_simp
  refine hK _ _ ⟨?_, ?_⟩
  · refine de1_none ?_
    intro e he
    have hm := mem_listed he
    simp [go_sem, *] at hm
  clear hK K
  try w_num
  u_in rl hF
  refine goes_call rfl rfl (by k_ne) rfl Try.func22 nm_heldSS rfl ⟨by (refine de1_none ?_; intro e he; simp at he), ?_⟩
  rw [← enter_at _ Try.func22 rfl]
  refine Goes.stop fun w₁ h₁ => ?_
  replace hF := rl hF h₁
  clear h₁
  walk_nrm
  refine Go1.bind (fun _ a => RS.refl a) (heldSS_gl hF.lf (hF.mine (p := (Gg, .sso Ag (marksLL 1 xss))) (.tail _ (.tail _ (.tail _ (.head _))))).1 hxl hxe (by omega) (by omega)) ?_
  rintro t g w' ⟨rfl, hK⟩
  replace hF := hF.lk hK
  clear hK
  refine gl_go (n := 100) ?_
  walk_nrm
  u_in rl hF
  refine goes_oper_k rfl rfl (by k_ne) (fun K hK => ?_)
  go_simp
  refine hK _ _ ⟨?_, ?_⟩
  · refine de1_none ?_
    intro e he
    have hm := mem_listed he
    simp [go_sem, *] at hm
  clear hK K
  try w_num
  (u_in rl hF; rw [stepG_region_end]; simp only [goes_go]; refine ⟨by (refine de1_none ?_; intro e he; simp at he), ?_⟩)
  -- region 33
  (u_in rl hF; rw [stepG_seq]; simp only [goes_go]; refine ⟨by (refine de1_none ?_; intro e he; simp at he), ?_⟩)
  (u_in rl hF; rw [stepG_seq]; simp only [goes_go]; refine ⟨by (refine de1_none ?_; intro e he; simp at he), ?_⟩)
  (u_in rl hF; rw [stepG_region]; simp only [goes_go, List.size_toArray, List.length_cons, List.length_nil, Nat.reduceAdd, Nat.zero_add, List.range, List.range.loop]; refine ⟨by (refine de1_none ?_; intro e he; simp at he), ?_⟩)
  u_in rl hF
  refine goes_oper_k rfl rfl (by k_ne) (fun K hK => ?_)
  go_simp
  refine hK _ _ ⟨?_, ?_⟩
  · refine de1_none ?_
    intro e he
    have hm := mem_listed he
    simp [go_sem, *] at hm
  clear hK K
  try w_num
  u_in rl hF
  refine goes_oper_k rfl rfl (by k_ne) (fun K hK => ?_)
  go_simp
  refine hK _ _ ⟨?_, ?_⟩
  · refine de1_none ?_
    intro e he
    have hm := mem_listed he
    simp [go_sem, *] at hm
  clear hK K
  try w_num
  (u_in rl hF; rw [stepG_region_end]; simp only [goes_go]; refine ⟨by (refine de1_none ?_; intro e he; simp at he), ?_⟩)
  (u_in rl hF; rw [stepG_cond (t := false) (by first | rfl | (simp [Act.eval]; omega))]; simp only [goes_go, if_true, if_false, Bool.false_eq_true, ↓reduceIte]; refine ⟨by (refine de1_none ?_; intro e he; simp at he), ?_⟩)
  (u_in rl hF; rw [stepG_skip]; simp only [goes_go]; refine ⟨by (refine de1_none ?_; intro e he; simp at he), ?_⟩)
  -- region 35
  (u_in rl hF; rw [stepG_seq]; simp only [goes_go]; refine ⟨by (refine de1_none ?_; intro e he; simp at he), ?_⟩)
  (u_in rl hF; rw [stepG_seq]; simp only [goes_go]; refine ⟨by (refine de1_none ?_; intro e he; simp at he), ?_⟩)
  (u_in rl hF; rw [stepG_region]; simp only [goes_go, List.size_toArray, List.length_cons, List.length_nil, Nat.reduceAdd, Nat.zero_add, List.range, List.range.loop]; refine ⟨by (refine de1_none ?_; intro e he; simp at he), ?_⟩)
  u_in rl hF
  refine goes_oper_k rfl rfl (by k_ne) (fun K hK => ?_)
  go_simp
  refine hK _ _ ⟨?_, ?_⟩
  · refine de1_none ?_
    intro e he
    have hm := mem_listed he
    simp [go_sem, *] at hm
  clear hK K
  try w_num
  u_in rl hF
  refine goes_oper_k rfl rfl (by k_ne) (fun K hK => ?_)
  go_simp
  refine hK _ _ ⟨?_, ?_⟩
  · refine de1_none ?_
    intro e he
    have hm := mem_listed he
    simp [go_sem, *] at hm
  clear hK K
  try w_num
  u_in rl hF
  refine goes_oper_k rfl rfl (by k_ne) (fun K hK => ?_)
  go_simp
  refine hK _ _ ⟨?_, ?_⟩
  · refine de1_none ?_
    intro e he
    have hm := mem_listed he
    simp [go_sem, *] at hm
  clear hK K
  try w_num
  (u_in rl hF; rw [stepG_region_end]; simp only [goes_go]; refine ⟨by (refine de1_none ?_; intro e he; simp at he), ?_⟩)
  (u_in rl hF; rw [stepG_cond (t := false) (by first | rfl | (simp [Act.eval]; omega))]; simp only [goes_go, if_true, if_false, Bool.false_eq_true, ↓reduceIte]; refine ⟨by (refine de1_none ?_; intro e he; simp at he), ?_⟩)
  (u_in rl hF; rw [stepG_skip]; simp only [goes_go]; refine ⟨by (refine de1_none ?_; intro e he; simp at he), ?_⟩)
  -- region 37
  (u_in rl hF; rw [stepG_seq]; simp only [goes_go]; refine ⟨by (refine de1_none ?_; intro e he; simp at he), ?_⟩)
  (u_in rl hF; rw [stepG_region]; simp only [goes_go, List.size_toArray, List.length_cons, List.length_nil, Nat.reduceAdd, Nat.zero_add, List.range, List.range.loop]; refine ⟨by (refine de1_none ?_; intro e he; simp at he), ?_⟩)
  u_in rl hF
  refine goes_oper_k rfl rfl (by k_ne) (fun K hK => ?_)
  go_simp
  refine hK _ _ ⟨?_, ?_⟩
  · refine de1_none ?_
    intro e he
    have hm := mem_listed he
    simp [go_sem, *] at hm
  clear hK K
  try w_num
  (u_in rl hF; rw [stepG_region_end]; simp only [goes_go]; refine ⟨by (refine de1_none ?_; intro e he; simp at he), ?_⟩)
  (u_in rl hF; rw [stepG_ret']; simp only [goes_go]; refine ⟨by (refine de1_none ?_; intro e he; simp at he), ?_⟩)
  refine Goes.stop fun w₁ h₁ => Go1.stop fun w₂ h₂ => ⟨rfl, fun w₃ h₃ => ⟨_, stepG_done rfl rfl Try.func5 rfl (by kernel_rfl), rfl, (rl (rl (rl hF h₁) h₂) h₃).below⟩⟩
end
end Go.Proofs.Ytmmolicodlmlkaa.Ph
namespace Go.Proofs.Ytmmolicodlmlkaa.Ph
open Go.Conc Go.ConcN Go.RowKit Go.Conc.Lib Go.ConcR.Gen Go.ConcN.Gen
open Go.ConcR (KK wgBlock WgAt stA smA rd wr mk DC0 Payload)
open Go.Proofs.Ytmmolicodlmlkaa.Rel
set_option linter.unusedVariables false
set_option linter.unusedSimpArgs false

section
variable {W₀ : World} {S : Nat → Prop} {w : World} {A A2 : Option Addr} {c c2 : Nat} {x sl : List Int} {kw : Int}
set_option maxRecDepth 100000 in
set_option maxHeartbeats 8000000 in
theorem law_gate1 {F : Nat → Prop} (hF : LH W₀ [.arg A x, .arg A2 sl] F [] S w) (hxn : 1048576 < x.length) :
    GL Try.prog (LawEnd W₀) S (G (Frame.enter Try.prog 5 #[.slice A x.length c, .slice A2 sl.length c2, .int .i64 kw] .normal) []) w := by
  have rl : ∀ {l : List Fc} {F : Nat → Prop} {own : List ((Nat → Prop) × Fc)} {S : Nat → Prop} {a b : World}, LH W₀ l F own S a → RS No S a b → LH W₀ l F own S b := fun h r => h.rely r
  rw [enter_at _ Try.func5 rfl]
  refine gl_go (n := 100) ?_
  walk_nrmf Try.f5
  (u_in rl hF; rw [stepG_seq]; simp only [goes_go]; refine ⟨by (refine de1_none ?_; intro e he; simp at he), ?_⟩)
  (u_in rl hF; rw [stepG_region]; simp only [goes_go, List.size_toArray, List.length_cons, List.length_nil, Nat.reduceAdd, Nat.zero_add, List.range, List.range.loop]; refine ⟨by (refine de1_none ?_; intro e he; simp at he), ?_⟩)
  u_in rl hF
  refine goes_oper_k rfl rfl (by k_ne) (fun K hK => ?_)
  go_simp
  refine hK _ _ ⟨?_, ?_⟩
  · refine de1_none ?_
    intro e he
    have hm := mem_listed he
    simp [go_sem, *] at hm
  clear hK K
  try w_num
  (u_in rl hF; rw [stepG_region_end]; simp only [goes_go]; refine ⟨by (refine de1_none ?_; intro e he; simp at he), ?_⟩)
  (u_in rl hF; rw [stepG_seq]; simp only [goes_go]; refine ⟨by (refine de1_none ?_; intro e he; simp at he), ?_⟩)
  (u_in rl hF; rw [stepG_seq]; simp only [goes_go]; refine ⟨by (refine de1_none ?_; intro e he; simp at he), ?_⟩)
  (u_in rl hF; rw [stepG_region]; simp only [goes_go, List.size_toArray, List.length_cons, List.length_nil, Nat.reduceAdd, Nat.zero_add, List.range, List.range.loop]; refine ⟨by (refine de1_none ?_; intro e he; simp at he), ?_⟩)
  u_in rl hF
  refine goes_oper_k rfl rfl (by k_ne) (fun K hK => ?_)
  go_simp
  refine hK _ _ ⟨?_, ?_⟩
  · refine de1_none ?_
    intro e he
    have hm := mem_listed he
    simp [go_sem, *] at hm
  clear hK K
  try w_num
  u_in rl hF
  refine goes_oper_k rfl rfl (by k_ne) (fun K hK => ?_)
  go_simp
  refine hK _ _ ⟨?_, ?_⟩
  · refine de1_none ?_
    intro e he
    have hm := mem_listed he
    simp [go_sem, *] at hm
  clear hK K
  try w_num
  u_in rl hF
  refine goes_oper_k rfl rfl (by k_ne) (fun K hK => ?_)
  go_simp
  refine hK _ _ ⟨?_, ?_⟩
  · refine de1_none ?_
    intro e he
    have hm := mem_listed he
    simp [go_sem, *] at hm
  clear hK K
  try w_num
  (u_in rl hF; rw [stepG_region_end]; simp only [goes_go]; refine ⟨by (refine de1_none ?_; intro e he; simp at he), ?_⟩)
  (u_in rl hF; rw [stepG_cond (t := true) (by first | rfl | (simp [Act.eval]; omega))]; simp only [goes_go, if_true, if_false, Bool.false_eq_true, ↓reduceIte]; refine ⟨by (refine de1_none ?_; intro e he; simp at he), ?_⟩)
  (u_in rl hF; rw [stepG_seq]; simp only [goes_go]; refine ⟨by (refine de1_none ?_; intro e he; simp at he), ?_⟩)
  (u_in rl hF; rw [stepG_region]; simp only [goes_go, List.size_toArray, List.length_cons, List.length_nil, Nat.reduceAdd, Nat.zero_add, List.range, List.range.loop]; refine ⟨by (refine de1_none ?_; intro e he; simp at he), ?_⟩)
  u_in rl hF
  refine goes_oper_k rfl rfl (by k_ne) (fun K hK => ?_)
  go_simp
  refine hK _ _ ⟨?_, ?_⟩
  · refine de1_none ?_
    intro e he
    have hm := mem_listed he
    simp [go_sem, *] at hm
  clear hK K
  try w_num
  (u_in rl hF; rw [stepG_region_end]; simp only [goes_go]; refine ⟨by (refine de1_none ?_; intro e he; simp at he), ?_⟩)
  (u_in rl hF; rw [stepG_ret']; simp only [goes_go]; refine ⟨by (refine de1_none ?_; intro e he; simp at he), ?_⟩)
  refine Goes.stop fun w₁ h₁ => Go1.stop fun w₂ h₂ => ⟨rfl, fun w₃ h₃ => ⟨_, stepG_done rfl rfl Try.func5 rfl (by kernel_rfl), rfl, (rl (rl (rl hF h₁) h₂) h₃).below⟩⟩
set_option maxRecDepth 100000 in
set_option maxHeartbeats 8000000 in
theorem law_gate2 {F : Nat → Prop} (hF : LH W₀ [.arg A x, .arg A2 sl] F [] S w) (hxn : x.length ≤ 1048576) (hsn : 1048576 < sl.length) :
    GL Try.prog (LawEnd W₀) S (G (Frame.enter Try.prog 5 #[.slice A x.length c, .slice A2 sl.length c2, .int .i64 kw] .normal) []) w := by
  have rl : ∀ {l : List Fc} {F : Nat → Prop} {own : List ((Nat → Prop) × Fc)} {S : Nat → Prop} {a b : World}, LH W₀ l F own S a → RS No S a b → LH W₀ l F own S b := fun h r => h.rely r
  rw [enter_at _ Try.func5 rfl]
  refine gl_go (n := 100) ?_
  walk_nrmf Try.f5
  (u_in rl hF; rw [stepG_seq]; simp only [goes_go]; refine ⟨by (refine de1_none ?_; intro e he; simp at he), ?_⟩)
  (u_in rl hF; rw [stepG_region]; simp only [goes_go, List.size_toArray, List.length_cons, List.length_nil, Nat.reduceAdd, Nat.zero_add, List.range, List.range.loop]; refine ⟨by (refine de1_none ?_; intro e he; simp at he), ?_⟩)
  u_in rl hF
  refine goes_oper_k rfl rfl (by k_ne) (fun K hK => ?_)
  go_simp
  refine hK _ _ ⟨?_, ?_⟩
  · refine de1_none ?_
    intro e he
    have hm := mem_listed he
    simp [go_sem, *] at hm
  clear hK K
  try w_num
  (u_in rl hF; rw [stepG_region_end]; simp only [goes_go]; refine ⟨by (refine de1_none ?_; intro e he; simp at he), ?_⟩)
  (u_in rl hF; rw [stepG_seq]; simp only [goes_go]; refine ⟨by (refine de1_none ?_; intro e he; simp at he), ?_⟩)
  (u_in rl hF; rw [stepG_seq]; simp only [goes_go]; refine ⟨by (refine de1_none ?_; intro e he; simp at he), ?_⟩)
  (u_in rl hF; rw [stepG_region]; simp only [goes_go, List.size_toArray, List.length_cons, List.length_nil, Nat.reduceAdd, Nat.zero_add, List.range, List.range.loop]; refine ⟨by (refine de1_none ?_; intro e he; simp at he), ?_⟩)
  u_in rl hF
  refine goes_oper_k rfl rfl (by k_ne) (fun K hK => ?_)
  go_simp
  refine hK _ _ ⟨?_, ?_⟩
  · refine de1_none ?_
    intro e he
    have hm := mem_listed he
    simp [go_sem, *] at hm
  clear hK K
  try w_num
  u_in rl hF
  refine goes_oper_k rfl rfl (by k_ne) (fun K hK => ?_)
  go_simp
  refine hK _ _ ⟨?_, ?_⟩
  · refine de1_none ?_
    intro e he
    have hm := mem_listed he
    simp [go_sem, *] at hm
  clear hK K
  try w_num
  u_in rl hF
  refine goes_oper_k rfl rfl (by k_ne) (fun K hK => ?_)
  go_simp
  refine hK _ _ ⟨?_, ?_⟩
  · refine de1_none ?_
    intro e he
    have hm := mem_listed he
    simp [go_sem, *] at hm
  clear hK K
  try w_num
  (u_in rl hF; rw [stepG_region_end]; simp only [goes_go]; refine ⟨by (refine de1_none ?_; intro e he; simp at he), ?_⟩)
  (u_in rl hF; rw [stepG_cond (t := false) (by first | rfl | (simp [Act.eval]; omega))]; simp only [goes_go, if_true, if_false, Bool.false_eq_true, ↓reduceIte]; refine ⟨by (refine de1_none ?_; intro e he; simp at he), ?_⟩)
  (u_in rl hF; rw [stepG_skip]; simp only [goes_go]; refine ⟨by (refine de1_none ?_; intro e he; simp at he), ?_⟩)
  (u_in rl hF; rw [stepG_seq]; simp only [goes_go]; refine ⟨by (refine de1_none ?_; intro e he; simp at he), ?_⟩)
  (u_in rl hF; rw [stepG_seq]; simp only [goes_go]; refine ⟨by (refine de1_none ?_; intro e he; simp at he), ?_⟩)
  (u_in rl hF; rw [stepG_region]; simp only [goes_go, List.size_toArray, List.length_cons, List.length_nil, Nat.reduceAdd, Nat.zero_add, List.range, List.range.loop]; refine ⟨by (refine de1_none ?_; intro e he; simp at he), ?_⟩)
  u_in rl hF
  refine goes_oper_k rfl rfl (by k_ne) (fun K hK => ?_)
  go_simp
  refine hK _ _ ⟨?_, ?_⟩
  · refine de1_none ?_
    intro e he
    have hm := mem_listed he
    simp [go_sem, *] at hm
  clear hK K
  try w_num
  u_in rl hF
  refine goes_oper_k rfl rfl (by k_ne) (fun K hK => ?_)
  go_simp
  refine hK _ _ ⟨?_, ?_⟩
  · refine de1_none ?_
    intro e he
    have hm := mem_listed he
    simp [go_sem, *] at hm
  clear hK K
  try w_num
  u_in rl hF
  refine goes_oper_k rfl rfl (by k_ne) (fun K hK => ?_)
  go_simp
  refine hK _ _ ⟨?_, ?_⟩
  · refine de1_none ?_
    intro e he
    have hm := mem_listed he
    simp [go_sem, *] at hm
  clear hK K
  try w_num
  (u_in rl hF; rw [stepG_region_end]; simp only [goes_go]; refine ⟨by (refine de1_none ?_; intro e he; simp at he), ?_⟩)
  (u_in rl hF; rw [stepG_cond (t := true) (by first | rfl | (simp [Act.eval]; omega))]; simp only [goes_go, if_true, if_false, Bool.false_eq_true, ↓reduceIte]; refine ⟨by (refine de1_none ?_; intro e he; simp at he), ?_⟩)
  (u_in rl hF; rw [stepG_seq]; simp only [goes_go]; refine ⟨by (refine de1_none ?_; intro e he; simp at he), ?_⟩)
  (u_in rl hF; rw [stepG_region]; simp only [goes_go, List.size_toArray, List.length_cons, List.length_nil, Nat.reduceAdd, Nat.zero_add, List.range, List.range.loop]; refine ⟨by (refine de1_none ?_; intro e he; simp at he), ?_⟩)
  u_in rl hF
  refine goes_oper_k rfl rfl (by k_ne) (fun K hK => ?_)
  go_simp
  refine hK _ _ ⟨?_, ?_⟩
  · refine de1_none ?_
    intro e he
    have hm := mem_listed he
    simp [go_sem, *] at hm
  clear hK K
  try w_num
  (u_in rl hF; rw [stepG_region_end]; simp only [goes_go]; refine ⟨by (refine de1_none ?_; intro e he; simp at he), ?_⟩)
  (u_in rl hF; rw [stepG_ret']; simp only [goes_go]; refine ⟨by (refine de1_none ?_; intro e he; simp at he), ?_⟩)
  refine Goes.stop fun w₁ h₁ => Go1.stop fun w₂ h₂ => ⟨rfl, fun w₃ h₃ => ⟨_, stepG_done rfl rfl Try.func5 rfl (by kernel_rfl), rfl, (rl (rl (rl hF h₁) h₂) h₃).below⟩⟩
end
theorem res_rows {g : Bool} {x sl : List Int} : ∀ e ∈ resOf g x sl, e.length = x.length := by
  intro e he
  cases g with
  | false => simp [resOf] at he
  | true =>
    simp only [resOf, if_true, rowsOf, List.mem_map] at he
    obtain ⟨s, _, rfl⟩ := he
    exact rowH_length _ _ _
theorem sum_const {n : Nat} : ∀ (xss : List (List Int)), (∀ e ∈ xss, e.length = n) → sumLL xss = xss.length * n
  | [], _ => by simp [sumLL]
  | x :: xss, h => by
    rw [sumLL, sum_const xss fun e he => h e (List.mem_cons_of_mem _ he), h x List.mem_cons_self, List.length_cons, Nat.succ_mul, Nat.add_comm]
theorem sum_res {x sl : List Int} {kw : Int} : sumLL (resOf (gateRS x sl kw) x sl) ≤ 100000000 := by
  cases hg : gateRS x sl kw with
  | false => simp [resOf, sumLL]
  | true =>
    simp only [gateRS, Bool.and_eq_true, decide_eq_true_eq] at hg
    obtain ⟨⟨⟨h1, h2⟩, _⟩, _⟩ := hg
    obtain ⟨h3, _⟩ := keysQ_iff h1
    rw [sum_const _ res_rows, res_length true x sl rfl]
    have := Nat.mul_le_mul h2 h3
    omega
/-- The run's pieces, put together. -/
theorem ends_at {W₀ : World} {Shun : Loc → Prop} {S : Nat → Prop} {g : Goroutine} {w : World} {m m0 : Machine} {t t0 : Trace} {K : Nat} (hr : runNT Try.prog K m0 t0 = (.next m, t)) (h : At Try.prog Shun g w m t) (hS : ∀ y, S y → FreeB Shun w y) (hG : GL Try.prog (LawEnd W₀) S g w) :
    ∃ M last o w' t', runNT Try.prog (M + 1) m0 t0 = (.ended o w', t') ∧ runN Try.prog M m0 = .next last ∧ step Try.prog last = .ended o w' ∧ Go.Conc.Good Try.prog (fun v W' => v = .bool true ∧ Below W₀.heap.size W₀ W') last o w' t' := by
  obtain ⟨⟨gs, sl, q, rfl, h0, hL⟩, hs⟩ := h
  have hfr := FreeB.free (w := w) hs
  obtain ⟨N, last, o, w', t', e1, e2, e3, e4⟩ := ends (Post := fun v W' => v = .bool true ∧ Below W₀.heap.size W₀ W') (sl := sl) h0 hL (S := S) ⟨fun l hl => hfr.free l (by
    cases l with
    | cell a => exact hS _ hl
    | obj r => exact hS _ hl
    | output => exact hl
    | goroutines => exact hl
    | mark m => exact hl), fun b hb => (hS b hb).1, hfr.shun⟩ hG
  refine ⟨K + N, last, o, w', t', ?_, ?_, e3, e4⟩
  · rw [Nat.add_assoc, runNT_add, hr]; exact e1
  · rw [runN_add, ← runNT_fst Try.prog _ _ t0, hr]; exact e2
/-- ████ FnExactRowsShared: ONE GOOD RUN. ████ -/
theorem law_runs {W : World} {A A2 : Option Addr} {c c2 : Nat} {x sl : List Int} {kw : Int} (hG : Try.prog.globals.size ≤ W.heap.size) (hx : RdL (Value.int .i64) W A x) (hs : RdL (Value.int .i64) W A2 sl) (hA : ArgP (fun y => y < W.heap.size) W A) (hA2 : ArgP (fun y => y < W.heap.size) W A2) :
    ∃ M last o w' t', runNT Try.prog (M + 1) (solo (G (Frame.enter Try.prog 5 #[.slice A x.length c, .slice A2 sl.length c2, .int .i64 kw] .normal) []) W) #[] = (.ended o w', t') ∧
      runN Try.prog M (solo (G (Frame.enter Try.prog 5 #[.slice A x.length c, .slice A2 sl.length c2, .int .i64 kw] .normal) []) W) = .next last ∧ step Try.prog last = .ended o w' ∧ Go.Conc.Good Try.prog (fun v W' => v = .bool true ∧ Below W.heap.size W W') last o w' t' := by
  have hAt0 := at_start (P := Try.prog) (g := G (Frame.enter Try.prog 5 #[.slice A x.length c, .slice A2 sl.length c2, .int .i64 kw] .normal) []) (w := W)
  have hH0 : LH W [.arg A x, .arg A2 sl] (fun y => y < W.heap.size) [] (FreeB (fun _ => False) W) W :=
    ⟨⟨rfl, rfl, rfl⟩, fun y hy => ⟨hy, rfl⟩, fun y hy => hy.1, hG, fun f hf => by
      simp at hf
      rcases hf with rfl | rfl
      · exact ⟨hx, hA⟩
      · exact ⟨hs, hA2⟩, fun y hy => ⟨hy, fun l _ h => h⟩, by simp, List.Pairwise.nil⟩
  by_cases hxn : x.length ≤ 1048576
  rotate_left
  · exact ends_at (K := 0) rfl hAt0 (fun y hy => hy) (law_gate1 hH0 (by omega))
  by_cases hsn : sl.length ≤ 1048576
  rotate_left
  · exact ends_at (K := 0) rfl hAt0 (fun y hy => hy) (law_gate2 hH0 hxn (by omega))
  have hxl : (resOf (gateRS x sl kw) x sl).length ≤ 1048576 := by
    cases gateRS x sl kw with
    | false => simp [resOf]
    | true => rw [res_length true x sl rfl]; exact hsn
  have hxe : ∀ e ∈ resOf (gateRS x sl kw) x sl, e.length ≤ 1048576 := fun e he => by rw [res_rows e he]; exact hxn
  have hsum := sum_res (x := x) (sl := sl) (kw := kw)
  obtain ⟨K1, m1, t1, g1, w1, S1, r1, hAt1, ⟨T, Aw, cw, x0, x1, F', rfl, k1, k2, k3, k4, k5, k6, k7, k8, hH1⟩, hf1, _⟩ :=
    hAt0.walk (fun S g w d ⟨T, Aw, cw, x0, x1, F', h1, h2, h3, h4, h5, h6, h7, h8, h9, h10⟩ => ⟨T, Aw, cw, x0, x1, F', h1, h2, h3, h4, h5, h6, h7, h8, h9, h10.at⟩) (law_a (c := c) (c2 := c2) (kw := kw) hH0 hxn hsn)
  have o0 := hH1.mine (p := ((fun y => y = x0), .own (some ⟨x0, 0, none⟩) x)) (.tail _ (.head _))
  have o1 := hH1.mine (p := ((fun y => y = x1), .own (some ⟨x1, 0, none⟩) sl)) (.head _)
  obtain ⟨K2, m2, t2, w2, Shun2, Ag, cg, Gg, r2, hAt2, hH2⟩ := rows_at hAt1 hH1 hf1 o0.1.rd o1.1.rd hxn hsn o0.2.p o1.2.p
  obtain ⟨K3, m3, t3, g3, w3, S3, r3, hAt3, ⟨T', y0, y1, rfl, j1, j2, j3, j4, j5, hH3⟩, hf3, _⟩ :=
    hAt2.walk (fun S g w d ⟨T, y0, y1, h1, h2, h3, h4, h5, h6, h7⟩ => ⟨T, y0, y1, h1, h2, h3, h4, h5, h6, h7.at⟩) (law_b (kw := kw) hH2 hxn hsn hxl hxe hsum k1 k2 k3 k4 k5 k6 k7 k8)
  have p0 := hH3.mine (p := ((fun y => y = y0), .own (some ⟨y0, 0, none⟩) x)) (.tail _ (.head _))
  have p1 := hH3.mine (p := ((fun y => y = y1), .own (some ⟨y1, 0, none⟩) sl)) (.head _)
  obtain ⟨K4, m4, t4, w4, Shun4, Ah, ch, Gh, r4, hAt4, hH4⟩ := rows_at hAt3 hH3 hf3 p0.1.rd p1.1.rd hxn hsn p0.2.p p1.2.p
  exact ends_at (run_trans r1 (run_trans r2 (run_trans r3 r4))) hAt4 (fun y hy => hy) (law_c hH4 hxl hxe hsum j1 j2 j3 j4 j5)
end Go.Proofs.Ytmmolicodlmlkaa.Ph
namespace Go.Proofs.Ytmmolicodlmlkaa.Ph
open Go.Conc Go.ConcN Go.RowKit Go.Conc.Lib Go.ConcR.Gen Go.ConcN.Gen
open Go.ConcR (KK wgBlock WgAt stA smA rd wr mk DC0 Payload)
open Go.Proofs.Ytmmolicodlmlkaa.Rel
set_option linter.unusedVariables false
set_option linter.unusedSimpArgs false

/-! ### any law: from a lone end to its own -/
theorem stepG_done' {P : Program} {fc : Frame} {w : World} {fn : Func} {t : Tmp} (hm : fc.mode = .returning) (hn : fc.kind = .normal) (hd : fc.defers = []) (hf : P.funcs[fc.fn]? = some fn) (hr : fn.results = #[.tmp t]) (hi : P.inits.idxOf? fc.fn = none) :
    stepG P true (G fc []) w = .ended (.done (fc.tmps.getD t undef)) w #[] := by
  have h1 := results_tmp hr fc.tmps P w
  have h2 := events_results_tmp (P := P) (w := w) hr fc.tmps #[]
  simp [G, stepG, unwind, doReturn, hm, hn, hd, hf, h1, h2, hi, seen, GStep.after]
theorem law_ret {W₀ : World} {l : List Fc} {F0 S : Nat → Prop} {own : List ((Nat → Prop) × Fc)} {v : World} {fs : FuncId → Bool} {f : FuncId} {fn : Func} {t0 : Tmp} {g : Goroutine} (hH : LH W₀ l F0 own S v) (hf : Try.prog.funcs[f]? = some fn) (hr : fn.results = #[.tmp t0]) (hi : Try.prog.inits.idxOf? f = none)
    (h : GL Try.prog (fun t g w => ∃ s, t = (fun b => (S b ∧ ¬ No b) ∨ s b) ∧ RetC Try.prog (fnsQ fs v S No) v (fun b => S b ∧ ¬ No b) No f [] (fun u w' => u = .bool true) s g w) S g v) : GL Try.prog (LawEnd W₀) S g v := by
  refine Go1.widen h ?_
  rintro t g w ⟨s, rfl, hC⟩
  obtain ⟨ρ, fc, u, wl, rfl, hfn, hm, hd, hk, ⟨fn', hfn', hres⟩, rfl, hok, hid, hnew, hwr, hlow, hmine⟩ := hC.out
  have hL : Rel.Left Try.prog (fnsQ fs v S No) v (fun b => S b ∧ ¬ No b) No ρ wl s w := ⟨hid, hnew, hwr, hlow, hmine, hC.tape, hC.os, hC.output, hC.size, hC.rd⟩
  have hK := lk_left hH.low hL
  have hH1 := hH.lk hK
  rw [hf] at hfn'
  obtain rfl := Option.some.inj hfn'
  refine ⟨rfl, fun w₁ h₁ => ⟨_, stepG_done' hm hk hd (by rw [hfn]; exact hf) hr (by rw [hfn]; exact hi), ?_, (hH1.rely h₁).below⟩⟩
  obtain ⟨es, hrun, _⟩ := hres w₁ (fun b hb => h₁.own b (hb.elim .inr .inl))
  have h1 := results_tmp hr fc.tmps Try.prog w₁
  have h2 : ((results fn fc.tmps).runT Try.prog w₁ #[]).1 = .ok (fc.tmps.getD t0 undef) w₁ := by rw [Sem.runT_eq]; exact h1
  rw [hrun] at h2
  have h3 : Result.ok (ren ρ (.bool true)) w₁ = Result.ok (fc.tmps.getD t0 undef) w₁ := h2
  rw [← (Result.ok.inj h3).1]; simp
noncomputable def rbody : Code := match Try.f7.body with | some c => c | _ => .skip
theorem rbody_is : Try.f7.body = some rbody := rfl
abbrev uns : Nat → Value := fun _ => undef
abbrev actR (A : Option Addr) (n c : Nat) (A2 : Option Addr) (n2 c2 : Nat) (kw kh : Int) : Act := ⟨arrR uns (.slice A n c) (.slice A2 n2 c2) (.int .i64 kw) (.int .i64 kh) undef undef undef undef, []⟩
set_option maxRecDepth 100000 in
theorem rl_enter (A : Option Addr) (n c : Nat) (A2 : Option Addr) (n2 c2 : Nat) (kw kh : Int) : Frame.enter Try.prog 7 #[.slice A n c, .slice A2 n2 c2, .int .i64 kw, .int .i64 kh] .normal = (base 7).at (actR A n c A2 n2 c2 kw kh) [.code rbody] := by
  rw [enter_at _ Try.func7 rbody_is]
  kernel_rfl
set_option maxRecDepth 100000 in
theorem rl_spine : spineOk Try.prog ⟨fun _ => false, fun _ => false, fun _ => false, fun _ => false⟩ 2 rbody = true := by kernel_rfl
theorem rl_results : Try.f7.results.all resOk = true := by kernel_rfl
set_option maxRecDepth 100000 in
set_option maxHeartbeats 1600000 in
theorem rl_gate (A : Option Addr) (n c : Nat) (A2 : Option Addr) (n2 c2 : Nat) (kw kh : Int) (w : World) (h : n > 10000 ∨ n2 > 10000) :
    Rets Try.prog 7 2 rbody (fun u w' => u = .bool true) (actR A n c A2 n2 c2 kw kh) w := by
  simp only [Rets, rbody, Try.f7, cut]
  by_cases h1 : (n : Int) > 10000
  · go_wp2
    kernel_rfl
  · have h2 : (n2 : Int) > 10000 := by omega
    go_wp2
    kernel_rfl
set_option maxRecDepth 100000 in
set_option maxHeartbeats 1600000 in
theorem rl_reach (A : Option Addr) (n c : Nat) (A2 : Option Addr) (n2 c2 : Nat) (kw kh : Int) (w : World) (h1 : n ≤ 10000) (h2 : n2 ≤ 10000) :
    Rel.Reach Try.prog 2 rbody (fun a' w' => a'.defers = [] ∧ a'.tmps = arrR (fun i => a'.tmps.getD i undef) (.slice A n c) (.slice A2 n2 c2) (.int .i64 kw) (.int .i64 kh) (a'.tmps.getD 9 undef) (a'.tmps.getD 10 undef) (a'.tmps.getD 11 undef) (a'.tmps.getD 12 undef)) (actR A n c A2 n2 c2 kw kh) w := by
  have h3 : ¬ (n : Int) > 10000 := by omega
  have h4 : ¬ (n2 : Int) > 10000 := by omega
  simp only [rbody, Try.f7]
  refine reach_seq ?_
  go_wp2
  refine reach_seq ?_
  go_wp2
  refine reach_here ?_
  exact ⟨rfl, by kernel_rfl⟩
end Go.Proofs.Ytmmolicodlmlkaa.Ph
