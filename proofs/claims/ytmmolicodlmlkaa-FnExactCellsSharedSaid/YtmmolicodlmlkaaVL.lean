/-
  Parts of the proof: Pieces of a walk in company, from any frame: what its slots hold may be hidden. Any law beside leavers: its end; the pieces of a run, put together. Pieces of a walk in company, from the middle of a region. The reference's CellsShared, by contract. New cells of the program with their block known whole; clones of numbers whose block holds numbers alone. impl.CellsShared up to its call of sharedWork, alone; where it returns ahead of it. impl.CellsShared where nothing is worked on, alone. The work of CellsShared for one list, alone, up to its last store. The work of CellsShared for one list, alone No condition.
-/
import Derived.Test.YtmmolicodlmlkaaVJ
import Derived.Test.YtmmolicodlmlkaaVK
import Derived.Test.YtmmolicodlmlkaaVI
import Derived.Test.YtmmolicodlmlkaaVH
import Derived.Test.YtmmolicodlmlkaaVC
set_option linter.unusedVariables false
set_option linter.unusedSimpArgs false
namespace Go.Proofs.Ytmmolicodlmlkaa.Ph
open Go.Conc Go.RowKit
open Go.Proofs.Ytmmolicodlmlkaa.Rel
set_option linter.unusedVariables false

/-- The lone walk's slots. -/
def absA (Fs : Fns) (B : Nat) (a : Act) : Act := ⟨a.tmps.map (absV Fs B), []⟩
section
variable {P : Program} {fs : FuncId → Bool} {v : World} {Rd S : Nat → Prop} {cs : List Frame} {main : Bool}
/-- ████ UP TO A CUT, IN COMPANY. ████ -/
theorem cut_companyJ {f : FuncId} {c : Code} {n : Nat} {a : Act} {Pre : Act → World → Prop} (hz : ZeroOk P) (hG : P.globals.size ≤ v.heap.size) (hO : ∀ ρ, FnsOk ⟨P, ρ, fnsOf fs v (fun b => S b ∨ Rd b) S⟩) (hS : ∀ b, S b → b < v.heap.size) (hR : ∀ b, Rd b → b < v.heap.size ∧ ¬ S b)
    (hsp : spineOk P (fnsOf fs v (fun b => S b ∨ Rd b) S) n c = true) (hd : a.defers = [])
    (hl : ∀ τ, Rel.Reach P n c Pre (absA (fnsOf fs v (fun b => S b ∨ Rd b) S) v.heap.size a) { loneW (fnsOf fs v (fun b => S b ∨ Rd b) S) v with tape := τ, drawn := 0 }) :
    Go1 P main (RS Rd) (DS Rd) (fun S' g w => ∃ ρ a' wl, g = G ((base f).at ⟨a'.tmps.map (ren ρ), []⟩ [.code (cut n c).2]) cs ∧ Pre a' wl ∧ (∀ x ∈ a'.tmps, okJ (fnsOf fs v (fun b => S b ∨ Rd b) S) wl.heap.size x = true) ∧ Rel.Left P (fnsOf fs v (fun b => S b ∨ Rd b) S) v Rd S ρ wl S' w) S (G ((base f).at a [.code c]) cs) v := by
  classical
  have hal : ∀ b, b < v.heap.size → (fnsOf fs v (fun b => S b ∨ Rd b) S).al b = true → S b ∨ Rd b := by
    intro b hb h
    simp only [fnsOf, hb, if_true, Bool.and_eq_true, decide_eq_true_eq] at h
    exact h.1
  generalize hFs : fnsOf fs v (fun b => S b ∨ Rd b) S = Fs at *
  let StopL : Frame → List Frame → World → Prop := fun fl cl w => ∃ a', fl = (base f).at a' [.code (.refuse "")] ∧ cl = [badF] ∧ Pre a' w
  have U := setup_lone (P := P) (fs := fs) (v := v) (Rd := Rd) (S := S) (cs := cs) (kl := [.code (.refuse "")]) (kc := [.code (cut n c).2]) (fl0 := (base f).at (absA (fnsOf fs v (fun b => S b ∨ Rd b) S) v.heap.size a) [.code (cut n c).1]) (fc0 := (base f).at a [.code c]) (StopL := StopL) hz hG (by rw [hFs]; exact hO) hS hR (.inr rfl)
    (by
      rw [hFs]
      intro ρ hρ
      refine ⟨rfl, ⟨?_, fun x hx => by obtain ⟨y, _, rfl⟩ := Array.mem_map.1 hx; exact absV_ok _ _ y⟩, ⟨[], _, _, rfl, rfl, by simp, tl_cut n c hsp⟩, rfl, hd, .inl ⟨rfl, rfl⟩, rfl, rfl, rfl, rfl⟩
      apply Array.ext (by simp [Frame.at, absA])
      intro i h1 h2
      simp only [Frame.at, absA, Array.getElem_map]
      exact (absV_ren hρ _).symm)
    (by
      rw [hFs]
      intro τ
      obtain ⟨a', w', hp, M, hM⟩ := hl τ (base f) [badF]
      exact ⟨M, _, _, w', hM, a', rfl, rfl, hp⟩)
    (fun fl cl w ⟨a', h1, h2, _⟩ => ⟨fun ch e => (by rw [h1] at e; cases e), (by rw [h2]; simp)⟩)
  rw [hFs] at U
  refine Go1.bind (fun s a => RS.refl a) (transfer (main := main) U) fun s g w ⟨ρ, fl, cl, wl, hA, a', hfl, hcl, hp⟩ => Go1.stop fun w₁ h₁ => ?_
  subst hcl; subst hfl
  obtain ⟨fc, cc, rfl, hst⟩ := hA.st
  have hfr : FR ⟨P, ρ, Fs⟩ wl.heap.size [.code (.refuse "")] [.code (cut n c).2] ((base f).at a' [.code (.refuse "")]) fc ∧ cc = cs := by
    rcases hst.fr with ⟨h, _, h2⟩ | ⟨_, _, _, h⟩
    · exact ⟨h, h2⟩
    · exfalso
      cases h with
      | cons _ _ _ h => cases h
  obtain ⟨hfr, rfl⟩ := hfr
  have htodo : fc.todo = [.code (cut n c).2] := by
    obtain ⟨its, tl, tc, t1, t2, _, hT⟩ := hfr.todo
    have t1 : [Item.code (.refuse "")] = its ++ tl := t1
    cases hT with
    | here =>
      cases its with
      | nil => exact t2
      | cons x its => cases its <;> simp at t1
    | seq _ _ =>
      cases its with
      | nil => simp at t1
      | cons x its => cases its <;> simp at t1
  have hm : fc.mode = .run := by
    rcases hfr.mode with ⟨_, h⟩ | ⟨h, _⟩
    · exact h
    · cases h
  refine ⟨ρ, a', wl, ?_, hp, hfr.tmps.2, hA.left hal h₁⟩
  have e : fc = (base f).at ⟨a'.tmps.map (ren ρ), []⟩ [.code (cut n c).2] := by
    have h1 := hfr.fn
    have h2 := hfr.tmps.1
    have h3 := hfr.defc
    have h4 := hfr.kindc
    have h5 := hfr.roc
    obtain ⟨q1, q2, q3, q4, q5, q6, q7⟩ := fc
    simp only at h1 h2 h3 h4 h5 htodo hm
    subst h1; subst h2; subst h3; subst h4; subst h5; subst htodo; subst hm
    rfl
  rw [e]
/-- ████ TO THE RETURN, IN COMPANY. ████ -/
theorem end_companyJ {f : FuncId} {fn0 : Func} {c : Code} {a : Act} {Q : Value → World → Prop} (hz : ZeroOk P) (hG : P.globals.size ≤ v.heap.size) (hO : ∀ ρ, FnsOk ⟨P, ρ, fnsOf fs v (fun b => S b ∨ Rd b) S⟩) (hS : ∀ b, S b → b < v.heap.size) (hR : ∀ b, Rd b → b < v.heap.size ∧ ¬ S b)
    (hf0 : P.funcs[f]? = some fn0) (hres0 : fn0.results.all resOk = true) (hc : codeOk P (fnsOf fs v (fun b => S b ∨ Rd b) S) c = true) (hd : a.defers = [])
    (hl : ∀ τ, Rel.Ends P f c Q (absA (fnsOf fs v (fun b => S b ∨ Rd b) S) v.heap.size a) { loneW (fnsOf fs v (fun b => S b ∨ Rd b) S) v with tape := τ, drawn := 0 }) :
    Go1 P main (RS Rd) (DS Rd) (RetC P (fnsOf fs v (fun b => S b ∨ Rd b) S) v Rd S f cs Q) S (G ((base f).at a [.code c]) cs) v := by
  classical
  have hal : ∀ b, b < v.heap.size → (fnsOf fs v (fun b => S b ∨ Rd b) S).al b = true → (S b ∨ Rd b) ∧ plainO v.heap[b]? = true := by
    intro b hb h
    simp only [fnsOf, hb, if_true, Bool.and_eq_true, decide_eq_true_eq] at h
    exact h
  have hwrs : ∀ b, b < v.heap.size → (fnsOf fs v (fun b => S b ∨ Rd b) S).wr b = true → S b := by
    intro b hb h
    simpa only [fnsOf, hb, if_true, decide_eq_true_eq] using h
  generalize hFs : fnsOf fs v (fun b => S b ∨ Rd b) S = Fs at *
  let StopL : Frame → List Frame → World → Prop := fun fl cl w => ∃ u, Q u w ∧ cl = [badF] ∧ fl.fn = f ∧ fl.leaving P w (.returned u)
  have U := setup_lone (P := P) (fs := fs) (v := v) (Rd := Rd) (S := S) (cs := cs) (kl := []) (kc := []) (fl0 := (base f).at (absA (fnsOf fs v (fun b => S b ∨ Rd b) S) v.heap.size a) [.code c]) (fc0 := (base f).at a [.code c]) (StopL := StopL) hz hG (by rw [hFs]; exact hO) hS hR (.inl ⟨rfl, rfl⟩)
    (by
      rw [hFs]
      intro ρ hρ
      refine ⟨rfl, ⟨?_, fun x hx => by obtain ⟨y, _, rfl⟩ := Array.mem_map.1 hx; exact absV_ok _ _ y⟩, ⟨[.code c], [], [], rfl, rfl, fun it hit => by simp at hit; rw [hit]; exact hc, .here⟩, rfl, hd, .inl ⟨rfl, rfl⟩, rfl, rfl, rfl, rfl⟩
      apply Array.ext (by simp [Frame.at, absA])
      intro i h1 h2
      simp only [Frame.at, absA, Array.getElem_map]
      exact (absV_ren hρ _).symm)
    (by
      rw [hFs]
      intro τ
      obtain ⟨e, a', w', ⟨he, hdf, fn, u, hfn, hr, hq⟩, harr⟩ := hl τ (base f) [] [badF]
      rcases he with rfl | rfl
      · obtain ⟨M, hM⟩ := Steps.trans harr (.one step_end)
        exact ⟨M, _, _, w', hM, u, hq, rfl, rfl, rfl, hdf, rfl, fn, hfn, hr⟩
      · obtain ⟨todo, M, hM⟩ := harr
        exact ⟨M, _, _, w', hM, u, hq, rfl, rfl, rfl, hdf, rfl, fn, hfn, hr⟩)
    (fun fl cl w ⟨u, _, h1, _, h2⟩ => ⟨fun ch h => (by rw [h2.1] at h; cases h), (by rw [h1]; simp)⟩)
  rw [hFs] at U
  refine (Go1.bind (fun s a => RS.refl a) (transfer (main := main) U) fun s g w ⟨ρ, fl, cl, wl, hA, u, hq, hcl, hfn, hlv⟩ => Go1.stop fun w₁ h₁ => ?_)
  subst hcl
  obtain ⟨fc, cc, rfl, hst⟩ := hA.st
  have hfr : FR ⟨P, ρ, Fs⟩ wl.heap.size [] [] fl fc ∧ cc = cs := by
    rcases hst.fr with ⟨h, _, h2⟩ | ⟨_, _, _, h⟩
    · exact ⟨h, h2⟩
    · exfalso
      cases h with
      | cons _ _ _ h => cases h
  obtain ⟨hfr, rfl⟩ := hfr
  obtain ⟨hm, hd, hk, fn, hfn1, hres⟩ := hlv
  have hmode : fc.mode = .returning := by
    rcases hfr.mode with ⟨h1, _⟩ | ⟨_, h2⟩
    · rw [hm] at h1; cases h1
    · exact h2
  have g1 := hf0
  have g5 := hres0
  have g1' : P.funcs[f]? = some fn0 := g1
  rw [hfn] at hfn1
  rw [g1'] at hfn1
  obtain rfl := Option.some.inj hfn1
  obtain ⟨e2, hout⟩ := ret_out (fun b hb h => (hal b hb h).1) hwrs hA hfr g5 hres h₁
  have hwr1 : WR ⟨P, ρ, Fs⟩ wl w₁ := hA.wr.rely fun c hc hca => by
    show w₁.heap[ρ.f c]? = w.heap[ρ.f c]?
    rcases Nat.lt_or_ge c v.heap.size with hb | hb
    · rw [hA.id c hb]
      rcases (hal c hb hca).1 with h | h
      · exact h₁.own c ((hA.mine c).2 (.inl h))
      · exact h₁.rd c h
    · exact h₁.own _ (hA.cover c hb hc)
  exact ⟨⟨ρ, fc, u, wl, rfl, hfr.fn.trans hfn, hmode, hfr.defc, hfr.kindc, ⟨fn0, g1', hout⟩, hq, e2, hA.id, hA.new, hwr1, hA.low, hA.mine⟩, h₁.tape.trans hA.tape, h₁.os.trans hA.os, h₁.output.trans hA.output, Nat.le_trans hA.size h₁.size, fun b hb => (h₁.rd b hb).trans (hA.rd b hb)⟩
/-- ████ TO A RETURN AHEAD OF A CUT, IN COMPANY. ████ -/
theorem ret_companyJ {f : FuncId} {fn0 : Func} {c : Code} {n : Nat} {a : Act} {Q : Value → World → Prop} (hz : ZeroOk P) (hG : P.globals.size ≤ v.heap.size) (hO : ∀ ρ, FnsOk ⟨P, ρ, fnsOf fs v (fun b => S b ∨ Rd b) S⟩) (hS : ∀ b, S b → b < v.heap.size) (hR : ∀ b, Rd b → b < v.heap.size ∧ ¬ S b)
    (hf0 : P.funcs[f]? = some fn0) (hres0 : fn0.results.all resOk = true) (hsp : spineOk P (fnsOf fs v (fun b => S b ∨ Rd b) S) n c = true) (hd : a.defers = [])
    (hl : ∀ τ, Rets P f n c Q (absA (fnsOf fs v (fun b => S b ∨ Rd b) S) v.heap.size a) { loneW (fnsOf fs v (fun b => S b ∨ Rd b) S) v with tape := τ, drawn := 0 }) :
    Go1 P main (RS Rd) (DS Rd) (RetC P (fnsOf fs v (fun b => S b ∨ Rd b) S) v Rd S f cs Q) S (G ((base f).at a [.code c]) cs) v := by
  classical
  have hal : ∀ b, b < v.heap.size → (fnsOf fs v (fun b => S b ∨ Rd b) S).al b = true → (S b ∨ Rd b) ∧ plainO v.heap[b]? = true := by
    intro b hb h
    simp only [fnsOf, hb, if_true, Bool.and_eq_true, decide_eq_true_eq] at h
    exact h
  have hwrs : ∀ b, b < v.heap.size → (fnsOf fs v (fun b => S b ∨ Rd b) S).wr b = true → S b := by
    intro b hb h
    simpa only [fnsOf, hb, if_true, decide_eq_true_eq] using h
  generalize hFs : fnsOf fs v (fun b => S b ∨ Rd b) S = Fs at *
  let StopL : Frame → List Frame → World → Prop := fun fl cl w => ∃ u, Q u w ∧ cl = [badF] ∧ fl.fn = f ∧ fl.leaving P w (.returned u)
  have U := setup_lone (P := P) (fs := fs) (v := v) (Rd := Rd) (S := S) (cs := cs) (kl := [.code (.refuse "")]) (kc := [.code (cut n c).2]) (fl0 := (base f).at (absA (fnsOf fs v (fun b => S b ∨ Rd b) S) v.heap.size a) [.code (cut n c).1]) (fc0 := (base f).at a [.code c]) (StopL := StopL) hz hG (by rw [hFs]; exact hO) hS hR (.inr rfl)
    (by
      rw [hFs]
      intro ρ hρ
      refine ⟨rfl, ⟨?_, fun x hx => by obtain ⟨y, _, rfl⟩ := Array.mem_map.1 hx; exact absV_ok _ _ y⟩, ⟨[], _, _, rfl, rfl, by simp, tl_cut n c hsp⟩, rfl, hd, .inl ⟨rfl, rfl⟩, rfl, rfl, rfl, rfl⟩
      apply Array.ext (by simp [Frame.at, absA])
      intro i h1 h2
      simp only [Frame.at, absA, Array.getElem_map]
      exact (absV_ren hρ _).symm)
    (by
      rw [hFs]
      intro τ
      obtain ⟨e, a', w', ⟨rfl, hdf, fn, u, hfn, hr, hq⟩, harr⟩ := hl τ (base f) [] [badF]
      obtain ⟨todo, M, hM⟩ := harr
      exact ⟨M, _, _, w', hM, u, hq, rfl, rfl, rfl, hdf, rfl, fn, hfn, hr⟩)
    (fun fl cl w ⟨u, _, h1, _, h2⟩ => ⟨fun ch h => (by rw [h2.1] at h; cases h), (by rw [h1]; simp)⟩)
  rw [hFs] at U
  refine (Go1.bind (fun s a => RS.refl a) (transfer (main := main) U) fun s g w ⟨ρ, fl, cl, wl, hA, u, hq, hcl, hfn, hlv⟩ => Go1.stop fun w₁ h₁ => ?_)
  subst hcl
  obtain ⟨fc, cc, rfl, hst⟩ := hA.st
  have hfr : FR ⟨P, ρ, Fs⟩ wl.heap.size [.code (.refuse "")] [.code (cut n c).2] fl fc ∧ cc = cs := by
    rcases hst.fr with ⟨h, _, h2⟩ | ⟨_, _, _, h⟩
    · exact ⟨h, h2⟩
    · exfalso
      cases h with
      | cons _ _ _ h => cases h
  obtain ⟨hfr, rfl⟩ := hfr
  obtain ⟨hm, hd, hk, fn, hfn1, hres⟩ := hlv
  have hmode : fc.mode = .returning := by
    rcases hfr.mode with ⟨h1, _⟩ | ⟨_, h2⟩
    · rw [hm] at h1; cases h1
    · exact h2
  have g1 := hf0
  have g5 := hres0
  have g1' : P.funcs[f]? = some fn0 := g1
  rw [hfn] at hfn1
  rw [g1'] at hfn1
  obtain rfl := Option.some.inj hfn1
  obtain ⟨e2, hout⟩ := ret_out (fun b hb h => (hal b hb h).1) hwrs hA hfr g5 hres h₁
  have hwr1 : WR ⟨P, ρ, Fs⟩ wl w₁ := hA.wr.rely fun c hc hca => by
    show w₁.heap[ρ.f c]? = w.heap[ρ.f c]?
    rcases Nat.lt_or_ge c v.heap.size with hb | hb
    · rw [hA.id c hb]
      rcases (hal c hb hca).1 with h | h
      · exact h₁.own c ((hA.mine c).2 (.inl h))
      · exact h₁.rd c h
    · exact h₁.own _ (hA.cover c hb hc)
  exact ⟨⟨ρ, fc, u, wl, rfl, hfr.fn.trans hfn, hmode, hfr.defc, hfr.kindc, ⟨fn0, g1', hout⟩, hq, e2, hA.id, hA.new, hwr1, hA.low, hA.mine⟩, h₁.tape.trans hA.tape, h₁.os.trans hA.os, h₁.output.trans hA.output, Nat.le_trans hA.size h₁.size, fun b hb => (h₁.rd b hb).trans (hA.rd b hb)⟩
end
section
variable {P : Program} {fs : FuncId → Bool} {v : World} {F W : Nat → Prop} {cs : List Frame}
theorem gl_cutJ {f : FuncId} {c : Code} {n : Nat} {a : Act} {Pre : Act → World → Prop} (hsub : ∀ b, W b → F b) (hF : ∀ b, F b → b < v.heap.size) (hz : ZeroOk P) (hG : P.globals.size ≤ v.heap.size) (hO : ∀ f, fs f = true → ∃ fn, P.funcs[f]? = some fn ∧ fnOk P fs fn = true)
    (hsp : spineOk P ⟨fs, fun _ => false, fun _ => false, fun _ => false⟩ n c = true) (hd : a.defers = []) (hl : ∀ τ, Rel.Reach P n c Pre (absA (fnsQ fs v F W) v.heap.size a) { loneW (fnsQ fs v F W) v with tape := τ, drawn := 0 }) :
    GL P (fun t g w => ∃ s, t = (fun b => (F b ∧ ¬ W b) ∨ s b) ∧ ∃ ρ a' wl, g = G ((base f).at ⟨a'.tmps.map (ren ρ), []⟩ [.code (cut n c).2]) cs ∧ Pre a' wl ∧ (∀ x ∈ a'.tmps, okJ (fnsQ fs v F W) wl.heap.size x = true) ∧ Rel.Left P (fnsQ fs v F W) v (fun b => F b ∧ ¬ W b) W ρ wl s w) F (G ((base f).at a [.code c]) cs) v :=
  gl_of hsub (cut_companyJ hz hG (fun ρ => by unfold fnsOf; exact fnsOk_of hO) (fun b hb => hF b (hsub b hb)) (fun b hb => ⟨hF b hb.1, hb.2⟩) (by unfold fnsOf; exact spine_mono n c hsp) hd hl)
theorem gl_retJ {f : FuncId} {fn0 : Func} {c : Code} {n : Nat} {a : Act} {Q : Value → World → Prop} (hsub : ∀ b, W b → F b) (hF : ∀ b, F b → b < v.heap.size) (hz : ZeroOk P) (hG : P.globals.size ≤ v.heap.size) (hO : ∀ f, fs f = true → ∃ fn, P.funcs[f]? = some fn ∧ fnOk P fs fn = true)
    (hf0 : P.funcs[f]? = some fn0) (hres0 : fn0.results.all resOk = true) (hsp : spineOk P ⟨fs, fun _ => false, fun _ => false, fun _ => false⟩ n c = true) (hd : a.defers = []) (hl : ∀ τ, Rets P f n c Q (absA (fnsQ fs v F W) v.heap.size a) { loneW (fnsQ fs v F W) v with tape := τ, drawn := 0 }) :
    GL P (fun t g w => ∃ s, t = (fun b => (F b ∧ ¬ W b) ∨ s b) ∧ RetC P (fnsQ fs v F W) v (fun b => F b ∧ ¬ W b) W f cs Q s g w) F (G ((base f).at a [.code c]) cs) v :=
  gl_of hsub (ret_companyJ hz hG (fun ρ => by unfold fnsOf; exact fnsOk_of hO) (fun b hb => hF b (hsub b hb)) (fun b hb => ⟨hF b hb.1, hb.2⟩) hf0 hres0 (by unfold fnsOf; exact spine_mono n c hsp) hd hl)
theorem gl_endJ {f : FuncId} {fn0 : Func} {c : Code} {a : Act} {Q : Value → World → Prop} (hsub : ∀ b, W b → F b) (hF : ∀ b, F b → b < v.heap.size) (hz : ZeroOk P) (hG : P.globals.size ≤ v.heap.size) (hO : ∀ f, fs f = true → ∃ fn, P.funcs[f]? = some fn ∧ fnOk P fs fn = true)
    (hf0 : P.funcs[f]? = some fn0) (hres0 : fn0.results.all resOk = true) (hc : codeOk P ⟨fs, fun _ => false, fun _ => false, fun _ => false⟩ c = true) (hd : a.defers = []) (hl : ∀ τ, Rel.Ends P f c Q (absA (fnsQ fs v F W) v.heap.size a) { loneW (fnsQ fs v F W) v with tape := τ, drawn := 0 }) :
    GL P (fun t g w => ∃ s, t = (fun b => (F b ∧ ¬ W b) ∨ s b) ∧ RetC P (fnsQ fs v F W) v (fun b => F b ∧ ¬ W b) W f cs Q s g w) F (G ((base f).at a [.code c]) cs) v :=
  gl_of hsub (end_companyJ hz hG (fun ρ => by unfold fnsOf; exact fnsOk_of hO) (fun b hb => hF b (hsub b hb)) (fun b hb => ⟨hF b hb.1, hb.2⟩) hf0 hres0 (by unfold fnsOf; exact code_mono c hc) hd hl)
end
end Go.Proofs.Ytmmolicodlmlkaa.Ph
namespace Go.Proofs.Ytmmolicodlmlkaa.Ph
open Go.Conc Go.ConcN Go.RowKit Go.Conc.Lib Go.ConcR.Gen Go.ConcN.Gen
open Go.ConcR (KK wgBlock WgAt stA smA rd wr mk DC0 Payload)
open Go.Proofs.Ytmmolicodlmlkaa.Rel
set_option linter.unusedVariables false
set_option linter.unusedSimpArgs false

theorem inB_yes {k : Int} (h1 : ¬ k < 1) (h2 : ¬ k > 8) : Go.Proofs.Ytmmolicodlmlkaa.inB k 1 8 = true := by simp [Go.Proofs.Ytmmolicodlmlkaa.inB]; omega
theorem nm_iRows : (Try.f24.name == "runtime.NumGoroutine") = false := by kernel_rfl
theorem ev_neq_bool (a b : Bool) (w : World) : (binOp .neq 4 (.bool a) (.bool b)).events Try.prog w #[] = #[] := by cases a <;> cases b <;> kernel_rfl
theorem ev_neq_int (a b : Int) (w : World) : (binOp .neq 3 (.int .i64 a) (.int .i64 b)).events Try.prog w #[] = #[] := by kernel_rfl
theorem LH.perm {W₀ : World} {l : List Fc} {F S : Nat → Prop} {own own' : List ((Nat → Prop) × Fc)} {w : World} (h : LH W₀ l F own S w) (hp : own.Perm own') : LH W₀ l F own' S w :=
  ⟨h.tw, h.old, h.low, h.glob, h.fc, h.sub, fun p hp' => h.ow p (hp.mem_iff.2 hp'), (hp.pairwise_iff fun {a b} hab y hb ha => hab y ha hb).1 h.dis⟩
/-- The last frame's return. -/
theorem stepG_done {P : Program} {b : Frame} {a : Act} {todo : List Item} {w : World} {fn : Func} {t : Tmp} (hn : b.kind = .normal) (hd : a.defers = []) (hf : P.funcs[b.fn]? = some fn) (hr : fn.results = #[.tmp t]) (hi : P.inits.idxOf? b.fn = none) :
    stepG P true (G { b.at a todo with mode := .returning } []) w = .ended (.done (a.tmps.getD t undef)) w #[] := by
  have h1 := results_tmp hr a.tmps P w
  have h2 := events_results_tmp (P := P) (w := w) hr a.tmps #[]
  simp [G, stepG, unwind, doReturn, Frame.at, hn, hd, hf, h1, h2, hi, seen, GStep.after]
/-- The law's end. -/
def LawEnd (W₀ : World) (S : Nat → Prop) (g : Goroutine) (w : World) : Prop := g.status = .running ∧ ∀ w₁, RS No S w w₁ → ∃ v, stepG Try.prog true g w₁ = .ended (.done v) w₁ #[] ∧ v = .bool true ∧ Below W₀.heap.size W₀ w₁
/-- The run's pieces, put together. -/
theorem ends_at {W₀ : World} {Shun : Loc → Prop} {S : Nat → Prop} {g : Goroutine} {w : World} {m m0 : Machine} {t t0 : Trace} {K : Nat} (hr : runNT Try.prog K m0 t0 = (.next m, t)) (h : At Try.prog Shun g w m t) (hS : ∀ y, S y → FreeB Shun w y) (hG : GL Try.prog (LawEnd W₀) S g w) :
    ∃ M last o w' t', runNT Try.prog (M + 1) m0 t0 = (.ended o w', t') ∧ runN Try.prog M m0 = .next last ∧ step Try.prog last = .ended o w' ∧ Go.Conc.Good Try.prog (fun v W' => v = .bool true ∧ Below W₀.heap.size W₀ W') last o w' t' := by
  obtain ⟨⟨gs, sl, q, rfl, h0, hL⟩, hs⟩ := h
  have hfr := FreeB.free (w := w) hs
  obtain ⟨N, last, o, w', t', e1, e2, e3, e4⟩ := ends (Post := fun v W' => v = .bool true ∧ Below W₀.heap.size W₀ W') (sl := sl) h0 hL (S := S) ⟨fun l hl => hfr.free l (by
    cases l with
    | cell a => exact hS _ hl
    | obj r => exact hS _ hl
    | output => exact hl
    | goroutines => exact hl
    | mark m => exact hl), fun b hb => (hS b hb).1, hfr.shun⟩ hG
  refine ⟨K + N, last, o, w', t', ?_, ?_, e3, e4⟩
  · rw [Nat.add_assoc, runNT_add, hr]; exact e1
  · rw [runN_add, ← runNT_fst Try.prog _ _ t0, hr]; exact e2
/-! ### any law: from a lone end to its own -/
theorem stepG_done' {P : Program} {fc : Frame} {w : World} {fn : Func} {t : Tmp} (hm : fc.mode = .returning) (hn : fc.kind = .normal) (hd : fc.defers = []) (hf : P.funcs[fc.fn]? = some fn) (hr : fn.results = #[.tmp t]) (hi : P.inits.idxOf? fc.fn = none) :
    stepG P true (G fc []) w = .ended (.done (fc.tmps.getD t undef)) w #[] := by
  have h1 := results_tmp hr fc.tmps P w
  have h2 := events_results_tmp (P := P) (w := w) hr fc.tmps #[]
  simp [G, stepG, unwind, doReturn, hm, hn, hd, hf, h1, h2, hi, seen, GStep.after]
theorem law_ret {W₀ : World} {l : List Fc} {F0 S : Nat → Prop} {own : List ((Nat → Prop) × Fc)} {v : World} {fs : FuncId → Bool} {f : FuncId} {fn : Func} {t0 : Tmp} {g : Goroutine} (hH : LH W₀ l F0 own S v) (hf : Try.prog.funcs[f]? = some fn) (hr : fn.results = #[.tmp t0]) (hi : Try.prog.inits.idxOf? f = none)
    (h : GL Try.prog (fun t g w => ∃ s, t = (fun b => (S b ∧ ¬ No b) ∨ s b) ∧ RetC Try.prog (fnsQ fs v S No) v (fun b => S b ∧ ¬ No b) No f [] (fun u w' => u = .bool true) s g w) S g v) : GL Try.prog (LawEnd W₀) S g v := by
  refine Go1.widen h ?_
  rintro t g w ⟨s, rfl, hC⟩
  obtain ⟨ρ, fc, u, wl, rfl, hfn, hm, hd, hk, ⟨fn', hfn', hres⟩, rfl, hok, hid, hnew, hwr, hlow, hmine⟩ := hC.out
  have hL : Rel.Left Try.prog (fnsQ fs v S No) v (fun b => S b ∧ ¬ No b) No ρ wl s w := ⟨hid, hnew, hwr, hlow, hmine, hC.tape, hC.os, hC.output, hC.size, hC.rd⟩
  have hK := lk_left hH.low hL
  have hH1 := hH.lk hK
  rw [hf] at hfn'
  obtain rfl := Option.some.inj hfn'
  refine ⟨rfl, fun w₁ h₁ => ⟨_, stepG_done' hm hk hd (by rw [hfn]; exact hf) hr (by rw [hfn]; exact hi), ?_, (hH1.rely h₁).below⟩⟩
  obtain ⟨es, hrun, _⟩ := hres w₁ (fun b hb => h₁.own b (hb.elim .inr .inl))
  have h1 := results_tmp hr fc.tmps Try.prog w₁
  have h2 : ((results fn fc.tmps).runT Try.prog w₁ #[]).1 = .ok (fc.tmps.getD t0 undef) w₁ := by rw [Sem.runT_eq]; exact h1
  rw [hrun] at h2
  have h3 : Result.ok (ren ρ (.bool true)) w₁ = Result.ok (fc.tmps.getD t0 undef) w₁ := h2
  rw [← (Result.ok.inj h3).1]; simp
abbrev uns : Nat → Value := fun _ => undef
end Go.Proofs.Ytmmolicodlmlkaa.Ph
namespace Go.Proofs.Ytmmolicodlmlkaa.Ph
open Go.Conc Go.RowKit
open Go.Proofs.Ytmmolicodlmlkaa.Rel
set_option linter.unusedVariables false

/-- The lone walk from the middle of a region, through the first n statements behind it. -/
def ReachM (P : Program) (ops : Array Oper) (rest : List Nat) (n : Nat) (c : Code) (Pre : Act → World → Prop) (a : Act) (w : World) : Prop :=
  ∀ (b : Frame) (cs : List Frame), ∃ a' w', Pre a' w' ∧ Steps P (lone (b.at a [.inRegion ops rest, .code (cut n c).1]) cs w) (lone (b.at a' [.code (.refuse "")]) cs w')
/-- .. to the function's return. -/
def EndsM (P : Program) (ops : Array Oper) (rest : List Nat) (f : FuncId) (c : Code) (Post : Value → World → Prop) (a : Act) (w : World) : Prop :=
  ∀ (b : Frame) (cs : List Frame), ∃ a' w' todo, (a'.defers = [] ∧ ∃ fn v, P.funcs[f]? = some fn ∧ (results fn a'.tmps).run P w' = .ok v w' ∧ Post v w') ∧ Steps P (lone (b.at a [.inRegion ops rest, .code c]) cs w) (lone { b.at a' todo with mode := .returning } cs w')
theorem reachM_of {P : Program} {ops : Array Oper} {rest : List Nat} {n : Nat} {c : Code} {Pre : Act → World → Prop} {a : Act} {w : World} (h : wpOps P ops (Exit.then (fun a w => Rel.Reach P n c Pre a w) Rel.NoExit) rest a w) : ReachM P ops rest n c Pre a w := by
  intro b cs
  obtain ⟨e, a', w', q, r⟩ := wp_ops rest a w h b [.code (cut n c).1] cs
  cases e with
  | normal =>
    obtain ⟨a2, w2, hp, hs⟩ := q b cs
    exact ⟨a2, w2, hp, Steps.trans r hs⟩
  | exit id => exact q.elim
  | goto l => exact q.elim
  | ret => exact q.elim
  | panic ch => exact q.elim
  | outgrown => exact q.elim
theorem endsM_of {P : Program} {ops : Array Oper} {rest : List Nat} {f : FuncId} {c : Code} {Post : Value → World → Prop} {a : Act} {w : World} (h : wpOps P ops (Exit.then (fun a w => Rel.Ends P f c Post a w) Rel.NoExit) rest a w) : EndsM P ops rest f c Post a w := by
  intro b cs
  obtain ⟨e, a', w', q, r⟩ := wp_ops rest a w h b [.code c] cs
  cases e with
  | normal =>
    obtain ⟨e2, a2, w2, ⟨he, hq⟩, hs⟩ := q b [] cs
    rcases he with rfl | rfl
    · exact ⟨a2, w2, [], hq, Steps.trans (Steps.trans r hs) (.one step_end)⟩
    · obtain ⟨todo, hs⟩ := hs
      exact ⟨a2, w2, todo, hq, Steps.trans r hs⟩
  | exit id => exact q.elim
  | goto l => exact q.elim
  | ret => exact q.elim
  | panic ch => exact q.elim
  | outgrown => exact q.elim
/-- The operations behind a call, as the walk's tactics want them. -/
theorem wpOps_from {P : Program} {ops : Array Oper} {Q : Exit → Act → World → Prop} {l : List Oper} {a : Act} {w : World} (k n : Nat) (hn : l.length = n) (h0 : ∀ j, l[j]? = ops[k + j]?) (h : wpList P ops Q l a w) : wpOps P ops Q (List.range' k n) a w := by
  subst hn
  rw [wpOps_eq_wpList l k h0]
  exact h
theorem opsOk_mono {P : Program} {fs : FuncId → Bool} {al wr na : Nat → Bool} {ops : Array Oper} {l : List Nat} (h : opsOk P ⟨fs, fun _ => false, fun _ => false, fun _ => false⟩ ops l = true) : opsOk P ⟨fs, al, wr, na⟩ ops l = true := by
  unfold opsOk at h ⊢
  rw [List.all_eq_true] at h ⊢
  intro i hi
  have := h i hi
  cases ho : ops[i]? with
  | none => rfl
  | some o =>
    rw [ho] at this
    exact op_mono _ this
section
variable {P : Program} {fs : FuncId → Bool} {v : World} {Rd S : Nat → Prop} {cs : List Frame} {main : Bool}
/-- ████ UP TO A CUT, IN COMPANY. ████ -/
theorem cut_companyM {f : FuncId} {c : Code} {ops : Array Oper} {rest : List Nat} {n : Nat} {a : Act} {Pre : Act → World → Prop} (hz : ZeroOk P) (hG : P.globals.size ≤ v.heap.size) (hO : ∀ ρ, FnsOk ⟨P, ρ, fnsOf fs v (fun b => S b ∨ Rd b) S⟩) (hS : ∀ b, S b → b < v.heap.size) (hR : ∀ b, Rd b → b < v.heap.size ∧ ¬ S b)
    (hsp : spineOk P (fnsOf fs v (fun b => S b ∨ Rd b) S) n c = true) (hop : opsOk P (fnsOf fs v (fun b => S b ∨ Rd b) S) ops rest = true) (hd : a.defers = [])
    (hl : ∀ τ, ReachM P ops rest n c Pre (absA (fnsOf fs v (fun b => S b ∨ Rd b) S) v.heap.size a) { loneW (fnsOf fs v (fun b => S b ∨ Rd b) S) v with tape := τ, drawn := 0 }) :
    Go1 P main (RS Rd) (DS Rd) (fun S' g w => ∃ ρ a' wl, g = G ((base f).at ⟨a'.tmps.map (ren ρ), []⟩ [.code (cut n c).2]) cs ∧ Pre a' wl ∧ (∀ x ∈ a'.tmps, okJ (fnsOf fs v (fun b => S b ∨ Rd b) S) wl.heap.size x = true) ∧ Rel.Left P (fnsOf fs v (fun b => S b ∨ Rd b) S) v Rd S ρ wl S' w) S (G ((base f).at a [.inRegion ops rest, .code c]) cs) v := by
  classical
  have hal : ∀ b, b < v.heap.size → (fnsOf fs v (fun b => S b ∨ Rd b) S).al b = true → S b ∨ Rd b := by
    intro b hb h
    simp only [fnsOf, hb, if_true, Bool.and_eq_true, decide_eq_true_eq] at h
    exact h.1
  generalize hFs : fnsOf fs v (fun b => S b ∨ Rd b) S = Fs at *
  let StopL : Frame → List Frame → World → Prop := fun fl cl w => ∃ a', fl = (base f).at a' [.code (.refuse "")] ∧ cl = [badF] ∧ Pre a' w
  have U := setup_lone (P := P) (fs := fs) (v := v) (Rd := Rd) (S := S) (cs := cs) (kl := [.code (.refuse "")]) (kc := [.code (cut n c).2]) (fl0 := (base f).at (absA (fnsOf fs v (fun b => S b ∨ Rd b) S) v.heap.size a) [.inRegion ops rest, .code (cut n c).1]) (fc0 := (base f).at a [.inRegion ops rest, .code c]) (StopL := StopL) hz hG (by rw [hFs]; exact hO) hS hR (.inr rfl)
    (by
      rw [hFs]
      intro ρ hρ
      refine ⟨rfl, ⟨?_, fun x hx => by obtain ⟨y, _, rfl⟩ := Array.mem_map.1 hx; exact absV_ok _ _ y⟩, ⟨[.inRegion ops rest], _, _, rfl, rfl, fun it hit => by simp at hit; rw [hit]; exact hop, tl_cut n c hsp⟩, rfl, hd, .inl ⟨rfl, rfl⟩, rfl, rfl, rfl, rfl⟩
      apply Array.ext (by simp [Frame.at, absA])
      intro i h1 h2
      simp only [Frame.at, absA, Array.getElem_map]
      exact (absV_ren hρ _).symm)
    (by
      rw [hFs]
      intro τ
      obtain ⟨a', w', hp, M, hM⟩ := hl τ (base f) [badF]
      exact ⟨M, _, _, w', hM, a', rfl, rfl, hp⟩)
    (fun fl cl w ⟨a', h1, h2, _⟩ => ⟨fun ch e => (by rw [h1] at e; cases e), (by rw [h2]; simp)⟩)
  rw [hFs] at U
  refine Go1.bind (fun s a => RS.refl a) (transfer (main := main) U) fun s g w ⟨ρ, fl, cl, wl, hA, a', hfl, hcl, hp⟩ => Go1.stop fun w₁ h₁ => ?_
  subst hcl; subst hfl
  obtain ⟨fc, cc, rfl, hst⟩ := hA.st
  have hfr : FR ⟨P, ρ, Fs⟩ wl.heap.size [.code (.refuse "")] [.code (cut n c).2] ((base f).at a' [.code (.refuse "")]) fc ∧ cc = cs := by
    rcases hst.fr with ⟨h, _, h2⟩ | ⟨_, _, _, h⟩
    · exact ⟨h, h2⟩
    · exfalso
      cases h with
      | cons _ _ _ h => cases h
  obtain ⟨hfr, rfl⟩ := hfr
  have htodo : fc.todo = [.code (cut n c).2] := by
    obtain ⟨its, tl, tc, t1, t2, _, hT⟩ := hfr.todo
    have t1 : [Item.code (.refuse "")] = its ++ tl := t1
    cases hT with
    | here =>
      cases its with
      | nil => exact t2
      | cons x its => cases its <;> simp at t1
    | seq _ _ =>
      cases its with
      | nil => simp at t1
      | cons x its => cases its <;> simp at t1
  have hm : fc.mode = .run := by
    rcases hfr.mode with ⟨_, h⟩ | ⟨h, _⟩
    · exact h
    · cases h
  refine ⟨ρ, a', wl, ?_, hp, hfr.tmps.2, hA.left hal h₁⟩
  have e : fc = (base f).at ⟨a'.tmps.map (ren ρ), []⟩ [.code (cut n c).2] := by
    have h1 := hfr.fn
    have h2 := hfr.tmps.1
    have h3 := hfr.defc
    have h4 := hfr.kindc
    have h5 := hfr.roc
    obtain ⟨q1, q2, q3, q4, q5, q6, q7⟩ := fc
    simp only at h1 h2 h3 h4 h5 htodo hm
    subst h1; subst h2; subst h3; subst h4; subst h5; subst htodo; subst hm
    rfl
  rw [e]
/-- ████ TO THE RETURN, IN COMPANY. ████ -/
theorem end_companyM {f : FuncId} {fn0 : Func} {c : Code} {ops : Array Oper} {rest : List Nat} {a : Act} {Q : Value → World → Prop} (hz : ZeroOk P) (hG : P.globals.size ≤ v.heap.size) (hO : ∀ ρ, FnsOk ⟨P, ρ, fnsOf fs v (fun b => S b ∨ Rd b) S⟩) (hS : ∀ b, S b → b < v.heap.size) (hR : ∀ b, Rd b → b < v.heap.size ∧ ¬ S b)
    (hf0 : P.funcs[f]? = some fn0) (hres0 : fn0.results.all resOk = true) (hc : codeOk P (fnsOf fs v (fun b => S b ∨ Rd b) S) c = true) (hop : opsOk P (fnsOf fs v (fun b => S b ∨ Rd b) S) ops rest = true) (hd : a.defers = [])
    (hl : ∀ τ, EndsM P ops rest f c Q (absA (fnsOf fs v (fun b => S b ∨ Rd b) S) v.heap.size a) { loneW (fnsOf fs v (fun b => S b ∨ Rd b) S) v with tape := τ, drawn := 0 }) :
    Go1 P main (RS Rd) (DS Rd) (RetC P (fnsOf fs v (fun b => S b ∨ Rd b) S) v Rd S f cs Q) S (G ((base f).at a [.inRegion ops rest, .code c]) cs) v := by
  classical
  have hal : ∀ b, b < v.heap.size → (fnsOf fs v (fun b => S b ∨ Rd b) S).al b = true → (S b ∨ Rd b) ∧ plainO v.heap[b]? = true := by
    intro b hb h
    simp only [fnsOf, hb, if_true, Bool.and_eq_true, decide_eq_true_eq] at h
    exact h
  have hwrs : ∀ b, b < v.heap.size → (fnsOf fs v (fun b => S b ∨ Rd b) S).wr b = true → S b := by
    intro b hb h
    simpa only [fnsOf, hb, if_true, decide_eq_true_eq] using h
  generalize hFs : fnsOf fs v (fun b => S b ∨ Rd b) S = Fs at *
  let StopL : Frame → List Frame → World → Prop := fun fl cl w => ∃ u, Q u w ∧ cl = [badF] ∧ fl.fn = f ∧ fl.leaving P w (.returned u)
  have U := setup_lone (P := P) (fs := fs) (v := v) (Rd := Rd) (S := S) (cs := cs) (kl := []) (kc := []) (fl0 := (base f).at (absA (fnsOf fs v (fun b => S b ∨ Rd b) S) v.heap.size a) [.inRegion ops rest, .code c]) (fc0 := (base f).at a [.inRegion ops rest, .code c]) (StopL := StopL) hz hG (by rw [hFs]; exact hO) hS hR (.inl ⟨rfl, rfl⟩)
    (by
      rw [hFs]
      intro ρ hρ
      refine ⟨rfl, ⟨?_, fun x hx => by obtain ⟨y, _, rfl⟩ := Array.mem_map.1 hx; exact absV_ok _ _ y⟩, ⟨[.inRegion ops rest, .code c], [], [], rfl, rfl, fun it hit => by simp at hit; rcases hit with rfl | rfl; exact hop; exact hc, .here⟩, rfl, hd, .inl ⟨rfl, rfl⟩, rfl, rfl, rfl, rfl⟩
      apply Array.ext (by simp [Frame.at, absA])
      intro i h1 h2
      simp only [Frame.at, absA, Array.getElem_map]
      exact (absV_ren hρ _).symm)
    (by
      rw [hFs]
      intro τ
      obtain ⟨a', w', todo, ⟨hdf, fn, u, hfn, hr, hq⟩, M, hM⟩ := hl τ (base f) [badF]
      exact ⟨M, _, _, w', hM, u, hq, rfl, rfl, rfl, hdf, rfl, fn, hfn, hr⟩)
    (fun fl cl w ⟨u, _, h1, _, h2⟩ => ⟨fun ch h => (by rw [h2.1] at h; cases h), (by rw [h1]; simp)⟩)
  rw [hFs] at U
  refine (Go1.bind (fun s a => RS.refl a) (transfer (main := main) U) fun s g w ⟨ρ, fl, cl, wl, hA, u, hq, hcl, hfn, hlv⟩ => Go1.stop fun w₁ h₁ => ?_)
  subst hcl
  obtain ⟨fc, cc, rfl, hst⟩ := hA.st
  have hfr : FR ⟨P, ρ, Fs⟩ wl.heap.size [] [] fl fc ∧ cc = cs := by
    rcases hst.fr with ⟨h, _, h2⟩ | ⟨_, _, _, h⟩
    · exact ⟨h, h2⟩
    · exfalso
      cases h with
      | cons _ _ _ h => cases h
  obtain ⟨hfr, rfl⟩ := hfr
  obtain ⟨hm, hd, hk, fn, hfn1, hres⟩ := hlv
  have hmode : fc.mode = .returning := by
    rcases hfr.mode with ⟨h1, _⟩ | ⟨_, h2⟩
    · rw [hm] at h1; cases h1
    · exact h2
  have g1 := hf0
  have g5 := hres0
  have g1' : P.funcs[f]? = some fn0 := g1
  rw [hfn] at hfn1
  rw [g1'] at hfn1
  obtain rfl := Option.some.inj hfn1
  obtain ⟨e2, hout⟩ := ret_out (fun b hb h => (hal b hb h).1) hwrs hA hfr g5 hres h₁
  have hwr1 : WR ⟨P, ρ, Fs⟩ wl w₁ := hA.wr.rely fun c hc hca => by
    show w₁.heap[ρ.f c]? = w.heap[ρ.f c]?
    rcases Nat.lt_or_ge c v.heap.size with hb | hb
    · rw [hA.id c hb]
      rcases (hal c hb hca).1 with h | h
      · exact h₁.own c ((hA.mine c).2 (.inl h))
      · exact h₁.rd c h
    · exact h₁.own _ (hA.cover c hb hc)
  exact ⟨⟨ρ, fc, u, wl, rfl, hfr.fn.trans hfn, hmode, hfr.defc, hfr.kindc, ⟨fn0, g1', hout⟩, hq, e2, hA.id, hA.new, hwr1, hA.low, hA.mine⟩, h₁.tape.trans hA.tape, h₁.os.trans hA.os, h₁.output.trans hA.output, Nat.le_trans hA.size h₁.size, fun b hb => (h₁.rd b hb).trans (hA.rd b hb)⟩
end
section
variable {P : Program} {fs : FuncId → Bool} {v : World} {F W : Nat → Prop} {cs : List Frame}
theorem gl_cutM {f : FuncId} {c : Code} {ops : Array Oper} {rest : List Nat} {n : Nat} {a : Act} {Pre : Act → World → Prop} (hsub : ∀ b, W b → F b) (hF : ∀ b, F b → b < v.heap.size) (hz : ZeroOk P) (hG : P.globals.size ≤ v.heap.size) (hO : ∀ f, fs f = true → ∃ fn, P.funcs[f]? = some fn ∧ fnOk P fs fn = true)
    (hsp : spineOk P ⟨fs, fun _ => false, fun _ => false, fun _ => false⟩ n c = true) (hop : opsOk P ⟨fs, fun _ => false, fun _ => false, fun _ => false⟩ ops rest = true) (hd : a.defers = []) (hl : ∀ τ, ReachM P ops rest n c Pre (absA (fnsQ fs v F W) v.heap.size a) { loneW (fnsQ fs v F W) v with tape := τ, drawn := 0 }) :
    GL P (fun t g w => ∃ s, t = (fun b => (F b ∧ ¬ W b) ∨ s b) ∧ ∃ ρ a' wl, g = G ((base f).at ⟨a'.tmps.map (ren ρ), []⟩ [.code (cut n c).2]) cs ∧ Pre a' wl ∧ (∀ x ∈ a'.tmps, okJ (fnsQ fs v F W) wl.heap.size x = true) ∧ Rel.Left P (fnsQ fs v F W) v (fun b => F b ∧ ¬ W b) W ρ wl s w) F (G ((base f).at a [.inRegion ops rest, .code c]) cs) v :=
  gl_of hsub (cut_companyM hz hG (fun ρ => by unfold fnsOf; exact fnsOk_of hO) (fun b hb => hF b (hsub b hb)) (fun b hb => ⟨hF b hb.1, hb.2⟩) (by unfold fnsOf; exact spine_mono n c hsp) (by unfold fnsOf; exact opsOk_mono hop) hd hl)
theorem gl_endM {f : FuncId} {fn0 : Func} {c : Code} {ops : Array Oper} {rest : List Nat} {a : Act} {Q : Value → World → Prop} (hsub : ∀ b, W b → F b) (hF : ∀ b, F b → b < v.heap.size) (hz : ZeroOk P) (hG : P.globals.size ≤ v.heap.size) (hO : ∀ f, fs f = true → ∃ fn, P.funcs[f]? = some fn ∧ fnOk P fs fn = true)
    (hf0 : P.funcs[f]? = some fn0) (hres0 : fn0.results.all resOk = true) (hc : codeOk P ⟨fs, fun _ => false, fun _ => false, fun _ => false⟩ c = true) (hop : opsOk P ⟨fs, fun _ => false, fun _ => false, fun _ => false⟩ ops rest = true) (hd : a.defers = []) (hl : ∀ τ, EndsM P ops rest f c Q (absA (fnsQ fs v F W) v.heap.size a) { loneW (fnsQ fs v F W) v with tape := τ, drawn := 0 }) :
    GL P (fun t g w => ∃ s, t = (fun b => (F b ∧ ¬ W b) ∨ s b) ∧ RetC P (fnsQ fs v F W) v (fun b => F b ∧ ¬ W b) W f cs Q s g w) F (G ((base f).at a [.inRegion ops rest, .code c]) cs) v :=
  gl_of hsub (end_companyM hz hG (fun ρ => by unfold fnsOf; exact fnsOk_of hO) (fun b hb => hF b (hsub b hb)) (fun b hb => ⟨hF b hb.1, hb.2⟩) hf0 hres0 (by unfold fnsOf; exact code_mono c hc) (by unfold fnsOf; exact opsOk_mono hop) hd hl)
end
end Go.Proofs.Ytmmolicodlmlkaa.Ph
namespace Go.Proofs.Ytmmolicodlmlkaa
open Go.RowKit
open Go.Proofs.Ytmmolicodlmlkaa.Rel (Ints)
set_option linter.unusedVariables false
set_option linter.unusedSimpArgs false

theorem touch_all2 {w w' w'' : World} {l : List (Option Addr × Nat)} (h : TouchAll w w' l) (k : TouchAll w' w'' l) : TouchAll w w'' l :=
  ⟨k.os.trans h.os, k.tape.trans h.tape, k.output.trans h.output, Nat.le_trans h.size k.size, fun b hb hp => (k.block b (Nat.lt_of_lt_of_le hb h.size) hp).trans (h.block b hb hp)⟩
theorem touch_all_refl {w : World} {l : List (Option Addr × Nat)} : TouchAll w w l := ⟨rfl, rfl, rfl, Nat.le_refl _, fun _ _ _ => rfl⟩
section
variable {w w' : World} {g n : Nat} {t : TypeId} {cs : List Value}
theorem Blk.touches (h : Blk w g t cs) {q : Nat} (k : TouchAll w w' [(some ⟨q, 0, none⟩, n)]) (hq : q ≠ g) : Blk w' g t cs :=
  (k.block g h.lt (by simp [hq])).trans h
theorem cell_touches {a : Addr} {v : Value} (h : w.cell? a = some v) {q : Nat} (k : TouchAll w w' [(some ⟨q, 0, none⟩, n)]) (hq : q ≠ a.block) : w'.cell? a = some v := by
  have hb := World.block_lt_of_cell? w a h
  have := k.block a.block hb (by simp [hq])
  unfold World.cell? at h ⊢
  rw [this]; exact h
end
set_option maxRecDepth 100000 in
set_option maxHeartbeats 1600000 in
theorem l03Put_ex (ex : List Value) (q c g wd dp s key : Nat) (by_ : Int) (B : Nat) (y : List Int) (w : World) (hb : Blk w q 37 [.int .i64 wd, .int .i64 dp, .int .i64 s, .slice (some ⟨g, 0, none⟩) y.length c]) (ho : OwnE ex w B 2 (some ⟨g, 0, none⟩) y)
    (hq : g ≠ q) (hw1 : 2 ≤ wd) (hw2 : wd ≤ 64) (hd2 : dp ≤ 6) (hk : key < 4294967296) (hs : s < 4294967296) (hl : y.length = wd * dp) (hbd : ∀ z ∈ y, -1000000000000 ≤ z ∧ z ≤ 1000000000000) (hby : -1000000 ≤ by_ ∧ by_ ≤ 1000000) :
    Calls Try.prog 87 #[.pointer (some ⟨q, 0, none⟩), .int .i64 key, .int .i64 by_] w fun e w' => e = .returned (.tuple #[]) ∧
      OwnE ex w' B 2 (some ⟨g, 0, none⟩) (addAt by_ y (cellsL wd s key dp)) ∧ TouchAll w w' [(some ⟨g, 0, none⟩, y.length)] := by
  have HB := hid hb
  have HO := hid ho
  have HL := hid hl
  have HBD := hid hbd
  clear hb ho hl hbd
  go_enter Try.func87, Try.ntmps87
  go_wp2
  go_loopw [6] (fun i wr => ∃ k : Nat, k ≤ dp ∧ i = .int .i64 k ∧ Hid (OwnE ex wr B 2 (some ⟨g, 0, none⟩) (addAt by_ y ((cellsL wd s key dp).take k))) ∧ Hid (Touch w wr (some ⟨g, 0, none⟩) y.length)) (fun i _ => dp - (intOf i).toNat)
  case atStart => exact ⟨0, Nat.zero_le _, rfl, by rw [addAt_zero]; exact HO, Touch.refl⟩
  case round =>
    obtain ⟨k, hkr, rfl, hok, hT⟩ := hrel
    have Q1 := hid (HB.out.touch hT.out hq)
    obtain ⟨d0, d1, d2, d3⟩ := Q1.out.cells4
    by_cases hlt : k < dp
    · have hi : (k : Int) < (dp : Int) := by omega
      have hlk : placeN wd s key k < y.length := by rw [HL.out]; exact placeN_lt (by omega) hlt
      have hlen := addAt_length by_ y ((cellsL wd s key dp).take k)
      obtain ⟨g', u, hg', hgB, hcy, hfy, hym, hput⟩ := hok.out.put (j := placeN wd s key k) (by omega)
      injection hg' with hg'; injection hg' with hg'
      subst hg'
      have hbu := addAt_bound (l := (cellsL wd s key dp).take k) (D := 1000000) HBD.out hby (by omega) u (List.mem_of_getElem? hym.out)
      have hkl : ((cellsL wd s key dp).take k).length ≤ 6 := by simp [cellsL_length]; omega
      have hO2 := hput (u + by_)
      rw [addAt_succ (cellsL_at' hlt) hym] at hO2
      have hT2 := hid (hT.out.set_ (show 0 < y.length by omega) (placeN wd s key k) (.int .i64 (u + by_)))
      have e1 : IntKind.i64.wrap (u + by_) = u + by_ := by rw [IntKind.wrap_i64]; omega
      have hm' : (placeN wd s key k : Int) < (y.length : Int) := by omega
      have hm0 : (0 : Int) ≤ (placeN wd s key k : Int) := by omega
      have hq' := Ne.symm hq
      clear hput hlen hgB hbu hkl hym
      go_wp2
      go_region_law (first
        | (go_simp
           go_at_call 128
           refine (l03Place_any q wd s key k wr.drew d0 d2 hw1 hw2 hs hk (by omega)).mono ?_
           rintro e w' ⟨rfl, m, rfl⟩))
      all_goals
        go_wp2
        exact ⟨⟨k + 1, by omega, by go_num, hO2, ⟨hT2.out.os, hT2.out.tape, hT2.out.output, hT2.out.size, hT2.out.block⟩⟩, by simp [intOf]; omega⟩
    · have hi : ¬ (k : Int) < (dp : Int) := by omega
      go_wp2
      have he := hok.out
      rw [List.take_of_length_le (by rw [cellsL_length]; omega)] at he
      go_end0
      exact ⟨rfl, he, TouchAll.of_touch hT.out⟩
set_option maxHeartbeats 800000 in
theorem l03New_ex (a0 a1 a2 : Int) (n : Nat) (w : World) (hn : (n : Int) = a0 * a1) (hn1 : n ≤ 384) :
    Calls Try.prog 86 #[.int .i64 a0, .int .i64 a1, .int .i64 a2] w fun e w' => ∃ g c, e = .returned (.agg #[.int .i64 a0, .int .i64 a1, .int .i64 a2, .slice (some ⟨g, 0, none⟩) n c]) ∧ OwnE [] w' w.heap.size 2 (some ⟨g, 0, none⟩) (List.replicate n 0) ∧ Below w.heap.size w w' := by
  have e1 : IntKind.i64.wrap (a0 * a1) = (n : Int) := by rw [← hn, IntKind.wrap_i64]; omega
  clear hn
  have hmk := run_make_row' (P := Try.prog) 22 2 (.int .i64 0) 8 Try.underlying22 (by kernel_rfl) rfl .i64 .i64 n (by omega) (by omega)
  go_enter Try.func86, Try.ntmps86
  go_wp2
  clear hmk
  refine bodyPost_ret (v := .agg #[.int .i64 a0, .int .i64 a1, .int .i64 a2, .slice (some ⟨w.heap.size + 1, 0, none⟩) n n]) (by simp [results, Try.results86, go_sem]) rfl ⟨w.heap.size + 1, n, rfl, ?_, below_a2 _ _ _⟩
  rw [madeCells_one]
  refine ⟨_, rfl, by omega, ?_⟩
  rw [List.map_replicate, List.append_nil]
  exact Blk.new2 _ _ _ _
/-- Are these lists of keys, for cells of these sides? -/
def gateCS (a0 a1 a2 : Int) (xss : List (List Int)) (kw : Int) : Bool := sidesB a0 a1 a2 && decide (1 ≤ xss.length) && decide (xss.length ≤ 16) && inB kw 1 8 && xss.all keysQ
/-- Cells of the call's own, or none. -/
def RetCs (w : World) (g : Bool) (a0 a1 a2 : Int) (y : List Int) (e : Ending) (w' : World) : Prop :=
  Below w.heap.size w w' ∧ ((g = false ∧ e = .returned (.tuple #[.agg #[.int .i64 0, .int .i64 0, .int .i64 0, .slice none 0 0], .bool false])) ∨
    (g = true ∧ ∃ A c, e = .returned (.tuple #[.agg #[.int .i64 a0, .int .i64 a1, .int .i64 a2, .slice (some A) y.length c], .bool true]) ∧ OwnE [] w' w.heap.size 2 (some A) y))
theorem all_take {α : Type} {f : α → Bool} {l : List α} {k : Nat} {x : α} (h : (l.take k).all f = true) (hk : l[k]? = some x) (hx : f x = true) : (l.take (k + 1)).all f = true := by
  rw [List.take_add_one, hk, List.all_append, h, Option.toList_some]
  simp [hx]
end Go.Proofs.Ytmmolicodlmlkaa
namespace Go.Proofs.Ytmmolicodlmlkaa
open Go.RowKit
open Go.Proofs.Ytmmolicodlmlkaa.Rel (Ints)
set_option linter.unusedVariables false
set_option linter.unusedSimpArgs false

set_option maxHeartbeats 1600000 in
theorem iNewCells_ex (a0 a1 a2 : Int) (w : World) (h0 : W64 a0) (h1 : W64 a1) (h2 : W64 a2) (hs : sidesB a0 a1 a2 = true) :
    Calls Try.prog 37 #[.int .i64 a0, .int .i64 a1, .int .i64 a2] w fun e w' => ∃ g, e = .returned (.tuple #[.agg #[.int .i64 a0, .int .i64 a1, .int .i64 a2, .slice (some ⟨g, 0, none⟩) (a0 * a1).toNat (a0 * a1).toNat], .bool true]) ∧ OwnE [] w' w.heap.size 2 (some ⟨g, 0, none⟩) (List.replicate (a0 * a1).toNat 0) ∧ Below w.heap.size w w' := by
  obtain ⟨e0, e1, e2⟩ := sidesB_iff hs
  clear hs
  obtain ⟨hm0, hm1⟩ := mul_sides e0 e1
  obtain ⟨n, hn⟩ := Int.eq_ofNat_of_zero_le (show 0 ≤ a0 * a1 by omega)
  have hn1 : n ≤ 384 := by omega
  have ew : IntKind.i64.wrap (a0 * a1) = (n : Int) := by rw [hn, IntKind.wrap_i64]; omega
  have HV := hid (vCells_new (c := a2) e0 e1 hn.symm)
  have hmk := run_make_row' (P := Try.prog) 22 2 (.int .i64 0) 8 Try.underlying22 (by kernel_rfl) rfl .i64 .i64 n (by omega) (by omega)
  have HN := hid hn
  have hZ : RdL (Value.int .i64) ((w.alloc (.cells #[.int .i64 0, .int .i64 0, .int .i64 0, .slice none 0 0] 37)).alloc (.cells (madeCells #[.int .i64 0] n) 2)) (some ⟨w.heap.size + 1, 0, none⟩) (List.replicate n 0) := by
    refine Blk.rd0 ?_ (t := 2)
    rw [madeCells_one, List.map_replicate]
    exact Blk.new2 _ _ _ _
  have HZ := hid hZ
  have HO : Hid (OwnE [] ((w.alloc (.cells #[.int .i64 0, .int .i64 0, .int .i64 0, .slice none 0 0] 37)).alloc (.cells (madeCells #[.int .i64 0] n) 2)) (w.heap.size + 1) 2 (some ⟨w.heap.size + 1, 0, none⟩) (List.replicate n 0)) := by
    refine ⟨_, rfl, by omega, ?_⟩
    rw [madeCells_one, List.map_replicate, List.append_nil]
    exact Blk.new2 _ _ _ _
  have R0 := hid ((Blk.new w 37 [.int .i64 0, .int .i64 0, .int .i64 0, .slice none 0 0]).alloc (.cells (madeCells #[.int .i64 0] n) 2))
  have hw0 : ∀ y ∈ List.replicate n (0 : Int), W64 y := fun y hy => by
    obtain ⟨_, rfl⟩ := List.mem_replicate.1 hy
    exact w64_of_bounds (by omega)
  have HW := hid hw0
  clear hn hm0 hm1 hZ hw0
  rw [HN.out, Int.toNat_natCast]
  go_enter Try.func37, Try.ntmps37
  go_wp2_with ((go_at_call 97; refine (within_any _ _ _ _).mono ?_; rintro e w' ⟨rfl, rfl⟩))
  refine (ifCells_yes a0 a1 a2 _ n n (List.replicate n 0) _ h0 h1 h2 (by simp) HZ.out (by omega) HW.out (HV.out.trans e2)).mono ?_
  rintro e w1 ⟨rfl, hb⟩
  obtain ⟨d0, d1, d2, d3⟩ := (R0.out.below hb).cells4
  have f0 := (R0.out.below hb).frozen 0
  have f1 := (R0.out.below hb).frozen 1
  have f2 := (R0.out.below hb).frozen 2
  have f3 := (R0.out.below hb).frozen 3
  have O1 := hid (HO.out.below hb)
  have S1 := below_call (below_a2 _ _ _) hb
  clear hb hmk ew
  go_wp2
  refine bodyPost_ret (v := .tuple #[.agg #[.int .i64 a0, .int .i64 a1, .int .i64 a2, .slice (some ⟨w.heap.size + 1, 0, none⟩) n n], .bool true]) (by simp [results, Try.results37, go_sem, d0, d1, d2, d3]) rfl ⟨w.heap.size + 1, rfl, ?_, ?_⟩
  · exact ((((O1.out.setFar (by simp) _).setFar (by simp) _).setFar (by simp) _).setFar (by simp) _).mono (by omega)
  · exact (((S1.out.setCell (by simp) _).setCell (by simp) _).setCell (by simp) _).setCell (by simp) _
set_option maxRecDepth 100000 in
theorem run_append_intsL {P : Program} (w : World) (base : Nat) (t ty e : TypeId) (i : TypeInfo) (ht : P.underlying t = some (.slice e)) (hi : P.info? e = some i) (hz : i.zero = some (.int .i64 0)) (hsize : i.size = 1) (hby : i.bytes = 8)
    (v : Value) (n : Nat) (xs : List Value) (hown : w.ownsRow base e 1 v n xs) (hv : IntsV w v) (a : Addr) (c : Nat) (hs : List Int) (hnews : ∀ j u, (hs.map (Value.int .i64))[j]? = some u → w.cell? (a.add j) = some u) (h63 : n + hs.length ≤ maxLen) (hbytes : (n + hs.length) * 8 ≤ 140737488355328) (hbase : base ≤ w.heap.size) :
    ∃ v' w', (Builtin.append_ #[t, t] ty #[v, .slice (some a) hs.length c]).run P w = .ok v' w' ∧ w'.ownsRow base e 1 v' (n + hs.length) (xs ++ hs.map (Value.int .i64)) ∧ w.grownBy w' v.ownBlock ∧ IntsV w' v' := by
  obtain ⟨v', w', hr, h2, h3, h4⟩ := run_append_own (P := P) w base t ty e i (.int .i64 0) 1 8 ht hi hz hsize hby rfl (by decide) v n xs hown a hs.length c (hs.map (Value.int .i64)) (by simp [hsize]) hnews (by intro u hu; obtain ⟨y, _, rfl⟩ := List.mem_map.1 hu; rfl) h63 hbytes hbase
  refine ⟨v', w', hr, h2, h3, fun g' hg' => ?_⟩
  have hz1 : (Value.int IntKind.i64 0).cells = #[Value.int .i64 0] := rfl
  have hx0 : ∀ x ∈ xs, ∃ k, x = Value.int .i64 k := by
    intro x hx
    rcases hown.2 with ⟨rfl, rfl⟩ | ⟨g, cap, cur, rfl, hbg, hg, hnc, hcm, hcs, htake⟩
    · have : xs = [] := List.eq_nil_of_length_eq_zero (by simpa using hown.1)
      subst this
      simp at hx
    · obtain ⟨c0, e0, q1, q2⟩ := hv g rfl
      rw [hg] at q1
      injection q1 with q1
      injection q1 with q1
      subst q1
      exact q2 x (by rw [← htake] at hx; simpa using List.mem_of_mem_take hx)
  have grown : ∀ k, ∀ x ∈ xs.toArray ++ (hs.map (Value.int .i64)).toArray ++ Builtin.zeroCells #[Value.int .i64 0] k, ∃ i, x = .int .i64 i := by
    intro k x hx
    rcases Array.mem_append.1 hx with hx | hx
    · rcases Array.mem_append.1 hx with hx | hx
      · exact hx0 x (by simpa using hx)
      · simp at hx; obtain ⟨y, _, rfl⟩ := hx; exact ⟨_, rfl⟩
    · exact zero_ints x hx
  have hm : (n + hs.length : Nat) ≤ 9223372036854775807 := by simp only [maxLen] at h63; omega
  rcases hown.2 with ⟨rfl, rfl⟩ | ⟨g, cap, cur, rfl, hbg, hg, hnc, hcm, hcs, htake⟩
  · have hx : xs = [] := List.eq_nil_of_length_eq_zero (by simpa using hown.1)
    subst hx
    by_cases hz0 : hs.length = 0
    · have := h4.2 ⟨rfl, hz0⟩
      subst this
      simp [Value.ownBlock] at hg'
    have hr2 := run_append_nil (P := P) w t ty e i (.int .i64 0) ht hi hz a hs.length c (hs.map (Value.int .i64)) (by rw [hsize]; simp) hnews (by omega) (by omega) (by rw [hby]; omega)
    rw [hr] at hr2
    injection hr2 with e1 e2
    subst e1; subst e2
    obtain rfl : w.heap.size = g' := by injection hg'
    exact ⟨_, e, heap_alloc_new w.drew _, by
      have := grown (grownCap w hs.length 0 e - hs.length)
      rw [hz1]
      simpa using this⟩
  · by_cases hroom : n + hs.length ≤ cap
    · have hr2 := run_append_room (P := P) w t ty e i ht hi g n cap cur hg a hs.length c (hs.map (Value.int .i64)) (by rw [hsize]; simp) hnews (by intro u hu; obtain ⟨y, _, rfl⟩ := List.mem_map.1 hu; rfl) hroom (by rw [hsize]; simp; omega)
      rw [hr] at hr2
      injection hr2 with e1 e2
      subst e1; subst e2
      obtain rfl : g = g' := by injection hg'
      refine ⟨_, e, setRow_heap w g cur _ e _ hg, fun x hx => ?_⟩
      obtain ⟨c0, e0, q1, q2⟩ := hv g rfl
      rw [hg] at q1
      injection q1 with q1
      injection q1 with q1
      subst q1
      simp only [List.append_assoc, List.mem_toArray, List.mem_append, List.mem_cons, List.not_mem_nil, or_false] at hx
      rcases hx with hx | hx | hx
      · exact q2 x (by simpa using List.mem_of_mem_take hx)
      · obtain ⟨y, _, rfl⟩ := List.mem_map.1 hx
        exact ⟨_, rfl⟩
      · exact q2 x (by simpa using List.mem_of_mem_drop hx)
    · have holds : ∀ j u, xs[j]? = some u → w.cell? ((⟨g, 0, none⟩ : Addr).add j) = some u := hown.cells (g := g) rfl
      have hr2 := run_append_grow (P := P) w t ty e i (.int .i64 0) ht hi hz ⟨g, 0, none⟩ n cap xs (by rw [hsize]; exact hown.1) holds a hs.length c (hs.map (Value.int .i64)) (by rw [hsize]; simp) hnews (by omega) (by omega) (growslice_fits (by omega) (by rw [hby]; exact hbytes))
      rw [hr] at hr2
      injection hr2 with e1 e2
      subst e1; subst e2
      obtain rfl : w.heap.size = g' := by injection hg'
      exact ⟨_, e, heap_alloc_new w.drew _, grown _⟩

theorem wpList_append_intsL {P : Program} {w : World} {ops : Array Oper} {rest : List Oper} {o : Oper} {a : Act} {Q : Exit → Act → World → Prop} (hgd : o.guard = none) (s x : Operand) (t : TypeId)
    (ho : o.op = .call { callee := .builtin .append, args := #[s, x], argTypes := #[t, t] }) (base : Nat) (e : TypeId) (i : TypeInfo) (ht : P.underlying t = some (.slice e)) (hi : P.info? e = some i) (hz : i.zero = some (.int .i64 0)) (hsize : i.size = 1) (hby : i.bytes = 8)
    (v : Value) (n : Nat) (xs : List Value) (hs' : a.eval s = v) (hown : w.ownsRow base e 1 v n xs) (hv : IntsV w v) (ad : Addr) (c : Nat) (hs : List Int) (hx : a.eval x = .slice (some ad) hs.length c) (hnews : ∀ j u, (hs.map (Value.int .i64))[j]? = some u → w.cell? (ad.add j) = some u) (h63 : n + hs.length ≤ maxLen) (hbytes : (n + hs.length) * 8 ≤ 140737488355328) (hbase : base ≤ w.heap.size)
    (hk : ∀ v' w', w'.ownsRow base e 1 v' (n + hs.length) (xs ++ hs.map (Value.int .i64)) → w.grownBy w' v.ownBlock → IntsV w' v' → wpList P ops Q rest (a.put o.dst v') w') : wpList P ops Q (o :: rest) a w := by
  refine wpList_plain hgd fun _ hK => ?_
  obtain ⟨v', w', hr, h2, h3, h4⟩ := run_append_intsL (P := P) w base t o.type e i ht hi hz hsize hby v n xs hown hv ad c hs hnews h63 hbytes hbase
  unfold Oper.wp execOp
  simp only [ho, resolve, invoke, builtin, Sem.run_bind, Sem.run_pure, Result.andThen_ok, List.map_toArray, List.map_cons, List.map_nil, hs', hx, hr]
  exact hK _ _ (hk v' w' h2 h3 h4)
set_option maxRecDepth 100000 in
set_option maxHeartbeats 800000 in
theorem cloneI_ints (A : Option Addr) (c : Nat) (x : List Int) (w : World) (hx : RdL (Value.int .i64) w A x) (hn : x.length ≤ 1048576) :
    Calls Try.prog 118 #[.slice A x.length c] w (RetLN (Value.int .i64) 2 w x) := by
  obtain ⟨i0, hi0, hz0, hz1, hz2⟩ := info_parts Try.infoI
  have q22 : ∀ (w : World) (a : Option Addr) (n c n' c' : Nat), (binOp .eql 22 (.slice a n c) (.slice none n' c')).run Try.prog w = .ok (.bool a.isNone) w := fun w a n c n' c' => Lib.run_eql_slice_nil w _ _ a n c n' c' Try.underlying22
  cases A with
  | none =>
    obtain rfl := rd_none hx
    go_enter Try.func118, Try.ntmps118
    go_wp2
    go_ret
    exact ⟨none, 0, rfl, OwnS.nil, by simp, Below.refl _ _⟩
  | some ad =>
    have HX := hid hx
    clear hx
    go_enter Try.func118, Try.ntmps118
    go_wp2_with (at_builtin; refine wpList_append_intsL rfl _ _ 22 rfl w.heap.size 2 i0 Try.underlying22 hi0 hz0 hz1 hz2 _ 0 [] rfl (World.ownsRow_made w #[] 0 (Nat.le_refl _) (Nat.zero_le _) rfl) IntsV.made ad c x rfl (rd_news (HX.out.below (below_a1 _ _))) ?c3 ?c4 ?c5 ?_)
    case c3 => simp only [maxLen]; omega
    case c4 => omega
    case c5 => simp
    intro v' w1 hown' hgrow hI'
    have O1 := hid hown'
    have I1 := hid hI'
    have W1 : Hid (Below w.heap.size w w1) := ((Below.refl _ w).alloc (Nat.le_refl _) _).grown hgrow (by simp) (by intro k hk; simp [Value.ownBlock] at hk; omega)
    clear hown' hgrow hI'
    go_wp2
    go_ret
    obtain ⟨A', c', hv, ho, hnw⟩ := ownS_of_rowN (f := (Value.int .i64)) (xs := x) (n := 0 + x.length) (by simpa using O1.out) I1.out (by simp)
    exact ⟨A', c', congrArg Ending.returned hv, ho, hnw, W1.out⟩
end Go.Proofs.Ytmmolicodlmlkaa
namespace Go.Proofs.Ytmmolicodlmlkaa.Ph
open Go.Conc Go.ConcN Go.RowKit
open Go.Proofs.Ytmmolicodlmlkaa.Rel
set_option linter.unusedVariables false
set_option linter.unusedSimpArgs false

/-- However long the list is. -/
theorem AreKeys_all (A : Option Addr) (c : Nat) (xs : List Int) (w : World) (hx : RdL (Value.int .i64) w A xs) :
    Calls Try.prog 65 #[.slice A xs.length c] w fun e w' => e = .returned (.bool (keysQ xs)) ∧ w = w' := by
  by_cases h0 : xs.length ≤ 1048576
  · exact AreKeys_q A c xs w hx h0
  · have h : ¬ (xs.length : Int) ≤ 256 := by omega
    clear hx h0
    go_enter Try.func65, Try.ntmps65
    go_wp2
    go_ret
    exact ⟨by simp [keysQ]; omega, rfl⟩
theorem notKeys_any (R : Option Addr) (cc : Nat) (x : List Int) (w : World) (hx : RdL (Value.int .i64) w R x) :
    Calls Try.prog 89 #[.slice R x.length cc] w fun e w' => e = .returned (.bool (!keysQ x)) ∧ w = w' := by
  have HX := hid hx
  go_enter Try.func89, Try.ntmps89
  go_wp2_with (go_at_call 65; refine (AreKeys_all R cc x _ HX.out).mono ?_; rintro e w' ⟨rfl, rfl⟩)
  go_ret
  exact ⟨rfl, rfl⟩
theorem any_take2 {p : List Int → Bool} {l : List (List Int)} {k : Nat} {x : List Int} (h : Hid ((l.take k).any p = false)) (hx : Hid (l[k]? = some x)) (hp : p x = false) : (l.take (k + 1)).any p = false := by
  have := h.out
  rw [List.take_add_one, hx.out, List.any_append, this]
  simp [hp]
theorem any_yes2 {p : List Int → Bool} {l : List (List Int)} {k : Nat} {x : List Int} (hx : Hid (l[k]? = some x)) (hp : p x = true) : l.any p = true := by
  rw [List.any_eq_true]
  exact ⟨x, List.mem_of_getElem? hx.out, hp⟩
set_option maxHeartbeats 1600000 in
theorem IndexFuncL_any (A : Option Addr) (c : Nat) (xss : List (List Int)) (w : World) (hx : RdLL w A xss) (hn : xss.length ≤ 1048576) :
    Calls Try.prog 129 #[.slice A xss.length c, .func (.func 89) #[] #[]] w fun e w' => (∃ i : Int, e = .returned (.int .i64 i) ∧ decide (i ≥ 0) = xss.any fun x => !keysQ x) ∧ w = w' := by
  have HX := hid hx
  clear hx
  go_enter Try.func129, Try.ntmps129
  go_wp2
  go_loop [8] (fun i => ∃ k : Nat, k ≤ xss.length ∧ i = .int .i64 k ∧ Hid ((xss.take k).any (fun x => !keysQ x) = false)) (fun i => xss.length - (intOf i).toNat)
  case atStart => exact ⟨0, Nat.zero_le _, rfl, by show (xss.take 0).any _ = false; simp⟩
  case round =>
    obtain ⟨k, hk, rfl, hh⟩ := hrel
    by_cases hlt : k < xss.length
    · have hi : (k : Int) < (xss.length : Int) := by omega
      obtain ⟨C, o1, R, cc, rfl, hc, hrd⟩ := HX.out k hlt
      have hxk : Hid (xss[k]? = some xss[k]) := by show _ = _; rw [List.getElem?_eq_getElem hlt]
      generalize xss[k] = L at hc hrd hxk
      go_wp2_with fail
      refine (notKeys_any R cc L _ hrd).mono ?_
      rintro e w' ⟨rfl, rfl⟩
      cases hp : (!keysQ L) with
      | true =>
        have he := hid (any_yes2 (p := fun x => !keysQ x) hxk hp)
        clear hp hrd
        go_wp2
        go_ret
        exact ⟨⟨k, rfl, by rw [he.out, decide_eq_true (by omega)]⟩, rfl⟩
      | false =>
        have he := hid (any_take2 (p := fun x => !keysQ x) hh hxk hp)
        clear hp hrd
        go_wp2
        exact ⟨⟨k + 1, by omega, by go_num, he⟩, by simp [intOf]; omega⟩
    · have hi : ¬ (k : Int) < (xss.length : Int) := by omega
      go_wp2
      go_ret
      have he := hh.out
      rw [List.take_of_length_le (by omega)] at he
      exact ⟨⟨-1, rfl, by rw [he]; decide⟩, rfl⟩
theorem ContainsFuncL_any (A : Option Addr) (c : Nat) (xss : List (List Int)) (w : World) (hx : RdLL w A xss) (hn : xss.length ≤ 1048576) :
    Calls Try.prog 88 #[.slice A xss.length c, .func (.func 89) #[] #[]] w fun e w' => e = .returned (.bool (xss.any fun x => !keysQ x)) ∧ w = w' := by
  have HX := hid hx
  clear hx
  go_enter Try.func88, Try.ntmps88
  go_wp2_with fail
  refine (IndexFuncL_any A c xss _ HX.out hn).mono ?_
  rintro e w' ⟨⟨i, rfl, hi⟩, rfl⟩
  generalize hg : (xss.any fun x => !keysQ x) = g at hi ⊢
  go_wp2
  go_ret
  exact ⟨ret_bool hg.symm, rfl⟩
noncomputable def csCode : Code := match Try.f28.body with | some c => c | _ => .skip
/-- The slots of impl.CellsShared; T: what is of no matter. -/
abbrev arrCS (T : Nat → Value) (kw : Int) (bl br bo bm : Nat) : Array Value := #[T 0, T 1, T 2, T 3, .int .i64 kw, T 5, T 6, T 7, ptrB bl, T 9, ptrB br, .bool false, ptrB bo, T 13, ptrB bm, T 15, T 16, T 17, T 18, T 19, T 20, T 21, T 22, T 23, T 24, T 25, T 26, T 27, T 28, T 29, T 30, T 31, T 32, T 33, T 34, T 35, T 36, T 37, T 38, T 39, T 40, T 41, T 42, T 43, T 44, T 45, T 46, T 47, T 48, T 49, T 50, T 51, T 52, T 53, T 54, T 55, T 56, T 57, T 58, T 59, T 60, T 61, T 62, T 63, T 64, T 65, T 66, T 67, T 68, T 69, T 70, T 71, T 72, T 73, T 74, T 75, T 76, T 77, T 78, T 79, T 80]
abbrev actCS (a0 a1 a2 : Int) (A : Option Addr) (n c : Nat) (kw : Int) : Act := ⟨#[.int .i64 a0, .int .i64 a1, .int .i64 a2, .slice A n c, .int .i64 kw, undef, undef, undef, undef, undef, undef, undef, undef, undef, undef, undef, undef, undef, undef, undef, undef, undef, undef, undef, undef, undef, undef, undef, undef, undef, undef, undef, undef, undef, undef, undef, undef, undef, undef, undef, undef, undef, undef, undef, undef, undef, undef, undef, undef, undef, undef, undef, undef, undef, undef, undef, undef, undef, undef, undef, undef, undef, undef, undef, undef, undef, undef, undef, undef, undef, undef, undef, undef, undef, undef, undef, undef, undef, undef, undef, undef], []⟩
/-- What stands at the call of sharedWork. -/
def PreCS (a0 a1 a2 : Int) (A : Option Addr) (c : Nat) (xss : List (List Int)) (kw : Int) (n B : Nat) (a' : Act) (w' : World) : Prop :=
  ∃ bl br bo bm C g, a'.defers = [] ∧ a'.tmps = arrCS (fun i => a'.tmps.getD i undef) kw bl br bo bm ∧ B ≤ bl ∧ B ≤ br ∧ B ≤ bo ∧ B ≤ bm ∧ B ≤ C ∧ B ≤ g ∧ bl ≠ C ∧ br ≠ C ∧ bo ≠ C ∧ bm ≠ C ∧ g ≠ C ∧ bl ≠ g ∧ br ≠ g ∧ bo ≠ g ∧ bm ≠ g ∧ bo ≠ br ∧ bm ≠ br ∧ bl ≠ br ∧
    w'.heap[bl]? = some (.cells #[.slice A xss.length c] 29 (0, 0)) ∧ w'.heap[br]? = some (.cells #[.int .i64 0, .int .i64 0, .int .i64 0, .slice none 0 0] 37 (0, 0)) ∧
    w'.heap[bo]? = some (.cells #[.int .i64 a0, .int .i64 a1, .int .i64 a2, .slice (some ⟨g, 0, none⟩) n n] 37 (0, 0)) ∧ w'.heap[bm]? = some (.cells #[.slice (some ⟨C, 0, none⟩) xss.length xss.length] 78 (0, 0)) ∧
    (∃ cs, w'.heap[C]? = some (.cells cs 37 (0, 0)) ∧ cs.size = 4 * xss.length) ∧ Blk w' g 2 ((List.replicate n (0 : Int)).map (Value.int .i64))
theorem infoCs : (Try.prog.info? 37).map (fun i => (i.zero, i.size, i.bytes)) = some (some (.agg #[.int .i64 0, .int .i64 0, .int .i64 0, .slice none 0 0]), 4, 48) := by kernel_rfl
set_option maxRecDepth 100000 in
set_option maxHeartbeats 4000000 in
theorem cs_reach (a0 a1 a2 : Int) (A : Option Addr) (c : Nat) (xss : List (List Int)) (kw : Int) (n : Nat) (w : World) (h0 : W64 a0) (h1 : W64 a1) (h2 : W64 a2) (hx : RdLL w A xss) (hg : gateCS a0 a1 a2 xss kw = true) (hn : (n : Int) = a0 * a1) :
    Rel.Reach Try.prog 4 csCode (PreCS a0 a1 a2 A c xss kw n w.heap.size) (actCS a0 a1 a2 A xss.length c kw) w := by
  have HX := hid hx
  simp only [gateCS, Bool.and_eq_true, decide_eq_true_eq] at hg
  obtain ⟨⟨⟨⟨g1, g2⟩, g3⟩, g4⟩, g5⟩ := hg
  have l1 : ¬ (xss.length : Int) < 1 := by omega
  have l2 : ¬ (xss.length : Int) > 16 := by omega
  have hnq : (xss.any fun x => !keysQ x) = false := by
    rw [List.any_eq_false]
    intro x hx
    have := List.all_eq_true.1 g5 x hx
    simp [this]
  obtain ⟨i0, hi0, hz0, hz1, hz2⟩ := info_parts infoCs
  have hmk : ∀ w : World, (Instr.makeSlice 78 (.int .i64 (xss.length : Int)) (.int .i64 (xss.length : Int))).run Try.prog w = .ok (.slice (some ⟨w.heap.size, 0, none⟩) xss.length xss.length) (w.alloc (.cells (madeCells #[.int .i64 0, .int .i64 0, .int .i64 0, .slice none 0 0] (xss.length * 4)) 37)) := fun w => by
    have h := run_make (P := Try.prog) w 78 37 i0 (.agg #[.int .i64 0, .int .i64 0, .int .i64 0, .slice none 0 0]) Try.underlying78 hi0 hz0 .i64 .i64 (xss.length : Int) (xss.length : Int) (by omega) (by omega) (by rw [hz2]; omega) (by omega)
    rw [hz1] at h
    simp only [Int.toNat_natCast] at h
    exact h
  clear hx g2 g3 g5
  simp only [csCode, Try.f28]
  refine reach_seq ?_
  go_wp2
  refine reach_seq ?_
  have hNC := iNewCells_ex a0 a1 a2 ((w.alloc (.cells #[.slice A xss.length c] 29)).alloc (.cells #[.int .i64 0, .int .i64 0, .int .i64 0, .slice none 0 0] 37)) h0 h1 h2 g1
  rw [← hn, Int.toNat_natCast] at hNC
  have HNC := hid hNC
  clear hNC hn
  go_wp2_with fail
  refine HNC.out.mono ?_
  rintro e w1 ⟨g, rfl, ho, hb⟩
  have hsz : w.heap.size + 2 ≤ w1.heap.size := by have := hb.size; simp at this; omega
  obtain ⟨g', eg, hgB, hgb⟩ := ho
  injection eg with eg
  injection eg with eg
  subst eg
  have hgB' : w.heap.size + 2 ≤ g := by simp at hgB; omega
  have hgl := hgb.lt
  have hB1 : Below w.heap.size w w1 := (below_a2 w (.cells #[.slice A xss.length c] 29) (.cells #[.int .i64 0, .int .i64 0, .int .i64 0, .slice none 0 0] 37)).trans (hb.mono (by simp only [World.size_alloc]; omega))
  have q1 : w1.heap[w.heap.size]? = some (.cells #[.slice A xss.length c] 29 (0, 0)) := by
    rw [hb.block _ (by simp; omega), heap_alloc_old _ _ (by simp), heap_alloc_new]
  have q2 : w1.heap[w.heap.size + 1]? = some (.cells #[.int .i64 0, .int .i64 0, .int .i64 0, .slice none 0 0] 37 (0, 0)) := by
    rw [hb.block _ (by simp)]
    have := heap_alloc_new (w.alloc (.cells #[.slice A xss.length c] 29)) (.cells #[.int .i64 0, .int .i64 0, .int .i64 0, .slice none 0 0] 37)
    simpa only [World.size_alloc] using this
  have HX1 := hid (HX.out.below ((hB1.alloc (by omega) (.cells #[.int .i64 a0, .int .i64 a1, .int .i64 a2, .slice (some ⟨g, 0, none⟩) n n] 37))))
  have hcl : (w1.alloc (.cells #[.int .i64 a0, .int .i64 a1, .int .i64 a2, .slice (some ⟨g, 0, none⟩) n n] 37)).cell? ⟨w.heap.size, 0, none⟩ = some (.slice A xss.length c) := by
    refine cell0 (t := 29) (fr := (0, 0)) ?_
    rw [heap_alloc_old _ _ (by omega)]; exact q1
  have Q1 := hid q1
  have Q2 := hid q2
  have HGB := hid hgb
  have HGL := hid hgl
  have hq1 : w.heap.size < w1.heap.size := by omega
  clear hb q1 q2 hgb hgl hgB
  go_wp2
  refine reach_seq ?_
  go_wp2_with (first | (go_at_call 80; refine (areWorkers_any kw _).mono ?_; rw [g4]; rintro e w' ⟨rfl, rfl⟩) | (go_at_call 88; refine (ContainsFuncL_any A c xss _ HX1.out (by omega)).mono ?_; rw [hnq]; rintro e w' ⟨rfl, rfl⟩))
  clear hnq l1 l2 g4
  refine reach_seq ?_
  go_wp2_with (simp only [hmk])
  clear hmk
  refine reach_here ?_
  generalize ho1 : Obj.cells #[Value.int .i64 a0, Value.int .i64 a1, Value.int .i64 a2, Value.slice (some ⟨g, 0, none⟩) n n] 37 = o1
  generalize ho2 : Obj.cells (madeCells #[.int .i64 0, .int .i64 0, .int .i64 0, .slice none 0 0] (xss.length * 4)) 37 = o2
  generalize ho3 : Obj.cells #[Value.slice (some ⟨w1.heap.size + 1, 0, none⟩) xss.length xss.length] 78 = o3
  have old : ∀ b, b < w1.heap.size → (((w1.alloc o1).alloc o2).alloc o3).heap[b]? = w1.heap[b]? := fun b hb => by
    rw [heap_alloc_old _ _ (by simp only [World.size_alloc]; omega), heap_alloc_old _ _ (by simp only [World.size_alloc]; omega), heap_alloc_old _ _ (by omega)]
  have e1 : (((w1.alloc o1).alloc o2).alloc o3).heap[w1.heap.size]? = some o1 := by
    rw [heap_alloc_old _ _ (by simp only [World.size_alloc]; omega), heap_alloc_old _ _ (by simp only [World.size_alloc]; omega), heap_alloc_new]
  have e2 : (((w1.alloc o1).alloc o2).alloc o3).heap[w1.heap.size + 1]? = some o2 := by
    rw [heap_alloc_old _ _ (by simp only [World.size_alloc]; omega)]
    have := heap_alloc_new (w1.alloc o1) o2
    simpa only [World.size_alloc] using this
  have e3 : (((w1.alloc o1).alloc o2).alloc o3).heap[w1.heap.size + 1 + 1]? = some o3 := by
    have := heap_alloc_new ((w1.alloc o1).alloc o2) o3
    simpa only [World.size_alloc] using this
  have hgl := HGL.out
  refine ⟨w.heap.size, w.heap.size + 1, w1.heap.size, w1.heap.size + 1 + 1, w1.heap.size + 1, g, rfl, by kernel_rfl, by omega, by omega, by omega, by omega, by omega, by omega, by omega, by omega, by omega, by omega, by omega, by omega, by omega, by omega, by omega, by omega, by omega, by omega, ?_, ?_, ?_, ?_, ?_, ?_⟩
  · rw [old _ (by omega)]; exact Q1.out
  · rw [old _ (by omega)]; exact Q2.out
  · rw [e1, ← ho1]
  · rw [e3, ← ho3]
  · refine ⟨_, by rw [e2, ← ho2], ?_⟩
    rw [size_madeCells, Nat.mul_comm]
  · have := HGB.out
    rw [List.append_nil] at this
    exact (old g hgl).trans this
end Go.Proofs.Ytmmolicodlmlkaa.Ph
namespace Go.Proofs.Ytmmolicodlmlkaa.Ph
open Go.Conc Go.ConcN Go.RowKit
open Go.Proofs.Ytmmolicodlmlkaa.Rel
set_option linter.unusedVariables false
set_option linter.unusedSimpArgs false

abbrev noCs : Value := .tuple #[.agg #[.int .i64 0, .int .i64 0, .int .i64 0, .slice none 0 0], .bool false]
set_option maxRecDepth 100000 in
set_option maxHeartbeats 8000000 in
theorem cs_rets (a0 a1 a2 : Int) (A : Option Addr) (c : Nat) (xss : List (List Int)) (kw : Int) (w : World) (h0 : W64 a0) (h1 : W64 a1) (h2 : W64 a2) (hx : RdLL w A xss) (hg : gateCS a0 a1 a2 xss kw = false) :
    Rets Try.prog 28 3 csCode (fun u w' => u = noCs ∧ Below w.heap.size w w') (actCS a0 a1 a2 A xss.length c kw) w := by
  have HX := hid hx
  clear hx
  simp only [Rets, csCode, Try.f28, cut]
  have R0 := hid (Blk.new2 w (.cells #[.slice A xss.length c] 29) 37 [.int .i64 0, .int .i64 0, .int .i64 0, .slice none 0 0])
  have L0 : Hid (((w.alloc (.cells #[.slice A xss.length c] 29)).alloc (.cells #[.int .i64 0, .int .i64 0, .int .i64 0, .slice none 0 0] 37)).heap[w.heap.size]? = some (.cells #[.slice A xss.length c] 29 (0, 0))) := by
    show _ = _
    rw [heap_alloc_old _ _ (by simp), heap_alloc_new]
  cases g1 : sidesB a0 a1 a2 with
  | false =>
    clear hg
    have HNC := hid (iNewCells_any a0 a1 a2 ((w.alloc (.cells #[.slice A xss.length c] 29)).alloc (.cells #[.int .i64 0, .int .i64 0, .int .i64 0, .slice none 0 0] 37)) h0 h1 h2)
    rw [pNewCells_no g1] at HNC
    go_wp2_with fail
    refine HNC.out.mono ?_
    rintro e w1 ⟨A1, c1, rfl, ho, hln, hb⟩
    simp only [List.length_nil]
    have hsz := hb.size
    simp only [World.size_alloc] at hsz
    have R1 := hid ((R0.out.below hb).alloc (.cells #[.int .i64 0, .int .i64 0, .int .i64 0, .slice A1 0 c1] 37))
    have S1 : Hid (Below w.heap.size w (w1.alloc (.cells #[.int .i64 0, .int .i64 0, .int .i64 0, .slice A1 0 c1] 37))) := ((below_a2 w _ _).trans (hb.mono (by simp only [World.size_alloc]; omega))).alloc (by omega) _
    obtain ⟨d0, d1, d2, d3⟩ := R1.out.cells4
    have f0 := R1.out.frozen 0
    have f1 := R1.out.frozen 1
    have f2 := R1.out.frozen 2
    have f3 := R1.out.frozen 3
    clear ho hb R0 L0 HNC
    go_wp2
    refine ⟨noCs, by simp [results, Try.results28, go_sem, d0, d1, d2, d3], rfl, ?_⟩
    exact (((S1.out.setCell (by simp) _).setCell (by simp) _).setCell (by simp) _).setCell (by simp) _
  | true =>
  have hNC := iNewCells_ex a0 a1 a2 ((w.alloc (.cells #[.slice A xss.length c] 29)).alloc (.cells #[.int .i64 0, .int .i64 0, .int .i64 0, .slice none 0 0] 37)) h0 h1 h2 g1
  generalize (a0 * a1).toNat = n at hNC
  have HNC := hid hNC
  clear hNC
  go_wp2_with fail
  refine HNC.out.mono ?_
  rintro e w1 ⟨g, rfl, ho, hb⟩
  have hsz := hb.size
  simp only [World.size_alloc] at hsz
  have R1 := hid ((R0.out.below hb).alloc (.cells #[.int .i64 a0, .int .i64 a1, .int .i64 a2, .slice (some ⟨g, 0, none⟩) n n] 37))
  have S1 : Hid (Below w.heap.size w (w1.alloc (.cells #[.int .i64 a0, .int .i64 a1, .int .i64 a2, .slice (some ⟨g, 0, none⟩) n n] 37))) := ((below_a2 w _ _).trans (hb.mono (by simp only [World.size_alloc]; omega))).alloc (by omega) _
  have HX1 := hid (HX.out.below S1.out)
  have hq1 : w.heap.size < w1.heap.size := by omega
  have hcl : (w1.alloc (.cells #[.int .i64 a0, .int .i64 a1, .int .i64 a2, .slice (some ⟨g, 0, none⟩) n n] 37)).cell? ⟨w.heap.size, 0, none⟩ = some (.slice A xss.length c) := by
    refine cell0 (t := 29) (fr := (0, 0)) ?_
    rw [heap_alloc_old _ _ (by omega), hb.block _ (by simp only [World.size_alloc]; omega)]; exact L0.out
  obtain ⟨d0, d1, d2, d3⟩ := R1.out.cells4
  have f0 := R1.out.frozen 0
  have f1 := R1.out.frozen 1
  have f2 := R1.out.frozen 2
  have f3 := R1.out.frozen 3
  clear ho hb R0 L0 HNC
  by_cases g2 : (xss.length : Int) < 1
  · clear hg
    go_wp2
    refine ⟨noCs, by simp [results, Try.results28, go_sem, d0, d1, d2, d3], rfl, ?_⟩
    exact (((S1.out.setCell (by simp) _).setCell (by simp) _).setCell (by simp) _).setCell (by simp) _
  by_cases g3 : (xss.length : Int) > 16
  · clear hg
    go_wp2
    refine ⟨noCs, by simp [results, Try.results28, go_sem, d0, d1, d2, d3], rfl, ?_⟩
    exact (((S1.out.setCell (by simp) _).setCell (by simp) _).setCell (by simp) _).setCell (by simp) _
  cases g4 : Go.Proofs.Ytmmolicodlmlkaa.inB kw 1 8 with
  | false =>
    clear hg
    go_wp2_with (go_at_call 80; refine (areWorkers_any kw _).mono ?_; rw [g4]; rintro e w' ⟨rfl, rfl⟩)
    refine ⟨noCs, by simp [results, Try.results28, go_sem, d0, d1, d2, d3], rfl, ?_⟩
    exact (((S1.out.setCell (by simp) _).setCell (by simp) _).setCell (by simp) _).setCell (by simp) _
  | true =>
  have hnq : (xss.any fun x => !keysQ x) = true := by
    have : xss.all keysQ = false := by
      cases h : xss.all keysQ with
      | false => rfl
      | true =>
        simp only [gateCS, g1, g4, h, Bool.true_and, Bool.and_true] at hg
        rw [decide_eq_true (show 1 ≤ xss.length by omega), decide_eq_true (show xss.length ≤ 16 by omega)] at hg
        cases hg
    rw [List.all_eq_false] at this
    rw [List.any_eq_true]
    obtain ⟨x, hx, hq⟩ := this
    exact ⟨x, hx, by simpa using hq⟩
  clear hg
  go_wp2_with (first | (go_at_call 80; refine (areWorkers_any kw _).mono ?_; rw [g4]; rintro e w' ⟨rfl, rfl⟩) | (go_at_call 88; refine (ContainsFuncL_any A c xss _ HX1.out (by omega)).mono ?_; rw [hnq]; rintro e w' ⟨rfl, rfl⟩))
  refine ⟨noCs, by simp [results, Try.results28, go_sem, d0, d1, d2, d3], rfl, ?_⟩
  exact (((S1.out.setCell (by simp) _).setCell (by simp) _).setCell (by simp) _).setCell (by simp) _
end Go.Proofs.Ytmmolicodlmlkaa.Ph
namespace Go.Proofs.Ytmmolicodlmlkaa
open Go.RowKit
open Go.Proofs.Ytmmolicodlmlkaa.Rel (Ints cut NoExit ops_upto)
open Go.Conc (base enter_at)
set_option linter.unusedVariables false
set_option linter.unusedSimpArgs false

/-- The lone walk comes to an operation of a region. -/
def ReachO (P : Program) (c : Code) (ops : Array Oper) (rest : List Nat) (Pre : Act → World → Prop) (a : Act) (w : World) : Prop :=
  ∀ (b : Frame) (cs : List Frame), ∃ a' w', Pre a' w' ∧ Steps P (lone (b.at a [.code c]) cs w) (lone (b.at a' [.inRegion ops rest]) cs w')
theorem reachO_seq {P : Program} {x y : Code} {ops : Array Oper} {rest : List Nat} {Pre : Act → World → Prop} {a : Act} {w : World} (h : x.wp P (Exit.then (fun a w => ReachO P y ops rest Pre a w) NoExit) a w) : ReachO P (.seq x y) ops rest Pre a w := by
  intro b cs
  obtain ⟨e, a₁, w₁, hq, harr⟩ := h b [.code y] cs
  cases e with
  | normal =>
    obtain ⟨a₂, w₂, hp, hs⟩ := hq b cs
    exact ⟨a₂, w₂, hp, Steps.trans (.head step_seq harr) hs⟩
  | exit id => exact hq.elim
  | goto l => exact hq.elim
  | ret => exact hq.elim
  | panic ch => exact hq.elim
  | outgrown => exact hq.elim
theorem reachO_region {P : Program} {id : Nat} {l l' : List Oper} {n : Nat} {Pre : Act → World → Prop} {a : Act} {w : World} (hl : l.take n = l') (hn : l.length = n + 1) (hg : l.all (fun o => o.guard.isNone) = true) (h : wpList P l'.toArray (fun e a w => e = .normal ∧ Pre a w) l' a w) : ReachO P (.region id l.toArray false) l.toArray [n] Pre a w := by
  intro b cs
  subst hl
  have hlen : (l.take n).length = n := by simp; omega
  have h2 : wpOps P (l.take n).toArray (fun e a w => e = .normal ∧ Pre a w) (List.range' 0 n ++ []) a w := by
    have := wpOps_eq_wpList (P := P) (ops := (l.take n).toArray) (Q := fun e a w => e = .normal ∧ Pre a w) (l.take n) 0 (by simp)
    rw [hlen] at this
    rw [List.append_nil, this]; exact h
  have hag : ∀ i ∈ List.range' 0 n, (l.take n).toArray[i]? = l.toArray[i]? ∧ ∀ o, l.toArray[i]? = some o → o.guard = none := by
    intro i hi
    have hi' : i < n := by simpa using hi
    refine ⟨by simp [List.getElem?_take, hi'], fun o ho => ?_⟩
    have := List.all_eq_true.1 hg o (List.mem_of_getElem? (by simpa using ho))
    simpa using this
  obtain ⟨a', w', hq, hs⟩ := ops_upto (P := P) (ops := l.toArray) (rest := [n]) (fun e a w hne h => hne h.1) (List.range' 0 n) hag a w h2 b [] cs
  refine ⟨a', w', hq.2, .head step_region ?_⟩
  have e : List.range l.toArray.size = List.range' 0 n ++ [n] := by
    rw [List.size_toArray, hn, List.range_succ, List.range_eq_range']
  rw [e]; exact hs
set_option maxHeartbeats 1600000 in
theorem copyCells_ints (a0 a1 a2 : Int) (A : Option Addr) (c : Nat) (x : List Int) (w : World) (hx : RdL (Value.int .i64) w A x) (hn : x.length ≤ 1048576) (h0 : 0 < x.length) :
    Calls Try.prog 91 #[.agg #[.int .i64 a0, .int .i64 a1, .int .i64 a2, .slice A x.length c]] w fun e w' => ∃ g ex c', e = .returned (.agg #[.int .i64 a0, .int .i64 a1, .int .i64 a2, .slice (some ⟨g, 0, none⟩) x.length c']) ∧ OwnE ex w' w.heap.size 2 (some ⟨g, 0, none⟩) x ∧ (∀ v ∈ ex, ∃ i, v = .int .i64 i) ∧ Below w.heap.size w w' := by
  have HX := hid hx
  have B0 := hid ((Blk.new w 37 [.int .i64 a0, .int .i64 a1, .int .i64 a2, .slice A x.length c]).alloc (.cells #[.int .i64 0, .int .i64 0, .int .i64 0, .slice none 0 0] 37))
  have R0 := hid (Blk.new2 w (.cells #[.int .i64 a0, .int .i64 a1, .int .i64 a2, .slice A x.length c] 37) 37 [.int .i64 0, .int .i64 0, .int .i64 0, .slice none 0 0])
  clear hx
  go_enter Try.func91, Try.ntmps91
  go_wp2_with fail
  refine (cloneI_ints A c x _ (HX.out.below (below_a2 _ _ _)) hn).mono ?_
  rintro e w1 ⟨A1, c1, rfl, ho, hI, hb⟩
  obtain ⟨g, ex, rfl, hgB, hgb⟩ := ho (by rintro rfl; simp at h0)
  have hex : ∀ v ∈ ex, ∃ i, v = .int .i64 i := by
    intro v hv
    obtain ⟨cs, e, q1, q2⟩ := (hI _ rfl).2.1
    have q3 : w1.heap[g]? = some (.cells (x.map (Value.int .i64) ++ ex).toArray 2 (0, 0)) := hgb
    rw [q3] at q1
    injection q1 with q1
    injection q1 with q1 _ _
    subst q1
    exact q2 v (by simp [hv])
  have ho' : OwnE ex w1 (w.heap.size + 2) 2 (some ⟨g, 0, none⟩) x := ⟨g, rfl, by simpa using hgB, hgb⟩
  obtain ⟨c0, c1', c2, c3⟩ := (B0.out.below hb).cells4
  have g3 := (B0.out.below hb).frozen 3
  obtain ⟨d0, d1, d2, d3⟩ := (R0.out.below hb).cells4
  have f0 := (R0.out.below hb).frozen 0
  have f1 := (R0.out.below hb).frozen 1
  have f2 := (R0.out.below hb).frozen 2
  have f3 := (R0.out.below hb).frozen 3
  have S1 := below_call (below_a2 _ _ _) hb
  have O1 := hid ho'
  have HE := hid hex
  clear hb B0 R0 ho ho' hex hI hgb hgB
  go_wp2
  refine bodyPost_ret (v := .agg #[.int .i64 a0, .int .i64 a1, .int .i64 a2, .slice (some ⟨g, 0, none⟩) x.length c1]) (by simp [results, Try.results91, go_sem, d0, d1, d2, d3]) rfl ⟨g, ex, c1, rfl, ?_, HE.out, ?_⟩
  · exact (((((O1.out.setFar (by simp <;> omega) _).setFar (by simp <;> omega) _).setFar (by simp <;> omega) _).setFar (by simp <;> omega) _).setFar (by simp <;> omega) _).mono (by omega)
  · exact ((((S1.out.setCell (by simp) _).setCell (by simp) _).setCell (by simp) _).setCell (by simp) _).setCell (by simp) _
end Go.Proofs.Ytmmolicodlmlkaa
namespace Go.Proofs.Ytmmolicodlmlkaa
open Go.RowKit
open Go.Proofs.Ytmmolicodlmlkaa.Rel (Ints cut NoExit ops_upto)
open Go.Conc (base enter_at)
set_option linter.unusedVariables false
set_option linter.unusedSimpArgs false

noncomputable def csBody : Code := match Try.f90.body with | some c => c | _ => .skip
noncomputable def csOps : Array Oper := match Try.f90.body with | some (.seq _ (.seq _ (.region _ ops _))) => ops | _ => #[]
abbrev csAct (i : Int) (bo bl bm : Nat) : Act := ⟨#[.int .i64 i, ptrB bo, ptrB bl, ptrB bm, undef, undef, undef, undef, undef, undef, undef, undef, undef, undef, undef, undef, undef, undef, undef, undef, undef, undef, undef, undef, undef, undef, undef, undef, undef, undef, undef, undef, undef, undef, undef, undef, undef, undef, undef, undef, undef, undef], []⟩
set_option maxRecDepth 100000 in
set_option maxHeartbeats 8000000 in
theorem cs_run (wd dp s n g i C nn cL c : Nat) (AL : Option Addr) (xss : List (List Int)) (L : List Int) (bo bl bm : Nat) (w : World) (hw1 : 2 ≤ wd) (hw2 : wd ≤ 64) (hd1 : 1 ≤ dp) (hd2 : dp ≤ 6) (hs : s < 4294967296) (hn : n = wd * dp)
    (k0 : w.cell? ⟨bo, 0, none⟩ = some (.int .i64 wd)) (k1 : w.cell? ⟨bo, 1, none⟩ = some (.int .i64 dp)) (k2 : w.cell? ⟨bo, 2, none⟩ = some (.int .i64 s)) (k3 : w.cell? ⟨bo, 3, none⟩ = some (.slice (some ⟨g, 0, none⟩) n n)) (hg : RdL (Value.int .i64) w (some ⟨g, 0, none⟩) (List.replicate n 0))
    (hl : w.cell? ⟨bl, 0, none⟩ = some (.slice AL nn cL)) (hm : w.cell? ⟨bm, 0, none⟩ = some (.slice (some ⟨C, 0, none⟩) nn nn)) (hi : i < nn) (hnn : nn ≤ 16) (CL oL : Nat) (R : Option Addr) (cc : Nat) (hAL : AL = some ⟨CL, oL, none⟩) (hcL : w.cell? ⟨CL, oL + i, none⟩ = some (.slice R L.length cc)) (hL : RdL (Value.int .i64) w R L) (hk : keysQ L = true) :
    ReachO Try.prog csBody csOps [4] (fun a' w' => a'.defers = [] ∧ a'.tmps.size = 42 ∧ ∃ g' ex c', a'.tmps[40]? = some (.agg #[.int .i64 wd, .int .i64 dp, .int .i64 s, .slice (some ⟨g', 0, none⟩) n c']) ∧ a'.tmps[41]? = some (.pointer (some ⟨C, i * 4, none⟩)) ∧
      OwnE ex w' w.heap.size 2 (some ⟨g', 0, none⟩) (putKs wd s dp (List.replicate n 0) L) ∧ (∀ v ∈ ex, ∃ i, v = .int .i64 i)) (csAct i bo bl bm) w := by
  have HG := hid hg
  have HL := hid hL
  have HN := hid hn
  have hn0 : 0 < n := by rw [hn]; exact Nat.mul_pos (by omega) (by omega)
  have hn1 : n ≤ 384 := by
    rw [hn]
    calc wd * dp ≤ 64 * 6 := Nat.mul_le_mul hw2 hd2
      _ = 384 := rfl
  obtain ⟨hkl, hkb⟩ := keysQ_iff hk
  have HKB := hid hkb
  subst hAL
  have HRB : Hid (∀ a, R = some a → 0 < L.length → a.block < w.heap.size) := by
    intro a ha h0
    obtain ⟨b, o, hA, hc⟩ := hL 0 h0
    have := World.block_lt_of_cell? w _ hc
    rw [ha] at hA; injection hA with hA; subst hA; exact this
  have hbml := World.block_lt_of_cell? w _ hm
  have hlen0 : (List.replicate n (0 : Int)).length = n := by simp
  simp only at hbml
  clear hg hL hn hkb hk
  simp only [csBody, csOps, Try.f90]
  refine reachO_seq ?_
  go_wp2_with fail
  have hcc := copyCells_ints wd dp s (some ⟨g, 0, none⟩) n (List.replicate n 0) w HG.out (by rw [hlen0]; omega) (by rw [hlen0]; omega)
  rw [hlen0] at hcc
  refine hcc.mono ?_
  clear hcc
  rintro e w1 ⟨g', ex, c', rfl, ho, hex, hb⟩
  have HEX := hid hex
  have hgl : g' < w1.heap.size := by obtain ⟨x, e1, _, e3⟩ := ho; cases e1; exact e3.lt
  have hgB : w.heap.size ≤ g' := by obtain ⟨x, e1, e2, e3⟩ := ho; cases e1; exact e2
  have hsz := hb.size
  have Q2 := hid (Blk.new w1 37 [.int .i64 wd, .int .i64 dp, .int .i64 s, .slice (some ⟨g', 0, none⟩) n c'])
  have O2 := hid (ho.below (below_a1 w1 (.cells #[.int .i64 wd, .int .i64 dp, .int .i64 s, .slice (some ⟨g', 0, none⟩) n c'] 37)))
  have S2 := hid ((hb.alloc hsz (.cells #[.int .i64 wd, .int .i64 dp, .int .i64 s, .slice (some ⟨g', 0, none⟩) n c'] 37)))
  have hl2 := cell_grown hl S2.out
  have hm2 := cell_grown hm S2.out
  have hcL2 := cell_grown hcL S2.out
  clear hl hm hcL k0 k1 k2 k3 ho hb hex
  go_wp2
  generalize hw2e : w1.alloc (.cells #[.int .i64 wd, .int .i64 dp, .int .i64 s, .slice (some ⟨g', 0, none⟩) n c'] 37) = w2 at Q2 O2 S2 hl2 hm2 hcL2 ⊢
  have hw2s : w2.heap.size = w1.heap.size + 1 := by rw [← hw2e]; simp
  clear hw2e
  refine reachO_seq ?_
  go_wp2
  go_loopw [17] (fun j wr => ∃ k : Nat, k ≤ L.length ∧ j = .int .i64 k ∧ Hid (OwnE ex wr w.heap.size 2 (some ⟨g', 0, none⟩) (putKs wd s dp (List.replicate n 0) (L.take k))) ∧ Hid (TouchAll w2 wr [(some ⟨g', 0, none⟩, n)])) (fun j _ => L.length - (intOf j).toNat)
  case atStart => exact ⟨0, Nat.zero_le _, rfl, by rw [List.take_zero]; exact O2, touch_all_refl⟩
  case round =>
    obtain ⟨k, hkr, rfl, hok, hT⟩ := hrel
    have Q3 := hid (Q2.out.touches hT.out (by omega))
    by_cases hkl' : k < L.length
    · have hj : (k : Int) < (L.length : Int) := by omega
      obtain ⟨b, o, v, rfl, hcv0, hvk⟩ := HL.out.at_ hkl'
      have hbl := HRB.out _ rfl (by omega)
      have hcv := cell_touches (cell_grown hcv0 S2.out) hT.out (by simp at hbl ⊢; omega)
      have hvb := HKB.out v (List.mem_of_getElem? hvk.out)
      obtain ⟨vn, rfl⟩ := Int.eq_ofNat_of_zero_le hvb.1
      have hvl : vn < 4294967296 := by omega
      have hyl : Hid ((putKs wd s dp (List.replicate n 0) (L.take k)).length = n) := by show _ = _; rw [putKs_length]; simp
      have hyb : Hid (∀ z ∈ putKs wd s dp (List.replicate n 0) (L.take k), -1536 ≤ z ∧ z ≤ 1536) := by
        intro z hz
        have := putKs_bound (ks := L.take k) (lo := 0) (hi := 0) hd2 (fun z hz => by
          obtain ⟨_, rfl⟩ := List.mem_replicate.1 hz
          omega) z hz
        have h9 : (L.take k).length ≤ 256 := by rw [List.length_take]; omega
        omega
      have hsn : Hid (addAt 1 (putKs wd s dp (List.replicate n 0) (L.take k)) (cellsL wd s vn dp) = putKs wd s dp (List.replicate n 0) (L.take (k + 1))) := by
        show _ = _
        rw [List.take_add_one, hvk.out, Option.toList_some, putKs_snoc, Int.toNat_natCast]
      generalize putKs wd s dp (List.replicate n 0) (L.take k) = y at hok hyl hyb hsn
      obtain ⟨q0, q1, q2, q3⟩ := Q3.out.cells4
      clear hcv0 hvb hvk
      go_wp2_with fail
      refine (places_any wd dp s vn n c' _ _ hw1 hw2 hd2 hs hvl).mono ?_
      rintro e w3 ⟨A3, c3, rfl, hoP, hbP⟩
      have HP := hid hoP
      have O3 := hid (hok.out.below hbP)
      have Q4 := hid (Q3.out.below hbP)
      have T3 := hid (touch_all2 hT.out ⟨hbP.os, hbP.tape, hbP.output, hbP.size, fun b hb' _ => hbP.block b hb'⟩)
      have hgr : g' < wr.heap.size := by have := hT.out.size; omega
      have HA := hid (OwnS.apart_lt (OwnS.mono hok.out.own (Nat.zero_le _)) hoP (Nat.le_refl _))
      have hPl := cellsL_length wd s vn dp
      have hmem : Hid (∀ p ∈ cellsL wd s vn dp, ∃ m : Nat, p = m ∧ m < n) := fun p hp' => by rw [HN.out]; exact cellsL_mem (by omega) hp'
      obtain ⟨P, hPe⟩ : ∃ P, P = cellsL wd s vn dp := ⟨_, rfl⟩
      rw [← hPe] at HA HP hPl hmem hsn ⊢
      have hP8 : P.length ≤ 6 := by omega
      clear hPe hPl hoP hbP hok hT Q3 q0 q1 q2 q3
      generalize wr = wr0 at *
      clear wr
      go_wp2
      go_loopw [25] (fun j wr => ∃ m : Nat, m ≤ P.length ∧ j = .int .i64 m ∧ Hid (OwnE ex wr w.heap.size 2 (some ⟨g', 0, none⟩) (addAt 1 y (P.take m))) ∧ Hid (Touch w3 wr (some ⟨g', 0, none⟩) y.length)) (fun j _ => P.length - (intOf j).toNat)
      case atStart => exact ⟨0, Nat.zero_le _, rfl, by rw [addAt_zero]; exact O3, Touch.refl⟩
      case round =>
        obtain ⟨m, hmr, rfl, hom, hTm⟩ := hrel
        by_cases hlm : m < P.length
        · have him : (m : Int) < (P.length : Int) := by omega
          obtain ⟨b3, o3, p, rfl, hcp, hpk⟩ := (HP.out.touch hTm.out HA.out).rd.at_ hlm
          obtain ⟨pn, rfl, hnx⟩ := hmem.out p (List.mem_of_getElem? hpk.out)
          have hlen := addAt_length 1 y (P.take m)
          have hyl' := hyl.out
          obtain ⟨g2, u, hg', hgB', hcy, hfy, hym, hput⟩ := hom.out.put (j := pn) (by omega)
          injection hg' with hg'; injection hg' with hg'
          subst hg'
          have hbu := addAt_bound (l := P.take m) (D := 1) hyb.out (d := 1) (by omega) (by omega) u (List.mem_of_getElem? hym.out)
          have hkl2 : (P.take m).length ≤ 6 := by simp; omega
          have hO2 := hput (u + 1)
          rw [addAt_succ hpk hym] at hO2
          have hT2 := hid (hTm.out.set_ (by omega) pn (.int .i64 (u + 1)))
          obtain ⟨q0, q1, q2, q3⟩ := (Q4.out.touch hTm.out (by omega)).cells4
          have hn' : (pn : Int) < (n : Int) := by omega
          have hn0' : (0 : Int) ≤ (pn : Int) := by omega
          have e1 : IntKind.i64.wrap (u + 1) = u + 1 := by rw [IntKind.wrap_i64]; omega
          clear hput q0 q1 q2 hlen hgB' hbu hkl2 hym hyl'
          go_wp2
          exact ⟨⟨m + 1, by omega, by go_num, hO2, hT2⟩, by simp [intOf]; omega⟩
        · have him : ¬ (m : Int) < (P.length : Int) := by omega
          have he := hom.out
          rw [List.take_of_length_le (show P.length ≤ m by omega), hsn.out] at he
          have O4 := hid he
          have T4 : Hid (TouchAll w2 wr [(some ⟨g', 0, none⟩, n)]) := by
            have := TouchAll.of_touch hTm.out
            rw [hyl.out] at this
            exact touch_all2 T3.out this
          go_wp2
          exact ⟨⟨k + 1, by omega, by go_num, O4, T4⟩, by simp [intOf]; omega⟩
    · have hj : ¬ (k : Int) < (L.length : Int) := by omega
      obtain rfl : k = L.length := by omega
      have O5 := hok.out
      rw [List.take_length] at O5
      have O6 := hid O5
      have hm3 := cell_touches hm2 hT.out (by simp; omega)
      obtain ⟨q0, q1, q2, q3⟩ := Q3.out.cells4
      clear O5 hok
      go_wp2
      refine reachO_region rfl rfl rfl ?_
      simp only [List.take_succ_cons, List.take_zero]
      go_wp2
      exact ⟨ex, O6.out, HEX.out⟩
end Go.Proofs.Ytmmolicodlmlkaa
namespace Go.Proofs.Ytmmolicodlmlkaa.Ph
open Go.Conc Go.ConcN Go.RowKit Go.Conc.Lib Go.ConcR.Gen Go.ConcN.Gen
open Go.ConcR (KK wgBlock WgAt stA smA rd wr mk DC0 Payload)
open Go.Proofs.Ytmmolicodlmlkaa.Rel
set_option linter.unusedVariables false
set_option linter.unusedSimpArgs false

/-- What is worked on: cells without counts, lists, the boxes that hold them, the block for the cells. -/
structure CellIn (Shun : Loc → Prop) (w0 : World) (wd dp s n g : Nat) (AL : Option Addr) (cL : Nat) (xss : List (List Int)) (C bo bl bm : Nat) : Prop where
  glob : Try.prog.globals.size ≤ w0.heap.size
  w1 : 2 ≤ wd
  w2 : wd ≤ 64
  d1 : 1 ≤ dp
  d2 : dp ≤ 6
  s32 : s < 4294967296
  hn : n = wd * dp
  l16 : xss.length ≤ 16
  keys : ∀ x ∈ xss, keysQ x = true
  lists : SSr (fun b => FreeB Shun w0 b ∧ b ≠ C) w0 AL xss
  hg : FreeB Shun w0 g ∧ g ≠ C ∧ Blk w0 g 2 ((List.replicate n (0 : Int)).map (Value.int .i64))
  ho : FreeB Shun w0 bo ∧ bo ≠ C ∧ ∃ t, w0.heap[bo]? = some (.cells #[.int .i64 wd, .int .i64 dp, .int .i64 s, .slice (some ⟨g, 0, none⟩) n n] t (0, 0))
  hl : FreeB Shun w0 bl ∧ bl ≠ C ∧ ∃ t, w0.heap[bl]? = some (.cells #[.slice AL xss.length cL] t (0, 0))
  hm : FreeB Shun w0 bm ∧ bm ≠ C ∧ ∃ t, w0.heap[bm]? = some (.cells #[.slice (some ⟨C, 0, none⟩) xss.length xss.length] t (0, 0))
  hC : ∃ cs t, w0.heap[C]? = some (.cells cs t (0, 0)) ∧ cs.size = 4 * xss.length
/-- The cells of some numbers: their counts lie in blocks of S, each in its own. -/
def CellsIn (C wd dp s n : Nat) (xss : List (List Int)) (D : Nat → Prop) (S : Nat → Prop) (w : World) : Prop :=
  ∃ (R : Nat → Nat) (cc : Nat → Nat),
    (∀ o, D o → Four w C o wd dp s n (R o) (cc o) ∧ OwnS (Value.int .i64) w 0 2 (some ⟨R o, 0, none⟩) (madeC wd s dp xss o) ∧ S (R o) ∧ Ints w (R o)) ∧
    (∀ o o', D o → D o' → R o = R o' → o = o')
section
variable {Shun : Loc → Prop} {w0 w w₁ : World} {wd dp s n g C bo bl bm cL lo k j i : Nat} {AL : Option Addr} {xss : List (List Int)} {D D' S S' mine Rd : Nat → Prop}
theorem Four.out {o R c : Nat} (h : Four w C o wd dp s n R c) (hC : OutStay C mine w w₁) (hm : ∀ e, e / 4 = o → mine e) : Four w₁ C o wd dp s n R c :=
  ⟨out_cell hC (hm _ (by omega)) h.1, out_cell hC (hm _ (by omega)) h.2.1, out_cell hC (hm _ (by omega)) h.2.2.1, out_cell hC (hm _ (by omega)) h.2.2.2⟩
theorem CellsIn.sub (h : CellsIn C wd dp s n xss D S w) (hD : ∀ o, D' o → D o) : CellsIn C wd dp s n xss D' S w :=
  let ⟨R, cc, h1, h2⟩ := h
  ⟨R, cc, fun o ho => h1 o (hD o ho), fun o o' ho ho' => h2 o o' (hD o ho) (hD o' ho')⟩
theorem CellsIn.stay (h : CellsIn C wd dp s n xss D S w) (hS : ∀ b, S b → w₁.heap[b]? = w.heap[b]?) (hC : OutStay C mine w w₁) (hD : ∀ o, D o → ∀ e, e / 4 = o → mine e) (hSS : ∀ b, S b → S' b) : CellsIn C wd dp s n xss D S' w₁ := by
  obtain ⟨R, cc, h1, h2⟩ := h
  refine ⟨R, cc, fun o ho => ?_, h2⟩
  obtain ⟨q1, q2, q3, q4⟩ := h1 o ho
  exact ⟨q1.out hC (hD o ho), own_stay (A := some ⟨R o, 0, none⟩) q2 (fun a ha => by injection ha with ha; subst ha; exact hS _ q3), hSS _ q3, q4.stay (hS _ q3)⟩
/-- What a worker holds ahead of number i. -/
def JC (Shun : Loc → Prop) (C : Nat) (w0 : World) (wd dp s n : Nat) (xss : List (List Int)) (k j i : Nat) (S : Nat → Prop) (w : World) : Prop :=
  U0 Shun C w0 w ∧ (∀ b, S b → w0.heap.size ≤ b) ∧ i % k = j ∧ CellsIn C wd dp s n xss (fun o => o < i ∧ o % k = j) S w
theorem JC.rely {ty : TypeId} {Wg : Nat} (h : JC Shun C w0 wd dp s n xss k j i S w) (hR : ∀ x, FreeB Shun w0 x ∧ x ≠ C → Rd x) (r : RW ty Wg C (fun e => e / 4 % k = j) Rd S w w₁) : JC Shun C w0 wd dp s n xss k j i S w₁ :=
  ⟨h.1.rely hR r, h.2.1, h.2.2.1, h.2.2.2.stay r.own r.out (fun o ho e he => by subst he; exact ho.2) fun _ h => h⟩
/-- .. and at its end. -/
def FactC (lo C wd dp s n : Nat) (xss : List (List Int)) (k j : Nat) (S : Nat → Prop) (w : World) : Prop :=
  (∀ b, S b → lo ≤ b) ∧ CellsIn C wd dp s n xss (fun o => o < xss.length ∧ o % k = j) S w
end
section
variable {Shun : Loc → Prop} {w0 v : World} {wd dp s n g C bo bl bm cL k j i Wg : Nat} {AL : Option Addr} {xss : List (List Int)} {S Rd : Nat → Prop}
def csFs : FuncId → Bool := fun f => [91, 118, 92, 114, 110, 111, 66].contains f
set_option maxRecDepth 100000 in
/-- What the lone goroutine that stands for a worker finds. -/
theorem cs_lone (I : CellIn Shun w0 wd dp s n g AL cL xss C bo bl bm) (hR : ∀ y, FreeB Shun w0 y ∧ y ≠ C → Rd y) (hi : i < xss.length) (hW : WI Wg C Rd S v) (hU : U0 Shun C w0 v) :
    (∀ y, y = bo ∨ y = bl ∨ y = bm → FreeB Shun w0 y ∧ y ≠ C ∧ (fnsC csFs v (RdS Rd S) No C).al y = true) ∧
    (loneW (fnsC csFs v (RdS Rd S) No C) v).cell? ⟨bo, 0, none⟩ = some (.int .i64 wd) ∧ (loneW (fnsC csFs v (RdS Rd S) No C) v).cell? ⟨bo, 1, none⟩ = some (.int .i64 dp) ∧ (loneW (fnsC csFs v (RdS Rd S) No C) v).cell? ⟨bo, 2, none⟩ = some (.int .i64 s) ∧ (loneW (fnsC csFs v (RdS Rd S) No C) v).cell? ⟨bo, 3, none⟩ = some (.slice (some ⟨g, 0, none⟩) n n) ∧
    RdL (Value.int .i64) (loneW (fnsC csFs v (RdS Rd S) No C) v) (some ⟨g, 0, none⟩) (List.replicate n 0) ∧
    (loneW (fnsC csFs v (RdS Rd S) No C) v).cell? ⟨bl, 0, none⟩ = some (.slice AL xss.length cL) ∧ (loneW (fnsC csFs v (RdS Rd S) No C) v).cell? ⟨bm, 0, none⟩ = some (.slice (some ⟨C, 0, none⟩) xss.length xss.length) ∧
    ∃ CL oL R cc, AL = some ⟨CL, oL, none⟩ ∧ (loneW (fnsC csFs v (RdS Rd S) No C) v).cell? ⟨CL, oL + i, none⟩ = some (.slice R xss[i].length cc) ∧ RdL (Value.int .i64) (loneW (fnsC csFs v (RdS Rd S) No C) v) R xss[i] := by
  have hst : ∀ y, FreeB Shun w0 y → y ≠ C → v.heap[y]? = w0.heap[y]? := hU.2.1
  have hna : ∀ y, y ≠ C → (fnsC csFs v (RdS Rd S) No C).na y = false := fun y hy => by
    cases h : (fnsC csFs v (RdS Rd S) No C).na y with
    | false => rfl
    | true => exact absurd (fnsC_na.1 h) hy
  have hal : ∀ y, FreeB Shun w0 y → y ≠ C → plainO (w0.heap[y]?) = true → (fnsC csFs v (RdS Rd S) No C).al y = true := fun y hy hC hp => by
    have hr := hR y ⟨hy, hC⟩
    exact fnsC_old (hW.rd y hr).1 (.inr (.inl hr)) (by rw [hst y hy hC]; exact hp)
  have hlt : ∀ y, FreeB Shun w0 y → y ≠ C → y < v.heap.size := fun y hy hC => (hW.rd y (hR y ⟨hy, hC⟩)).1
  obtain ⟨hk1, hk2, tk, hk3⟩ := I.ho
  obtain ⟨hs1, hs2, ts, hs3⟩ := I.hl
  obtain ⟨ho1, ho2, tp, ho3⟩ := I.hm
  obtain ⟨hg1, hg2, hg3⟩ := I.hg
  have hgI : Ints w0 g := ⟨_, _, hg3, fun x hx => by simp at hx; exact ⟨0, hx.2⟩⟩
  have okA : ∀ (B : Option Addr) (n cc : Nat), (∀ a, B = some a → FreeB Shun w0 a.block ∧ a.block ≠ C ∧ Plz w0 a) → okV (fnsC csFs v (RdS Rd S) No C) v.heap.size (.slice B n cc) = true := by
    intro B n cc hB
    cases B with
    | none => simp
    | some a =>
      obtain ⟨q1, q2, q3, q4⟩ := hB a rfl
      rw [okV_sliceA _ _ _ _ q4]
      simp [Rel.inB, hlt _ q1 q2, hal _ q1 q2 q3]
  have okO : okV (fnsC csFs v (RdS Rd S) No C) v.heap.size (.slice (some ⟨C, 0, none⟩) xss.length xss.length) = true := by
    rw [okV_slice]
    simp [Rel.inB, hW.c.1, fnsC_C hW.c.1]
  have cl : ∀ y us t, FreeB Shun w0 y → y ≠ C → w0.heap[y]? = some (.cells us t (0, 0)) → (∀ u ∈ us, okV (fnsC csFs v (RdS Rd S) No C) v.heap.size u = true) → ∀ o, (loneW (fnsC csFs v (RdS Rd S) No C) v).cell? ⟨y, o, none⟩ = us[o]? := by
    intro y us t h1 h2 h3 h4 o
    have h5 := (hst y h1 h2).trans h3
    rw [Clean.cell (a := ⟨y, o, none⟩) ⟨_, _, h5, h4⟩ (hna y h2) (hal y h1 h2 (by rw [h3]; rfl))]
    simp [World.cell?, h5]
  have okg : okV (fnsC csFs v (RdS Rd S) No C) v.heap.size (.slice (some ⟨g, 0, none⟩) n n) = true := okA _ _ _ fun a ha => by cases ha; exact ⟨hg1, hg2, hgI.plain, rfl⟩
  have cbo := cl bo _ _ hk1 hk2 hk3 (fun u hu => by
    simp at hu
    rcases hu with rfl | rfl | rfl | rfl
    · simp
    · simp
    · simp
    · exact okg)
  refine ⟨fun y hy => ?_, cbo 0, cbo 1, cbo 2, cbo 3, ?_, ?_, ?_, ?_⟩
  · rcases hy with rfl | rfl | rfl
    · exact ⟨hk1, hk2, hal _ hk1 hk2 (by rw [hk3]; rfl)⟩
    · exact ⟨hs1, hs2, hal _ hs1 hs2 (by rw [hs3]; rfl)⟩
    · exact ⟨ho1, ho2, hal _ ho1 ho2 (by rw [ho3]; rfl)⟩
  · intro o ho
    refine ⟨g, 0, rfl, ?_⟩
    have hon : o < n := by simpa using ho
    rw [Nat.zero_add, cl g _ _ hg1 hg2 hg3 (fun u hu => by simp at hu; rw [hu.2]; simp) o]
    simp [hon]
  · rw [cl bl _ _ hs1 hs2 hs3 (fun u hu => by
      simp at hu
      subst hu
      exact okA _ _ _ fun a ha => ⟨(I.lists.1 a ha).1.1, (I.lists.1 a ha).1.2, (I.lists.1 a ha).2⟩) 0]
    rfl
  · rw [cl bm _ _ ho1 ho2 ho3 (fun u hu => by simp at hu; subst hu; exact okO) 0]
    rfl
  · obtain ⟨CL, oL, R, cc, e1, e2, e3, e4⟩ := I.lists.2 i hi
    obtain ⟨q1, q2, _⟩ := I.lists.1 _ e1
    have hc := loneW_any (Fs := fnsC csFs v (RdS Rd S) No C) (a := ⟨CL, oL + i, none⟩) ((cell_stay (a := ⟨CL, oL + i, none⟩) (hst CL q1.1 q1.2)).trans e2) (hna CL q1.2) (hal CL q1.1 q1.2 q2) (fnsC_no (hlt CL q1.1 q1.2))
    rcases e4 with e4 | ⟨e4, rfl⟩
    rotate_left
    · rw [e4] at hc
      obtain ⟨R', h'⟩ := absV_empty (Fs := fnsC csFs v (RdS Rd S) No C) (B := v.heap.size) R
      exact ⟨CL, oL, R', 0, e1, by rw [e4]; exact hc.trans (congrArg some h'), by rw [e4]; intro i hi; simp at hi⟩
    refine ⟨CL, oL, R, cc, e1, ?_, ?_⟩
    · exact hc.trans (by rw [absV_same _ (okA _ _ _ fun a ha => ⟨(e4 a ha).1.1, (e4 a ha).1.2, (e4 a ha).2⟩)])
    · refine rdl_look (rdl_stay e3 fun a ha => hst _ (e4 a ha).1.1 (e4 a ha).1.2) (fun _ => by simp) fun b o _ hA => ?_
      obtain ⟨z1, z2, _⟩ := e4 _ hA
      exact ⟨hna b z1.2, hal b z1.1 z1.2 z2, fnsC_no (hlt b z1.1 z1.2)⟩
end
end Go.Proofs.Ytmmolicodlmlkaa.Ph
namespace Go.Proofs.Ytmmolicodlmlkaa.Ph
open Go.Conc Go.ConcN Go.RowKit Go.Conc.Lib Go.ConcR.Gen Go.ConcN.Gen
open Go.ConcR (KK wgBlock WgAt stA smA rd wr mk DC0 Payload)
open Go.Proofs.Ytmmolicodlmlkaa.Rel
set_option linter.unusedVariables false
set_option linter.unusedSimpArgs false

theorem csOk1 : fnOk Try.prog csFs Try.f91 = true := by kernel_rfl
theorem csOk2 : fnOk Try.prog csFs Try.f118 = true := by kernel_rfl
theorem csOk3 : fnOk Try.prog csFs Try.f92 = true := by kernel_rfl
theorem csOk4 : fnOk Try.prog csFs Try.f114 = true := by kernel_rfl
theorem csOk5 : fnOk Try.prog csFs Try.f110 = true := by kernel_rfl
theorem csOk6 : fnOk Try.prog csFs Try.f111 = true := by kernel_rfl
theorem csOk7 : fnOk Try.prog csFs Try.f66 = true := by kernel_rfl
theorem csFs_ok : ∀ f, csFs f = true → ∃ fn, Try.prog.funcs[f]? = some fn ∧ fnOk Try.prog csFs fn = true := by
  intro f hf
  simp [csFs] at hf
  rcases hf with rfl | rfl | rfl | rfl | rfl | rfl | rfl
  · exact ⟨_, Try.func91, csOk1⟩
  · exact ⟨_, Try.func118, csOk2⟩
  · exact ⟨_, Try.func92, csOk3⟩
  · exact ⟨_, Try.func114, csOk4⟩
  · exact ⟨_, Try.func110, csOk5⟩
  · exact ⟨_, Try.func111, csOk6⟩
  · exact ⟨_, Try.func66, csOk7⟩
theorem cs_codeOk : codeOk Try.prog ⟨csFs, fun _ => false, fun _ => false, fun _ => false⟩ csBody = true := by kernel_rfl
theorem cs_body : Try.f90.body = some csBody := rfl
theorem cs_enter (i : Int) (bo bl bm : Nat) : Frame.enter Try.prog 90 (#[.int .i64 i] ++ #[ptr bo, ptr bl, ptr bm]) .normal = (base 90).at (csAct i bo bl bm) [.code csBody] := by
  rw [enter_at _ Try.func90 cs_body]
  kernel_rfl
theorem nm_cs : (Try.f90.name == "runtime.NumGoroutine") = false := by kernel_rfl
section
variable {Wg C : Nat} {mine Rd S : Nat → Prop} {w : World}
/-- Four cells stored. -/
def four (w : World) (C o : Nat) (a b c d : Value) : World := (((w.setCell ⟨C, o, none⟩ a).setCell ⟨C, o + 1, none⟩ b).setCell ⟨C, o + 2, none⟩ c).setCell ⟨C, o + 3, none⟩ d
theorem four_other {o : Nat} {a b c d : Value} {y : Nat} (hy : y ≠ C) : (four w C o a b c d).heap[y]? = w.heap[y]? := by
  unfold four
  rw [heap_setCell_other _ _ y _ hy, heap_setCell_other _ _ y _ hy, heap_setCell_other _ _ y _ hy, heap_setCell_other _ _ y _ hy]
theorem setCell_heap {o : Nat} {v : Value} {cs : Array Value} {e : TypeId} {fr : Nat × Nat} (h : w.heap[C]? = some (.cells cs e fr)) : (w.setCell ⟨C, o, none⟩ v).heap[C]? = some (.cells (cs.setIfInBounds o v) e fr) := by
  unfold World.setCell
  simp only [Array.getElem?_modify, if_true, h, Option.map_some]
  rfl
theorem four_heap {o : Nat} {a b c d : Value} {cs : Array Value} {e : TypeId} {fr : Nat × Nat} (h : w.heap[C]? = some (.cells cs e fr)) : (four w C o a b c d).heap[C]? = some (.cells ((((cs.setIfInBounds o a).setIfInBounds (o + 1) b).setIfInBounds (o + 2) c).setIfInBounds (o + 3) d) e fr) := by
  unfold four
  exact setCell_heap (setCell_heap (setCell_heap (setCell_heap h)))
theorem dw_four {o : Nat} {a b c d : Value} {es : Array Event} (hm : ∀ e, o ≤ e → e < o + 4 → mine e) (h : ∀ e ∈ es, ∃ p, o ≤ p ∧ p < o + 4 ∧ e = ⟨.cell ⟨C, p, none⟩, true, false⟩) : DW Wg C mine Rd S w (four w C o a b c d) es S := by
  have hs : (four w C o a b c d).heap.size = w.heap.size := by simp [four, World.setCell]
  refine ⟨rfl, rfl, rfl, by omega, fun b => ⟨.inl, fun h => h.elim id fun h => by omega⟩, fun b hb hn hne => four_other hne, fun cs e fr h0 => ?_, fun e he => ?_⟩
  · refine ⟨_, four_heap h0, by simp, fun p hp => ?_⟩
    have hne : ∀ q, o ≤ q → q < o + 4 → q ≠ p := fun q h1 h2 e => hp (e ▸ hm q h1 h2)
    rw [Array.getElem?_setIfInBounds_ne (hne _ (by omega) (by omega)), Array.getElem?_setIfInBounds_ne (hne _ (by omega) (by omega)), Array.getElem?_setIfInBounds_ne (hne _ (by omega) (by omega)), Array.getElem?_setIfInBounds_ne (hne _ (by omega) (by omega))]
  · obtain ⟨p, h1, h2, rfl⟩ := h e he
    exact .inr ⟨p, true, hm p h1 h2, rfl⟩
end
section
variable {Shun : Loc → Prop} {w0 v : World} {wd dp s n g C bo bl bm cL k j i Wg : Nat} {AL : Option Addr} {xss : List (List Int)} {S Rd : Nat → Prop}
/-- The new counts, ahead of their store. -/
def NewC (lo B wd dp s : Nat) (xss : List (List Int)) (i R : Nat) (S : Nat → Prop) (w : World) : Prop :=
  OwnS (Value.int .i64) w 0 2 (some ⟨R, 0, none⟩) (madeC wd s dp xss i) ∧ S R ∧ B ≤ R ∧ Ints w R
theorem NewC.rely {lo B R : Nat} {w w₁ : World} (h : NewC lo B wd dp s xss i R S w) (hS : ∀ b, S b → w₁.heap[b]? = w.heap[b]?) : NewC lo B wd dp s xss i R S w₁ :=
  ⟨own_stay h.1 (fun a ha => by injection ha with ha; subst ha; exact hS _ h.2.1), h.2.1, h.2.2.1, h.2.2.2.stay (hS _ h.2.1)⟩
/-- Behind the store. -/
theorem jc_store {S' : Nat → Prop} {B cc R : Nat} {w : World} (h : JC Shun C w0 wd dp s n xss k j i S w) (hSB : ∀ b, S b → b < B) (hSS : ∀ b, S b → S' b) (hlo' : ∀ b, S' b → w0.heap.size ≤ b) (hN : NewC w0.heap.size B wd dp s xss i R S' w)
    (hCS : ¬ S' C) (hc : ∃ cs e fr, w.heap[C]? = some (.cells cs e fr) ∧ 4 * i + 4 ≤ cs.size) : JC Shun C w0 wd dp s n xss k j (i + k) S' (four w C (4 * i) (.int .i64 wd) (.int .i64 dp) (.int .i64 s) (.slice (some ⟨R, 0, none⟩) n cc)) := by
  obtain ⟨⟨⟨u1, u2, u3⟩, hst, hout⟩, hlo, hij, R0, c0, h1, h2⟩ := h
  obtain ⟨cs, e, fr, hcs, hsz⟩ := hc
  have old : ∀ b, b ≠ C → (four w C (4 * i) (.int .i64 wd) (.int .i64 dp) (.int .i64 s) (.slice (some ⟨R, 0, none⟩) n cc)).heap[b]? = w.heap[b]? := fun b hb => four_other hb
  have oS : ∀ b, S' b → (four w C (4 * i) (.int .i64 wd) (.int .i64 dp) (.int .i64 s) (.slice (some ⟨R, 0, none⟩) n cc)).heap[b]? = w.heap[b]? := fun b hb => old b fun e => hCS (e ▸ hb)
  have hfh := four_heap (a := .int .i64 wd) (b := .int .i64 dp) (c := .int .i64 s) (d := .slice (some ⟨R, 0, none⟩) n cc) (o := 4 * i) hcs
  have hnew : Four (four w C (4 * i) (.int .i64 wd) (.int .i64 dp) (.int .i64 s) (.slice (some ⟨R, 0, none⟩) n cc)) C i wd dp s n R cc := by
    refine ⟨?_, ?_, ?_, ?_⟩ <;> (simp only [World.cell?, hfh]; simp [Array.getElem?_setIfInBounds]; omega)
  have hoth : ∀ p, p / 4 ≠ i → (four w C (4 * i) (.int .i64 wd) (.int .i64 dp) (.int .i64 s) (.slice (some ⟨R, 0, none⟩) n cc)).cell? ⟨C, p, none⟩ = w.cell? ⟨C, p, none⟩ := fun p hp => by
    simp only [World.cell?, hfh, hcs]
    rw [Array.getElem?_setIfInBounds_ne (by omega), Array.getElem?_setIfInBounds_ne (by omega), Array.getElem?_setIfInBounds_ne (by omega), Array.getElem?_setIfInBounds_ne (by omega)]
  have hos : OutStay C (fun _ => False) w (four w C (4 * i) (.int .i64 wd) (.int .i64 dp) (.int .i64 s) (.slice (some ⟨R, 0, none⟩) n cc)) := fun cs e fr h0 => ⟨_, four_heap h0, by simp, fun _ h => h.elim⟩
  have hw1 : (four w C (4 * i) (.int .i64 wd) (.int .i64 dp) (.int .i64 s) (.slice (some ⟨R, 0, none⟩) n cc)).tape = w.tape := rfl
  have hw2 : (four w C (4 * i) (.int .i64 wd) (.int .i64 dp) (.int .i64 s) (.slice (some ⟨R, 0, none⟩) n cc)).os = w.os := rfl
  have hw3 : (four w C (4 * i) (.int .i64 wd) (.int .i64 dp) (.int .i64 s) (.slice (some ⟨R, 0, none⟩) n cc)).output = w.output := rfl
  clear hfh
  generalize four w C (4 * i) (.int .i64 wd) (.int .i64 dp) (.int .i64 s) (.slice (some ⟨R, 0, none⟩) n cc) = w' at *
  have hlt : ∀ {o : Nat}, o < i + k → o % k = j → o ≠ i → o < i := fun {o} h1 h2 h3 => by
    rcases Nat.lt_or_ge o i with h | h
    · exact h
    · exact absurd (mod_next h2 hij h h1) h3
  refine ⟨⟨⟨hw1.trans u1, hw2.trans u2, hw3.trans u3⟩, fun y hy hC => (old y hC).trans (hst y hy hC), hout.trans hos⟩, hlo', by rw [Nat.add_mod_right]; exact hij,
    fun o => if o = i then R else R0 o, fun o => if o = i then cc else c0 o, fun o ho => ?_, fun o o' ho ho' hb => ?_⟩
  · by_cases he : o = i
    · subst he
      simp only [if_true]
      have hN' := hN.rely oS
      exact ⟨hnew, hN'.1, hN'.2.1, hN'.2.2.2⟩
    · obtain ⟨q1, q2, q3, q4⟩ := h1 o ⟨hlt ho.1 ho.2 he, ho.2⟩
      simp only [he, if_false]
      obtain ⟨z1, z2, z3, z4⟩ := q1
      refine ⟨⟨(hoth (4 * o) (by omega)).trans z1, (hoth (4 * o + 1) (by omega)).trans z2, (hoth (4 * o + 2) (by omega)).trans z3, (hoth (4 * o + 3) (by omega)).trans z4⟩, ?_, hSS _ q3, q4.stay (oS _ (hSS _ q3))⟩
      exact own_stay q2 (fun a ha => by injection ha with ha; subst ha; exact oS _ (hSS _ q3))
  · by_cases he : o = i <;> by_cases he' : o' = i
    · rw [he, he']
    · simp only [he, he', if_true, if_false] at hb
      have hl := hlt ho'.1 ho'.2 he'
      have := hSB _ (h1 o' ⟨hl, ho'.2⟩).2.2.1
      have := hN.2.2.1
      omega
    · simp only [he, he', if_true, if_false] at hb
      have hl := hlt ho.1 ho.2 he
      have := hSB _ (h1 o ⟨hl, ho.2⟩).2.2.1
      have := hN.2.2.1
      omega
    · simp only [he, he', if_false] at hb
      exact h2 o o' ⟨hlt ho.1 ho.2 he, ho.2⟩ ⟨hlt ho'.1 ho'.2 he', ho'.2⟩ hb
end
end Go.Proofs.Ytmmolicodlmlkaa.Ph
namespace Go.Proofs.Ytmmolicodlmlkaa.Ph
open Go.Conc Go.ConcN Go.RowKit Go.Conc.Lib Go.ConcR.Gen Go.ConcN.Gen
open Go.ConcR (KK wgBlock WgAt stA smA rd wr mk DC0 Payload)
open Go.Proofs.Ytmmolicodlmlkaa.Rel
set_option linter.unusedVariables false
set_option linter.unusedSimpArgs false

theorem cs_last : csOps.size = 5 := by kernel_rfl
theorem cs_op4 : csOps[4]? = some { dst := none, op := .store 37 (.tmp 41) (.tmp 40), type := 0, pos := "l03_counts.go:227", after := (csOps[4]?.map Oper.after).getD #[], guard := none } := by kernel_rfl
section
variable {Shun : Loc → Prop} {w0 v : World} {wd dp s n g C bo bl bm cL k j i Wg : Nat} {AL : Option Addr} {xss : List (List Int)} {S Rd : Nat → Prop}
theorem ints_ren {ρ : Rn} {c : Array Value} (h : ∀ v ∈ c, ∃ i, v = .int .i64 i) : c.map (ren ρ) = c := by
  apply Array.ext (by simp)
  intro i h1 h2
  obtain ⟨y, hy⟩ := h c[i] (Array.getElem_mem h2)
  simp only [Array.getElem_map, hy]
  simp
set_option maxRecDepth 100000 in
set_option maxHeartbeats 4000000 in
/-- ████ THE WORK FOR ONE LIST. ████ -/
theorem cs_do (I : CellIn Shun w0 wd dp s n g AL cL xss C bo bl bm) (hk : 1 ≤ k) (hWg : w0.heap.size ≤ Wg) (hR : ∀ y, FreeB Shun w0 y ∧ y ≠ C → Rd y) (hi : i < xss.length) (hW : WI Wg C Rd S v) (hJ : JC Shun C w0 wd dp s n xss k j i S v)
    (b : Frame) (a : Act) (ops : Array Oper) (xx : Nat) (rest : List Nat) (kk : List Item) (cs : List Frame) :
    GW Try.prog link.tWg Wg C (fun e => e / 4 % k = j) Rd (fun S' g' w' => g' = G (b.at (a.put ((ops[xx]?).bind (·.dst)) (.tuple #[])) (.inRegion ops rest :: kk)) cs ∧ JC Shun C w0 wd dp s n xss k j (i + k) S' w') S
      (G (Frame.enter Try.prog 90 (#[.int .i64 i] ++ #[ptr bo, ptr bl, ptr bm]) .normal) (b.at a (.inRegion ops (xx :: rest) :: kk) :: cs)) v := by
  obtain ⟨hal, k0, k1, k2, k3, hrg, hcl, hcm, CL, oL, R, cc, hAL, hcL, hrL⟩ := cs_lone I hR hi hW hJ.1
  have hlt : ∀ y, FreeB Shun w0 y → y ≠ C → y < v.heap.size := fun y hy hC => (hW.rd y (hR y ⟨hy, hC⟩)).1
  have hwgv := hW.wg.1
  have hgl := I.glob
  have hl16 := I.l16
  have hlsz := loneW_size (Fs := fnsC csFs v (RdS Rd S) No C) (v := v)
  rw [cs_enter]
  let Pre : Act → World → Prop := fun a' w' => a'.defers = [] ∧ a'.tmps.size = 42 ∧ ∃ g' ex c', a'.tmps[40]? = some (.agg #[.int .i64 wd, .int .i64 dp, .int .i64 s, .slice (some ⟨g', 0, none⟩) n c']) ∧ a'.tmps[41]? = some (.pointer (some ⟨C, i * 4, none⟩)) ∧
      OwnE ex w' v.heap.size 2 (some ⟨g', 0, none⟩) (putKs wd s dp (List.replicate n 0) xss[i]) ∧ (∀ v ∈ ex, ∃ i, v = .int .i64 i)
  have hup := upto_worker (P := Try.prog) (fs := csFs) (v := v) (Rd := Rd) (S := S) (C := C) (cs := b.at a (.inRegion ops (xx :: rest) :: kk) :: cs) (ty := link.tWg) (Wg := Wg) (mine := fun e => e / 4 % k = j) (f := 90) (c := csBody)
    (a := csAct i bo bl bm) (ops := csOps) (rest := [4]) (Pre := Pre) zero_ok (by omega) (fun ρ => by unfold fnsC fnsNa; exact fnsOk_of csFs_ok) hW.s (fun y hy => (hW.rd y hy).1) hW.c.1
    (by
      obtain ⟨cs0, t, h1, _⟩ := I.hC
      obtain ⟨cs1, h2, _⟩ := hJ.1.2.2 _ _ _ h1
      exact ⟨_, _, _, h2⟩)
    (by unfold fnsC fnsNa; exact code_mono _ cs_codeOk) rfl
    (by
      have hp : ∀ y, y = bo ∨ y = bl ∨ y = bm → okV (fnsC csFs v (RdS Rd S) No C) v.heap.size (ptrB y) = true := fun y h => by
        obtain ⟨h1, h2, h3⟩ := hal y h
        rw [okV_pointer]
        simp [Rel.inB, hlt y h1 h2, h3]
      intro z hz
      simp at hz
      rcases hz with rfl | rfl | rfl | rfl | rfl
      · simp
      · exact hp _ (.inl rfl)
      · exact hp _ (.inr (.inl rfl))
      · exact hp _ (.inr (.inr rfl))
      · exact okV_undef _ _)
    (fun τ b cs => by
      have h := cs_run wd dp s n g i C xss.length cL cc AL xss xss[i] bo bl bm { loneW (fnsC csFs v (RdS Rd S) No C) v with tape := τ, drawn := 0 } I.w1 I.w2 I.d1 I.d2 I.s32 I.hn k0 k1 k2 k3 hrg hcl hcm hi hl16 CL oL R cc hAL hcL hrL (I.keys _ (List.getElem_mem hi)) b cs
      obtain ⟨a', w', ⟨p1, p2, g', ex, c', p3, p4, p5, p6⟩, hs⟩ := h
      exact ⟨a', w', ⟨p1, p2, g', ex, c', p3, p4, by simpa only [hlsz] using p5, p6⟩, hs⟩)
  refine Go1.bind (fun _ a => RW.refl a) hup ?_
  rintro S' g w ⟨s', ρ, a', wl, rfl, rfl, ⟨p1, p2, g', ex, c', p3, p4, p5, p6⟩, hok, hL, hout⟩
  have hCid : ρ.f C = C := hL.id C hW.c.1
  have hSlo : ∀ b, s' b → v.heap.size ≤ b := by
    intro b hb
    rcases (hL.mine b).1 hb with h | ⟨c, h1, _, e⟩
    · exact h.elim
    · have := hL.new c h1; omega
  have hw0v : w0.heap.size ≤ v.heap.size := by omega
  have hJw : JC Shun C w0 wd dp s n xss k j i S w :=
    ⟨⟨⟨hL.tape.trans hJ.1.1.1, hL.os.trans hJ.1.1.2.1, hL.output.trans hJ.1.1.2.2⟩, fun y hy hC => (hL.rd y (.inl (hR y ⟨hy, hC⟩))).trans (hJ.1.2.1 y hy hC), hJ.1.2.2.trans (hout.weaken fun _ h => h.elim)⟩, hJ.2.1, hJ.2.2.1,
      hJ.2.2.2.stay (fun b hb => hL.rd b (.inr hb)) hout (fun o ho e he => by subst he; exact ho.2) fun _ h => h⟩
  have hN : NewC w0.heap.size v.heap.size wd dp s xss i (ρ.f g') (fun b => S b ∨ s' b) w := by
    obtain ⟨g2, e1, e2, e3⟩ := p5
    injection e1 with e1
    injection e1 with e1
    subst e1
    have hlt := e3.lt
    have h1 := (left_blk hL (fnsC_new hW.c.1 e2).1 e3).1
    have hci : ∀ v ∈ ((putKs wd s dp (List.replicate n 0) xss[i]).map (Value.int .i64) ++ ex).toArray, ∃ i, v = .int .i64 i := by
      intro v hv
      simp only [List.mem_toArray, List.mem_append, List.mem_map] at hv
      rcases hv with ⟨y, _, rfl⟩ | hv
      · exact ⟨_, rfl⟩
      · exact p6 v hv
    rw [ints_ren hci] at h1
    obtain ⟨q1, q2⟩ := left_new hL e2 hlt
    refine ⟨fun _ => ⟨ρ.f g', ex, rfl, Nat.zero_le _, ?_⟩, .inr q1, q2, ⟨_, _, h1, hci⟩⟩
    have : madeC wd s dp xss i = putKs wd s dp (List.replicate n 0) xss[i] := by
      unfold madeC
      rw [List.getD_eq_getElem?_getD, List.getElem?_eq_getElem hi, Option.getD_some, I.hn]
    rw [this]
    exact h1
  have hlo' : ∀ b, (S b ∨ s' b) → w0.heap.size ≤ b := fun b hb => hb.elim (hJ.2.1 b) fun h => by have := hSlo b h; omega
  have hCS : ¬ (S C ∨ s' C) := fun h => h.elim hW.c.2 fun h => by have := hSlo C h; have := hW.c.1; omega
  have hF : JC Shun C w0 wd dp s n xss k j i S w ∧ NewC w0.heap.size v.heap.size wd dp s xss i (ρ.f g') (fun b => S b ∨ s' b) w := ⟨hJw, hN⟩
  have rl : ∀ {a b : World}, JC Shun C w0 wd dp s n xss k j i S a ∧ NewC w0.heap.size v.heap.size wd dp s xss i (ρ.f g') (fun b => S b ∨ s' b) a → RW link.tWg Wg C (fun e => e / 4 % k = j) Rd (fun b => S b ∨ s' b) a b →
      JC Shun C w0 wd dp s n xss k j i S b ∧ NewC w0.heap.size v.heap.size wd dp s xss i (ρ.f g') (fun b => S b ∨ s' b) b := fun h r =>
    ⟨⟨h.1.1.rely hR r, h.1.2.1, h.1.2.2.1, h.1.2.2.2.stay (fun b hb => r.own b (.inl hb)) r.out (fun o ho e he => by subst he; exact ho.2) fun _ h => h⟩, h.2.rely r.own⟩
  have hT40 : (a'.tmps.map (ren ρ))[40]? = some (.agg #[.int .i64 wd, .int .i64 dp, .int .i64 s, .slice (some ⟨ρ.f g', 0, none⟩) n c']) := by
    rw [Array.getElem?_map, p3]
    simp
  have hT41 : (a'.tmps.map (ren ρ))[41]? = some (.pointer (some ⟨C, i * 4, none⟩)) := by
    rw [Array.getElem?_map, p4]
    simp [renA, hCid]
  generalize a'.tmps.map (ren ρ) = T at hT40 hT41
  refine go1_op cs_op4 rfl (by k_ne) (fun w₂ h₂ K hK => ?_)
  replace hF := rl hF h₂
  clear h₂
  obtain ⟨cs0, t, hC0, hC1⟩ := I.hC
  obtain ⟨cs1, hC2, hC3, _⟩ := hF.1.1.2.2 _ _ _ hC0
  have hszC : 4 * i + 4 ≤ cs1.size := by omega
  have hE40 : Act.eval ⟨T, []⟩ (.tmp 40) = .agg #[.int .i64 wd, .int .i64 dp, .int .i64 s, .slice (some ⟨ρ.f g', 0, none⟩) n c'] := by simp [Act.eval, hT40]
  have hE41 : Act.eval ⟨T, []⟩ (.tmp 41) = .pointer (some ⟨C, i * 4, none⟩) := by simp [Act.eval, hT41]
  have hc : ∀ p, p < cs1.size → ∃ u, w₂.cell? ⟨C, p, none⟩ = some u := fun p hp => ⟨cs1[p], by simp [World.cell?, hC2, hp]⟩
  obtain ⟨x0, hx0⟩ := hc (i * 4) (by omega)
  obtain ⟨x1, hx1⟩ := hc (i * 4 + 1) (by omega)
  obtain ⟨x2, hx2⟩ := hc (i * 4 + 2) (by omega)
  obtain ⟨x3, hx3⟩ := hc (i * 4 + 3) (by omega)
  have hfz : ∀ p, w₂.frozen? ⟨C, p, none⟩ = false := fun p => by simp [World.frozen?, hC2]
  have hf0 := hfz (i * 4)
  have hf1 := hfz (i * 4 + 1)
  have hf2 := hfz (i * 4 + 2)
  have hf3 := hfz (i * 4 + 3)
  clear hc hfz
  go_simp
  refine hK _ _ ⟨(fun b => S b ∨ s' b), dw_four (o := i * 4) (a := .int .i64 wd) (b := .int .i64 dp) (c := .int .i64 s) (d := .slice (some ⟨ρ.f g', 0, none⟩) n c') (fun e h1 h2 => ?_) (fun e he => ?_), ?_⟩
  · have : e / 4 = i := by omega
    rw [this]; exact hJ.2.2.1
  · have hm := mem_listed he
    simp [go_sem, storedEv, *] at hm
    rcases hm with rfl | rfl | rfl | rfl
    · exact ⟨i * 4, by omega, by omega, rfl⟩
    · exact ⟨i * 4 + 1, by omega, by omega, rfl⟩
    · exact ⟨i * 4 + 2, by omega, by omega, rfl⟩
    · exact ⟨i * 4 + 3, by omega, by omega, rfl⟩
  clear hK K
  have hfin := jc_store (cc := c') hF.1 hW.s (fun _ h => .inl h) hlo' hF.2 hCS ⟨_, _, _, hC2, hszC⟩
  rw [Nat.mul_comm 4 i] at hfin
  unfold four at hfin
  clear hx0 hx1 hx2 hx3 hf0 hf1 hf2 hf3 hC2 hszC
  replace hF := hfin
  clear hfin
  generalize (((w₂.setCell _ _).setCell _ _).setCell _ _).setCell _ _ = w₃ at hF ⊢
  have rl2 : ∀ {a b : World}, JC Shun C w0 wd dp s n xss k j (i + k) (fun b => S b ∨ s' b) a → RW link.tWg Wg C (fun e => e / 4 % k = j) Rd (fun b => S b ∨ s' b) a b → JC Shun C w0 wd dp s n xss k j (i + k) (fun b => S b ∨ s' b) b := fun h r => h.rely hR r
  refine gw_last (n := 6) ?_
  (u_in rl2 hF; rw [stepG_region_end]; simp only [goes_go]; refine ⟨by (refine de1_none ?_; intro e he; simp at he), ?_⟩)
  (u_in rl2 hF; rw [stepG_end]; simp only [goes_go]; refine ⟨by (refine de1_none ?_; intro e he; simp at he), ?_⟩)
  (u_in rl2 hF; refine goes_leave0 rfl rfl Try.func90 rfl ⟨by (refine de1_none ?_; intro e he; simp at he), ?_⟩; walk_nrm)
  exact Goes.stop fun w₁ h₁ => ⟨rfl, rl2 hF h₁⟩
/-- ████ .. AS sharedWork ASKS FOR IT. ████ -/
theorem cs_task (I : CellIn Shun w0 wd dp s n g AL cL xss C bo bl bm) (hk : 1 ≤ k ∧ k < 65536) (hWg : w0.heap.size ≤ Wg) (b1 b2 b3 : Nat) :
    Task Wg C b1 b2 b3 xss.length k 90 #[ptr bo, ptr bl, ptr bm] (fun b => FreeB Shun w0 b ∧ b ≠ C) (fun j e => e / 4 % k = j) (U0 Shun C w0) (fun j i S w => JC Shun C w0 wd dp s n xss k j i S w) (fun j S w => FactC w0.heap.size C wd dp s n xss k j S w) where
  hn := by have := I.l16; omega
  hk := hk
  fn := ⟨_, _, Try.func90, nm_cs, cs_body⟩
  hU := fun a b ht hx hC h => ⟨⟨ht.1.trans h.1.1, ht.2.1.trans h.1.2.1, ht.2.2.trans h.1.2.2⟩, fun y hy hyC => (hx y ⟨hy, hyC⟩).trans (h.2.1 y hy hyC), h.2.2.trans hC⟩
  hJ := fun j Rd i S a b hR r h => h.rely hR r
  hF := fun j S a b hS hC h => ⟨h.1, h.2.stay hS hC (fun o ho e he => by subst he; exact ho.2) fun _ h => h⟩
  h0 := fun j w hj hU => ⟨hU, fun b hb => hb.elim, Nat.mod_eq_of_lt hj, fun _ => 0, fun _ => 0, fun o ho => (by
    have h1 := ho.1
    have h2 := ho.2
    rw [Nat.mod_eq_of_lt (by omega)] at h2
    omega), fun o o' h h' _ => (by
    have h1 := h.1
    have h2 := h.2
    rw [Nat.mod_eq_of_lt (by omega)] at h2
    omega)⟩
  hend := fun j i S w hi h => ⟨h.2.1, h.2.2.2.sub fun o ho => ⟨by omega, ho.2⟩⟩
  hdo := fun j hj Rd bw bf b1 hR i S w b a ops xx rest kk cs hi hI hJ => cs_do I hk.1 hWg hR hi hI.geo hJ b a ops xx rest kk cs
end
end Go.Proofs.Ytmmolicodlmlkaa.Ph
