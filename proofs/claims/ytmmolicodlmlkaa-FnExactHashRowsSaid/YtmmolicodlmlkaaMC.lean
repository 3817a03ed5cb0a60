/-
  Parts of the proof: What the lone goroutine's run comes to, a goroutine in company comes to: it owns some blocks and reads some others, which nobody writes; what else there is the others may turn. The lone world that stands for a world in company; a call that a lone contract tells of, made in company. What the kernel looks at: the functions that may be called are fit; the types' zero values name no block. A piece of a function's code, walked alone up to a cut, made in company. A piece of a function's code, walked alone to its return, made in company; a region walked alone up to an operation. A region walked alone No condition.
-/
import Derived.Test.YtmmolicodlmlkaaMB
import Derived.Calls
import Derived.Conc.Own3
import Derived.Orders
import Derived.Conc.WgGenN3
import Derived.Test.YtmmolicodlmlkaaChecked
import Derived.Conc.CrowdRun
import Derived.Conc.Beside
set_option linter.unusedVariables false
set_option linter.unusedSimpArgs false
namespace Go.Proofs.Ytmmolicodlmlkaa.Rel
open Go.Conc (G)
set_option linter.unusedVariables false

/-- What the others do: the blocks that this goroutine owns (S) or reads (Rd) stand. -/
structure RS (Rd S : Nat → Prop) (w w₁ : World) : Prop where
  tape : w₁.tape = w.tape
  os : w₁.os = w.os
  output : w₁.output = w.output
  size : w.heap.size ≤ w₁.heap.size
  own : ∀ b, S b → w₁.heap[b]? = w.heap[b]?
  rd : ∀ b, Rd b → w₁.heap[b]? = w.heap[b]?
theorem RS.refl {Rd S : Nat → Prop} (w : World) : RS Rd S w w := ⟨rfl, rfl, rfl, Nat.le_refl _, fun _ _ => rfl, fun _ _ => rfl⟩
theorem RS.trans {Rd S : Nat → Prop} {a b c : World} (h : RS Rd S a b) (k : RS Rd S b c) : RS Rd S a c :=
  ⟨k.tape.trans h.tape, k.os.trans h.os, k.output.trans h.output, Nat.le_trans h.size k.size, fun x hx => (k.own x hx).trans (h.own x hx), fun x hx => (k.rd x hx).trans (h.rd x hx)⟩
/-- As RS; blocks of Bd, which this goroutine names alone, stay rows of cells of their type. -/
structure RSB (Bd Rd S : Nat → Prop) (w w₁ : World) : Prop extends RS Rd S w w₁ where
  bd : ∀ b, Bd b → ∀ c e fr, w.heap[b]? = some (.cells c e fr) → ∃ c' fr', w₁.heap[b]? = some (.cells c' e fr')
theorem RSB.refl {Bd Rd S : Nat → Prop} (w : World) : RSB Bd Rd S w w := ⟨RS.refl w, fun _ _ c e fr h => ⟨c, fr, h⟩⟩
/-- What a step of its own may list. -/
def EvS (Rd S : Nat → Prop) (e : Event) : Prop :=
  (∃ a, e.loc = .cell a ∧ (S a.block ∨ (Rd a.block ∧ e.write = false)) ∧ e.sync = false) ∨ (∃ r, e.loc = .obj r ∧ (S r ∨ Rd r) ∧ e.write = false) ∨ e = ⟨.mark .noRoom, false, true⟩
/-- What a step of its own does: what it makes it owns; what it does not own stands. -/
structure DS (Rd S : Nat → Prop) (w w' : World) (es : Array Event) (S' : Nat → Prop) : Prop where
  tape : w'.tape = w.tape
  os : w'.os = w.os
  output : w'.output = w.output
  size : w.heap.size ≤ w'.heap.size
  own : ∀ b, S' b ↔ S b ∨ (w.heap.size ≤ b ∧ b < w'.heap.size)
  old : ∀ b, b < w.heap.size → ¬ S b → w'.heap[b]? = w.heap[b]?
  evs : ∀ e ∈ es, EvS Rd S' e
structure St where
  S : Nat → Prop
  g : Goroutine
  w : World

/-- An element that is not accessible begins an endless way down. -/
theorem endless {α : Type} {r : α → α → Prop} {x : α} (h : ¬ Acc r x) : ∃ p : Nat → α, p 0 = x ∧ ∀ n, r (p (n + 1)) (p n) := by
  have next : ∀ y : { y // ¬ Acc r y }, ∃ z : { y // ¬ Acc r y }, r z.1 y.1 := by
    rintro ⟨y, hy⟩
    apply Classical.byContradiction
    intro hn
    exact hy ⟨y, fun z hz => Classical.byContradiction fun hz' => hn ⟨⟨z, hz'⟩, hz⟩⟩
  let f := fun y => Classical.choose (next y)
  let q : Nat → { y // ¬ Acc r y } := fun n => Nat.rec ⟨x, h⟩ (fun _ y => f y) n
  exact ⟨fun n => (q n).1, rfl, fun n => Classical.choose_spec (next (q n))⟩
theorem runN_more {P : Program} : ∀ (N j : Nat) {m m1 : Machine}, runN P N m = .next m1 → runN P (N + j) m = runN P j m1
  | 0, j, m, m1, h => by injection h with h; rw [h, Nat.zero_add]
  | N + 1, j, m, m1, h => by
    rw [show N + 1 + j = (N + j) + 1 by omega]
    simp only [runN] at h ⊢
    cases hs : step P m with
    | next m2 => rw [hs] at h; exact runN_more N j h
    | ended o w => rw [hs] at h; cases h
theorem step_of_go {P : Program} {fr fr' : Frame} {cs cs' : List Frame} {w w' : World} {es : Array Event} (h : stepG P true (G fr cs) w = .go (G fr' cs') w' es) : step P (lone fr cs w) = .next (lone fr' cs' w') :=
  step_lone_go (by show (stepG P true (G fr cs) w).bare = _; rw [h]; rfl)
theorem step_of_ended {P : Program} {fr : Frame} {cs : List Frame} {w w' : World} {o : Outcome} {es : Array Event} (h : stepG P true (G fr cs) w = .ended o w' es) : step P (lone fr cs w) = .ended o w' :=
  step_lone_ended (by show (stepG P true (G fr cs) w).bare = _; rw [h]; rfl)
theorem opW_mono (P : Program) (fr : Frame) (v : World) : Mono v (opW P fr v) := by
  unfold opW
  split
  · split
    · exact runT_mono _ _ _ _
    · exact Mono.refl v
  · split
    · exact ⟨Nat.le_succ _, Nat.le_refl _, rfl⟩
    · split
      · split
        · exact runT_mono _ _ _ _
        · exact Mono.refl v
      · exact Mono.refl v
    · exact Mono.refl v
  · exact Mono.refl v
theorem item_call {P : Program} {Fs : Fns} {kl kc tl tc : List Item} (hk : kl = [] ∨ kl = [.code (.refuse "")]) (hT : TL P Fs kl kc tl tc) {its todo : List Item} (h : todo = its ++ tl) (hi : ∀ it ∈ its, itemOk P Fs it = true) : ∀ d a b c k, todo ≠ .call d a b c :: k := by
  intro d a b c k e
  rw [h] at e
  cases its with
  | nil =>
    cases hT with
    | seq _ _ => cases e
    | here => rcases hk with rfl | rfl <;> cases e
  | cons it its =>
    rw [List.cons_append] at e
    injection e with e1 e2
    have := hi it List.mem_cons_self
    rw [e1] at this
    cases this
theorem ST.ps {X : Cx} {B : Nat} {kl kc : List Item} {csc L L' : List Frame} (hk : kl = [] ∨ kl = [.code (.refuse "")]) (h : ST X B kl kc [badF] csc L L') : PS L := by
  induction h with
  | last h =>
    obtain ⟨its, tl, tc, t1, _, hi, hT⟩ := h.todo
    exact .cons h.defl (item_call hk hT t1 hi) .base
  | cons h hf ht hs ih =>
    obtain ⟨its, tl, tc, t1, _, hi, hT⟩ := h.todo
    exact .cons h.defl (item_call (.inl rfl) hT t1 hi) ih
theorem WR.rely {X : Cx} {wl v v' : World} (h : WR X wl v) (hv : ∀ c, c < wl.heap.size → X.Fs.al c = true → v'.heap[X.ρ.f c]? = v.heap[X.ρ.f c]?) : WR X wl v' :=
  ⟨fun b hb ha => let ⟨ol, oc, h1, h2, h3⟩ := h.blk b hb ha; ⟨ol, oc, h1, (hv b hb ha).trans h2, h3⟩, h.off, h.fresh, fun b hb => let ⟨k1, c, e, fr, k2, k3⟩ := h.nam b hb; ⟨k1, c, e, fr, k2, (hv b (Array.getElem?_eq_some_iff.1 k2).1 k1).trans k3⟩⟩
theorem WR.relyN {X : Cx} {wl v v' : World} (h : WR X wl v) (hv : ∀ c, c < wl.heap.size → X.Fs.al c = true → X.Fs.na c = false → v'.heap[X.ρ.f c]? = v.heap[X.ρ.f c]?)
    (hn : ∀ b, b < wl.heap.size → X.Fs.na b = true → ∀ c e fr, v.heap[X.ρ.f b]? = some (.cells c e fr) → ∃ c' fr', v'.heap[X.ρ.f b]? = some (.cells c' e fr')) : WR X wl v' := by
  refine ⟨fun b hb ha => ?_, h.off, h.fresh, fun b hb => ?_⟩
  · cases hna : X.Fs.na b with
    | false =>
      obtain ⟨ol, oc, h1, h2, h3⟩ := h.blk b hb ha
      exact ⟨ol, oc, h1, (hv b hb ha hna).trans h2, h3⟩
    | true =>
      obtain ⟨_, c, e, fr, k2, k3⟩ := h.nam b hna
      obtain ⟨c', fr', k4⟩ := hn b hb hna _ _ _ k3
      exact ⟨_, _, k2, k4, .bad⟩
  · obtain ⟨k1, c, e, fr, k2, k3⟩ := h.nam b hb
    obtain ⟨c', fr', k4⟩ := hn b (Array.getElem?_eq_some_iff.1 k2).1 hb _ _ _ k3
    exact ⟨k1, c', e, fr', k2, k4⟩
section
variable {P : Program} {Fs : Fns} {B0 : Nat} {kl kc : List Item} {csc : List Frame} {fl0 fc0 : Frame} {cl0 cc0 : List Frame} {wl0 v0 : World} {Bd Rd S0 : Nat → Prop} {StopL : Frame → List Frame → World → Prop} {main : Bool}
/-- The goroutine in company stands where the lone one stands at its stop. -/
structure AtC (P : Program) (Fs : Fns) (B0 : Nat) (kl kc : List Item) (csc : List Frame) (v0 : World) (Rd S0 : Nat → Prop) (ρ : Rn) (fl : Frame) (cl : List Frame) (wl : World) (S : Nat → Prop) (g : Goroutine) (w : World) : Prop where
  id : ∀ b, b < B0 → ρ.f b = b
  new : ∀ b, B0 ≤ b → B0 ≤ ρ.f b
  st : ∃ fc cc, g = G fc cc ∧ ST ⟨P, ρ, Fs⟩ wl.heap.size kl kc [badF] csc (fl :: cl) (fc :: cc)
  wr : WR ⟨P, ρ, Fs⟩ wl w
  low : B0 ≤ wl.heap.size
  cover : ∀ c, B0 ≤ c → c < wl.heap.size → S (ρ.f c)
  mine : ∀ b, S b ↔ S0 b ∨ (∃ c, B0 ≤ c ∧ c < wl.heap.size ∧ ρ.f c = b)
  tape : w.tape = v0.tape
  os : w.os = v0.os
  output : w.output = v0.output
  size : v0.heap.size ≤ w.heap.size
  rd : ∀ b, Rd b → w.heap[b]? = v0.heap[b]?
def StopC (P : Program) (Fs : Fns) (B0 : Nat) (kl kc : List Item) (csc : List Frame) (v0 : World) (Rd S0 : Nat → Prop) (StopL : Frame → List Frame → World → Prop) (S : Nat → Prop) (g : Goroutine) (w : World) : Prop :=
  ∃ ρ fl cl wl, AtC P Fs B0 kl kc csc v0 Rd S0 ρ fl cl wl S g w ∧ StopL fl cl wl
/-- All that is asked. -/
structure Setup (P : Program) (Fs : Fns) (B0 : Nat) (kl kc : List Item) (csc : List Frame) (fl0 fc0 : Frame) (cl0 cc0 : List Frame) (wl0 v0 : World) (Bd Rd S0 : Nat → Prop) (StopL : Frame → List Frame → World → Prop) : Prop where
  hz : ZeroOk P
  hO : ∀ ρ, FnsOk ⟨P, ρ, Fs⟩
  hG : P.globals.size ≤ B0
  hk : Tail kl kc
  hST : ∀ ρ : Rn, (∀ b, b < B0 → ρ.f b = b) → ST ⟨P, ρ, Fs⟩ B0 kl kc [badF] csc (fl0 :: cl0) (fc0 :: cc0)
  hwl : wl0.heap.size = B0
  hv : v0.heap.size = B0
  hW : ∀ ρ : Rn, (∀ b, b < B0 → ρ.f b = b) → WR ⟨P, ρ, Fs⟩ wl0 v0
  hal : ∀ b, b < B0 → Fs.al b = true → Fs.na b = false → S0 b ∨ Rd b
  hna : ∀ b, Fs.na b = true → b < B0 ∧ Bd b ∧ ¬ S0 b
  hwr : ∀ b, b < B0 → Fs.al b = true → Fs.wr b = true → S0 b
  hS0 : ∀ b, S0 b → b < B0
  hRd : ∀ b, Rd b → b < B0 ∧ ¬ S0 b
  hTerm : ∀ τ, ∃ M fl cl w, runN P M (lone fl0 cl0 { wl0 with tape := τ, drawn := 0 }) = .next (lone fl cl w) ∧ StopL fl cl w
  hSL : ∀ fl cl w, StopL fl cl w → (∀ ch, fl.mode ≠ .panicking ch) ∧ cl ≠ []
variable (U : Setup P Fs B0 kl kc csc fl0 fc0 cl0 cc0 wl0 v0 Bd Rd S0 StopL)
/-- One link of a way: the others' doing, a step. -/
def Lnk (P : Program) (main : Bool) (Bd Rd : Nat → Prop) (Stop : (Nat → Prop) → Goroutine → World → Prop) (x : St) (u : World) (y : St) : Prop :=
  RSB Bd Rd x.S x.w u ∧ ¬ Stop x.S x.g u ∧ ∃ es, stepG P main x.g u = .go y.g y.w es ∧ y.w = opW P x.g.frame u ∧ DS Rd x.S u y.w es y.S
theorem lone_inj {fl fl' : Frame} {cl cl' : List Frame} {w w' : World} (h : lone fl cl w = lone fl' cl' w') : fl = fl' ∧ cl = cl' ∧ w = w' := by
  unfold lone at h
  injection h with h1 h2 _
  injection h2 with h2
  injection h2 with h2 _
  injection h2 with h3 h4
  exact ⟨h3, h4, h1⟩
include U in
/-- The lone goroutine's next step, when it is not yet at its stop. -/
theorem next_step {ρ : Rn} {τ : Nat → Question → Nat} {N M : Nat} {fl : Frame} {cl : List Frame} {wl : World} {S : Nat → Prop} {g : Goroutine} {u : World}
    (hM : ∃ fl' cl' w', runN P M (lone fl0 cl0 { wl0 with tape := τ, drawn := 0 }) = .next (lone fl' cl' w') ∧ StopL fl' cl' w') (hN : runN P N (lone fl0 cl0 { wl0 with tape := τ, drawn := 0 }) = .next (lone fl cl wl)) (hlt : N < M)
    (hA : AtC P Fs B0 kl kc csc v0 Rd S0 ρ fl cl wl S g u) (hl : wl.tape = τ)
    (ht : ∀ i q, u.drawn + i < (opW P g.frame u).drawn → wl.tape (wl.drawn + i) q = u.tape (u.drawn + i) q) (hs : ∀ i, u.heap.size + i < (opW P g.frame u).heap.size → ρ.f (wl.heap.size + i) = u.heap.size + i) :
    ∃ gl L gc L' wl' v' es, step P (lone fl cl wl) = .next (lone gl L wl') ∧ stepG P main g u = .go (G gc L') v' es ∧ v' = opW P g.frame u ∧ DS Rd S u v' es (fun b => S b ∨ (u.heap.size ≤ b ∧ b < v'.heap.size)) ∧
      AtC P Fs B0 kl kc csc v0 Rd S0 ρ gl L wl' (fun b => S b ∨ (u.heap.size ≤ b ∧ b < v'.heap.size)) (G gc L') v' ∧ wl'.tape = τ ∧ wl'.heap.size = wl.heap.size + (v'.heap.size - u.heap.size) ∧ wl'.drawn = wl.drawn + (v'.drawn - u.drawn) := by
  obtain ⟨fl', cl', w', hMr, hMs⟩ := hM
  obtain ⟨j, rfl⟩ : ∃ j, M = N + (j + 1) := ⟨M - N - 1, by omega⟩
  rw [runN_more N (j + 1) hN] at hMr
  obtain ⟨hp, hcl⟩ := U.hSL _ _ _ hMs
  obtain ⟨fc, cc, rfl, hST⟩ := hA.st
  have hk0 : kl = [] ∨ kl = [.code (.refuse "")] := U.hk.imp (·.1) id
  have hps := hST.ps hk0
  have hF : Fix ⟨P, ρ, Fs⟩ := ⟨fun b hb => hA.id b (Nat.lt_of_lt_of_le hb U.hG), fun b hb h => by
    have hb : ¬ b < P.globals.size := hb
    have h : ρ.f b < P.globals.size := h
    have := U.hG
    rcases Nat.lt_or_ge b B0 with h1 | h1
    · rw [hA.id b h1] at h; exact hb h
    · have := hA.new b h1; omega⟩
  have hout := out (X := ⟨P, ρ, Fs⟩) (main := main) U.hz hF (U.hO ρ) (Nat.le_trans U.hG hA.low) U.hk hST hA.wr (fun hm => by
    -- the last frame on its return: behind it the lone goroutine is stuck
    apply Classical.byContradiction
    intro hn
    have hcl1 : cl = [badF] := Classical.byContradiction fun h => hn (.inl h)
    have hcc1 : cc = csc := Classical.byContradiction fun h => hn (.inr h)
    subst hcl1
    have hdefl : fl.defers = [] := by cases hps with | cons h _ _ => exact h
    have hkind : fl.kind = .normal := by
      rcases hST.fr with ⟨h, _, _⟩ | ⟨h, _⟩
      · exact h.kindl
      · exact h.kindl
    have dead : ∀ {o : Outcome} {w1 : World}, step P (lone fl [badF] wl) = .ended o w1 → False := by
      intro o w1 h
      rw [runN, h] at hMr
      cases hMr
    have popped : ∀ {a : Value} {w1 : World}, step P (lone fl [badF] wl) = .next (lone (badF.finish a) [] w1) → False := by
      intro a w1 h
      rw [runN, h] at hMr
      simp only at hMr
      cases j with
      | zero =>
        injection hMr with hMr
        exact hcl (lone_inj hMr).2.1.symm
      | succ j =>
        obtain ⟨o, w2, hb⟩ := step_bad_run (P := P) (w := w1) (u := a)
        rw [runN, hb] at hMr
        cases hMr
    cases hf : P.funcs[fl.fn]? with
    | none => exact popped (a := fl.tmps.getD 0 undef) (w1 := wl) (step_of_go (es := #[]) (by simp [G, stepG, unwind, doReturn, hm, hdefl, hkind, hf]))
    | some fn =>
      cases hr : (results fn fl.tmps).runT P wl #[] with
      | mk r es =>
        cases r with
        | ok a w1 => exact popped (step_of_go (sg_leave hm hdefl hkind hf hr))
        | halt h w1 =>
          obtain ⟨o, w2, es2, hx⟩ := sg_leave_dead (main := true) (c := badF) (cs := []) hm hdefl hf hr
          exact dead (step_of_ended hx)) ht hs
  cases hout with
  | dead h =>
    obtain ⟨o, w1, es, h⟩ := h
    rw [runN, step_of_ended h] at hMr
    cases hMr
  | pan h =>
    obtain ⟨ch, w1, es, h⟩ := h
    rw [runN, step_of_go h] at hMr
    obtain ⟨⟨c, r1⟩, r2, r3⟩ := raise_mode fl ch
    cases hps with
    | base => exfalso; rcases hST.fr with ⟨_, h, _⟩ | ⟨_, _, _, h⟩ <;> cases h
    | cons h1 h2 h3 =>
      obtain ⟨fr2, cs2, c2, e, hm2⟩ := panic_stays j _ _ _ c _ r1 (r2.trans h1) (by rw [r3]; exact h2) h3 hMr
      obtain ⟨e1, e2, e3⟩ := lone_inj e
      subst e1
      exact absurd hm2 (hp c2)
  | @ok gl gc L L' wl' v' es h1 h2 h3 h4 h5 h6 h7 h8 =>
    have hwsz : wl.heap.size ≤ wl'.heap.size := h6.size
    have hom := opW_mono P fc u
    have e7 : v' = opW P fc u := h7
    have husz : u.heap.size ≤ v'.heap.size := by rw [e7]; exact hom.size
    have hud : u.drawn ≤ v'.drawn := by rw [e7]; exact hom.drawn
    have hsz : wl'.heap.size = wl.heap.size + (v'.heap.size - u.heap.size) := by have := h5.size; omega
    have hdr : wl'.drawn = wl.drawn + (v'.drawn - u.drawn) := by have := h5.drawn; omega
    have hnew : ∀ c, wl.heap.size ≤ c → c < wl'.heap.size → ρ.f c = u.heap.size + (c - wl.heap.size) ∧ u.heap.size + (c - wl.heap.size) < v'.heap.size := by
      intro c hc1 hc2
      have h0 := hs (c - wl.heap.size) (by show _ < (opW P fc u).heap.size; rw [← e7]; omega)
      rw [show wl.heap.size + (c - wl.heap.size) = c by omega] at h0
      exact ⟨h0, by omega⟩
    have hlow := hA.low
    have hin : ∀ c, c < wl'.heap.size → Fs.al c = true → (c < wl.heap.size ∧ (Fs.na c = false → S (ρ.f c) ∨ Rd (ρ.f c)) ∧ (Fs.wr c = true → S (ρ.f c))) ∨ (wl.heap.size ≤ c ∧ u.heap.size ≤ ρ.f c ∧ ρ.f c < v'.heap.size) := by
      intro c hc ha
      rcases Nat.lt_or_ge c wl.heap.size with hc1 | hc1
      · refine .inl ⟨hc1, ?_⟩
        rcases Nat.lt_or_ge c B0 with hb | hb
        · rw [hA.id c hb]
          exact ⟨fun hn => (U.hal c hb ha hn).imp (fun h => (hA.mine c).2 (.inl h)) (fun h => h), fun hw => (hA.mine c).2 (.inl (U.hwr c hb ha hw))⟩
        · exact ⟨fun _ => .inl (hA.cover c hb hc1), fun _ => hA.cover c hb hc1⟩
      · obtain ⟨e1, e2⟩ := hnew c hc1 hc
        exact .inr ⟨hc1, by omega, by omega⟩
    have hD : DS Rd S u v' (es.map (renE ⟨P, ρ, Fs⟩)) (fun b => S b ∨ (u.heap.size ≤ b ∧ b < v'.heap.size)) := by
      refine ⟨h5.tapev, h5.os, h5.out, husz, fun b => Iff.rfl, fun b hb hn => h5.far b hb fun c hc ha hw e => ?_, fun e he => ?_⟩
      · rcases hin c (by omega) ha with ⟨_, _, h⟩ | ⟨h, _⟩
        · exact hn (e ▸ h hw)
        · omega
      · obtain ⟨e0, he0, rfl⟩ := Array.mem_map.1 he
        rcases h8 e0 he0 with ⟨a, l1, l2, l3, l4, l5⟩ | ⟨r, l1, l2, l3, l5⟩ | l
        · refine .inl ⟨renA ρ a, by show renL _ e0.loc = _; rw [l1]; rfl, ?_, l4⟩
          show (S (ρ.f a.block) ∨ _) ∨ (Rd (ρ.f a.block) ∧ e0.write = false)
          rcases hin a.block (inB_lt l2) (inB_al l2) with ⟨_, hh1, hh2⟩ | ⟨_, hh⟩
          · cases hw : e0.write with
            | true => exact .inl (.inl (hh2 (l3 hw)))
            | false => exact (hh1 l5).elim (fun h => .inl (.inl h)) (fun h => .inr ⟨h, rfl⟩)
          · exact .inl (.inr hh)
        · refine .inr (.inl ⟨ρ.f r, by show renL _ e0.loc = _; rw [l1]; rfl, ?_, l3⟩)
          rcases hin r (inB_lt l2) (inB_al l2) with ⟨_, hh1, _⟩ | ⟨_, hh⟩
          · exact (hh1 l5).imp .inl id
          · exact .inl (.inr hh)
        · subst l; exact .inr (.inr rfl)
    refine ⟨gl, L, gc, L', wl', v', _, step_of_go h1, h2, e7, hD, ?_, h5.tape.trans hl, hsz, hdr⟩
    refine ⟨hA.id, hA.new, ⟨gc, L', rfl, h3⟩, h4, by omega, fun c hc1 hc2 => ?_, fun b => ⟨fun h => ?_, fun h => ?_⟩, h5.tapev.trans hA.tape, h5.os.trans hA.os, h5.out.trans hA.output, Nat.le_trans hA.size husz, fun b hb => ?_⟩
    · rcases Nat.lt_or_ge c wl.heap.size with h | h
      · exact .inl (hA.cover c hc1 h)
      · obtain ⟨e1, e2⟩ := hnew c h hc2
        exact .inr (by rw [e1]; exact ⟨by omega, e2⟩)
    · rcases h with h | ⟨hb1, hb2⟩
      · exact ((hA.mine b).1 h).imp id fun ⟨c, hc1, hc2, e⟩ => ⟨c, hc1, by omega, e⟩
      · refine .inr ⟨wl.heap.size + (b - u.heap.size), by omega, by omega, ?_⟩
        have := (hnew (wl.heap.size + (b - u.heap.size)) (by omega) (by omega)).1
        rw [this]; omega
    · rcases h with h | ⟨c, hc1, hc2, e⟩
      · exact .inl ((hA.mine b).2 (.inl h))
      · rcases Nat.lt_or_ge c wl.heap.size with h | h
        · exact .inl ((hA.mine b).2 (.inr ⟨c, hc1, h, e⟩))
        · obtain ⟨e1, e2⟩ := hnew c h hc2
          exact .inr ⟨by omega, by omega⟩
    · obtain ⟨h1, h2⟩ := U.hRd b hb
      have hsz0 := hA.size
      have hvv := U.hv
      refine (hD.old b (by omega) fun hS => ?_).trans (hA.rd b hb)
      rcases (hA.mine b).1 hS with h | ⟨c, hc1, _, e⟩
      · exact h2 h
      · have := hA.new c hc1; omega
include U in
/-- The whole way: one renaming, one tape for the lone goroutine, at every link. -/
theorem path_at (Stop : (Nat → Prop) → Goroutine → World → Prop) (hStop : ∀ S g w, StopC P Fs B0 kl kc csc v0 Rd S0 StopL S g w → Stop S g w)
    (p : Nat → St) (u : Nat → World) (W : Nat → Prop) (h0 : p 0 = ⟨S0, G fc0 cc0, v0⟩) (hW0 : W 0) (hWd : ∀ N, W (N + 1) → W N)
    (hR : ∀ N, W N → RSB Bd Rd (p N).S (p N).w (u N) ∧ ¬ Stop (p N).S (p N).g (u N))
    (hL : ∀ N, W (N + 1) → ∃ es, stepG P main (p N).g (u N) = .go (p (N + 1)).g (p (N + 1)).w es ∧ (p (N + 1)).w = opW P (p N).g.frame (u N) ∧ DS Rd (p N).S (u N) (p (N + 1)).w es (p (N + 1)).S) :
    ∃ (ρ : Rn) (τ : Nat → Question → Nat) (M : Nat), (∃ fl' cl' w', runN P M (lone fl0 cl0 { wl0 with tape := τ, drawn := 0 }) = .next (lone fl' cl' w') ∧ StopL fl' cl' w') ∧
      ∀ N, W N → N < M ∧ ∃ fl cl wl, runN P N (lone fl0 cl0 { wl0 with tape := τ, drawn := 0 }) = .next (lone fl cl wl) ∧ AtC P Fs B0 kl kc csc v0 Rd S0 ρ fl cl wl (p N).S (p N).g (u N) ∧ wl.tape = τ ∧
        (∀ i q, (u N).drawn + i < (opW P (p N).g.frame (u N)).drawn → wl.tape (wl.drawn + i) q = (u N).tape ((u N).drawn + i) q) ∧ (∀ i, (u N).heap.size + i < (opW P (p N).g.frame (u N)).heap.size → ρ.f (wl.heap.size + i) = (u N).heap.size + i) := by
  classical
  let m : Nat → Nat := fun N => if W N then (opW P (p N).g.frame (u N)).heap.size - (u N).heap.size else 0
  let k : Nat → Nat := fun N => if W N then (opW P (p N).g.frame (u N)).drawn - (u N).drawn else 0
  let H : Nat → Nat := fun N => Nat.rec (u 0).heap.size (fun N h => if W (N + 1) then (u (N + 1)).heap.size else h + m N) N
  have hHW : ∀ N, W N → H N = (u N).heap.size := by
    intro N hN
    cases N with
    | zero => rfl
    | succ N => show (if W (N + 1) then (u (N + 1)).heap.size else _) = _; rw [if_pos hN]
  have hHm : ∀ N, H N + m N ≤ H (N + 1) := by
    intro N
    show _ ≤ (if W (N + 1) then (u (N + 1)).heap.size else H N + m N)
    by_cases h : W (N + 1)
    · rw [if_pos h, hHW N (hWd N h)]
      obtain ⟨es, _, e2, _⟩ := hL N h
      have h3 := (hR (N + 1) h).1.size
      have h4 := (opW_mono P (p N).g.frame (u N)).size
      show _ + (if W N then _ else 0) ≤ _
      rw [if_pos (hWd N h), ← e2]
      rw [← e2] at h4
      omega
    · rw [if_neg h]; exact Nat.le_refl _
  have hst : (p 0).w = v0 ∧ (p 0).S = S0 ∧ (p 0).g = G fc0 cc0 := by rw [h0]; exact ⟨rfl, rfl, rfl⟩
  have hu0 := (hR 0 hW0).1
  rw [hst.1, hst.2.1] at hu0
  have hb0 : B0 ≤ H 0 := by rw [hHW 0 hW0, ← U.hv]; exact hu0.size
  obtain ⟨ρ, hid, hge, hlay⟩ := exists_rn B0 m H hHm hb0
  let τ : Nat → Question → Nat := fun d q => v0.tape (lay 0 k (fun N => (u N).drawn) d) q
  obtain ⟨M, hM⟩ := U.hTerm τ
  refine ⟨ρ, τ, M, hM, ?_⟩
  -- the lone goroutine's state at link N, with how many blocks and draws it has
  have key : ∀ N, W N → N < M ∧ ∃ fl cl wl, runN P N (lone fl0 cl0 { wl0 with tape := τ, drawn := 0 }) = .next (lone fl cl wl) ∧ AtC P Fs B0 kl kc csc v0 Rd S0 ρ fl cl wl (p N).S (p N).g (u N) ∧ wl.tape = τ ∧ wl.heap.size = bs B0 m N ∧ wl.drawn = bs 0 k N := by
    have notyet : ∀ N, W N → (N = 0 ∨ ∃ N', N = N' + 1 ∧ N' < M) → (∃ fl cl wl, runN P N (lone fl0 cl0 { wl0 with tape := τ, drawn := 0 }) = .next (lone fl cl wl) ∧ AtC P Fs B0 kl kc csc v0 Rd S0 ρ fl cl wl (p N).S (p N).g (u N)) → N < M := by
      rintro N hN hle ⟨fl, cl, wl, hr, hA⟩
      apply Classical.byContradiction
      intro hge
      obtain rfl : N = M := by
        rcases hle with h | ⟨N', h1, h2⟩ <;> omega
      obtain ⟨fl', cl', w', hMr, hMs⟩ := hM
      rw [hr] at hMr
      injection hMr with hMr
      obtain ⟨rfl, rfl, rfl⟩ := lone_inj hMr
      exact (hR N hN).2 (hStop _ _ _ ⟨ρ, _, _, _, hA, hMs⟩)
    intro N
    induction N with
    | zero =>
      intro hN
      have hA : AtC P Fs B0 kl kc csc v0 Rd S0 ρ fl0 cl0 { wl0 with tape := τ, drawn := 0 } (p 0).S (p 0).g (u 0) := by
        rw [hst.2.1, hst.2.2]
        have hwr := U.hW ρ hid
        refine ⟨hid, hge, ⟨fc0, cc0, rfl, by show ST _ wl0.heap.size _ _ _ _ _ _; rw [U.hwl]; exact U.hST ρ hid⟩, WR.relyN (wl := { wl0 with tape := τ, drawn := 0 }) ⟨hwr.blk, hwr.off, hwr.fresh, hwr.nam⟩ (fun c hc ha hn => ?_) (fun c hc hn => ?_), by show B0 ≤ wl0.heap.size; rw [U.hwl]; exact Nat.le_refl _, fun c h1 h2 => ?_, fun b => ⟨.inl, fun h => h.elim id fun ⟨c, h1, h2, _⟩ => ?_⟩,
          hu0.tape, hu0.os, hu0.output, hu0.size, fun b hb => hu0.rd b hb⟩
        · have hc' : c < B0 := by rw [← U.hwl]; exact hc
          show (u 0).heap[ρ.f c]? = _
          rw [hid c hc']
          rcases U.hal c hc' ha hn with h | h
          · exact hu0.own c h
          · exact hu0.rd c h
        · obtain ⟨q1, q2, _⟩ := U.hna c hn
          show ∀ cc e fr, v0.heap[ρ.f c]? = _ → ∃ c' fr', (u 0).heap[ρ.f c]? = _
          rw [hid c q1]
          exact fun cc e fr h => hu0.bd c q2 cc e fr h
        · have : c < B0 := by rw [← U.hwl]; exact h2
          exfalso; omega
        · have : c < B0 := by rw [← U.hwl]; exact h2
          exfalso; omega
      exact ⟨notyet 0 hN (.inl rfl) ⟨_, _, _, rfl, hA⟩, _, _, _, rfl, hA, rfl, U.hwl, rfl⟩
    | succ N ih =>
      intro hN1
      have hN := hWd N hN1
      obtain ⟨hlt, fl, cl, wl, hr, hA, hl, hsz, hdr⟩ := ih hN
      have ht : ∀ i q, (u N).drawn + i < (opW P (p N).g.frame (u N)).drawn → wl.tape (wl.drawn + i) q = (u N).tape ((u N).drawn + i) q := by
        intro i q hi
        have hki : i < k N := by show i < (if W N then _ else 0); rw [if_pos hN]; omega
        rw [hl, hdr, hA.tape]
        show v0.tape (lay 0 k (fun N => (u N).drawn) (bs 0 k N + i)) q = _
        rw [lay_at 0 k _ hki]
      have hs : ∀ i, (u N).heap.size + i < (opW P (p N).g.frame (u N)).heap.size → ρ.f (wl.heap.size + i) = (u N).heap.size + i := by
        intro i hi
        have hmi : i < m N := by show i < (if W N then _ else 0); rw [if_pos hN]; omega
        rw [hsz, hlay N i hmi, hHW N hN]
      obtain ⟨gl, L, gc, L', wl', v', es, q1, q2, q3, q4, q5, q6, q7, q8⟩ := next_step (main := main) U hM hr hlt hA hl ht hs
      obtain ⟨es2, l1, l2, l3⟩ := hL N hN1
      rw [q2] at l1
      injection l1 with l1a l1b l1c
      have hr1 : runN P (N + 1) (lone fl0 cl0 { wl0 with tape := τ, drawn := 0 }) = .next (lone gl L wl') := by
        rw [runN_more N 1 hr, runN, q1]; rfl
      have hR1 := (hR (N + 1) hN1).1
      have hS : ∀ b, (p (N + 1)).S b ↔ (p N).S b ∨ ((u N).heap.size ≤ b ∧ b < v'.heap.size) := by
        intro b
        have := l3.own b
        rw [← l1b] at this
        exact this
      rw [← l1b] at hR1
      have hA1 : AtC P Fs B0 kl kc csc v0 Rd S0 ρ gl L wl' (p (N + 1)).S (p (N + 1)).g (u (N + 1)) := by
        rw [← l1a]
        refine ⟨q5.id, q5.new, q5.st, q5.wr.relyN (fun c hc ha hn => ?_) (fun c hc hn => ?_), q5.low, fun c h1 h2 => (hS _).2 (q5.cover c h1 h2), fun b => (hS b).trans (q5.mine b), hR1.tape.trans q5.tape, hR1.os.trans q5.os, hR1.output.trans q5.output, Nat.le_trans q5.size hR1.size, fun b hb => (hR1.rd b hb).trans (q5.rd b hb)⟩
        · show (u (N + 1)).heap[ρ.f c]? = v'.heap[ρ.f c]?
          rcases Nat.lt_or_ge c B0 with hb | hb
          · rw [hid c hb]
            rcases U.hal c hb ha hn with h | h
            · exact hR1.own c ((hS c).2 ((q5.mine c).2 (.inl h)))
            · exact hR1.rd c h
          · exact hR1.own _ ((hS _).2 (q5.cover c hb hc))
        · obtain ⟨z1, z2, _⟩ := U.hna c hn
          show ∀ cc e fr, v'.heap[ρ.f c]? = _ → ∃ c' fr', (u (N + 1)).heap[ρ.f c]? = _
          rw [hid c z1]
          exact fun cc e fr h => hR1.bd c z2 cc e fr h
      refine ⟨notyet (N + 1) hN1 (.inr ⟨N, rfl, hlt⟩) ⟨_, _, _, hr1, hA1⟩, gl, L, wl', hr1, hA1, q6, ?_, ?_⟩
      · rw [q7, hsz]
        show _ = bs B0 m N + (if W N then _ else 0)
        rw [if_pos hN, ← q3]
      · rw [q8, hdr]
        show _ = bs 0 k N + (if W N then _ else 0)
        rw [if_pos hN, ← q3]
  intro N hN
  obtain ⟨hlt, fl, cl, wl, hr, hA, hl, hsz, hdr⟩ := key N hN
  refine ⟨hlt, fl, cl, wl, hr, hA, hl, fun i q hi => ?_, fun i hi => ?_⟩
  · have hki : i < k N := by show i < (if W N then _ else 0); rw [if_pos hN]; omega
    rw [hl, hdr, hA.tape]
    show v0.tape (lay 0 k (fun N => (u N).drawn) (bs 0 k N + i)) q = _
    rw [lay_at 0 k _ hki]
  · have hmi : i < m N := by show i < (if W N then _ else 0); rw [if_pos hN]; omega
    rw [hsz, hlay N i hmi, hHW N hN]
include U in
/-- ████ WHAT THE LONE GOROUTINE'S RUN COMES TO ON EVERY TAPE, THE GOROUTINE IN COMPANY COMES TO. ████ -/
theorem transferB : Go1 P main (RSB Bd Rd) (DS Rd) (StopC P Fs B0 kl kc csc v0 Rd S0 StopL) S0 (G fc0 cc0) v0 := by
  classical
  let Stop := StopC P Fs B0 kl kc csc v0 Rd S0 StopL
  let x0 : St := ⟨S0, G fc0 cc0, v0⟩
  let r : St → St → Prop := fun y x => ∃ u, Lnk P main Bd Rd Stop x u y
  -- no endless way
  have hacc : Acc r x0 := by
    apply Classical.byContradiction
    intro hn
    obtain ⟨p, hp0, hp⟩ := endless hn
    let u : Nat → World := fun n => Classical.choose (hp n)
    have hu : ∀ n, Lnk P main Bd Rd Stop (p n) (u n) (p (n + 1)) := fun n => Classical.choose_spec (hp n)
    obtain ⟨ρ, τ, M, _, hall⟩ := path_at (main := main) U Stop (fun _ _ _ h => h) p u (fun _ => True) hp0 trivial (fun _ _ => trivial) (fun N _ => ⟨(hu N).1, (hu N).2.1⟩) (fun N _ => (hu N).2.2)
    have := (hall M trivial).1
    omega
  -- behind every way there is a step
  have hsafe : ∀ (n : Nat) (p : Nat → St) (u : Nat → World), p 0 = x0 → (∀ N, N < n → Lnk P main Bd Rd Stop (p N) (u N) (p (N + 1))) → ∀ w₁, RSB Bd Rd (p n).S (p n).w w₁ → ¬ Stop (p n).S (p n).g w₁ →
      (p n).g.status = .running ∧ ∃ y, Lnk P main Bd Rd Stop (p n) w₁ y := by
    intro n p u hp0 hp w₁ hr hns
    let u' : Nat → World := fun N => if N < n then u N else w₁
    have hu' : ∀ N, N < n → u' N = u N := fun N h => by show (if N < n then u N else w₁) = _; rw [if_pos h]
    have hun : u' n = w₁ := by show (if n < n then u n else w₁) = _; rw [if_neg (by omega)]
    obtain ⟨ρ, τ, M, hM, hall⟩ := path_at (main := main) U Stop (fun _ _ _ h => h) p u' (fun N => N ≤ n) hp0 (Nat.zero_le _) (fun N h => by omega)
      (fun N h => by
        rcases Nat.lt_or_ge N n with h1 | h1
        · rw [hu' N h1]; exact ⟨(hp N h1).1, (hp N h1).2.1⟩
        · obtain rfl : N = n := by omega
          rw [hun]; exact ⟨hr, hns⟩)
      (fun N h => by rw [hu' N (by omega)]; exact (hp N (by omega)).2.2)
    obtain ⟨hlt, fl, cl, wl, hrun, hA, hl, ht, hs⟩ := hall n (Nat.le_refl _)
    rw [hun] at hA ht hs
    obtain ⟨gl, L, gc, L', wl', v', es, q1, q2, q3, q4, q5, _⟩ := next_step (main := main) U hM hrun hlt hA hl ht hs
    obtain ⟨fc, cc, hg, _⟩ := hA.st
    exact ⟨by rw [hg]; rfl, ⟨_, G gc L', v'⟩, hr, hns, es, q2, q3, q4⟩
  -- so it is on its way
  have main_ : ∀ x, Acc r x → (∃ (n : Nat) (p : Nat → St) (u : Nat → World), p 0 = x0 ∧ p n = x ∧ ∀ N, N < n → Lnk P main Bd Rd Stop (p N) (u N) (p (N + 1))) → Go1 P main (RSB Bd Rd) (DS Rd) Stop x.S x.g x.w := by
    intro x hx
    induction hx with
    | intro x _ ih =>
      rintro ⟨n, p, u, hp0, hpn, hp⟩
      refine Go1.intro fun w₁ hr => ?_
      by_cases hs : Stop x.S x.g w₁
      · exact .inl hs
      · subst hpn
        obtain ⟨hrun, y, hy⟩ := hsafe n p u hp0 hp w₁ hr hs
        obtain ⟨es, e1, _, e3⟩ := hy.2.2
        refine .inr ⟨hrun, y.g, y.w, es, y.S, e1, e3, ih y ⟨w₁, hy⟩ ⟨n + 1, fun N => if N ≤ n then p N else y, fun N => if N < n then u N else w₁, ?_, ?_, ?_⟩⟩
        · simp only [Nat.zero_le, if_true]; exact hp0
        · have : ¬ n + 1 ≤ n := by omega
          simp only [this, if_false]
        · intro N hN
          rcases Nat.lt_or_ge N n with h1 | h1
          · have h2 : N ≤ n := by omega
            have h3 : N + 1 ≤ n := by omega
            simp only [h1, h2, h3, if_true]
            exact hp N h1
          · obtain rfl : N = n := by omega
            have h2 : ¬ N < N := by omega
            have h3 : ¬ N + 1 ≤ N := by omega
            simp only [h2, h3, Nat.le_refl, if_true, if_false]
            exact hy
  exact main_ x0 hacc ⟨0, fun _ => x0, fun _ => v0, rfl, rfl, fun N h => by omega⟩
end
section
variable {P : Program} {Fs : Fns} {B0 : Nat} {kl kc : List Item} {csc : List Frame} {fl0 fc0 : Frame} {cl0 cc0 : List Frame} {wl0 v0 : World} {Rd S0 : Nat → Prop} {StopL : Frame → List Frame → World → Prop} {main : Bool}
/-- No block is named alone. -/
theorem transfer (U : Setup P Fs B0 kl kc csc fl0 fc0 cl0 cc0 wl0 v0 (fun _ => False) Rd S0 StopL) : Go1 P main (RS Rd) (DS Rd) (StopC P Fs B0 kl kc csc v0 Rd S0 StopL) S0 (G fc0 cc0) v0 := by
  obtain ⟨T, h⟩ := transferB (main := main) U
  exact ⟨T, h.mono (fun s a b hr => ⟨hr, fun _ h => h.elim⟩) (fun _ _ _ _ _ h => h) (fun _ _ _ h => h)⟩
end
end Go.Proofs.Ytmmolicodlmlkaa.Rel
namespace Go.Proofs.Ytmmolicodlmlkaa.Rel
open Go.Conc (G)
set_option linter.unusedVariables false

/-- Not seen as another type, and no number. -/
def plainO : Option Obj → Bool
  | some (.view _ _) | some (.number _ _) => false
  | _ => true
open Classical in
/-- Which functions may be called; which blocks may be named, which may be written, which are named alone. -/
noncomputable def fnsNa (fs : FuncId → Bool) (v : World) (al wr na : Nat → Prop) : Fns :=
  ⟨fs, fun b => if b < v.heap.size then decide (na b) || (decide (al b) && plainO v.heap[b]?) else true, fun b => if b < v.heap.size then decide (wr b) else true, fun b => decide (na b)⟩
open Classical in
noncomputable def fnsOf (fs : FuncId → Bool) (v : World) (al wr : Nat → Prop) : Fns :=
  ⟨fs, fun b => if b < v.heap.size then decide (al b) && plainO v.heap[b]? else true, fun b => if b < v.heap.size then decide (wr b) else true, fun _ => false⟩
open Classical in
noncomputable def loneO (Fs : Fns) (B : Nat) (wr : Bool) : Obj → Obj
  | .cells c e fr => if (∀ v ∈ c, okV Fs B v = true) ∧ fr = (0, 0) then (if wr then .cells c e (0, 0) else .cells c e (0, c.size)) else .cells #[] e (0, 1)
  | o => stand o
/-- What stands for a block that is named alone. -/
def hollow : Obj → Obj
  | .cells _ e _ => .cells #[] e (0, 1)
  | o => o
noncomputable def loneW (Fs : Fns) (v : World) : World := { v with heap := v.heap.mapIdx fun b o => if Fs.na b then hollow o else if Fs.al b then loneO Fs v.heap.size (Fs.wr b) o else .coro none }
section
variable {P : Program} {Fs : Fns} {v : World}
theorem loneW_size : (loneW Fs v).heap.size = v.heap.size := by simp [loneW]
theorem loneW_get (b : Nat) : (loneW Fs v).heap[b]? = (v.heap[b]?).map fun o => if Fs.na b then hollow o else if Fs.al b then loneO Fs v.heap.size (Fs.wr b) o else .coro none := by
  simp [loneW]
/-- A block that may be named and written, of clean cells. -/
theorem loneW_own {b : Nat} {c : Array Value} {e : TypeId} (h : v.heap[b]? = some (.cells c e (0, 0))) (hn : Fs.na b = false) (ha : Fs.al b = true) (hw : Fs.wr b = true) (ho : ∀ x ∈ c, okV Fs v.heap.size x = true) : (loneW Fs v).heap[b]? = some (.cells c e (0, 0)) := by
  rw [loneW_get, h]
  simp only [Option.map_some, hn, ha, if_true, if_false, Bool.false_eq_true, loneO, hw]
  rw [if_pos ⟨ho, trivial⟩]
theorem loneW_rd {b : Nat} {c : Array Value} {e : TypeId} (h : v.heap[b]? = some (.cells c e (0, 0))) (hn : Fs.na b = false) (ha : Fs.al b = true) (hw : Fs.wr b = false) (ho : ∀ x ∈ c, okV Fs v.heap.size x = true) : (loneW Fs v).heap[b]? = some (.cells c e (0, c.size)) := by
  rw [loneW_get, h]
  simp only [Option.map_some, hn, ha, if_true, if_false, Bool.false_eq_true, loneO, hw]
  rw [if_pos ⟨ho, trivial⟩]
theorem loneW_cell {a : Addr} {c : Array Value} {e : TypeId} (h : v.heap[a.block]? = some (.cells c e (0, 0))) (hn : Fs.na a.block = false) (ha : Fs.al a.block = true) (ho : ∀ x ∈ c, okV Fs v.heap.size x = true) : (loneW Fs v).cell? a = v.cell? a := by
  unfold World.cell?
  cases hw : Fs.wr a.block with
  | true => rw [loneW_own h hn ha hw ho, h]
  | false => rw [loneW_rd h hn ha hw ho, h]
theorem loneW_wr (hp : ∀ b, b < v.heap.size → Fs.al b = true → Fs.na b = false → plainO v.heap[b]? = true) (hf : ∀ b, v.heap.size ≤ b → Fs.al b = true ∧ Fs.wr b = true ∧ Fs.na b = false) (hn : ∀ b, Fs.na b = true → Fs.al b = true ∧ ∃ c e fr, v.heap[b]? = some (.cells c e fr)) (ρ : Rn) (hρ : ∀ b, b < v.heap.size → ρ.f b = b) : WR ⟨P, ρ, Fs⟩ (loneW Fs v) v := by
  refine ⟨fun b hb ha => ?_, fun b hb ha => ?_, fun b hb => hf b (by rw [loneW_size] at hb; exact hb), fun b hb => ?_⟩
  · rw [loneW_size] at hb ⊢
    have ha' : Fs.al b = true := ha
    have hg : v.heap[b]? = some v.heap[b] := Array.getElem?_eq_getElem hb
    cases hnb : Fs.na b with
    | true =>
      obtain ⟨_, c, e, fr, h2⟩ := hn b hnb
      exact ⟨.cells #[] e (0, 1), .cells c e fr, by rw [loneW_get, h2]; simp [hnb, hollow], by show v.heap[ρ.f b]? = _; rw [hρ b hb, h2], .bad⟩
    | false =>
    have hpb := hp b hb ha hnb
    refine ⟨loneO Fs v.heap.size (Fs.wr b) v.heap[b], v.heap[b], ?_, ?_, ?_⟩
    · rw [loneW_get, hg]; simp [ha', hnb]
    · show v.heap[ρ.f b]? = _; rw [hρ b hb, hg]
    · rw [hg] at hpb
      cases ho : v.heap[b] with
      | cells c e fr =>
        show BR _ _ _ (if (∀ x ∈ c, okV Fs v.heap.size x = true) ∧ fr = (0, 0) then (if Fs.wr b then .cells c e (0, 0) else .cells c e (0, c.size)) else .cells #[] e (0, 1)) _
        by_cases hc : (∀ x ∈ c, okV Fs v.heap.size x = true) ∧ fr = (0, 0)
        · rw [if_pos hc]
          obtain ⟨hc, rfl⟩ := hc
          have e1 : c.map (ren ρ) = c := by
            apply Array.ext (by simp)
            intro i h1 h2
            rw [Array.getElem_map]
            exact ren_agree hρ _ (hc _ (Array.getElem_mem h2))
          cases hw : Fs.wr b with
          | true =>
            have := BR.cells (X := ⟨P, ρ, Fs⟩) (B := v.heap.size) (wr := Fs.wr b) (c := c) (e := e) hw hc
            simp only [e1] at this
            rw [hw] at this
            exact this
          | false =>
            have := BR.ro (X := ⟨P, ρ, Fs⟩) (B := v.heap.size) (wr := false) (c := c) (e := e) hc
            simp only [e1] at this
            exact this
        · rw [if_neg hc]; exact .bad
      | view a t => rw [ho] at hpb; cases hpb
      | number a l => rw [ho] at hpb; cases hpb
      | pending c e => exact BR.dull (X := ⟨P, ρ, Fs⟩) (o := .pending c e) trivial
      | map a b => exact BR.dull (X := ⟨P, ρ, Fs⟩) (o := .map a b) trivial
      | chan a b c d e f => exact BR.dull (X := ⟨P, ρ, Fs⟩) (o := .chan a b c d e f) trivial
      | stringIter a b => exact BR.dull (X := ⟨P, ρ, Fs⟩) (o := .stringIter a b) trivial
      | mapIter a b c d => exact BR.dull (X := ⟨P, ρ, Fs⟩) (o := .mapIter a b c d) trivial
      | loop l => exact BR.dull (X := ⟨P, ρ, Fs⟩) (o := .loop l) trivial
      | deferred c => exact BR.dull (X := ⟨P, ρ, Fs⟩) (o := .deferred c) trivial
      | coro c => exact BR.dull (X := ⟨P, ρ, Fs⟩) (o := .coro c) trivial
      | finalizers a b => exact BR.dull (X := ⟨P, ρ, Fs⟩) (o := .finalizers a b) trivial
  · rw [loneW_size] at hb
    have ha' : Fs.al b = false := ha
    have hnb : Fs.na b = false := by
      cases h : Fs.na b with
      | false => rfl
      | true => rw [(hn b h).1] at ha'; cases ha'
    rw [loneW_get, Array.getElem?_eq_getElem hb]
    simp [ha', hnb]
  · obtain ⟨k1, c, e, fr, k2⟩ := hn b hb
    have hlt : b < v.heap.size := (Array.getElem?_eq_some_iff.1 k2).1
    have hb' : Fs.na b = true := hb
    exact ⟨k1, c, e, fr, by rw [loneW_get, k2]; simp [hb', hollow], by show v.heap[ρ.f b]? = _; rw [hρ b hlt, k2]⟩
end
/-! ### a call -/
section
variable {P : Program} {fs : FuncId → Bool} {v : World} {Rd S : Nat → Prop} {f : FuncId} {args : Array Value} {cs : List Frame} {main : Bool} {Q : Value → World → Prop}
/-- The call stands at its return: its value and its world are those of a lone call, but for the names of new blocks. -/
structure RetC (P : Program) (Fs : Fns) (v : World) (Rd S0 : Nat → Prop) (f : FuncId) (cs : List Frame) (Q : Value → World → Prop) (S : Nat → Prop) (g : Goroutine) (w : World) : Prop where
  out : ∃ (ρ : Rn) (fc : Frame) (u : Value) (wl : World), g = G fc cs ∧ fc.fn = f ∧ fc.mode = .returning ∧ fc.defers = [] ∧ fc.kind = .normal ∧ (∃ fn, P.funcs[f]? = some fn ∧ ∀ (w : World) es, (results fn fc.tmps).runT P w es = (.ok (ren ρ u) w, es)) ∧
    Q u wl ∧ okV Fs wl.heap.size u = true ∧ (∀ b, b < v.heap.size → ρ.f b = b) ∧ (∀ b, v.heap.size ≤ b → v.heap.size ≤ ρ.f b) ∧ WR ⟨P, ρ, Fs⟩ wl w ∧ v.heap.size ≤ wl.heap.size ∧
    (∀ b, S b ↔ S0 b ∨ (∃ c, v.heap.size ≤ c ∧ c < wl.heap.size ∧ ρ.f c = b))
  tape : w.tape = v.tape
  os : w.os = v.os
  output : w.output = v.output
  size : v.heap.size ≤ w.heap.size
  rd : ∀ b, Rd b → w.heap[b]? = v.heap[b]?
theorem results_pure {fn : Func} (h : fn.results.all resOk = true) (a : Array Value) : ∃ u, results fn a = .pure u := by
  unfold results
  rw [Array.mapM_eq_mapM_toList]
  rw [Array.all_eq_true'] at h
  have key : ∀ (l : List ResultVar), (∀ r ∈ l, resOk r = true) → ∃ x, (l.mapM fun | .tmp t => pure (a.getD t undef) | .cell x t => do loadVar t (← asAddr (a.getD x undef)) : Sem (List Value)) = .pure x := by
    intro l
    induction l with
    | nil => intro _; exact ⟨[], rfl⟩
    | cons r l ih =>
      intro hl
      obtain ⟨x, hx⟩ := ih fun r hr => hl r (List.mem_cons_of_mem _ hr)
      cases r with
      | cell y t => exact absurd (hl _ List.mem_cons_self) (by simp [resOk])
      | tmp t =>
        refine ⟨a.getD t undef :: x, ?_⟩
        rw [List.mapM_cons, hx]; rfl
  obtain ⟨x, hx⟩ := key fn.results.toList fun r hr => h r (by simpa using hr)
  exact ⟨_, congrArg (fun s => (Functor.map List.toArray s : Sem (Array Value)) >>= fun vs => (pure (if h : vs.size = 1 then vs[0] else .tuple vs) : Sem Value)) hx⟩
theorem sr_pure_inv {X : Cx} {α β : Type} {R : Nat → α → β → Prop} {B : Nat} {a : α} {b : β} (h : SR X R B (.pure a) (.pure b)) : R B a b := by
  cases h with
  | dead h => cases h
  | pure h => exact h
/-- ████ A CALL IN COMPANY. ████ -/
theorem call_company (hz : ZeroOk P) (hG : P.globals.size ≤ v.heap.size) (hO : ∀ ρ, FnsOk ⟨P, ρ, fnsOf fs v (fun b => S b ∨ Rd b) S⟩) (hS : ∀ b, S b → b < v.heap.size) (hR : ∀ b, Rd b → b < v.heap.size ∧ ¬ S b)
    (hf : fs f = true) (ha : ∀ x ∈ args, okV (fnsOf fs v (fun b => S b ∨ Rd b) S) v.heap.size x = true)
    (hcall : ∀ τ, Calls P f args { loneW (fnsOf fs v (fun b => S b ∨ Rd b) S) v with tape := τ, drawn := 0 } fun | .returned u, w => Q u w | _, _ => False) :
    Go1 P main (RS Rd) (DS Rd) (RetC P (fnsOf fs v (fun b => S b ∨ Rd b) S) v Rd S f cs Q) S (G (Frame.enter P f args .normal) cs) v := by
  classical
  generalize hFs : fnsOf fs v (fun b => S b ∨ Rd b) S = Fs at hO ha hcall ⊢
  have hfs : Fs.fs = fs := by rw [← hFs]; rfl
  have hal : ∀ b, b < v.heap.size → Fs.al b = true → (S b ∨ Rd b) ∧ plainO v.heap[b]? = true := by
    intro b hb h
    rw [← hFs] at h
    simp only [fnsOf, hb, if_true, Bool.and_eq_true, decide_eq_true_eq] at h
    exact h
  have hwr : ∀ b, b < v.heap.size → Fs.wr b = true → S b := by
    intro b hb h
    rw [← hFs] at h
    simpa only [fnsOf, hb, if_true, decide_eq_true_eq] using h
  have hna : ∀ b, Fs.na b = false := by intro b; rw [← hFs]; rfl
  have hnew : ∀ b, v.heap.size ≤ b → Fs.al b = true ∧ Fs.wr b = true ∧ Fs.na b = false := by
    intro b hb
    have : ¬ b < v.heap.size := by omega
    rw [← hFs]
    simp [fnsOf, this]
  have hargs : ∀ ρ : Rn, (∀ b, b < v.heap.size → ρ.f b = b) → RC ⟨P, ρ, Fs⟩ v.heap.size args args := by
    intro ρ hρ
    refine ⟨?_, ha⟩
    apply Array.ext (by simp)
    intro i h1 h2
    rw [Array.getElem_map]
    exact (ren_agree hρ _ (ha _ (Array.getElem_mem h1))).symm
  let StopL : Frame → List Frame → World → Prop := fun fl cl w => ∃ u, Q u w ∧ cl = [badF] ∧ fl.fn = f ∧ fl.leaving P w (.returned u)
  have U : Setup P Fs v.heap.size [] [] cs (Frame.enter P f args .normal) (Frame.enter P f args .normal) [badF] cs (loneW Fs v) v (fun _ => False) Rd S StopL :=
    { hz := hz, hO := hO, hG := hG, hk := .inl ⟨rfl, rfl⟩,
      hST := fun ρ hρ => .last (FR.enter (X := ⟨P, ρ, Fs⟩) (hO ρ) (by show Fs.fs f = true; rw [hfs]; exact hf) (hargs ρ hρ)),
      hwl := loneW_size, hv := rfl, hW := fun ρ hρ => loneW_wr (fun b hb h _ => (hal b hb h).2) hnew (fun b h => by rw [hna b] at h; cases h) ρ hρ,
      hal := fun b hb h _ => (hal b hb h).1, hna := fun b h => (by rw [hna b] at h; cases h), hwr := fun b hb _ h => hwr b hb h, hS0 := hS, hRd := hR,
      hTerm := fun τ => by
        obtain ⟨e, w', fr, hq, hcome, hfn, hleave⟩ := hcall τ [badF]
        cases e with
        | returned u =>
          obtain ⟨n, hn⟩ := hcome
          exact ⟨n, fr, [badF], w', hn, u, hq, rfl, hfn, hleave⟩
        | panicked ch => exact hq.elim
        | outgrown => exact hq.elim,
      hSL := fun fl cl w ⟨u, _, h1, _, h2⟩ => ⟨fun ch h => (by rw [h2.1] at h; cases h), (by rw [h1]; simp)⟩ }
  refine (Go1.bind (fun s a => RS.refl a) (transfer (main := main) U) fun s g w ⟨ρ, fl, cl, wl, hA, u, hq, hcl, hfn, hlv⟩ => Go1.stop fun w₁ h₁ => ?_)
  subst hcl
  obtain ⟨fc, cc, rfl, hst⟩ := hA.st
  have hfr : FR ⟨P, ρ, Fs⟩ wl.heap.size [] [] fl fc ∧ cc = cs := by
    rcases hst.fr with ⟨h, _, h2⟩ | ⟨_, _, _, h⟩
    · exact ⟨h, h2⟩
    · exfalso
      cases h with
      | cons _ _ _ h => cases h
  obtain ⟨hfr, rfl⟩ := hfr
  obtain ⟨hm, hd, hk, fn, hfn1, hres⟩ := hlv
  have hmode : fc.mode = .returning := by
    rcases hfr.mode with ⟨h1, _⟩ | ⟨_, h2⟩
    · rw [hm] at h1; cases h1
    · exact h2
  obtain ⟨fn', c', g1, _, _, _, g5⟩ := hO ρ f (by show Fs.fs f = true; rw [hfs]; exact hf)
  have g1' : P.funcs[f]? = some fn' := g1
  rw [hfn] at hfn1
  rw [g1'] at hfn1
  obtain rfl := Option.some.inj hfn1
  obtain ⟨x, hx⟩ := results_pure g5 fl.tmps
  obtain ⟨y, hy⟩ := results_pure g5 fc.tmps
  have hxu : x = u := by
    rw [hx] at hres
    injection hres
  subst hxu
  have hsr := sr_results (X := ⟨P, ρ, Fs⟩) hfr.tmps g5
  rw [hx, hy] at hsr
  obtain ⟨e1, e2⟩ := sr_pure_inv hsr
  have hwr1 : WR ⟨P, ρ, Fs⟩ wl w₁ := hA.wr.rely fun c hc hca => by
    show w₁.heap[ρ.f c]? = w.heap[ρ.f c]?
    rcases Nat.lt_or_ge c v.heap.size with hb | hb
    · rw [hA.id c hb]
      rcases (hal c hb hca).1 with h | h
      · exact h₁.own c ((hA.mine c).2 (.inl h))
      · exact h₁.rd c h
    · exact h₁.own _ (hA.cover c hb hc)
  exact ⟨⟨ρ, fc, x, wl, rfl, hfr.fn.trans hfn, hmode, hfr.defc, hfr.kindc, ⟨fn', g1', fun w es => by rw [hy, e1]; rfl⟩, hq, e2, hA.id, hA.new, hwr1, hA.low, hA.mine⟩, h₁.tape.trans hA.tape, h₁.os.trans hA.os, h₁.output.trans hA.output, Nat.le_trans hA.size h₁.size, fun b hb => (h₁.rd b hb).trans (hA.rd b hb)⟩
end
end Go.Proofs.Ytmmolicodlmlkaa.Rel
namespace Go.Proofs.Ytmmolicodlmlkaa.Rel
open Go.Conc (G)
set_option linter.unusedVariables false

section
variable {P : Program} {fs : FuncId → Bool} {al wr wr0 na na0 : Nat → Bool}
theorem opd_mono : ∀ x : Operand, opdOk P ⟨fs, fun _ => false, wr0, na0⟩ x = true → opdOk P ⟨fs, al, wr, na⟩ x = true
  | .tmp _, _ => rfl
  | .const v, h => h
  | .global g, h => by simp [opdOk] at h
  | .func f, h => h
theorem opds_mono (xs : Array Operand) (h : xs.all (opdOk P ⟨fs, fun _ => false, wr0, na0⟩) = true) : xs.all (opdOk P ⟨fs, al, wr, na⟩) = true := by
  rw [Array.all_eq_true'] at h ⊢
  exact fun x hx => opd_mono x (h x hx)
theorem parts_mono (xs : Array (Nat × Operand)) (h : (xs.all fun p => opdOk P ⟨fs, fun _ => false, wr0, na0⟩ p.2) = true) : (xs.all fun p => opdOk P ⟨fs, al, wr, na⟩ p.2) = true := by
  rw [Array.all_eq_true'] at h ⊢
  exact fun x hx => opd_mono x.2 (h x hx)
theorem oo_mono (x : Option Operand) (h : oOk P ⟨fs, fun _ => false, wr0, na0⟩ x = true) : oOk P ⟨fs, al, wr, na⟩ x = true := by
  cases x with
  | none => rfl
  | some x => exact opd_mono x h
theorem call_mono (c : Call) (h : callOk P ⟨fs, fun _ => false, wr0, na0⟩ c = true) : callOk P ⟨fs, al, wr, na⟩ c = true := by
  unfold callOk at h ⊢
  rw [Bool.and_eq_true] at h ⊢
  refine ⟨opds_mono _ h.1, ?_⟩
  have h2 := h.2
  obtain ⟨callee, args, ats⟩ := c
  cases callee with
  | value x => exact opd_mono x h2
  | builtin b => cases b <;> exact h2
  | invoke x n => exact h2
theorem op_mono (o : Oper) (h : opOk P ⟨fs, fun _ => false, wr0, na0⟩ o = true) : opOk P ⟨fs, al, wr, na⟩ o = true := by
  obtain ⟨dst, op, ty, pos, after, guard⟩ := o
  unfold opOk at h ⊢
  cases op <;> simp only [Bool.and_eq_true] at h ⊢ <;> first
    | exact opd_mono _ h
    | exact ⟨⟨opd_mono _ h.1.1, opd_mono _ h.1.2⟩, opd_mono _ h.2⟩
    | exact ⟨h.1, parts_mono _ h.2⟩
    | exact parts_mono _ h
    | exact ⟨opd_mono _ h.1, opd_mono _ h.2⟩
    | exact ⟨⟨h.1.1, opd_mono _ h.1.2⟩, opd_mono _ h.2⟩
    | exact ⟨h.1, opd_mono _ h.2⟩
    | exact ⟨⟨⟨⟨h.1.1.1.1, opd_mono _ h.1.1.1.2⟩, oo_mono _ h.1.1.2⟩, oo_mono _ h.1.2⟩, oo_mono _ h.2⟩
    | exact call_mono _ h
    | exact h
    | skip
  rename_i f first captured
  cases f with
  | func f =>
    simp only [Bool.and_eq_true] at h ⊢
    exact ⟨⟨h.1.1, opds_mono _ h.1.2⟩, opds_mono _ h.2⟩
  | _ => exact h
theorem code_mono : ∀ c : Code, codeOk P ⟨fs, fun _ => false, wr0, na0⟩ c = true → codeOk P ⟨fs, al, wr, na⟩ c = true
  | .skip, _ | .exit _, _ | .label _, _ | .goto _, _ | .ret, _ | .refuse _, _ => rfl
  | .region _ ops _, h => by
    simp only [codeOk] at h ⊢
    rw [Array.all_eq_true'] at h ⊢
    exact fun x hx => op_mono x (h x hx)
  | .seq a b, h => by
    simp only [codeOk, Bool.and_eq_true] at h ⊢
    exact ⟨code_mono a h.1, code_mono b h.2⟩
  | .cond c a b, h => by
    simp only [codeOk, Bool.and_eq_true] at h ⊢
    exact ⟨⟨opd_mono c h.1.1, code_mono a h.1.2⟩, code_mono b h.2⟩
  | .block _ a, h => by simp only [codeOk] at h ⊢; exact code_mono a h
  | .loop a, h => by simp only [codeOk] at h ⊢; exact code_mono a h
  | .scope a, h => by simp only [codeOk] at h ⊢; exact code_mono a h
  | .rangeFunc .., h => by cases h
/-- Looked at by the kernel, a function at a time. -/
def fnOk (P : Program) (fs : FuncId → Bool) (fn : Func) : Bool :=
  !(fn.name == "runtime.NumGoroutine") && (match fn.body with | some c => codeOk P ⟨fs, fun _ => false, fun _ => false, fun _ => false⟩ c | none => false) && fn.results.all resOk
theorem fnsOk_of {ρ : Rn} (h : ∀ f, fs f = true → ∃ fn, P.funcs[f]? = some fn ∧ fnOk P fs fn = true) : FnsOk ⟨P, ρ, ⟨fs, al, wr, na⟩⟩ := by
  intro f hf
  obtain ⟨fn, h1, h2⟩ := h f hf
  unfold fnOk at h2
  rw [Bool.and_eq_true, Bool.and_eq_true] at h2
  obtain ⟨⟨h3, h4⟩, h5⟩ := h2
  cases hb : fn.body with
  | none => rw [hb] at h4; cases h4
  | some c =>
    rw [hb] at h4
    exact ⟨fn, c, h1, by simpa using h3, hb, code_mono c h4, h5⟩
end
/-- The types' zero values. -/
def zerosOk (P : Program) : Bool := P.types.all fun i => match i.zero with | some z => noAddr z | none => true
theorem forIn_inv {α β : Type} (Q : β → Prop) (f : α → β → Option (ForInStep β)) (hs : ∀ a s r, Q s → f a s = some r → Q (match r with | .done s' => s' | .yield s' => s')) : ∀ (l : List α) (s s' : β), Q s → forIn l s f = some s' → Q s'
  | [], s, s', h, e => by simp at e; subst e; exact h
  | a :: l, s, s', h, e => by
    rw [List.forIn_cons] at e
    cases hf : f a s with
    | none => rw [hf] at e; cases e
    | some r =>
      rw [hf] at e
      have := hs a s r h hf
      cases r with
      | done x => simp at e; subst e; exact this
      | yield x => exact forIn_inv Q f hs l x s' this e
theorem na_cells {z : Value} (h : noAddr z = true) : ∀ v ∈ z.cells, noAddr v = true := by
  cases z <;> first
    | (intro v hv; simp [Value.cells] at hv; subst hv; exact h)
    | skip
  rw [noAddr, attach_all_noAddr, Array.all_eq_true'] at h
  intro v hv
  exact h v hv
theorem na_agg {cs : Array Value} (h : ∀ v ∈ cs, noAddr v = true) : noAddr (.agg cs) = true := by
  rw [noAddr, attach_all_noAddr, Array.all_eq_true']; exact h
theorem reckonStruct_zero {info : TypeId → Option TypeInfo} (hi : ∀ t i z, info t = some i → i.zero = some z → noAddr z = true) {fs : Array Field} {i : TypeInfo} {z : Value} (h : Made.reckonStruct info fs = some i) (hz : i.zero = some z) : noAddr z = true := by
  simp only [Made.reckonStruct] at h
  rw [← Array.forIn_toList] at h
  simp only [Option.bind_eq_bind, Option.bind_eq_some_iff] at h
  obtain ⟨s, hs, h⟩ := h
  have key := forIn_inv (fun s => ∀ zs, s.snd.snd.snd.snd.snd.snd.snd.fst = some zs → ∀ v ∈ zs, noAddr v = true) _ ?_ _ _ _ ?_ hs
  · have : i.zero = Option.map Value.agg s.snd.snd.snd.snd.snd.snd.snd.fst := by
      split at h <;> (simp only [Option.pure_def, Option.some.injEq] at h; rw [← h])
    rw [this] at hz
    obtain ⟨zs, h1, rfl⟩ := Option.map_eq_some_iff.1 hz
    exact na_agg (key zs h1)
  · clear hs h hz
    intro a s r hQ hr
    simp only [Option.bind_eq_bind, Option.bind_eq_some_iff] at hr
    obtain ⟨j, hj, hr⟩ := hr
    have fin : ∀ tag : String, ∀ l1 l2 : Nat, True := fun _ _ _ => trivial
    have fin : ∀ {zs : Array Value}, (if s.snd.fst + j.size > Made.mostCells then none else do pure ((← s.snd.snd.snd.snd.snd.snd.snd.fst) ++ (← j.zero).cells) : Option (Array Value)) = some zs → ∀ v ∈ zs, noAddr v = true := by
      intro zs e
      split at e
      · cases e
      · simp only [Option.bind_eq_bind, Option.bind_eq_some_iff, Option.pure_def, Option.some.injEq] at e
        obtain ⟨z0, h0, z1, h1, rfl⟩ := e
        intro v hv
        rcases Array.mem_append.1 hv with hv | hv
        · exact hQ z0 h0 v hv
        · exact na_cells (hi _ _ _ hj h1) v hv
    split at hr
    · simp at hr
    split at hr
    · simp at hr
    split at hr
    · simp only [Option.pure_def, Option.bind_some] at hr
      split at hr <;> (simp only [Option.some.injEq] at hr; subst hr; exact fun zs e => fin e)
    · obtain ⟨tag, _, hr⟩ := Option.bind_eq_some_iff.1 hr
      split at hr <;> (simp only [Option.pure_def, Option.some.injEq] at hr; subst hr; exact fun zs e => fin e)
  · intro zs e v hv
    simp only [Option.some.injEq] at e
    subst e
    simp at hv
theorem reckon_zero {info : TypeId → Option TypeInfo} (hi : ∀ t i z, info t = some i → i.zero = some z → noAddr z = true) {d : TypeDesc} {i : TypeInfo} {z : Value} (h : Made.reckon info d = some i) (hz : i.zero = some z) : noAddr z = true := by
  have wd : ∀ {d : TypeDesc} {s : String} {v : Value} {b : Bool} {n : Nat}, Made.word d s v b n = i → noAddr v = true → noAddr z = true := by
    intro d s v b n e hv
    rw [← e] at hz
    simp only [Made.word, Option.some.injEq] at hz
    rw [← hz]; exact hv
  unfold Made.reckon at h
  cases d <;> simp only [Option.bind_eq_bind, Option.bind_eq_some_iff, Option.pure_def, Option.some.injEq] at h <;> first
    | cases h; done
    | exact reckonStruct_zero hi h hz
    | skip
  · obtain ⟨a, _, h⟩ := h
    split at h
    · cases h
    · split at h
      · cases h
      · obtain ⟨_, _, h⟩ := Option.bind_eq_some_iff.1 h
        exact wd (Option.some.inj h) (by simp [noAddr])
    · obtain ⟨_, _, h⟩ := Option.bind_eq_some_iff.1 h
      exact wd (Option.some.inj h) (by simp [noAddr])
  · obtain ⟨_, _, _, _, h⟩ := h
    exact wd h (by simp [noAddr])
  · obtain ⟨a, ha, _, _, rfl⟩ := h
    simp only at hz
    split at hz
    · cases hz
    · split at hz
      · rw [← Option.some.inj hz]; exact na_agg (by simp)
      · obtain ⟨y, hy, rfl⟩ := Option.map_eq_some_iff.1 hz
        refine na_agg fun v hv => ?_
        obtain ⟨c, hc, hvc⟩ := Array.mem_flatten.1 hv
        rw [(Array.mem_replicate.1 hc).2] at hvc
        exact na_cells (hi _ _ _ ha hy) v hvc
  · obtain ⟨_, _, _, _, _, _, _, _, h⟩ := h
    exact wd h (by simp [noAddr])
  · obtain ⟨_, _, _, _, h⟩ := h
    exact wd h (by simp [noAddr])
  · obtain ⟨_, _, h⟩ := h
    exact wd h (by simp [noAddr])
theorem infoAt_zero {T : Tables} (h : ∀ i ∈ T.types, ∀ z, i.zero = some z → noAddr z = true) : ∀ (f : Nat) (t : TypeId) (i : TypeInfo) (z : Value), Made.infoAt T f t = some i → i.zero = some z → noAddr z = true
  | 0, t, i, z, hi, hz => by cases hi
  | f + 1, t, i, z, hi, hz => by
    unfold Made.infoAt at hi
    split at hi
    · exact h i (Array.mem_of_getElem? hi) z hz
    · obtain ⟨d, _, hr⟩ := Option.bind_eq_some_iff.1 hi
      exact reckon_zero (infoAt_zero h f) hr hz
theorem zeroOk_of {P : Program} (h : zerosOk P = true) : ZeroOk P := by
  have h' : ∀ i ∈ P.types, ∀ z, i.zero = some z → noAddr z = true := by
    intro i hi z hz
    unfold zerosOk at h
    rw [Array.all_eq_true'] at h
    have := h i hi
    rw [hz] at this
    exact this
  intro t i z hi hz
  unfold Tables.info? at hi
  split at hi
  · exact h' i (Array.mem_of_getElem? hi) z hz
  · exact infoAt_zero h' _ t i z hi hz
end Go.Proofs.Ytmmolicodlmlkaa.Rel
namespace Go.Proofs.Ytmmolicodlmlkaa.Rel
open Go.Conc (G base)
set_option linter.unusedVariables false

/-- The first n statements, then nothing more; and what is left. -/
def cut : Nat → Code → Code × Code
  | n + 1, .seq a b => (.seq a (cut n b).1, (cut n b).2)
  | _, c => (.refuse "", c)
def spineOk (P : Program) (Fs : Fns) : Nat → Code → Bool
  | 0, _ => true
  | n + 1, .seq a b => codeOk P Fs a && spineOk P Fs n b
  | _ + 1, _ => false
theorem tl_cut {P : Program} {Fs : Fns} : ∀ (n : Nat) (c : Code), spineOk P Fs n c = true → TL P Fs [.code (.refuse "")] [.code (cut n c).2] [.code (cut n c).1] [.code c]
  | 0, c, _ => by
    have : cut 0 c = (.refuse "", c) := by cases c <;> rfl
    rw [this]; exact .here
  | n + 1, .seq a b, h => by
    simp only [spineOk, Bool.and_eq_true] at h
    exact .seq h.1 (tl_cut n b h.2)
  | _ + 1, .skip, h | _ + 1, .region _ _ _, h | _ + 1, .cond _ _ _, h | _ + 1, .block _ _, h | _ + 1, .loop _, h | _ + 1, .rangeFunc _ _ _ _, h | _ + 1, .exit _, h | _ + 1, .scope _, h | _ + 1, .label _, h | _ + 1, .goto _, h | _ + 1, .ret, h | _ + 1, .refuse _, h => by cases h
theorem spine_mono {P : Program} {fs : FuncId → Bool} {al wr wr0 na na0 : Nat → Bool} : ∀ (n : Nat) (c : Code), spineOk P ⟨fs, fun _ => false, wr0, na0⟩ n c = true → spineOk P ⟨fs, al, wr, na⟩ n c = true
  | 0, c, _ => rfl
  | n + 1, .seq a b, h => by
    simp only [spineOk, Bool.and_eq_true] at h ⊢
    exact ⟨code_mono a h.1, spine_mono n b h.2⟩
  | _ + 1, .skip, h | _ + 1, .region _ _ _, h | _ + 1, .cond _ _ _, h | _ + 1, .block _ _, h | _ + 1, .loop _, h | _ + 1, .rangeFunc _ _ _ _, h | _ + 1, .exit _, h | _ + 1, .scope _, h | _ + 1, .label _, h | _ + 1, .goto _, h | _ + 1, .ret, h | _ + 1, .refuse _, h => by cases h
/-- No other way out. -/
def NoExit : Exit → Act → World → Prop := fun _ _ _ => False
/-- The lone walk through the first n statements comes to the cut. -/
def Reach (P : Program) (n : Nat) (c : Code) (Pre : Act → World → Prop) (a : Act) (w : World) : Prop :=
  ∀ (b : Frame) (cs : List Frame), ∃ a' w', Pre a' w' ∧ Steps P (lone (b.at a [.code (cut n c).1]) cs w) (lone (b.at a' [.code (.refuse "")]) cs w')
theorem reach_here {P : Program} {c : Code} {Pre : Act → World → Prop} {a : Act} {w : World} (h : Pre a w) : Reach P 0 c Pre a w := fun b cs => ⟨a, w, h, by
  have : (cut 0 c).1 = .refuse "" := by cases c <;> rfl
  rw [this]; exact ⟨0, rfl⟩⟩
theorem reach_seq {P : Program} {n : Nat} {x y : Code} {Pre : Act → World → Prop} {a : Act} {w : World} (h : x.wp P (Exit.then (fun a w => Reach P n y Pre a w) NoExit) a w) : Reach P (n + 1) (.seq x y) Pre a w := by
  intro b cs
  obtain ⟨e, a₁, w₁, hq, harr⟩ := h b [.code (cut n y).1] cs
  cases e with
  | normal =>
    obtain ⟨a₂, w₂, hp, hs⟩ := hq b cs
    exact ⟨a₂, w₂, hp, Steps.trans (.head step_seq harr) hs⟩
  | exit id => exact hq.elim
  | goto l => exact hq.elim
  | ret => exact hq.elim
  | panic ch => exact hq.elim
  | outgrown => exact hq.elim
/-! ### in company -/
section
variable {P : Program} {fs : FuncId → Bool} {v : World} {Rd S : Nat → Prop} {cs : List Frame} {main : Bool}
/-- What is asked of a walk that begins in this world. -/
theorem setup_lone {kl kc : List Item} {fl0 fc0 : Frame} {StopL : Frame → List Frame → World → Prop} (hz : ZeroOk P) (hG : P.globals.size ≤ v.heap.size) (hO : ∀ ρ, FnsOk ⟨P, ρ, fnsOf fs v (fun b => S b ∨ Rd b) S⟩) (hS : ∀ b, S b → b < v.heap.size) (hR : ∀ b, Rd b → b < v.heap.size ∧ ¬ S b) (hk : Tail kl kc)
    (hST : ∀ ρ : Rn, (∀ b, b < v.heap.size → ρ.f b = b) → FR ⟨P, ρ, fnsOf fs v (fun b => S b ∨ Rd b) S⟩ v.heap.size kl kc fl0 fc0)
    (hTerm : ∀ τ, ∃ M fl cl w, runN P M (lone fl0 [badF] { loneW (fnsOf fs v (fun b => S b ∨ Rd b) S) v with tape := τ, drawn := 0 }) = .next (lone fl cl w) ∧ StopL fl cl w)
    (hSL : ∀ fl cl w, StopL fl cl w → (∀ ch, fl.mode ≠ .panicking ch) ∧ cl ≠ []) :
    Setup P (fnsOf fs v (fun b => S b ∨ Rd b) S) v.heap.size kl kc cs fl0 fc0 [badF] cs (loneW (fnsOf fs v (fun b => S b ∨ Rd b) S) v) v (fun _ => False) Rd S StopL := by
  classical
  have hal : ∀ b, b < v.heap.size → (fnsOf fs v (fun b => S b ∨ Rd b) S).al b = true → (S b ∨ Rd b) ∧ plainO v.heap[b]? = true := by
    intro b hb h
    simp only [fnsOf, hb, if_true, Bool.and_eq_true, decide_eq_true_eq] at h
    exact h
  have hwr : ∀ b, b < v.heap.size → (fnsOf fs v (fun b => S b ∨ Rd b) S).wr b = true → S b := by
    intro b hb h
    simpa only [fnsOf, hb, if_true, decide_eq_true_eq] using h
  have hnew : ∀ b, v.heap.size ≤ b → (fnsOf fs v (fun b => S b ∨ Rd b) S).al b = true ∧ (fnsOf fs v (fun b => S b ∨ Rd b) S).wr b = true ∧ (fnsOf fs v (fun b => S b ∨ Rd b) S).na b = false := by
    intro b hb
    have : ¬ b < v.heap.size := by omega
    simp [fnsOf, this]
  exact { hz := hz, hO := hO, hG := hG, hk := hk, hST := fun ρ hρ => .last (hST ρ hρ), hwl := loneW_size, hv := rfl, hW := fun ρ hρ => loneW_wr (fun b hb h _ => (hal b hb h).2) hnew (fun b h => by cases h) ρ hρ,
          hal := fun b hb h _ => (hal b hb h).1, hna := fun b h => (by cases h), hwr := fun b hb _ h => hwr b hb h, hS0 := hS, hRd := hR, hTerm := hTerm, hSL := hSL }
/-- What a piece of a walk leaves: the worlds are alike but for the names of new blocks. -/
structure Left (P : Program) (Fs : Fns) (v : World) (Rd S0 : Nat → Prop) (ρ : Rn) (wl : World) (S : Nat → Prop) (w : World) : Prop where
  id : ∀ b, b < v.heap.size → ρ.f b = b
  new : ∀ b, v.heap.size ≤ b → v.heap.size ≤ ρ.f b
  wr : WR ⟨P, ρ, Fs⟩ wl w
  low : v.heap.size ≤ wl.heap.size
  mine : ∀ b, S b ↔ S0 b ∨ (∃ c, v.heap.size ≤ c ∧ c < wl.heap.size ∧ ρ.f c = b)
  tape : w.tape = v.tape
  os : w.os = v.os
  output : w.output = v.output
  size : v.heap.size ≤ w.heap.size
  rd : ∀ b, Rd b → w.heap[b]? = v.heap[b]?
theorem AtC.left {Fs : Fns} {kl kc : List Item} {csc : List Frame} {ρ : Rn} {fl : Frame} {cl : List Frame} {wl : World} {S' : Nat → Prop} {g : Goroutine} {w : World} (hA : AtC P Fs v.heap.size kl kc csc v Rd S ρ fl cl wl S' g w) (hal : ∀ b, b < v.heap.size → Fs.al b = true → S b ∨ Rd b) {w₁ : World} (h₁ : RS Rd S' w w₁) : Left P Fs v Rd S ρ wl S' w₁ :=
  ⟨hA.id, hA.new, hA.wr.rely fun c hc hca => by
    show w₁.heap[ρ.f c]? = w.heap[ρ.f c]?
    rcases Nat.lt_or_ge c v.heap.size with hb | hb
    · rw [hA.id c hb]
      rcases hal c hb hca with h | h
      · exact h₁.own c ((hA.mine c).2 (.inl h))
      · exact h₁.rd c h
    · exact h₁.own _ (hA.cover c hb hc), hA.low, hA.mine, h₁.tape.trans hA.tape, h₁.os.trans hA.os, h₁.output.trans hA.output, Nat.le_trans hA.size h₁.size, fun b hb => (h₁.rd b hb).trans (hA.rd b hb)⟩
/-- ████ UP TO A CUT, IN COMPANY. ████ -/
theorem cut_company {f : FuncId} {c : Code} {n : Nat} {a : Act} {Pre : Act → World → Prop} (hz : ZeroOk P) (hG : P.globals.size ≤ v.heap.size) (hO : ∀ ρ, FnsOk ⟨P, ρ, fnsOf fs v (fun b => S b ∨ Rd b) S⟩) (hS : ∀ b, S b → b < v.heap.size) (hR : ∀ b, Rd b → b < v.heap.size ∧ ¬ S b)
    (hsp : spineOk P (fnsOf fs v (fun b => S b ∨ Rd b) S) n c = true) (hd : a.defers = []) (ha : ∀ x ∈ a.tmps, okV (fnsOf fs v (fun b => S b ∨ Rd b) S) v.heap.size x = true)
    (hl : ∀ τ, Reach P n c Pre a { loneW (fnsOf fs v (fun b => S b ∨ Rd b) S) v with tape := τ, drawn := 0 }) :
    Go1 P main (RS Rd) (DS Rd) (fun S' g w => ∃ ρ a' wl, g = G ((base f).at ⟨a'.tmps.map (ren ρ), []⟩ [.code (cut n c).2]) cs ∧ Pre a' wl ∧ (∀ x ∈ a'.tmps, okV (fnsOf fs v (fun b => S b ∨ Rd b) S) wl.heap.size x = true) ∧ Left P (fnsOf fs v (fun b => S b ∨ Rd b) S) v Rd S ρ wl S' w) S (G ((base f).at a [.code c]) cs) v := by
  classical
  have hal : ∀ b, b < v.heap.size → (fnsOf fs v (fun b => S b ∨ Rd b) S).al b = true → S b ∨ Rd b := by
    intro b hb h
    simp only [fnsOf, hb, if_true, Bool.and_eq_true, decide_eq_true_eq] at h
    exact h.1
  generalize hFs : fnsOf fs v (fun b => S b ∨ Rd b) S = Fs at *
  let StopL : Frame → List Frame → World → Prop := fun fl cl w => ∃ a', fl = (base f).at a' [.code (.refuse "")] ∧ cl = [badF] ∧ Pre a' w
  have U := setup_lone (P := P) (fs := fs) (v := v) (Rd := Rd) (S := S) (cs := cs) (kl := [.code (.refuse "")]) (kc := [.code (cut n c).2]) (fl0 := (base f).at a [.code (cut n c).1]) (fc0 := (base f).at a [.code c]) (StopL := StopL) hz hG (by rw [hFs]; exact hO) hS hR (.inr rfl)
    (by
      rw [hFs]
      intro ρ hρ
      refine ⟨rfl, ⟨?_, ha⟩, ⟨[], _, _, rfl, rfl, by simp, tl_cut n c hsp⟩, hd, hd, .inl ⟨rfl, rfl⟩, rfl, rfl, rfl, rfl⟩
      apply Array.ext (by simp [Frame.at])
      intro i h1 h2
      rw [Array.getElem_map]
      exact (ren_agree hρ _ (ha _ (Array.getElem_mem h1))).symm)
    (by
      rw [hFs]
      intro τ
      obtain ⟨a', w', hp, M, hM⟩ := hl τ (base f) [badF]
      exact ⟨M, _, _, w', hM, a', rfl, rfl, hp⟩)
    (fun fl cl w ⟨a', h1, h2, _⟩ => ⟨fun ch e => (by rw [h1] at e; cases e), (by rw [h2]; simp)⟩)
  rw [hFs] at U
  refine Go1.bind (fun s a => RS.refl a) (transfer (main := main) U) fun s g w ⟨ρ, fl, cl, wl, hA, a', hfl, hcl, hp⟩ => Go1.stop fun w₁ h₁ => ?_
  subst hcl; subst hfl
  obtain ⟨fc, cc, rfl, hst⟩ := hA.st
  have hfr : FR ⟨P, ρ, Fs⟩ wl.heap.size [.code (.refuse "")] [.code (cut n c).2] ((base f).at a' [.code (.refuse "")]) fc ∧ cc = cs := by
    rcases hst.fr with ⟨h, _, h2⟩ | ⟨_, _, _, h⟩
    · exact ⟨h, h2⟩
    · exfalso
      cases h with
      | cons _ _ _ h => cases h
  obtain ⟨hfr, rfl⟩ := hfr
  have htodo : fc.todo = [.code (cut n c).2] := by
    obtain ⟨its, tl, tc, t1, t2, _, hT⟩ := hfr.todo
    have t1 : [Item.code (.refuse "")] = its ++ tl := t1
    cases hT with
    | here =>
      cases its with
      | nil => exact t2
      | cons x its => cases its <;> simp at t1
    | seq _ _ =>
      cases its with
      | nil => simp at t1
      | cons x its => cases its <;> simp at t1
  have hm : fc.mode = .run := by
    rcases hfr.mode with ⟨_, h⟩ | ⟨h, _⟩
    · exact h
    · cases h
  refine ⟨ρ, a', wl, ?_, hp, hfr.tmps.2, hA.left hal h₁⟩
  have e : fc = (base f).at ⟨a'.tmps.map (ren ρ), []⟩ [.code (cut n c).2] := by
    have h1 := hfr.fn
    have h2 := hfr.tmps.1
    have h3 := hfr.defc
    have h4 := hfr.kindc
    have h5 := hfr.roc
    obtain ⟨q1, q2, q3, q4, q5, q6, q7⟩ := fc
    simp only at h1 h2 h3 h4 h5 htodo hm
    subst h1; subst h2; subst h3; subst h4; subst h5; subst htodo; subst hm
    rfl
  rw [e]
end
end Go.Proofs.Ytmmolicodlmlkaa.Rel
namespace Go.Proofs.Ytmmolicodlmlkaa.Rel
open Go.Conc (G base)
set_option linter.unusedVariables false

/-- The lone walk through this code comes to the function's return. -/
def Ends (P : Program) (f : FuncId) (c : Code) (Post : Value → World → Prop) (a : Act) (w : World) : Prop :=
  c.wp P (fun e a' w' => (e = .normal ∨ e = .ret) ∧ a'.defers = [] ∧ ∃ fn v, P.funcs[f]? = some fn ∧ (results fn a'.tmps).run P w' = .ok v w' ∧ Post v w') a w
section
variable {P : Program} {fs : FuncId → Bool} {v : World} {Rd S : Nat → Prop} {cs : List Frame} {main : Bool}
/-- ████ TO THE RETURN, IN COMPANY. ████ -/
theorem end_company {f : FuncId} {fn0 : Func} {c : Code} {a : Act} {Q : Value → World → Prop} (hz : ZeroOk P) (hG : P.globals.size ≤ v.heap.size) (hO : ∀ ρ, FnsOk ⟨P, ρ, fnsOf fs v (fun b => S b ∨ Rd b) S⟩) (hS : ∀ b, S b → b < v.heap.size) (hR : ∀ b, Rd b → b < v.heap.size ∧ ¬ S b)
    (hf0 : P.funcs[f]? = some fn0) (hres0 : fn0.results.all resOk = true) (hc : codeOk P (fnsOf fs v (fun b => S b ∨ Rd b) S) c = true) (hd : a.defers = []) (ha : ∀ x ∈ a.tmps, okV (fnsOf fs v (fun b => S b ∨ Rd b) S) v.heap.size x = true)
    (hl : ∀ τ, Ends P f c Q a { loneW (fnsOf fs v (fun b => S b ∨ Rd b) S) v with tape := τ, drawn := 0 }) :
    Go1 P main (RS Rd) (DS Rd) (RetC P (fnsOf fs v (fun b => S b ∨ Rd b) S) v Rd S f cs Q) S (G ((base f).at a [.code c]) cs) v := by
  classical
  have hal : ∀ b, b < v.heap.size → (fnsOf fs v (fun b => S b ∨ Rd b) S).al b = true → (S b ∨ Rd b) ∧ plainO v.heap[b]? = true := by
    intro b hb h
    simp only [fnsOf, hb, if_true, Bool.and_eq_true, decide_eq_true_eq] at h
    exact h
  generalize hFs : fnsOf fs v (fun b => S b ∨ Rd b) S = Fs at *
  let StopL : Frame → List Frame → World → Prop := fun fl cl w => ∃ u, Q u w ∧ cl = [badF] ∧ fl.fn = f ∧ fl.leaving P w (.returned u)
  have U := setup_lone (P := P) (fs := fs) (v := v) (Rd := Rd) (S := S) (cs := cs) (kl := []) (kc := []) (fl0 := (base f).at a [.code c]) (fc0 := (base f).at a [.code c]) (StopL := StopL) hz hG (by rw [hFs]; exact hO) hS hR (.inl ⟨rfl, rfl⟩)
    (by
      rw [hFs]
      intro ρ hρ
      refine ⟨rfl, ⟨?_, ha⟩, ⟨[.code c], [], [], rfl, rfl, fun it hit => by simp at hit; rw [hit]; exact hc, .here⟩, hd, hd, .inl ⟨rfl, rfl⟩, rfl, rfl, rfl, rfl⟩
      apply Array.ext (by simp [Frame.at])
      intro i h1 h2
      rw [Array.getElem_map]
      exact (ren_agree hρ _ (ha _ (Array.getElem_mem h1))).symm)
    (by
      rw [hFs]
      intro τ
      obtain ⟨e, a', w', ⟨he, hdf, fn, u, hfn, hr, hq⟩, harr⟩ := hl τ (base f) [] [badF]
      rcases he with rfl | rfl
      · obtain ⟨M, hM⟩ := Steps.trans harr (.one step_end)
        exact ⟨M, _, _, w', hM, u, hq, rfl, rfl, rfl, hdf, rfl, fn, hfn, hr⟩
      · obtain ⟨todo, M, hM⟩ := harr
        exact ⟨M, _, _, w', hM, u, hq, rfl, rfl, rfl, hdf, rfl, fn, hfn, hr⟩)
    (fun fl cl w ⟨u, _, h1, _, h2⟩ => ⟨fun ch h => (by rw [h2.1] at h; cases h), (by rw [h1]; simp)⟩)
  rw [hFs] at U
  refine (Go1.bind (fun s a => RS.refl a) (transfer (main := main) U) fun s g w ⟨ρ, fl, cl, wl, hA, u, hq, hcl, hfn, hlv⟩ => Go1.stop fun w₁ h₁ => ?_)
  subst hcl
  obtain ⟨fc, cc, rfl, hst⟩ := hA.st
  have hfr : FR ⟨P, ρ, Fs⟩ wl.heap.size [] [] fl fc ∧ cc = cs := by
    rcases hst.fr with ⟨h, _, h2⟩ | ⟨_, _, _, h⟩
    · exact ⟨h, h2⟩
    · exfalso
      cases h with
      | cons _ _ _ h => cases h
  obtain ⟨hfr, rfl⟩ := hfr
  obtain ⟨hm, hd, hk, fn, hfn1, hres⟩ := hlv
  have hmode : fc.mode = .returning := by
    rcases hfr.mode with ⟨h1, _⟩ | ⟨_, h2⟩
    · rw [hm] at h1; cases h1
    · exact h2
  have g1 := hf0
  have g5 := hres0
  have g1' : P.funcs[f]? = some fn0 := g1
  rw [hfn] at hfn1
  rw [g1'] at hfn1
  obtain rfl := Option.some.inj hfn1
  obtain ⟨x, hx⟩ := results_pure g5 fl.tmps
  obtain ⟨y, hy⟩ := results_pure g5 fc.tmps
  have hxu : x = u := by
    rw [hx] at hres
    injection hres
  subst hxu
  have hsr := sr_results (X := ⟨P, ρ, Fs⟩) hfr.tmps g5
  rw [hx, hy] at hsr
  obtain ⟨e1, e2⟩ := sr_pure_inv hsr
  have hwr1 : WR ⟨P, ρ, Fs⟩ wl w₁ := hA.wr.rely fun c hc hca => by
    show w₁.heap[ρ.f c]? = w.heap[ρ.f c]?
    rcases Nat.lt_or_ge c v.heap.size with hb | hb
    · rw [hA.id c hb]
      rcases (hal c hb hca).1 with h | h
      · exact h₁.own c ((hA.mine c).2 (.inl h))
      · exact h₁.rd c h
    · exact h₁.own _ (hA.cover c hb hc)
  exact ⟨⟨ρ, fc, x, wl, rfl, hfr.fn.trans hfn, hmode, hfr.defc, hfr.kindc, ⟨fn0, g1', fun w es => by rw [hy, e1]; rfl⟩, hq, e2, hA.id, hA.new, hwr1, hA.low, hA.mine⟩, h₁.tape.trans hA.tape, h₁.os.trans hA.os, h₁.output.trans hA.output, Nat.le_trans hA.size h₁.size, fun b hb => (h₁.rd b hb).trans (hA.rd b hb)⟩
end
end Go.Proofs.Ytmmolicodlmlkaa.Rel
namespace Go.Proofs.Ytmmolicodlmlkaa.Rel
open Go.Conc (G base)
set_option linter.unusedVariables false

/-- The operations ahead of the one that is left out. -/
theorem ops_upto {P : Program} {ops ops' : Array Oper} {Q : Exit → Act → World → Prop} {r rest : List Nat} (hQ : ∀ e a w, e ≠ .normal → ¬ Q e a w) (l : List Nat) :
    (∀ i ∈ l, ops'[i]? = ops[i]? ∧ ∀ o, ops[i]? = some o → o.guard = none) → ∀ (a : Act) (w : World), wpOps P ops' Q (l ++ r) a w → ∀ (b : Frame) (k : List Item) (cs : List Frame),
      ∃ a' w', wpOps P ops' Q r a' w' ∧ Steps P (lone (b.at a (.inRegion ops (l ++ rest) :: k)) cs w) (lone (b.at a' (.inRegion ops rest :: k)) cs w') := by
  induction l with
  | nil => exact fun _ a w h b k cs => ⟨a, w, h, ⟨0, rfl⟩⟩
  | cons i l ih =>
    intro hl a w h b k cs
    obtain ⟨he, hg⟩ := hl i List.mem_cons_self
    have hl' : ∀ x ∈ l, ops'[x]? = ops[x]? ∧ ∀ o, ops[x]? = some o → o.guard = none := fun x hx => hl x (List.mem_cons_of_mem _ hx)
    simp only [List.cons_append, wpOps] at h
    rw [he] at h
    cases ho : ops[i]? with
    | none =>
      simp only [ho] at h
      obtain ⟨a', w', hq, harr⟩ := ih hl' a w h b k cs
      have hs := step_op_skip (P := P) (b := b) (a := a) (k := k) (cs := cs) (w := w) (ops := ops) (i := i) (rest := l ++ rest) (by simp [ho])
      simp only [ho, Option.bind_none, Act.put] at hs
      exact ⟨a', w', hq, Steps.trans (.one hs) harr⟩
    | some o =>
      have hgo := hg o ho
      have hw : ∀ y, Region.wanted o y = true := fun y => by unfold Region.wanted; rw [hgo]
      simp only [ho, hw, if_true] at h
      rcases h with h | ⟨_, a₀, w₀, hq⟩
      case inr => exact absurd hq (hQ _ _ _ (by simp))
      simp only [Oper.wp, Oper.upon] at h
      have hgst := stepG_op (P := P) (b := b) (a := a) (k := k) (cs := cs) (w := w) (rest := l ++ rest) ho (hw _)
      have hfin : ∀ v, (b.at a (.inRegion ops (i :: (l ++ rest)) :: k)).finish v = b.at (a.put o.dst v) (.inRegion ops (l ++ rest) :: k) := by
        intro v; rw [Frame.finish_at, ho]; rfl
      split at h
      · rename_i v w' hr
        obtain ⟨a', w'', hq, harr⟩ := ih hl' _ _ h b k cs
        refine ⟨a', w'', hq, Steps.trans (.one (step_lone_go ?_)) harr⟩
        rw [List.cons_append, hgst, ← hfin]; simp [stepG.apply, hr]
      · rename_i w' hr
        obtain ⟨a', w'', hq, harr⟩ := ih hl' _ _ h b k cs
        refine ⟨a', w'', hq, Steps.trans (.one (step_lone_go ?_)) harr⟩
        rw [List.cons_append, hgst, ← hfin]; simp [stepG.apply, hr]
      · rename_i d w' hr
        obtain ⟨a', w'', hq, harr⟩ := ih hl' _ _ h b k cs
        refine ⟨a', w'', hq, Steps.trans (.one (step_lone_go ?_)) harr⟩
        have : ({ b.at a (.inRegion ops (i :: (l ++ rest)) :: k) with defers := d :: a.defers } : Frame).finish undef =
            b.at ({ a with defers := d :: a.defers }.put o.dst undef) (.inRegion ops (l ++ rest) :: k) := by
          have := Frame.finish_at b { a with defers := d :: a.defers } ops i (l ++ rest) k undef
          rw [ho] at this; exact this
        rw [List.cons_append, hgst]; simp only [stepG.apply, Sem.runT_eq, hr, GStep.bare_after]
        exact congrArg (fun fr => GStep.go { frame := fr, callers := cs, status := .running, dying := none } w') this
      · rename_i f args w' hr
        obtain ⟨e, w'', fr, hR, hsteps, _, hleave⟩ := h (b.at a (.inRegion ops (i :: (l ++ rest)) :: k) :: cs)
        have henter : step P (lone (b.at a (.inRegion ops (i :: (l ++ rest)) :: k)) cs w) =
            .next (lone (Frame.enter P f args .normal) (b.at a (.inRegion ops (i :: (l ++ rest)) :: k) :: cs) w') :=
          step_lone_go (by rw [hgst]; simp [stepG.apply, hr, Frame.at])
        cases e with
        | returned v =>
          obtain ⟨a', w₃, hq, harr⟩ := ih hl' _ _ hR b k cs
          refine ⟨a', w₃, hq, Steps.trans (.head henter (Steps.trans hsteps (.one ?_))) harr⟩
          rw [← hfin]; exact step_leave_returned hleave
        | panicked chain => exact absurd hR (hQ _ _ _ (by simp))
        | outgrown =>
          obtain ⟨a₀, w₀, hq⟩ := hR
          exact absurd hq (hQ _ _ _ (by simp))
      · rename_i row args w' hr
        obtain ⟨v, w'', hR, hsteps⟩ := h (b.at a (.inRegion ops (i :: (l ++ rest)) :: k)) cs
        have henter : step P (lone (b.at a (.inRegion ops (i :: (l ++ rest)) :: k)) cs w) =
            .next (lone (Frame.ofRow P row args .normal) (b.at a (.inRegion ops (i :: (l ++ rest)) :: k) :: cs) w') :=
          step_lone_go (by rw [hgst]; simp [stepG.apply, hr, Frame.at])
        obtain ⟨a', w₃, hq, harr⟩ := ih hl' _ _ hR b k cs
        refine ⟨a', w₃, hq, Steps.trans (.head henter ?_) harr⟩
        rw [← hfin]; exact hsteps
      · rename_i v w' hr
        exact absurd h (hQ _ _ _ (by simp))
      · exact h.elim
/-- Whatever order is drawn, number n comes last. -/
def lastOk (ops : Array Oper) (n : Nat) : Nat → Array Bool → Bool
  | 0, _ => false
  | fuel + 1, listed => !(Region.ready .any ops listed).isEmpty && (Region.ready .any ops listed).all fun i => if i = n then (Region.ready .any ops (listed.setIfInBounds i true)).isEmpty else lastOk ops n fuel (listed.setIfInBounds i true)
theorem lastOk_sound {ops : Array Oper} {n : Nat} : ∀ (fuel : Nat) (listed : Array Bool), lastOk ops n fuel listed = true → ∀ t, ∃ l, Region.linearise.go .any ops fuel t listed [] = l ++ [n] ∧ n ∉ l
  | 0, _, h, _ => by cases h
  | fuel + 1, listed, h, t => by
    simp only [lastOk, Bool.and_eq_true, Bool.not_eq_true', List.isEmpty_eq_false_iff, List.all_eq_true] at h
    obtain ⟨hne, hall⟩ := h
    simp only [Region.linearise.go]
    change ∃ l, (match (Region.ready .any ops listed)[t % (Region.ready .any ops listed).length]? with
      | some i => Region.linearise.go .any ops fuel (t / (Region.ready .any ops listed).length) (listed.setIfInBounds i true) [i]
      | none => [].reverse) = l ++ [n] ∧ n ∉ l
    have hlt : t % (Region.ready .any ops listed).length < (Region.ready .any ops listed).length := Nat.mod_lt _ (List.length_pos_iff.2 hne)
    rw [List.getElem?_eq_getElem hlt]
    have hm := hall _ (List.getElem_mem hlt)
    generalize (Region.ready .any ops listed)[t % (Region.ready .any ops listed).length] = i at hm
    simp only
    rw [linearise_go_acc, List.reverse_singleton, List.singleton_append]
    by_cases hi : i = n
    · subst hi
      rw [if_pos rfl] at hm
      have h0 : Region.ready .any ops (listed.setIfInBounds i true) = [] := List.isEmpty_iff.1 hm
      refine ⟨[], ?_, by simp⟩
      cases fuel with
      | zero => rfl
      | succ fuel =>
        simp only [Region.linearise.go]
        change i :: (match (Region.ready .any ops (listed.setIfInBounds i true))[_ % (Region.ready .any ops (listed.setIfInBounds i true)).length]? with
          | some j => _
          | none => [].reverse) = _
        rw [h0]; rfl
    · rw [if_neg hi] at hm
      obtain ⟨l, h1, h2⟩ := lastOk_sound fuel _ hm (t / (Region.ready .any ops listed).length)
      exact ⟨i :: l, by rw [h1]; rfl, by simp [h2, Ne.symm hi]⟩
/-- The order hangs on what each waits for alone. -/
theorem linearise_same {ops ops' : Array Oper} (hs : ops'.size = ops.size) (ha : ∀ i : Nat, (ops'[i]?).map Oper.after = (ops[i]?).map Oper.after) : ∀ (fuel t : Nat) (listed : Array Bool) (acc : List Nat), Region.linearise.go .any ops' fuel t listed acc = Region.linearise.go .any ops fuel t listed acc := by
  have hr : ∀ (listed : Array Bool) (i : Nat), ((ops'[i]?).map (·.after.all fun e => !Region.binds .any e || listed.getD e.on false)).getD false = ((ops[i]?).map (·.after.all fun e => !Region.binds .any e || listed.getD e.on false)).getD false := by
    intro listed i
    have := ha i
    cases h1 : ops'[i]? <;> cases h2 : ops[i]? <;> rw [h1, h2] at this <;> first
      | rfl
      | (cases this; done)
      | (simp only [Option.map_some, Option.some.injEq] at this; simp only [Option.map_some, Option.getD_some, this])
  intro fuel
  induction fuel with
  | zero => intro t listed acc; rfl
  | succ fuel ih =>
    intro t listed acc
    simp only [Region.linearise.go, hs, hr, ih]
end Go.Proofs.Ytmmolicodlmlkaa.Rel
namespace Go.Proofs.Ytmmolicodlmlkaa
abbrev link : Go.Conc.Lib.WgLink := { add := 140, done := 143, wait := 127, relMerge := 167, disable := 144, enable := 146, inBubble := 152, associate := 168, fatal := 169, uOr := 170, uAdd := 171, raceRead := 172, uLoad := 145, uStore := 173, disassociate := 150, semrelease := 174, acquire := 147, isAssociated := 148, uCas := 149, raceWrite := 151, semacquire := 153, orU64 := 183, addU64 := 184, loadU64 := 175, storeU64 := 185, casU64 := 176, tWgP := 137, tUP := 140, tAssoc := 158, tWg := 124, tAU := 121, tU64 := 76, tUint := 110, tU32 := 122, tPU32 := 144, tPAU := 163, tPU64 := 165, tNoCopy := 117, tANoCopy := 118, tAlign64 := 119 }
theorem wgLib : Go.Conc.Lib.WgLib Try.prog link :=
  ⟨Try.func140, Try.func143, Try.func127, Try.func167, Try.func144, Try.func146, Try.func152, Try.func168, Try.func169, Try.func170, Try.func171, Try.func172, Try.func145, Try.func173, Try.func150, Try.func174, Try.func147, Try.func148, Try.func149, Try.func151, Try.func153, Try.func183, Try.func184, Try.func175, Try.func185, Try.func176, Try.underlying137, Try.runUnderlying137, Try.sizeOf137, Try.isAgg137, Try.zeroValue137, Try.underlying140, Try.runUnderlying140, Try.sizeOf140, Try.isAgg140, Try.zeroValue140, Try.underlying158, Try.runUnderlying158, Try.sizeOf158, Try.isAgg158, Try.zeroValue158, Try.underlying124, Try.runUnderlying124, Try.sizeOf124, Try.isAgg124, Try.zeroValue124, Try.underlying121, Try.runUnderlying121, Try.sizeOf121, Try.isAgg121, Try.zeroValue121, Try.underlying76, Try.runUnderlying76, Try.sizeOf76, Try.isAgg76, Try.zeroValue76, Try.underlying110, Try.runUnderlying110, Try.sizeOf110, Try.isAgg110, Try.zeroValue110, Try.underlying122, Try.runUnderlying122, Try.sizeOf122, Try.isAgg122, Try.zeroValue122, Try.underlying144, Try.runUnderlying144, Try.sizeOf144, Try.isAgg144, Try.zeroValue144, Try.underlying163, Try.runUnderlying163, Try.sizeOf163, Try.isAgg163, Try.zeroValue163, Try.underlying165, Try.runUnderlying165, Try.sizeOf165, Try.isAgg165, Try.zeroValue165, Try.underlying0, Try.runUnderlying0, Try.sizeOf0, Try.isAgg0, Try.zeroValue0, Try.underlying3, Try.runUnderlying3, Try.sizeOf3, Try.isAgg3, Try.zeroValue3, Try.underlying4, Try.runUnderlying4, Try.sizeOf4, Try.isAgg4, Try.zeroValue4, Try.underlying9, Try.runUnderlying9, Try.sizeOf9, Try.isAgg9, Try.zeroValue9, Try.underlying20, Try.runUnderlying20, Try.sizeOf20, Try.isAgg20, Try.zeroValue20, Try.underlying21, Try.runUnderlying21, Try.sizeOf21, Try.isAgg21, Try.zeroValue21, (by kernel_rfl), (by kernel_rfl)⟩
end Go.Proofs.Ytmmolicodlmlkaa
namespace Go.Proofs.Ytmmolicodlmlkaa
open Go.RowKit
open Go.Proofs.Ytmmolicodlmlkaa.Rel (ops_upto lastOk lastOk_sound linearise_same)
set_option linter.unusedVariables false

abbrev ptrB (b : Nat) : Value := .pointer (some ⟨b, 0, none⟩)
noncomputable def rowOps : Array Oper := match Try.f82.body with | some (.region _ ops _) => ops | _ => #[]
/-- The store is left out. -/
noncomputable def rowOps' : Array Oper := rowOps.modify 9 fun o => { o with op := .move (.const (.bool true)) }
theorem row_last : lastOk rowOps 9 10 (Array.replicate 10 false) = true := by kernel_rfl
theorem row_size : rowOps.size = 10 := by kernel_rfl
theorem row_same : ∀ i : Nat, (rowOps'[i]?).map Oper.after = (rowOps[i]?).map Oper.after := by
  intro i
  unfold rowOps'
  rw [Array.getElem?_modify]
  split
  · cases rowOps[i]? <;> rfl
  · rfl
end Go.Proofs.Ytmmolicodlmlkaa
namespace Go.Proofs.Ytmmolicodlmlkaa.Ph
open Go.Conc Go.ConcN
set_option linter.unusedVariables false

/-- Whose each place is. -/
structure Own where
  W : Nat → Prop
  own : Nat → Loc → Prop
  rd : Nat → Loc → Prop
  fre : Loc → Prop
  mr : Loc → Prop
  sh : Loc → Prop
structure Own.Apart (O : Own) : Prop where
  own : ∀ g g' l, O.W g → O.W g' → O.own g l → O.own g' l → g = g'
  ownRd : ∀ g g' l, O.W g → O.W g' → O.own g l → ¬ O.rd g' l
  ownFre : ∀ g l, O.W g → O.own g l → ¬ O.fre l
  ownMr : ∀ g l, O.W g → O.own g l → ¬ O.mr l
  ownSh : ∀ g l, O.W g → O.own g l → ¬ O.sh l
  rdSh : ∀ g l, O.W g → O.rd g l → ¬ O.sh l
  rdFre : ∀ g l, O.W g → O.rd g l → ¬ O.fre l
  freSh : ∀ l, O.fre l → ¬ O.sh l
  mrSh : ∀ l, O.mr l → ¬ O.sh l
structure TI (O : Own) (Shun : Loc → Prop) (B nb : Nat) (ad : Addr) (t : Trace) : Prop where
  clean : ∀ said, ¬ Race said t
  gs : ∀ op ∈ t, op.g < nb
  w0 : ∀ g, O.W g → 0 < g ∧ g < nb
  own : ∀ g, O.W g → ∀ l, O.own g l → Perm t g l
  rd : ∀ g, O.W g → ∀ l, O.rd g l → PermW t g l
  fre : ∀ l, O.fre l → Perm t 0 l
  mr : ∀ l, O.mr l → PermW t 0 l
  wg : ∀ i a, touchAt t i = some a → O.sh a.loc → (a.kind = .plain → Knows t 0 i ∧ ∀ g, O.W g → Knows t g i) ∧ (a.kind = .said → Knows t 0 i)
  low : ∀ op ∈ t, op.act.low B
  known : ∀ i a, touchAt t i = some a → a.loc.isMemory = true → Knows t 0 i ∨ (Shun a.loc ∧ a.kind = .atomic) ∨ ∃ g, t.g? i = some g ∧ O.W g
  over : ∀ i g, t.g? i = some g → g ≠ 0 → ¬ O.W g → t.counts i → ∃ j, t.g? j = some 0 ∧ HappensBefore t i j
  norel : NoRelease ad t
section
variable {O O' : Own} {Shun : Loc → Prop} {B B' nb : Nat} {ad : Addr} {t u : Trace} {g : Nat}
/-- What worker g may list. -/
def OkG (O : Own) (B : Nat) (ad : Addr) (g : Nat) (op : MemOp) : Prop :=
  op.g = g ∧ op.act.low B ∧ op.act ≠ .mark (.release ad) ∧ ∀ x, op.act.touch? = some x → O.own g x.loc ∨ (O.rd g x.loc ∧ x.write = false) ∨ (O.sh x.loc ∧ x.kind = .atomic)
/-- What goroutine 0 may list. -/
def OkM (O : Own) (B : Nat) (ad : Addr) (op : MemOp) : Prop :=
  op.g = 0 ∧ op.act.low B ∧ op.act ≠ .mark (.release ad) ∧ ∀ x, op.act.touch? = some x → O.fre x.loc ∨ (O.mr x.loc ∧ x.write = false) ∨ (O.sh x.loc ∧ x.kind ≠ .plain)
theorem known_app (h : ∀ i a, touchAt t i = some a → a.loc.isMemory = true → Knows t 0 i ∨ (Shun a.loc ∧ a.kind = .atomic) ∨ ∃ g, t.g? i = some g ∧ O.W g)
    (hu : ∀ op ∈ u, op.g = 0 ∨ O.W op.g ∨ op.act.touch? = none) : ∀ i a, touchAt (t ++ u) i = some a → a.loc.isMemory = true → Knows (t ++ u) 0 i ∨ (Shun a.loc ∧ a.kind = .atomic) ∨ ∃ g, (t ++ u).g? i = some g ∧ O.W g := by
  intro i a ha hm
  obtain ⟨x, hx, hxa⟩ := touch_of ha
  rcases getElem?_append_cases hx with ⟨hi, hx'⟩ | ⟨_, hxu⟩
  · rcases h i a (by rw [touchAt_of hx']; exact hxa) hm with h1 | h1 | ⟨g, h1, h2⟩
    · exact .inl (h1.app u)
    · exact .inr (.inl h1)
    · exact .inr (.inr ⟨g, by rw [g?_old hi]; exact h1, h2⟩)
  · rcases hu x hxu with h1 | h1 | h1
    · have := knows_own hx
      rw [h1] at this
      exact .inl this
    · exact .inr (.inr ⟨x.g, by simp [Trace.g?, hx], h1⟩)
    · rw [h1] at hxa; cases hxa
theorem over_app (h : ∀ i g, t.g? i = some g → g ≠ 0 → ¬ O.W g → t.counts i → ∃ j, t.g? j = some 0 ∧ HappensBefore t i j)
    (hu : ∀ op ∈ u, op.g = 0 ∨ O.W op.g ∨ op.act.touch? = none) : ∀ i g, (t ++ u).g? i = some g → g ≠ 0 → ¬ O.W g → (t ++ u).counts i → ∃ j, (t ++ u).g? j = some 0 ∧ HappensBefore (t ++ u) i j := by
  intro i g hg hne hnw hc
  obtain ⟨x, hx, hxx⟩ := hc
  obtain ⟨op, hop, hox⟩ := touch_of hx
  rcases getElem?_append_cases hop with ⟨hi, hop'⟩ | ⟨_, hopu⟩
  · obtain ⟨j, hj, hb⟩ := h i g (by simpa [Trace.g?, getElem?_append_old hi] using hg) hne hnw ((counts_old hi).1 ⟨x, hx, hxx⟩)
    have hjl : j < t.size := by
      unfold Trace.g? at hj
      obtain ⟨z, hz, _⟩ := Option.map_eq_some_iff.1 hj
      exact lt_size_of_getElem? hz
    exact ⟨j, by simpa [Trace.g?, getElem?_append_old hjl] using hj, hb_app u hb⟩
  · have hgo : op.g = g := by simpa [Trace.g?, hop] using hg
    rcases hu op hopu with h0 | h0 | h0
    · exact absurd (hgo.symm.trans h0) hne
    · exact absurd (hgo ▸ h0) hnw
    · rw [h0] at hox; cases hox
theorem wg_app (h : ∀ i a, touchAt t i = some a → O.sh a.loc → (a.kind = .plain → Knows t 0 i ∧ ∀ g, O.W g → Knows t g i) ∧ (a.kind = .said → Knows t 0 i))
    (hu : ∀ op ∈ u, ∀ x, op.act.touch? = some x → O.sh x.loc → x.kind ≠ .plain ∧ (x.kind = .said → op.g = 0)) : ∀ i a, touchAt (t ++ u) i = some a → O.sh a.loc → (a.kind = .plain → Knows (t ++ u) 0 i ∧ ∀ g, O.W g → Knows (t ++ u) g i) ∧ (a.kind = .said → Knows (t ++ u) 0 i) := by
  intro i a ha hs
  obtain ⟨x, hx, hxa⟩ := touch_of ha
  rcases getElem?_append_cases hx with ⟨_, hx'⟩ | ⟨_, hxu⟩
  · obtain ⟨h1, h2⟩ := h i a (by rw [touchAt_of hx']; exact hxa) hs
    exact ⟨fun hk => ⟨(h1 hk).1.app u, fun g hg => ((h1 hk).2 g hg).app u⟩, fun hk => (h2 hk).app u⟩
  · obtain ⟨h1, h2⟩ := hu x hxu a hxa hs
    refine ⟨fun hk => absurd hk h1, fun hk => ?_⟩
    have := knows_own hx
    rwa [h2 hk] at this
/-- The bound may be raised. -/
theorem TI.mono (h : TI O Shun B nb ad t) (hB : B ≤ B') : TI O Shun B' nb ad t := { h with low := fun op hop => MemAct.low_mono hB (h.low op hop) }
theorem TI.appW (A : O.Apart) (h : TI O Shun B nb ad t) (hg : O.W g) (hu : ∀ op ∈ u, OkG O B ad g op) : TI O Shun B nb ad (t ++ u) := by
  have hw : ∀ op ∈ u, op.g = 0 ∨ O.W op.g ∨ op.act.touch? = none := fun op hop => .inr (.inl (by rw [(hu op hop).1]; exact hg))
  refine ⟨fun said => noRace_append (g := g) (h.clean said) (fun op hop => (hu op hop).1) fun i a ha op hop b hb hc => ?_, fun op hop => (Array.mem_append.1 hop).elim (h.gs op) fun hop => by rw [(hu op hop).1]; exact (h.w0 g hg).2, h.w0,
    fun g' hg' l hl => (h.own g' hg' l hl).app fun op hop b hb e => ?_, fun g' hg' l hl => (h.rd g' hg' l hl).app fun op hop b hb e hw => ?_, fun l hl => (h.fre l hl).app fun op hop b hb e => ?_, fun l hl => (h.mr l hl).app fun op hop b hb e hw => ?_,
    wg_app h.wg fun op hop x hx hs => ?_, fun op hop => (Array.mem_append.1 hop).elim (h.low op) fun hop => (hu op hop).2.1, known_app h.known hw, over_app h.over hw, h.norel.app fun op hop => (hu op hop).2.2.1⟩
  · rcases (hu op hop).2.2.2 b hb with ho | ⟨hr, hbw⟩ | ⟨hs, hk⟩
    · exact h.own g hg b.loc ho i a ha hc.1
    · exact h.rd g hg b.loc hr i a ha hc.1 (hc.2.2.1.resolve_right (by simp [hbw]))
    · have hka : a.kind = .plain := by
        rcases hc.2.2.2 with x | x | ⟨_, _, x⟩
        · exact x
        · rw [hk] at x; cases x
        · rw [hk] at x; cases x
      exact ((h.wg i a ha (hc.1 ▸ hs)).1 hka).2 g hg
  · rcases (hu op hop).2.2.2 b hb with ho | ⟨hr, _⟩ | ⟨hs, _⟩
    · rw [(hu op hop).1]; exact A.own g g' l hg hg' (e ▸ ho) hl
    · exact absurd (e ▸ hr) (A.ownRd g' g l hg' hg hl)
    · exact absurd (e ▸ hs) (A.ownSh g' l hg' hl)
  · rcases (hu op hop).2.2.2 b hb with ho | ⟨_, hbw⟩ | ⟨hs, _⟩
    · exact absurd hl (A.ownRd g g' l hg hg' (e ▸ ho))
    · rw [hbw] at hw; cases hw
    · exact absurd (e ▸ hs) (A.rdSh g' l hg' hl)
  · rcases (hu op hop).2.2.2 b hb with ho | ⟨hr, _⟩ | ⟨hs, _⟩
    · exact absurd hl (A.ownFre g l hg (e ▸ ho))
    · exact absurd hl (A.rdFre g l hg (e ▸ hr))
    · exact absurd (e ▸ hs) (A.freSh l hl)
  · rcases (hu op hop).2.2.2 b hb with ho | ⟨_, hbw⟩ | ⟨hs, _⟩
    · exact absurd hl (A.ownMr g l hg (e ▸ ho))
    · rw [hbw] at hw; cases hw
    · exact absurd (e ▸ hs) (A.mrSh l hl)
  · rcases (hu op hop).2.2.2 x hx with ho | ⟨hr, _⟩ | ⟨_, hk⟩
    · exact absurd hs (A.ownSh g _ hg ho)
    · exact absurd hs (A.rdSh g _ hg hr)
    · rw [hk]; exact ⟨by simp, by simp⟩
theorem TI.app0 (A : O.Apart) (h : TI O Shun B nb ad t) (hu : ∀ op ∈ u, OkM O B ad op) (h0 : 0 < nb) : TI O Shun B nb ad (t ++ u) := by
  have hw : ∀ op ∈ u, op.g = 0 ∨ O.W op.g ∨ op.act.touch? = none := fun op hop => .inl (hu op hop).1
  refine ⟨fun said => noRace_append (g := 0) (h.clean said) (fun op hop => (hu op hop).1) fun i a ha op hop b hb hc => ?_, fun op hop => (Array.mem_append.1 hop).elim (h.gs op) fun hop => by rw [(hu op hop).1]; exact h0, h.w0,
    fun g' hg' l hl => (h.own g' hg' l hl).app fun op hop b hb e => ?_, fun g' hg' l hl => (h.rd g' hg' l hl).app fun op hop b hb e hw => ?_, fun l hl => (h.fre l hl).app fun op hop _ _ _ => (hu op hop).1, fun l hl => (h.mr l hl).app fun op hop _ _ _ _ => (hu op hop).1,
    wg_app h.wg fun op hop x hx hs => ?_, fun op hop => (Array.mem_append.1 hop).elim (h.low op) fun hop => (hu op hop).2.1, known_app h.known hw, over_app h.over hw, h.norel.app fun op hop => (hu op hop).2.2.1⟩
  · rcases (hu op hop).2.2.2 b hb with ho | ⟨hr, hbw⟩ | ⟨hs, hk⟩
    · exact h.fre b.loc ho i a ha hc.1
    · exact h.mr b.loc hr i a ha hc.1 (hc.2.2.1.resolve_right (by simp [hbw]))
    · obtain ⟨h1, h2⟩ := h.wg i a ha (hc.1 ▸ hs)
      rcases hc.2.2.2 with x | x | ⟨_, x, _⟩
      · exact (h1 x).1
      · exact absurd x hk
      · exact h2 x
  · rcases (hu op hop).2.2.2 b hb with ho | ⟨hr, _⟩ | ⟨hs, _⟩
    · exact absurd (e ▸ ho) (A.ownFre g' l hg' hl)
    · exact absurd (e ▸ hr) (A.ownMr g' l hg' hl)
    · exact absurd (e ▸ hs) (A.ownSh g' l hg' hl)
  · rcases (hu op hop).2.2.2 b hb with ho | ⟨_, hbw⟩ | ⟨hs, _⟩
    · exact absurd (e ▸ ho) (A.rdFre g' l hg' hl)
    · rw [hbw] at hw; cases hw
    · exact absurd (e ▸ hs) (A.rdSh g' l hg' hl)
  · rcases (hu op hop).2.2.2 x hx with ho | ⟨hr, _⟩ | ⟨_, hk⟩
    · exact absurd hs (A.freSh _ ho)
    · exact absurd hs (A.mrSh _ hr)
    · exact ⟨hk, fun _ => (hu op hop).1⟩
/-- Somebody else says something that names no place. -/
theorem TI.appMute (h : TI O Shun B nb ad t) (hg : g < nb) (hu : ∀ op ∈ u, op.g = g ∧ op.act.touch? = none ∧ op.act.low B ∧ op.act ≠ .mark (.release ad)) : TI O Shun B nb ad (t ++ u) := by
  have hw : ∀ op ∈ u, op.g = 0 ∨ O.W op.g ∨ op.act.touch? = none := fun op hop => .inr (.inr (hu op hop).2.1)
  have no : ∀ op ∈ u, ∀ b, op.act.touch? = some b → False := fun op hop b hb => by rw [(hu op hop).2.1] at hb; cases hb
  exact ⟨fun said => noRace_append (g := g) (h.clean said) (fun op hop => (hu op hop).1) fun i a ha op hop b hb hc => (no op hop b hb).elim, fun op hop => (Array.mem_append.1 hop).elim (h.gs op) fun hop => by rw [(hu op hop).1]; exact hg, h.w0,
    fun g' hg' l hl => (h.own g' hg' l hl).app fun op hop b hb e => (no op hop b hb).elim, fun g' hg' l hl => (h.rd g' hg' l hl).app fun op hop b hb e hw => (no op hop b hb).elim, fun l hl => (h.fre l hl).app fun op hop b hb _ => (no op hop b hb).elim, fun l hl => (h.mr l hl).app fun op hop b hb _ _ => (no op hop b hb).elim,
    wg_app h.wg fun op hop x hx hs => (no op hop x hx).elim, fun op hop => (Array.mem_append.1 hop).elim (h.low op) fun hop => (hu op hop).2.2.1, known_app h.known hw, over_app h.over hw, h.norel.app fun op hop => (hu op hop).2.2.2⟩
/-- Nobody has touched a place of a block that nobody could name. -/
theorem untouched (h : ∀ op ∈ t, op.act.low B) {l : Loc} (hl : ¬ l.low B) {i : Nat} {a : Touch} (ha : touchAt t i = some a) : a.loc ≠ l := by
  rintro rfl
  obtain ⟨x, hx, hxa⟩ := touch_of ha
  have := h x (mem_of_getElem? hx)
  obtain ⟨g, fn, pos, act⟩ := x
  cases act with
  | access e =>
    simp only [MemAct.touch?, Option.some.injEq] at hxa
    subst hxa
    exact hl this
  | mark m =>
    cases m <;> simp only [MemAct.touch?, Option.some.injEq] at hxa <;> first
      | (subst hxa; exact hl this)
      | cases hxa
  | _ => simp [MemAct.touch?] at hxa
/-- Places may change hands: what is new may be anybody's; what is free may become what is read; what somebody has he may let go. -/
theorem TI.hand (h : TI O Shun B nb ad t) (hW : ∀ g, O'.W g ↔ O.W g) (h1 : ∀ g, O.W g → ∀ l, O'.own g l → O.own g l ∨ ¬ l.low B) (h2 : ∀ g, O.W g → ∀ l, O'.rd g l → O.rd g l ∨ O.own g l ∨ ¬ l.low B)
    (h3 : ∀ l, O'.fre l → O.fre l ∨ ¬ l.low B) (h4 : ∀ l, O'.mr l → O.mr l ∨ O.fre l ∨ ¬ l.low B) (h5 : ∀ l, O'.sh l → O.sh l ∨ ¬ l.low B) : TI O' Shun B nb ad t := by
  have hn : ∀ {g : Nat} {l : Loc}, ¬ l.low B → Perm t g l := fun hl i a ha e => absurd e (untouched h.low hl ha)
  refine ⟨h.clean, h.gs, fun g hg => h.w0 g ((hW g).1 hg), fun g hg l hl => (h1 g ((hW g).1 hg) l hl).elim (h.own g ((hW g).1 hg) l) hn, fun g hg l hl => ?_, fun l hl => (h3 l hl).elim (h.fre l) hn, fun l hl => ?_, fun i a ha hs => ?_, h.low,
    fun i a ha hm => (h.known i a ha hm).imp id fun h => h.imp id fun ⟨g, x, y⟩ => ⟨g, x, (hW g).2 y⟩, fun i g hg hne hnw hc => h.over i g hg hne (fun x => hnw ((hW g).2 x)) hc, h.norel⟩
  · have hg' := (hW g).1 hg
    rcases h2 g hg' l hl with x | x | x
    · exact h.rd g hg' l x
    · exact .of (h.own g hg' l x)
    · exact .of (hn x)
  · rcases h4 l hl with x | x | x
    · exact h.mr l x
    · exact .of (h.fre l x)
    · exact .of (hn x)
  · rcases h5 _ hs with x | x
    · obtain ⟨y, z⟩ := h.wg i a ha x
      exact ⟨fun hk => ⟨(y hk).1, fun g hg => (y hk).2 g ((hW g).1 hg)⟩, z⟩
    · exact absurd rfl (untouched h.low x ha)
/-- A go statement: what was free becomes the child's, or is read from now on. -/
theorem TI.fork (h : TI O Shun B nb ad t) {x y : MemOp} (hx : x.g = 0 ∧ x.act = .go nb) (hy : y.g = nb ∧ y.act = .start) (h0 : Deaf t 0 = 0)
    (hW : ∀ g, O'.W g ↔ O.W g ∨ g = nb) (h1 : ∀ g, O.W g → ∀ l, O'.own g l → O.own g l) (h2 : ∀ g, O.W g → ∀ l, O'.rd g l → O.rd g l) (h3 : ∀ l, O'.fre l → O.fre l) (h4 : ∀ l, O'.mr l → O.mr l ∨ O.fre l) (h5 : ∀ l, O'.sh l → O.sh l)
    (h6 : ∀ l, O'.own nb l → O.fre l) (h7 : ∀ l, O'.rd nb l → O.mr l ∨ O.fre l) (hnb : 0 < nb) : TI O' Shun B (nb + 1) ad (t ++ #[x, y]) := by
  have hk : Deaf t nb = 0 := Deaf_absent fun i op hi e => by have := h.gs op (mem_of_getElem? hi); omega
  have hm : ∀ op ∈ #[x, y], op = x ∨ op = y := by intro op hop; simpa using hop
  have hnt : ∀ op ∈ #[x, y], ∀ b, op.act.touch? = some b → False := by
    intro op hop b hb
    rcases hm op hop with rfl | rfl
    · rw [hx.2] at hb; cases hb
    · rw [hy.2] at hb; cases hb
  have old : ∀ {i : Nat} {a : Touch}, touchAt (t ++ #[x, y]) i = some a → i < t.size ∧ touchAt t i = some a := by
    intro i a ha
    obtain ⟨z, hz, hza⟩ := touch_of ha
    rcases getElem?_append_cases hz with ⟨hi, hz'⟩ | ⟨_, hzu⟩
    · exact ⟨hi, by rw [touchAt_of hz']; exact hza⟩
    · exact (hnt z hzu a hza).elim
  have fk : ∀ {i : Nat}, Knows t 0 i → Knows (t ++ #[x, y]) nb i := fun hi => fork_knows hx hy h0 hk hi
  have pf : ∀ {l : Loc}, Perm t 0 l → Perm (t ++ #[x, y]) nb l := fun hp i a ha e => fk (hp i a (old ha).2 e)
  have pw : ∀ {l : Loc}, PermW t 0 l → PermW (t ++ #[x, y]) nb l := fun hp i a ha e hw => fk (hp i a (old ha).2 e hw)
  have keep : ∀ {g : Nat} {l : Loc}, Perm t g l → Perm (t ++ #[x, y]) g l := fun hp => hp.app fun op hop b hb _ => (hnt op hop b hb).elim
  have keepW : ∀ {g : Nat} {l : Loc}, PermW t g l → PermW (t ++ #[x, y]) g l := fun hp => hp.app fun op hop b hb _ _ => (hnt op hop b hb).elim
  refine ⟨fun said => ?_, fun op hop => (Array.mem_append.1 hop).elim (fun hop => Nat.lt_succ_of_lt (h.gs op hop)) fun hop => ?_, fun g hg => ?_, fun g hg l hl => ?_, fun g hg l hl => ?_, fun l hl => keep (h.fre l (h3 l hl)), fun l hl => ?_, fun i a ha hs => ?_,
    fun op hop => (Array.mem_append.1 hop).elim (h.low op) fun hop => ?_, fun i a ha hmm => ?_, fun i g hg hne hnw hc => ?_, h.norel.app fun op hop => ?_⟩
  · have e : t ++ #[x, y] = (t ++ #[x]) ++ #[y] := by apply Array.ext'; simp
    rw [e]
    refine noRace_append (g := nb) (noRace_append (g := 0) (h.clean said) (fun op hop => by simp at hop; rw [hop]; exact hx.1) (fun i a _ op hop b hb _ => (hnt op (by simp at hop ⊢; exact .inl hop) b hb).elim))
      (fun op hop => by simp at hop; rw [hop]; exact hy.1) (fun i a _ op hop b hb _ => (hnt op (by simp at hop ⊢; exact .inr hop) b hb).elim)
  · rcases hm op hop with rfl | rfl
    · rw [hx.1]; omega
    · rw [hy.1]; omega
  · rcases (hW g).1 hg with hg | rfl
    · have := h.w0 g hg; omega
    · omega
  · rcases (hW g).1 hg with hg | rfl
    · exact keep (h.own g hg l (h1 g hg l hl))
    · exact pf (h.fre l (h6 l hl))
  · rcases (hW g).1 hg with hg | rfl
    · exact keepW (h.rd g hg l (h2 g hg l hl))
    · rcases h7 l hl with z | z
      · exact pw (h.mr l z)
      · exact pw (.of (h.fre l z))
  · rcases h4 l hl with z | z
    · exact keepW (h.mr l z)
    · exact keepW (.of (h.fre l z))
  · obtain ⟨_, ha'⟩ := old ha
    obtain ⟨y1, y2⟩ := h.wg i a ha' (h5 _ hs)
    refine ⟨fun hkp => ⟨(y1 hkp).1.app _, fun g hg => ?_⟩, fun hkp => (y2 hkp).app _⟩
    rcases (hW g).1 hg with hg | rfl
    · exact ((y1 hkp).2 g hg).app _
    · exact fk (y1 hkp).1
  · rcases hm op hop with rfl | rfl
    · rw [hx.2]; trivial
    · rw [hy.2]; trivial
  · obtain ⟨hi, ha'⟩ := old ha
    rcases h.known i a ha' hmm with z | z | ⟨g, z1, z2⟩
    · exact .inl (z.app _)
    · exact .inr (.inl z)
    · exact .inr (.inr ⟨g, by rw [g?_old hi]; exact z1, (hW g).2 (.inl z2)⟩)
  · obtain ⟨z, hz, hzz⟩ := hc
    obtain ⟨hi, _⟩ := old hz
    obtain ⟨j, hj, hb⟩ := h.over i g (by rw [← g?_old hi]; exact hg) hne (fun q => hnw ((hW g).2 (.inl q))) ((counts_old hi).1 ⟨z, hz, hzz⟩)
    have hjl : j < t.size := by
      unfold Trace.g? at hj
      obtain ⟨z, hz, _⟩ := Option.map_eq_some_iff.1 hj
      exact lt_size_of_getElem? hz
    exact ⟨j, by rw [g?_old hjl]; exact hj, hb_app _ hb⟩
  · rcases hm op hop with rfl | rfl
    · rw [hx.2]; simp
    · rw [hy.2]; simp
/-- Worker g has said its release-and-merge, heard; behind it it only touches the group's places, atomically, and deaf. -/
structure Rel (sh : Loc → Prop) (ad : Addr) (t : Trace) (k r : Nat) : Prop extends RelBy ad t k r where
  only : ∀ i, r < i → t.g? i = some k → ∀ a, touchAt t i = some a → sh a.loc ∧ a.kind = .atomic
theorem Rel.appOther {sh : Loc → Prop} {r : Nat} (h : Rel sh ad t g r) (hu : ∀ op ∈ u, op.g ≠ g) : Rel sh ad (t ++ u) g r := by
  refine ⟨h.toRelBy.appNot hu, fun i hi hg a ha => ?_⟩
  obtain ⟨x, hx, hxa⟩ := touch_of ha
  rcases getElem?_append_cases hx with ⟨hlt, hx'⟩ | ⟨_, hxu⟩
  · exact h.only i hi (by rw [← g?_old (u := u) hlt]; exact hg) a (by rw [touchAt_of hx']; exact hxa)
  · exact absurd (by simpa [Trace.g?, hx] using hg) (hu x hxu)
/-- ████ THE STARTER SAYS 'acquire': what it does behind it follows upon all that was done. ████ -/
theorem TI.join (h : TI O Shun B nb ad t) (hr : ∀ g, O.W g → ∃ r, Rel O.sh ad t g r) (h0 : Deaf t 0 = 0) {y : MemOp} (hy : y.g = 0 ∧ y.act = .mark (.acquire ad)) (hB : ad.block < B) :
    Past (fun l => Shun l ∨ O.sh l) B (t ++ #[y]) := by
  have hyp : (t ++ #[y])[t.size]? = some y := by simp
  have hya : (t ++ #[y]).act? t.size = some (.mark (.acquire ad)) := by rw [act?_of hyp, hy.2]
  have hyh : (t ++ #[y]).heard t.size := ⟨0, by simp [Trace.g?, hy.1], by rw [deaf_old (Nat.le_refl _)]; exact h0⟩
  have hno : NoRelease ad (t ++ #[y]) := h.norel.app fun op hop => by simp at hop; rw [hop, hy.2]; simp
  have hnt : ∀ op ∈ #[y], op.act.touch? = none := fun op hop => by simp at hop; rw [hop, hy.2]; rfl
  -- what a worker did at or ahead of its release
  have edge : ∀ {g r i : Nat}, Rel O.sh ad t g r → t.g? i = some g → i ≤ r → HappensBefore (t ++ #[y]) i t.size := by
    intro g r i hr hg hi
    have hrl := lt_of_act? hr.act
    have e1 : HappensBefore (t ++ #[y]) r t.size := .single (.inr ⟨.marked hrl (.inr (by rw [act?_old hrl]; exact hr.act)) hya (fun k _ _ => hno k), (heard_old hrl).2 hr.heard, hyh⟩)
    rcases Nat.lt_or_ge i r with hlt | hge
    · exact .trans (.single (.inl ⟨hlt, g, by rw [g?_old (by omega)]; exact hg, by rw [g?_old hrl]; exact hr.g⟩)) e1
    · obtain rfl : i = r := by omega
      exact e1
  refine ⟨fun said => noRace_append (g := 0) (h.clean said) (fun op hop => by simp at hop; rw [hop]; exact hy.1) fun i a _ op hop b hb _ => ?_, fun i a ha hm => ?_, fun i g hg hne hc => ?_, ?_, fun op hop => (Array.mem_append.1 hop).elim (h.low op) fun hop => ?_⟩
  · rw [hnt op hop] at hb; cases hb
  · obtain ⟨x, hx, hxa⟩ := touch_of ha
    rcases getElem?_append_cases hx with ⟨hi, hx'⟩ | ⟨_, hxu⟩
    · have ha' : touchAt t i = some a := by rw [touchAt_of hx']; exact hxa
      rcases h.known i a ha' hm with z | z | ⟨g, z1, z2⟩
      · exact .inl (z.app _)
      · exact .inr ⟨.inl z.1, z.2⟩
      · obtain ⟨r, hr⟩ := hr g z2
        rcases Nat.lt_or_ge r i with hlt | hge
        · obtain ⟨q1, q2⟩ := hr.only i hlt z1 a ha'
          exact .inr ⟨.inr q1, q2⟩
        · exact .inl ⟨t.size, y, hyp, hy.1, .inr (edge hr z1 hge)⟩
    · rw [hnt x hxu] at hxa; cases hxa
  · obtain ⟨x, hx, hxx⟩ := hc
    obtain ⟨op, hop, hox⟩ := touch_of hx
    rcases getElem?_append_cases hop with ⟨hi, hop'⟩ | ⟨_, hopu⟩
    · have hg' : t.g? i = some g := by rw [← g?_old (u := #[y]) hi]; exact hg
      have hc' : t.counts i := (counts_old hi).1 ⟨x, hx, hxx⟩
      by_cases hw : O.W g
      · obtain ⟨r, hr⟩ := hr g hw
        have hle : i ≤ r := Nat.le_of_not_lt fun hlt => hr.after i hlt hg' hc'
        exact ⟨t.size, by simp [Trace.g?, hy.1], edge hr hg' hle⟩
      · obtain ⟨j, hj, hb⟩ := h.over i g hg' hne hw hc'
        have hjl : j < t.size := by
          unfold Trace.g? at hj
          obtain ⟨z, hz, _⟩ := Option.map_eq_some_iff.1 hj
          exact lt_size_of_getElem? hz
        exact ⟨j, by rw [g?_old hjl]; exact hj, hb_app _ hb⟩
    · rw [hnt op hopu] at hox; cases hox
  · rw [Deaf_push]; simp [deafStep, hy.2, h0]
  · simp at hop; rw [hop, hy.2]; exact hB
end
end Go.Proofs.Ytmmolicodlmlkaa.Ph
namespace Go.Proofs.Ytmmolicodlmlkaa.Ph
open Go.Conc Go.ConcN
open Go.ConcR (KK wgBlock WgAt stA smA rd wr mk DC0 Bk)
open Go.Proofs.Ytmmolicodlmlkaa.Rel (RS DS EvS Tr Sub GoT Go1)
set_option linter.unusedVariables false

/-- The block into which each lays what it has made: it stays one; the cells that are this goroutine's stand. -/
def OutStay (C : Nat) (mine : Nat → Prop) (w w₁ : World) : Prop :=
  ∀ cs e fr, w.heap[C]? = some (.cells cs e fr) → ∃ cs', w₁.heap[C]? = some (.cells cs' e fr) ∧ cs'.size = cs.size ∧ ∀ o, mine o → cs'[o]? = cs[o]?
/-- What a worker suffers. -/
structure RW (ty : TypeId) (Wg C : Nat) (mine : Nat → Prop) (Rd S : Nat → Prop) (w w₁ : World) : Prop extends RS Rd S w w₁ where
  live : WgLive ty Wg w → WgLive ty Wg w₁
  out : OutStay C mine w w₁
/-- What a worker does while it works. -/
structure DW (Wg C : Nat) (mine : Nat → Prop) (Rd S : Nat → Prop) (w w' : World) (es : Array Event) (S' : Nat → Prop) : Prop where
  tape : w'.tape = w.tape
  os : w'.os = w.os
  output : w'.output = w.output
  size : w.heap.size ≤ w'.heap.size
  own : ∀ b, S' b ↔ S b ∨ (w.heap.size ≤ b ∧ b < w'.heap.size)
  old : ∀ b, b < w.heap.size → ¬ S b → b ≠ C → w'.heap[b]? = w.heap[b]?
  out : OutStay C (fun o => ¬ mine o) w w'
  evs : ∀ e ∈ es, EvS Rd S' e ∨ ∃ o wr, mine o ∧ e = ⟨.cell ⟨C, o, none⟩, wr, false⟩
/-- What the starter suffers. -/
structure RM (ty : TypeId) (Wg C : Nat) (Rd S : Nat → Prop) (w w₁ : World) : Prop extends RS Rd S w w₁ where
  live : WgLive ty Wg w → WgLive ty Wg w₁
  out : OutStay C (fun _ => False) w w₁
/-- What the starter does. -/
structure DM (Wg : Nat) (Rd S : Nat → Prop) (w w' : World) (es : Array Event) (S' : Nat → Prop) : Prop where
  tape : w'.tape = w.tape
  os : w'.os = w.os
  output : w'.output = w.output
  size : w.heap.size ≤ w'.heap.size
  own : ∀ b, S' b ↔ S b ∨ (w.heap.size ≤ b ∧ b < w'.heap.size)
  old : ∀ b, b < w.heap.size → ¬ S b → w'.heap[b]? = w.heap[b]?
  evs : ∀ e ∈ es, EvS Rd S' e ∨ e = mk (.read (smA Wg)) ∨ e = mk (.write (smA Wg))
section
variable {ty : TypeId} {Wg C : Nat} {mine : Nat → Prop} {Rd S : Nat → Prop} {a b c w w' : World}
theorem OutStay.refl (C : Nat) (mine : Nat → Prop) (w : World) : OutStay C mine w w := fun cs e fr h => ⟨cs, h, rfl, fun _ _ => rfl⟩
theorem OutStay.trans (h : OutStay C mine a b) (k : OutStay C mine b c) : OutStay C mine a c := fun cs e fr h0 =>
  let ⟨cs1, h1, h2, h3⟩ := h cs e fr h0
  let ⟨cs2, k1, k2, k3⟩ := k cs1 e fr h1
  ⟨cs2, k1, k2.trans h2, fun o ho => (k3 o ho).trans (h3 o ho)⟩
theorem OutStay.of_block (h : w'.heap[C]? = w.heap[C]?) : OutStay C mine w w' := fun cs e fr h0 => ⟨cs, h.trans h0, rfl, fun _ _ => rfl⟩
theorem RW.refl (w : World) : RW ty Wg C mine Rd S w w := ⟨RS.refl w, id, .refl _ _ _⟩
theorem RW.trans (h : RW ty Wg C mine Rd S a b) (k : RW ty Wg C mine Rd S b c) : RW ty Wg C mine Rd S a c := ⟨h.toRS.trans k.toRS, fun x => k.live (h.live x), h.out.trans k.out⟩
theorem RM.refl (w : World) : RM ty Wg C Rd S w w := ⟨RS.refl w, id, .refl _ _ _⟩
theorem RM.trans (h : RM ty Wg C Rd S a b) (k : RM ty Wg C Rd S b c) : RM ty Wg C Rd S a c := ⟨h.toRS.trans k.toRS, fun x => k.live (h.live x), h.out.trans k.out⟩
theorem RS.at' (w : World) (d : Nat) : RS Rd S w (w.at d) := ⟨rfl, rfl, rfl, Nat.le_refl _, fun _ _ => rfl, fun _ _ => rfl⟩
theorem RW.at' (w : World) (d : Nat) : RW ty Wg C mine Rd S w (w.at d) := ⟨RS.at' w d, id, .of_block rfl⟩
theorem RM.at' (w : World) (d : Nat) : RM ty Wg C Rd S w (w.at d) := ⟨RS.at' w d, id, .of_block rfl⟩
theorem DW.of_dc0 {es : Array Event} (h : DC0 w w' es) (hS : ∀ b, S b → b < w.heap.size) : DW Wg C mine Rd S w w' es S := by
  obtain ⟨rfl, rfl⟩ := h
  exact ⟨rfl, rfl, rfl, Nat.le_refl _, fun b => ⟨.inl, fun h => h.elim id fun h => by omega⟩, fun _ _ _ _ => rfl, .refl _ _ _, by simp⟩
/-- A step that only makes and reads is one of both kinds. -/
theorem DW.of_ds {es : Array Event} {S' : Nat → Prop} (h : DS Rd S w w' es S') (hC : ¬ S C) (hC2 : C < w.heap.size) : DW Wg C mine Rd S w w' es S' :=
  ⟨h.tape, h.os, h.output, h.size, h.own, fun b hb hn _ => h.old b hb hn, .of_block (h.old C hC2 hC), fun e he => .inl (h.evs e he)⟩
theorem DM.of_ds {es : Array Event} {S' : Nat → Prop} (h : DS Rd S w w' es S') : DM Wg Rd S w w' es S' := ⟨h.tape, h.os, h.output, h.size, h.own, h.old, fun e he => .inl (h.evs e he)⟩
end
/-! ### A WORKER, behind its work -/
section
variable (P : Program) (ty : TypeId) (Wg : Nat) (R : World → World → Prop)
def K4 (g : Goroutine) (w : World) : Prop :=
  g.status = .running ∧ mayWake P g = true ∧ (WgAt ty Wg w 0 0 → ∃ g', stepG P false g w = .go g' (w.setCell (smA Wg) (.int .u32 1)) (semEvents (smA Wg)) ∧ ∃ q, QuitsD P q 1 g')
def K3 (g : Goroutine) (w : World) : Prop :=
  g.status = .running ∧ (WgAt ty Wg w 1 0 → ∃ g', stepG P false g w = .go g' (w.setCell (stA Wg) (.int .u64 0)) #[wr (stA Wg)] ∧ ∃ m, Goes P false R DC0 (K4 P ty Wg) m g' (w.setCell (stA Wg) (.int .u64 0)))
def K2 (g : Goroutine) (w : World) : Prop :=
  g.status = .running ∧ (WgAt ty Wg w 1 0 → ∃ g', stepG P false g w = .go g' w #[rd (stA Wg)] ∧ ∃ m, Goes P false R DC0 (K3 P ty Wg R) m g' w)
/-- The atomic add of -1. -/
def K1 (g : Goroutine) (w : World) : Prop :=
  g.status = .running ∧ ∀ v wt : Nat, wt ≤ 1 → v < 2147483647 → WgAt ty Wg w ((v + 1) * KK + wt) 0 →
    ∃ g', stepG P false g w = .go g' (w.setCell (stA Wg) (.int .u64 (v * KK + wt))) #[rd (stA Wg), wr (stA Wg)] ∧
      ((v = 0 ∧ wt = 1) → ∃ m, Goes P false R DC0 (K2 P ty Wg R) m g' (w.setCell (stA Wg) (.int .u64 (v * KK + wt)))) ∧ (¬ (v = 0 ∧ wt = 1) → ∃ q, QuitsD P q 1 g')
def K0 (g : Goroutine) (w : World) : Prop :=
  g.status = .running ∧ ∃ g', stepG P false g w = .go g' w #[mk .disable] ∧ ∃ m, Goes P false R DC0 (K1 P ty Wg R) m g' w
/-- It is about to say its release. -/
def KR (g : Goroutine) (w : World) : Prop :=
  g.status = .running ∧ ∃ g', stepG P false g w = .go g' w #[mk (.releaseMerge (stA Wg))] ∧ ∃ m, Goes P false R DC0 (K0 P ty Wg R) m g' w
end
/-- A worker's whole script: it works, then holds Fact, and says its release. -/
def Works (P : Program) (ty : TypeId) (Wg C : Nat) (mine : Nat → Prop) (Fact : (Nat → Prop) → World → Prop) (Rd : Nat → Prop) : (Nat → Prop) → Goroutine → World → Prop :=
  Go1 P false (RW ty Wg C mine Rd) (DW Wg C mine Rd) (fun S g w => Fact S w ∧ KR P ty Wg (RW ty Wg C mine Rd S) g w)
/-! ### THE STARTER, from its end backwards -/
section
variable (P : Program) (ty : TypeId) (Wg C : Nat) (Rm : Nat → Prop)
abbrev GM (Stop : (Nat → Prop) → Goroutine → World → Prop) : (Nat → Prop) → Goroutine → World → Prop := Go1 P true (RM ty Wg C Rm) (DM Wg Rm) Stop
section
variable (Nx : (Nat → Prop) → Goroutine → World → Prop)
def MAcq (S : Nat → Prop) (g : Goroutine) (w : World) : Prop := g.status = .running ∧ ∃ g', stepG P true g w = .go g' w #[mk (.acquire (stA Wg))] ∧ Nx S g' w
def MKe (S : Nat → Prop) (g : Goroutine) (w : World) : Prop := g.status = .running ∧ ∃ g', stepG P true g w = .go g' w #[mk .enable] ∧ GM P ty Wg C Rm (MAcq P Wg Nx) S g' w
def MW4 (S : Nat → Prop) (g : Goroutine) (w : World) : Prop := g.status = .running ∧ (WgAt ty Wg w 0 0 → ∃ g', stepG P true g w = .go g' w #[rd (stA Wg)] ∧ GM P ty Wg C Rm (MKe P ty Wg C Rm Nx) S g' w)
def MW3 (S : Nat → Prop) (g : Goroutine) (w : World) : Prop :=
  g.status = .running ∧ g.offers = none ∧ ((∃ st, WgAt ty Wg w st 0) → stepG P true g w = .go { g with status := .blocked } w #[]) ∧
    (WgAt ty Wg w 0 1 → ∃ g', stepG P true g w = .go g' (w.setCell (smA Wg) (.int .u32 0)) (semEvents (smA Wg)) ∧ GM P ty Wg C Rm (MW4 P ty Wg C Rm Nx) S g' (w.setCell (smA Wg) (.int .u32 0)))
/-- .. under whatever the others do. -/
def MW3S (S : Nat → Prop) (g : Goroutine) (w : World) : Prop := ∀ w₁, RM ty Wg C Rm S w w₁ → MW3 P ty Wg C Rm Nx S g w₁
variable (Anch : (Nat → Prop) → Goroutine → World → Prop)
def MW2 (vs : Nat) (S : Nat → Prop) (g : Goroutine) (w : World) : Prop :=
  g.status = .running ∧ ∀ v : Nat, v < 2147483648 → WgAt ty Wg w (v * KK) 0 →
    (v = vs → ∃ g', stepG P true g w = .go g' (w.setCell (stA Wg) (.int .u64 (v * KK + 1))) #[rd (stA Wg), wr (stA Wg)] ∧ GM P ty Wg C Rm (MW3S P ty Wg C Rm Nx) S g' (w.setCell (stA Wg) (.int .u64 (v * KK + 1)))) ∧
    (v ≠ vs → ∃ g', stepG P true g w = .go g' w #[rd (stA Wg)] ∧ GM P ty Wg C Rm Anch S g' w)
def MW1 (S : Nat → Prop) (g : Goroutine) (w : World) : Prop :=
  g.status = .running ∧ ∀ v : Nat, v < 2147483648 → WgAt ty Wg w (v * KK) 0 → ∃ g', stepG P true g w = .go g' w #[rd (stA Wg)] ∧
    (v = 0 → GM P ty Wg C Rm (MKe P ty Wg C Rm Nx) S g' w) ∧ (v ≠ 0 → GM P ty Wg C Rm (MW2 P ty Wg C Rm Nx Anch v) S g' w)
def MKd (S : Nat → Prop) (g : Goroutine) (w : World) : Prop := g.status = .running ∧ ∃ g', stepG P true g w = .go g' w #[mk .disable] ∧ GM P ty Wg C Rm Anch S g' w
end
end
/-! ### .. while it starts them -/
section
variable (P : Program) (ty : TypeId) (Wg C : Nat) (mine : Nat → Nat → Prop) (Fact : Nat → (Nat → Prop) → World → Prop)
/-- The go statement: the child gets what the starter has made for it; the rest is read from now on. -/
def MGo (j : Nat) (Next : (Nat → Prop) → (Nat → Prop) → Goroutine → World → Prop) (Rm S : Nat → Prop) (g : Goroutine) (w : World) : Prop :=
  g.status = .running ∧ ∃ g' child Sj Rj, stepG P true g w = .spawn g' child w #[] ∧ child.status = .running ∧ (∀ b, Sj b → S b) ∧ (∀ b, Rj b → Rm b ∨ (S b ∧ ¬ Sj b)) ∧
    Works P ty Wg C (mine j) (Fact j) Rj Sj child w ∧ Next (fun b => Rm b ∨ (S b ∧ ¬ Sj b)) (fun _ => False) g' w
def MKeS (j : Nat) (Next : (Nat → Prop) → (Nat → Prop) → Goroutine → World → Prop) (Rm S : Nat → Prop) (g : Goroutine) (w : World) : Prop :=
  g.status = .running ∧ ∃ g', stepG P true g w = .go g' w #[mk .enable] ∧ GM P ty Wg C Rm (MGo P ty Wg C mine Fact j Next Rm) S g' w
def MA1 (j : Nat) (Next : (Nat → Prop) → (Nat → Prop) → Goroutine → World → Prop) (Rm S : Nat → Prop) (g : Goroutine) (w : World) : Prop :=
  g.status = .running ∧ ∀ v : Nat, v < 2147483647 → WgAt ty Wg w (v * KK) 0 →
    ∃ g', stepG P true g w = .go g' (w.setCell (stA Wg) (.int .u64 ((v + 1) * KK))) #[rd (stA Wg), wr (stA Wg)] ∧ GM P ty Wg C Rm (MKeS P ty Wg C mine Fact j Next Rm) S g' (w.setCell (stA Wg) (.int .u64 ((v + 1) * KK)))
def MKdS (j : Nat) (Next : (Nat → Prop) → (Nat → Prop) → Goroutine → World → Prop) (Rm S : Nat → Prop) (g : Goroutine) (w : World) : Prop :=
  g.status = .running ∧ ∃ g', stepG P true g w = .go g' w #[mk .disable] ∧ GM P ty Wg C Rm (MA1 P ty Wg C mine Fact j Next Rm) S g' w
/-- r workers of n are still to be started. -/
def Spawns (n : Nat) (Fin : (Nat → Prop) → (Nat → Prop) → Goroutine → World → Prop) : Nat → (Nat → Prop) → (Nat → Prop) → Goroutine → World → Prop
  | 0, Rm, S, g, w => Fin Rm S g w
  | r + 1, Rm, S, g, w => GM P ty Wg C Rm (MKdS P ty Wg C mine Fact (n - (r + 1)) (Spawns n Fin r) Rm) S g w
end
/-! ### the measure -/
/-- A number as a tree. -/
def trN : Nat → Tr
  | 0 => .leaf
  | n + 1 => .node fun _ => trN n
theorem sub_trN (n : Nat) : Sub (trN n) (trN (n + 1)) := ⟨_, default, rfl, rfl⟩
/-- One of the first N goes down, the others stand. -/
def Down (N : Nat) (f' f : Nat → Tr) : Prop := ∃ i, i < N ∧ Sub (f' i) (f i) ∧ ∀ k, k ≠ i → f' k = f k
theorem down_acc : ∀ (N : Nat) (f : Nat → Tr), Acc (Down N) f
  | 0, f => ⟨_, fun f' ⟨i, h, _⟩ => by omega⟩
  | N + 1, f => by
    have key : ∀ t : Tr, ∀ f : Nat → Tr, f N = t → Acc (Down (N + 1)) f := by
      intro t
      induction t using Rel.sub_wf.induction with
      | _ t iht =>
        intro f hf
        induction down_acc N f with
        | intro f _ ihf =>
          refine ⟨_, fun f' ⟨i, h1, h2, h3⟩ => ?_⟩
          by_cases hi : i = N
          · subst hi
            exact iht (f' i) (hf ▸ h2) f' rfl
          · exact ihf f' ⟨i, by omega, h2, h3⟩ (by rw [h3 N (fun e => hi e.symm)]; exact hf)
    exact key _ f rfl
abbrev Mu := Nat × (Nat → Tr) × Tr
def Lt3 (N : Nat) : Mu → Mu → Prop := Prod.Lex (· < ·) (Prod.Lex (Down N) (Relation.TransGen Sub))
theorem lt3_wf (N : Nat) : WellFounded (Lt3 N) := (Prod.lex ⟨_, Nat.lt_wfRel.wf⟩ (Prod.lex ⟨_, ⟨down_acc N⟩⟩ ⟨_, Rel.sub_wf.transGen⟩)).wf
end Go.Proofs.Ytmmolicodlmlkaa.Ph
