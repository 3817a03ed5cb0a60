/-
  Parts of the proof: A phase in which goroutine 0 starts some goroutines and waits for them: the starter's step; the whole phase. A phase in which goroutine 0 starts some goroutines and waits for them: the whole phase, beside goroutines that only leave. Goroutine 0 on its own way, beside goroutines that only leave: between two phases, and to the end. A worker's sync.WaitGroup.Done, in company. PRINTED BY gen_wg.py. Steps of a goroutine that a go statement begins: its own first frame, deferred calls of closures, recover where nothing panics, calls of closures. A worker of sharedWork, from its beginning to its relea No condition.
-/
import Derived.Test.YtmmolicodlmlkaaPD
import Derived.Conc.WgGenN3
import Derived.Conc.WgWords
set_option linter.unusedVariables false
set_option linter.unusedSimpArgs false
namespace Go.Proofs.Ytmmolicodlmlkaa.Ph
open Go.Conc Go.ConcN
open Go.ConcR (KK wgBlock WgAt stA smA rd wr mk DC0 Bk g_of_ofEvents bk_of_mute ofEvent_loc_mark ofEvent_cell ofEvent_mk again_blocked deafBehind_cons deafBehind_one)
open Go.Proofs.Ytmmolicodlmlkaa.Rel (RS DS EvS Tr Sub GoT Go1)
set_option linter.unusedVariables false

theorem tg1 {a b : Tr} (h : Sub a b) : Relation.TransGen Sub a b := .single h
theorem leaf_up : ∀ T : Tr, Relation.TransGen Sub .leaf (up T)
  | .leaf => .single ⟨_, default, rfl, rfl⟩
  | .node f => .trans (leaf_up (f default)) (.single ⟨_, default, rfl, rfl⟩)
theorem up_sub {a b : Tr} (h : Sub a b) : Relation.TransGen Sub (up a) (up b) := by
  obtain ⟨f, w, rfl, rfl⟩ := h
  exact .single ⟨_, w, rfl, rfl⟩
theorem okM_of_Bk {O : Own} {B Wg : Nat} {fn : FuncId} {pos : String} {es : Array Event} (hsh : ∀ l, ShN Wg l → O.sh l) (hW : Wg < B) (h : ∀ e ∈ es, Bk Wg e) : ∀ op ∈ MemOp.ofEvents 0 fn pos es, OkM O B (stA Wg) op := by
  intro op hop
  obtain ⟨h1, h2, h3, h4⟩ := okG_of_Bk (O := O) (g := 0) (fn := fn) (pos := pos) hsh hW h op hop
  obtain ⟨e, he, rfl⟩ := Go.Conc.mem_ofEvents hop
  refine ⟨rfl, h2, h3, fun x hx => ?_⟩
  rcases h e he with q | q | ⟨ad, wr, rfl, q⟩
  · simp only [ofEvent_loc_mark q] at hx; cases hx
  · simp only [ofEvent_loc_mark q] at hx; cases hx
  · simp only [ofEvent_cell, MemAct.touch?, Option.some.injEq] at hx
    subst hx
    exact .inr (.inr ⟨hsh _ ⟨ad, rfl, q⟩, by simp⟩)
section
variable {P : Program} {ty : TypeId} {Wg C : Nat} {mine : Nat → Nat → Prop} {Fact : Nat → (Nat → Prop) → World → Prop} {n base : Nat} {Nx Anch : (Nat → Prop) → (Nat → Prop) → Goroutine → World → Prop} {Shun : Loc → Prop}
  {gs : Array Goroutine} {w w' : World} {sl : Option (Nat × Nat)} {j : Nat} {D : Nat → WD} {Sg Rg : Nat → Nat → Prop} {F : Nat → Tr} {Sm Rm : Nat → Prop} {tag tag' : CTag} {T0 T0' : Tr} {d0 : Nat} {a a' : Goroutine} {t : Trace} {st sm st' sm' : Int} {es : Array Event}
/-- WHATEVER STEP OF THE STARTER's THAT IS NEITHER A go STATEMENT NOR THE LAST. -/
theorem callerStep (hFst : ∀ i Rd S w w₁, RW ty Wg C (mine i) Rd S w w₁ → Fact i S w → Fact i S w₁) (hb : 0 < base)
    (ha : gs[0]? = some a) (hcom : Com P ty Wg C mine Fact base Shun j gs w t D Sg Rg F Sm Rm d0) (hgo : stepG P true a w = .go a' w' es)
    (hRk : ∀ k, k < j → RW ty Wg C (mine k) (Rg k) (Sg k) w w') {Sm' : Nat → Prop} (hms' : MS P ty Wg C mine Fact n Nx Anch tag' j T0' (deafBehind d0 es) Rm Sm' a' w') (hgeo : Geo Wg C j Sg Rg Sm' Rm w')
    (hti : TI (ownOf base Wg C mine j Sg Rg Sm' Rm) Shun w'.heap.size (base + j) (stA Wg) (t ++ MemOp.ofEvents 0 a.frame.fn a.frame.place es)) (hwg : WgAt ty Wg w' st' sm') (hmode : ConcN.Mode j D tag' st' sm')
    (hlt : phi n (Vc j D) tag' < phi n (Vc j D) tag ∨ (phi n (Vc j D) tag' = phi n (Vc j D) tag ∧ Relation.TransGen Sub T0' T0)) :
    ∃ m₁ ops μ', runT P (crowd gs w sl) 0 = (.next m₁, ops) ∧ Lt3 (base + n) μ' (phi n (Vc j D) tag + Ssum j D, F, T0) ∧ Inv P ty Wg C mine Fact n Nx Anch base Shun μ' m₁ (t ++ ops) := by
  have hrun := runT_crowd_go (P := P) (sl := sl) (i := 0) ha (by simpa using hgo)
  refine ⟨_, _, (phi n (Vc j D) tag' + Ssum j D, F, T0'), hrun, ?_, _, w', sl, j, D, Sg, Rg, F, Sm', Rm, tag', T0', _, a', st', sm', rfl, get_map_set_same _ _ _ (by rw [hcom.size]; omega), hms', ?_, hwg, hmode, rfl⟩
  · rcases hlt with h | ⟨h1, h2⟩
    · exact Prod.Lex.left _ _ (by omega)
    · rw [h1]; exact Prod.Lex.right _ (Prod.Lex.right _ h2)
  · refine ⟨by simp [hcom.size], fun k hk => ?_, fun l h1 h2 => ?_, hti, by rw [Deaf_own, hcom.deaf0], fun k hk => by rw [Deaf_other t (by omega) _ g_of_ofEvents, hcom.deafW k hk], fun k hk hs => ?_, fun k hk hs => hFst k (Rg k) _ _ _ (hRk k hk) (hcom.fact k hk hs), hgeo⟩
    · obtain ⟨x, hx, hsx⟩ := hcom.wk k hk
      exact ⟨x, by rw [get_map_set _ _ _ _ (by omega), hx, Option.map_some, hsx.woken], hsx.rely (hRk k hk)⟩
    · obtain ⟨x, q, hx, hq, hF⟩ := hcom.lv l h1 h2
      refine ⟨x, q, by rw [get_map_set _ _ _ _ (by omega), hx, Option.map_some, woken_quitsD hq], ?_, hF⟩
      rw [Deaf_other t (g := l) (g' := 0) (by omega) _ g_of_ofEvents]; exact hq
    · obtain ⟨r, hr⟩ := hcom.rel k hk hs
      exact ⟨r, hr.appOther fun op hop => by rw [g_of_ofEvents op hop]; omega⟩
/-- A step of its own walk. -/
theorem idleC (hFst : ∀ i Rd S w w₁, RW ty Wg C (mine i) Rd S w w₁ → Fact i S w → Fact i S w₁) (hb : 0 < base) (hm : ∀ i k o, mine i o → mine k o → i = k)
    (ha : gs[0]? = some a) (hcom : Com P ty Wg C mine Fact base Shun j gs w t D Sg Rg F Sm Rm d0) (hwg : WgAt ty Wg w st sm) (hmode : ConcN.Mode j D tag st sm) (hgo : stepG P true a w = .go a' w' es)
    {Sm' : Nat → Prop} (hD : DM Wg Rm Sm w w' es Sm') (hms' : MS P ty Wg C mine Fact n Nx Anch tag j T0' d0 Rm Sm' a' w') (hlt : Relation.TransGen Sub T0' T0) :
    ∃ m₁ ops μ', runT P (crowd gs w sl) 0 = (.next m₁, ops) ∧ Lt3 (base + n) μ' (phi n (Vc j D) tag + Ssum j D, F, T0) ∧ Inv P ty Wg C mine Fact n Nx Anch base Shun μ' m₁ (t ++ ops) := by
  have geo := hcom.geo
  have hsz := hD.size
  have hS' : ∀ b, Sm' b ↔ Sm b ∨ (w.heap.size ≤ b ∧ b < w'.heap.size) := hD.own
  have hWst : w'.heap[Wg]? = w.heap[Wg]? := hD.old Wg geo.hW (fun hs => (geo.sm Wg hs).2.1 rfl)
  have hCst : w'.heap[C]? = w.heap[C]? := hD.old C geo.hC (fun hs => (geo.sm C hs).2.2 rfl)
  have hrd : ∀ b, Rm b → w'.heap[b]? = w.heap[b]? := fun b hb => hD.old b (geo.rm b hb).1 (fun hs => geo.d4 b hs hb)
  have hgeo' : Geo Wg C j Sg Rg Sm' Rm w' := by
    have g1 := geo.sized hsz
    have := geo.hW; have := geo.hC
    refine ⟨g1.hW, g1.hC, g1.hCW, g1.sg, fun b hb => ?_, g1.rm, g1.rg, g1.d1, fun i b hi h1 h2 => ?_, g1.d3, fun b h1 h2 => ?_⟩
    · rcases (hS' b).1 hb with h | ⟨h1, h2⟩
      · exact g1.sm b h
      · exact ⟨h2, by omega, by omega⟩
    · rcases (hS' b).1 h2 with h | ⟨h, _⟩
      · exact geo.d2 i b hi h1 h
      · have := (geo.sg i hi b h1).1; omega
    · rcases (hS' b).1 h1 with h | ⟨h, _⟩
      · exact geo.d4 b h h2
      · have := (geo.rm b h2).1; omega
  have hdf : deafBehind d0 es = d0 := deafBehind_still (fun e he => by
    rcases hD.evs e he with (⟨a, l1, _⟩ | ⟨r, l1, _⟩ | l) | rfl | rfl
    · rw [l1]; exact ⟨by simp, by simp⟩
    · rw [l1]; exact ⟨by simp, by simp⟩
    · rw [l]; exact ⟨by simp, by simp⟩
    · exact ⟨by simp [mk], by simp [mk]⟩
    · exact ⟨by simp [mk], by simp [mk]⟩) d0
  refine callerStep hFst hb ha hcom hgo (fun k hk => ⟨⟨hD.tape, hD.os, hD.output, hsz, fun b hb => hD.old b (geo.sg k hk b hb).1 (fun hs => geo.d2 k b hk hb hs), fun b hb => hrd b (geo.rg k hk b hb)⟩, live_of_block hWst, .of_block hCst⟩) (by rw [hdf]; exact hms') hgeo' ?_ (hwg.of_block hWst) hmode (.inr ⟨rfl, hlt⟩)
  have h1 : TI (ownOf base Wg C mine j Sg Rg Sm' Rm) Shun w.heap.size (base + j) (stA Wg) t := hcom.ti.hand (fun _ => Iff.rfl) (fun _ _ _ h => .inl h) (fun _ _ _ h => .inl h) (fun l hl => by
      rcases hl with hl | hl
      · cases l with
        | cell a => exact ((hS' _).1 hl).imp (fun h => .inl h) fun h => by show ¬ a.block < _; omega
        | obj r => exact ((hS' _).1 hl).imp (fun h => .inl h) fun h => by show ¬ r < _; omega
        | output => exact hl.elim
        | goroutines => exact hl.elim
        | mark m => exact hl.elim
      · exact .inl (.inr hl)) (fun _ h => .inl h) (fun _ h => .inl h)
  refine (h1.mono hsz).app0 (hgeo'.apart (base := base) (mine := mine) hm) (fun op hop => ?_) (by omega)
  obtain ⟨e, he, rfl⟩ := Go.Conc.mem_ofEvents hop
  have lowS : ∀ b, Sm' b → b < w'.heap.size := fun b hb => (hgeo'.sm b hb).1
  have lowR : ∀ b, Rm b → b < w'.heap.size := fun b hb => (hgeo'.rm b hb).1
  rcases hD.evs e he with ev | rfl | rfl
  · obtain ⟨loc, wr, sy⟩ := e
    rcases ev with ⟨a, l1, l2, l3⟩ | ⟨r, l1, l2, ls⟩ | l
    · simp only at l1 l2 l3
      subst l1; subst l3
      simp only [OkM, ofEvent_cell]
      refine ⟨trivial, l2.elim (lowS _) (fun h => lowR _ h.1), by simp, fun x hx => ?_⟩
      simp only [MemAct.touch?, Option.some.injEq] at hx
      subst hx
      rcases l2 with l2 | ⟨l2, l3⟩
      · exact .inl (.inl l2)
      · exact .inr (.inl ⟨l2, l3⟩)
    · simp only at l1 l2 ls
      subst l1
      have eo : MemAct.ofEvent ⟨.obj r, wr, sy⟩ = .access ⟨.obj r, wr, sy⟩ := by cases wr <;> cases sy <;> first | rfl | exact absurd (ls rfl) (by simp)
      simp only [OkM, eo]
      refine ⟨trivial, l2.elim (lowS _) (fun h => lowR _ h.1), by simp, fun x hx => ?_⟩
      simp only [MemAct.touch?, Option.some.injEq] at hx
      subst hx
      rcases l2 with l2 | ⟨l2, l3⟩
      · exact .inl (.inl l2)
      · exact .inr (.inl ⟨l2, l3⟩)
    · injection l with l1 l2 l3
      subst l1; subst l2; subst l3
      exact ⟨rfl, trivial, by simp [MemAct.ofEvent], fun x hx => by cases hx⟩
  · refine ⟨rfl, hgeo'.hW, by simp [ofEvent_mk], fun x hx => ?_⟩
    simp only [ofEvent_mk, MemAct.touch?, Option.some.injEq] at hx
    subst hx
    exact .inr (.inr ⟨⟨smA Wg, rfl, rfl⟩, by simp⟩)
  · refine ⟨rfl, hgeo'.hW, by simp [ofEvent_mk], fun x hx => ?_⟩
    simp only [ofEvent_mk, MemAct.touch?, Option.some.injEq] at hx
    subst hx
    exact .inr (.inr ⟨⟨smA Wg, rfl, rfl⟩, by simp⟩)
/-- A step of the library's bookkeeping: at most the group's block turns. -/
theorem bookC (hFst : ∀ i Rd S w w₁, RW ty Wg C (mine i) Rd S w w₁ → Fact i S w → Fact i S w₁) (hb : 0 < base) (hm : ∀ i k o, mine i o → mine k o → i = k)
    (ha : gs[0]? = some a) (hcom : Com P ty Wg C mine Fact base Shun j gs w t D Sg Rg F Sm Rm d0) (hgo : stepG P true a w = .go a' w' es) (hAs : Aside Wg w w') (hwg' : WgAt ty Wg w' st' sm') (hbk : ∀ e ∈ es, Bk Wg e)
    (hms' : MS P ty Wg C mine Fact n Nx Anch tag' j T0' (deafBehind d0 es) Rm Sm a' w') (hmode' : ConcN.Mode j D tag' st' sm')
    (hlt : phi n (Vc j D) tag' < phi n (Vc j D) tag ∨ (phi n (Vc j D) tag' = phi n (Vc j D) tag ∧ Relation.TransGen Sub T0' T0)) :
    ∃ m₁ ops μ', runT P (crowd gs w sl) 0 = (.next m₁, ops) ∧ Lt3 (base + n) μ' (phi n (Vc j D) tag + Ssum j D, F, T0) ∧ Inv P ty Wg C mine Fact n Nx Anch base Shun μ' m₁ (t ++ ops) := by
  have geo := hcom.geo
  refine callerStep hFst hb ha hcom hgo (fun k hk => rw_of_aside hAs ⟨_, _, hwg'⟩ (fun b hb => (geo.sg k hk b hb).2.1) (fun b hb => (geo.rm b (geo.rg k hk b hb)).2.1) geo.hCW) hms' (geo.sized (by rw [hAs.size]; exact Nat.le_refl _)) ?_ hwg' hmode' hlt
  rw [hAs.size]
  exact hcom.ti.app0 (geo.apart (base := base) (mine := mine) hm) (okM_of_Bk (fun _ h => h) geo.hW hbk) (by omega)
/-- THE PHASE IS OVER: all that the workers did goes before what the starter does from now on. -/
structure Over (P : Program) (ty : TypeId) (Wg C : Nat) (mine : Nat → Nat → Prop) (Fact : Nat → (Nat → Prop) → World → Prop) (n : Nat) (Nx : (Nat → Prop) → (Nat → Prop) → Goroutine → World → Prop) (base : Nat) (Shun : Loc → Prop) (m : Machine) (t : Trace) : Prop where
  out : ∃ (gs : Array Goroutine) (w : World) (sl : Option (Nat × Nat)) (a : Goroutine) (q : Nat → Nat) (Sg Rg : Nat → Nat → Prop) (Sm Rm : Nat → Prop), m = crowd gs w sl ∧ gs.size = base + n ∧ gs[0]? = some a ∧ Leavers P t gs q ∧ Past (fun l => Shun l ∨ ShN Wg l) w.heap.size t ∧ (∀ op ∈ t, op.g < gs.size) ∧
    Nx Rm Sm a w ∧ Geo Wg C n Sg Rg Sm Rm w ∧ (∀ i, i < n → Fact i (Sg i) w) ∧ WgLive ty Wg w
open Classical in
/-- The acquire: goroutine 0's last step in the phase. -/
theorem overStep (hb : 0 < base) (ha : gs[0]? = some a) (hcom : Com P ty Wg C mine Fact base Shun n gs w t D Sg Rg F Sm Rm 0) (hgo : stepG P true a w = .go a' w #[mk (.acquire (stA Wg))]) (hq : AllQuit n D) (hN : Nx Rm Sm a' w) (hwg : WgAt ty Wg w st sm) :
    ∃ m₁ ops, runT P (crowd gs w sl) 0 = (.next m₁, ops) ∧ Over P ty Wg C mine Fact n Nx base Shun m₁ (t ++ ops) := by
  have hrun := runT_crowd_go (P := P) (sl := sl) (i := 0) ha (by simpa using hgo)
  have e1 : MemOp.ofEvents 0 a.frame.fn a.frame.place #[mk (.acquire (stA Wg))] = #[{ g := 0, fn := a.frame.fn, pos := a.frame.place, act := .mark (.acquire (stA Wg)) }] := by rw [Go.Conc.ofEvents_eq]; simp [ofEvent_mk]
  refine ⟨_, _, hrun, ⟨_, w, sl, a', fun i => if h : ∃ q, ∃ g, gs[i]? = some g ∧ QuitsD P q (Deaf t i) g then Classical.choose h else 0, Sg, Rg, Sm, Rm, rfl, by simp [hcom.size], get_map_set_same _ _ _ (by rw [hcom.size]; omega), ?_, ?_, ?_, hN, hcom.geo, fun i hi => hcom.fact i hi (by rw [hq i hi]; omega), ⟨_, _, hwg⟩⟩⟩
  · -- every other goroutine is only leaving
    have quits : ∀ i g, 0 < i → gs[i]? = some g → ∃ q, QuitsD P q (Deaf t i) g := by
      intro i g hi hg
      rcases Nat.lt_or_ge i base with hlt | hge
      · obtain ⟨x, q, hx, hqq, _⟩ := hcom.lv i hi hlt
        rw [hg] at hx
        obtain rfl := Option.some.inj hx
        exact ⟨q, hqq⟩
      · have hlt := (Array.getElem?_eq_some_iff.1 hg).1
        rw [hcom.size] at hlt
        obtain ⟨x, hx, hs⟩ := hcom.wk (i - base) (by omega)
        rw [show base + (i - base) = i by omega, hg] at hx
        obtain rfl := Option.some.inj hx
        have h1 := hq (i - base) (by omega)
        have hd := hcom.deafW (i - base) (by omega)
        rw [show base + (i - base) = i by omega] at hd
        generalize hst : (D (i - base)).stage = s at hs h1
        generalize hdd : (D (i - base)).deaf = dd at hs hd
        generalize F (base + (i - base)) = TT at hs
        subst h1
        cases hs with
        | quit h => exact ⟨_, by rw [hd]; exact h⟩
    refine ⟨fun i x hi hx => ?_, fun i hi => ?_⟩
    · rw [get_map_set _ _ _ _ (by omega)] at hx
      obtain ⟨y, hy, rfl⟩ := Option.map_eq_some_iff.1 hx
      obtain ⟨q, hqq⟩ := quits i y hi hy
      have hex : ∃ q, ∃ g, gs[i]? = some g ∧ QuitsD P q (Deaf t i) g := ⟨q, y, hy, hqq⟩
      obtain ⟨z, hz, hqz⟩ := Classical.choose_spec hex
      rw [hy] at hz
      obtain rfl := Option.some.inj hz
      rw [woken_quitsD hqq, Deaf_other t (g := i) (g' := 0) (by omega) _ g_of_ofEvents]
      show QuitsD P (if h : ∃ q, ∃ g, gs[i]? = some g ∧ QuitsD P q (Deaf t i) g then Classical.choose h else 0) _ _
      rw [dif_pos hex]
      exact hqz
    · have hi' : base + n ≤ i := by simpa [hcom.size] using hi
      rw [Deaf_other t (g := i) (g' := 0) (by omega) _ g_of_ofEvents]
      exact Deaf_absent fun k op hk e => by have := hcom.ti.gs op (mem_of_getElem? hk); omega
  · rw [e1]
    have hj := hcom.ti.join (fun g hg => by
      obtain ⟨h1, h2⟩ := hg
      obtain ⟨r, hr⟩ := hcom.rel (g - base) (by omega) (by rw [hq (g - base) (by omega)]; omega)
      rw [show base + (g - base) = g by omega] at hr
      exact ⟨r, hr⟩) hcom.deaf0 (y := { g := 0, fn := a.frame.fn, pos := a.frame.place, act := .mark (.acquire (stA Wg)) }) ⟨rfl, rfl⟩ hcom.geo.hW
    exact hj
  · intro op hop
    rw [e1] at hop
    simp only [Array.size_setIfInBounds, Array.size_map, hcom.size]
    rcases Array.mem_append.1 hop with h | h
    · exact hcom.ti.gs op h
    · simp at h; subst h; show 0 < base + n; omega
/-- The load in Wait. -/
theorem w1Step (hFst : ∀ i Rd S w w₁, RW ty Wg C (mine i) Rd S w w₁ → Fact i S w → Fact i S w₁) (hb : 0 < base) (hm : ∀ i k o, mine i o → mine k o → i = k) (hn : n < 2147483648)
    (ha : gs[0]? = some a) (hcom : Com P ty Wg C mine Fact base Shun n gs w t D Sg Rg F Sm Rm 1) (hwg : WgAt ty Wg w st sm) (hmode : ConcN.Mode n D .w1 st sm) {T : Tr} (h : GoT P true (RM ty Wg C Rm) (DM Wg Rm) (MW1 P ty Wg C Rm (Nx Rm) (Anch Rm)) T Sm a w) :
    ∃ m₁ ops μ', runT P (crowd gs w sl) 0 = (.next m₁, ops) ∧ Lt3 (base + n) μ' (phi n (Vc n D) .w1 + Ssum n D, F, T) ∧ Inv P ty Wg C mine Fact n Nx Anch base Shun μ' m₁ (t ++ ops) := by
  rcases got_cases (fun _ a => RM.refl a) h with ⟨_, hall⟩ | ⟨T', a', w', es, S', hT, hgo, hD, hg'⟩
  · obtain ⟨ho, rfl, rfl, _⟩ := hmode.open_inv trivial
    have hV := Vc_le n D
    obtain ⟨a', hgo, h0, hne⟩ := hall (Vc n D) (by omega) (by simpa [pend] using hwg)
    by_cases hv : Vc n D = 0
    · obtain ⟨T2, hk⟩ := h0 hv
      refine bookC hFst hb hm ha hcom hgo (.refl Wg w) hwg bk_rd (tag' := .ke) (.ke hk) ?_ (.inl (by simp only [phi]; omega))
      have e : ((Vc n D + pend .w1 : Nat) : Int) * KK = 0 := by rw [hv]; simp [pend]
      rw [e]
      exact .fin trivial (allQuit_of ho hv)
    · obtain ⟨T2, hk⟩ := hne hv
      exact bookC hFst hb hm ha hcom hgo (.refl Wg w) hwg bk_rd (tag' := .w2 (Vc n D)) (.w2 hk) (hmode.reopen trivial trivial rfl (fun vs e => by cases e; omega)) (.inl (by simp only [phi]; omega))
  · exact idleC hFst hb hm ha hcom hwg hmode hgo hD (.w1 hg') (tg1 hT)
theorem lt3_lift {N a a' : Nat} {x y : (Nat → Tr) × Tr} {μ : Mu} (h : Lt3 N μ (a, x)) (hlt : a < a') : Lt3 N μ (a', y) := by
  obtain ⟨b, z⟩ := μ
  rcases Prod.lex_def.1 h with h | ⟨h1, _⟩
  · exact Prod.Lex.left _ _ (by simp only at h ⊢; omega)
  · exact Prod.Lex.left _ _ (by simp only at h1 ⊢; omega)
set_option maxHeartbeats 1600000 in
theorem stepCaller (hFst : ∀ i Rd S w w₁, RW ty Wg C (mine i) Rd S w w₁ → Fact i S w → Fact i S w₁) (hb : 0 < base) (hm : ∀ i k o, mine i o → mine k o → i = k) (hn : n < 2147483648)
    (hAn : ∀ Rm S g w, Anch Rm S g w → GM P ty Wg C Rm (MW1 P ty Wg C Rm (Nx Rm) (Anch Rm)) S g w)
    (ha : gs[0]? = some a) (hms : MS P ty Wg C mine Fact n Nx Anch tag j T0 d0 Rm Sm a w) (hcom : Com P ty Wg C mine Fact base Shun j gs w t D Sg Rg F Sm Rm d0) (hwg : WgAt ty Wg w st sm) (hmode : ConcN.Mode j D tag st sm) (hrun : a.status = .running) :
    (∃ m₁ ops, runT P (crowd gs w sl) 0 = (.next m₁, ops) ∧ Over P ty Wg C mine Fact n Nx base Shun m₁ (t ++ ops)) ∨
    (∃ m₁ ops μ', runT P (crowd gs w sl) 0 = (.next m₁, ops) ∧ Lt3 (base + n) μ' (phi n (Vc j D) tag + Ssum j D, F, T0) ∧ Inv P ty Wg C mine Fact n Nx Anch base Shun μ' m₁ (t ++ ops)) := by
  have hVj := Vc_le j D
  have rfl' : ∀ (s : Nat → Prop) (a : World), RM ty Wg C Rm s a a := fun _ a => RM.refl a
  have geo := hcom.geo
  cases hms with
  | skd hr h =>
    rcases got_cases rfl' h with ⟨_, a', hgo, T2, hk⟩ | ⟨T', a', w', es, S', hT, hgo, hD, hg'⟩
    · exact .inr (bookC hFst hb hm ha hcom hgo (.refl Wg w) hwg bk_dis (.sa1 hr hk) (hmode.reopen trivial trivial rfl (by simp)) (.inl (by simp only [phi]; omega)))
    · exact .inr (idleC hFst hb hm ha hcom hwg hmode hgo hD (.skd hr hg') (tg1 hT))
  | sa1 hr h =>
    rename_i r
    rcases got_cases rfl' h with ⟨_, hall⟩ | ⟨T', a', w', es, S', hT, hgo, hD, hg'⟩
    · obtain ⟨ho, rfl, rfl, _⟩ := hmode.open_inv trivial
      obtain ⟨a', hgo, T2, hk⟩ := hall (Vc (n - (r + 1)) D) (by omega) (by simpa [pend] using hwg)
      refine .inr (bookC hFst hb hm ha hcom hgo (aside_setCell w (stA Wg) _) (hwg.setSt _) bk_rw (.ske hr hk) ?_ (.inl (by simp only [phi]; omega)))
      have e : (((Vc (n - (r + 1)) D : Nat) : Int) + 1) * KK = ((Vc (n - (r + 1)) D + pend (.sp r 3) : Nat) : Int) * KK := by simp [pend]
      rw [e]
      exact .opn trivial ho (by simp)
    · exact .inr (idleC hFst hb hm ha hcom hwg hmode hgo hD (.sa1 hr hg') (tg1 hT))
  | ske hr h =>
    rcases got_cases rfl' h with ⟨_, a', hgo, T2, hk⟩ | ⟨T', a', w', es, S', hT, hgo, hD, hg'⟩
    · exact .inr (bookC hFst hb hm ha hcom hgo (.refl Wg w) hwg bk_en (.sgo hr hk) (hmode.reopen trivial trivial rfl (by simp)) (.inl (by simp only [phi]; omega)))
    · exact .inr (idleC hFst hb hm ha hcom hwg hmode hgo hD (.ske hr hg') (tg1 hT))
  | sgo hr h =>
    rename_i r
    rcases got_cases rfl' h with ⟨_, a', child, Sj, Rj, hsp, hcr, hSj, hRj, ⟨Tc, hwk⟩, hnext⟩ | ⟨T', a', w', es, S', hT, hgo, hD, hg'⟩
    · obtain ⟨ho, rfl, rfl, _⟩ := hmode.open_inv trivial
      have hrun' := runT_crowd_spawn (P := P) (sl := sl) (i := 0) ha (by simpa using hsp)
      rw [hcom.size] at hrun'
      generalize hj : n - (r + 1) = j at *
      have e0 : (((MemOp.ofEvents 0 a.frame.fn a.frame.place #[]).push { g := 0, fn := a.frame.fn, pos := a.frame.place, act := .go (base + j) }).push { g := base + j, fn := child.frame.fn, pos := a.frame.place, act := .start }) =
          #[({ g := 0, fn := a.frame.fn, pos := a.frame.place, act := .go (base + j) } : MemOp), { g := base + j, fn := child.frame.fn, pos := a.frame.place, act := .start }] := by simp [Go.Conc.ofEvents_eq]
      rw [e0] at hrun'
      have hst2 : ∀ op ∈ #[({ g := 0, fn := a.frame.fn, pos := a.frame.place, act := .go (base + j) } : MemOp), { g := base + j, fn := child.frame.fn, pos := a.frame.place, act := .start }], op.act ≠ .mark .disable ∧ op.act ≠ .mark .enable := by
        intro op hop
        simp at hop
        rcases hop with rfl | rfl <;> exact ⟨by simp, by simp⟩
      have eb : base + j - base = j := by omega
      have hsplit : ∀ {l : Loc}, inBl (fun b => Rm b ∨ (Sm b ∧ ¬ Sj b)) l → inBl Rm l ∨ inBl Sm l := fun {l} h => by
        cases l with
        | cell a => exact h.imp (fun h => h) fun h => h.1
        | obj r => exact h.imp (fun h => h) fun h => h.1
        | output => exact h.elim
        | goroutines => exact h.elim
        | mark m => exact h.elim
      have hcom' : Com P ty Wg C mine Fact base Shun (j + 1) ((gs.setIfInBounds 0 a').push child) w (t ++ #[({ g := 0, fn := a.frame.fn, pos := a.frame.place, act := .go (base + j) } : MemOp), { g := base + j, fn := child.frame.fn, pos := a.frame.place, act := .start }])
          (upd D j ⟨7, 0, 0⟩) (upd Sg j Sj) (upd Rg j Rj) (upd F (base + j) Tc) (fun _ => False) (fun b => Rm b ∨ (Sm b ∧ ¬ Sj b)) 0 := by
        refine ⟨by simp [hcom.size]; omega, fun k hk => ?_, fun l h1 h2 => ?_, ?_, by rw [Deaf_still t 0 _ hst2, hcom.deaf0], fun k hk => ?_, fun k hk hs => ?_, fun k hk hs => ?_, ?_⟩
        · rcases Nat.lt_or_ge k j with hlt | hge
          · obtain ⟨g, hg, hsg⟩ := hcom.wk k hlt
            refine ⟨g, ?_, by rw [upd_ne D _ (by omega), upd_ne Sg _ (by omega), upd_ne Rg _ (by omega), upd_ne F _ (by omega)]; exact hsg⟩
            rw [Array.getElem?_push_lt (by simp [hcom.size]; omega), ← Array.getElem?_eq_getElem, Array.getElem?_setIfInBounds_ne (by omega)]
            exact hg
          · obtain rfl : k = j := by omega
            refine ⟨child, ?_, by rw [upd_same, upd_same, upd_same, upd_same]; exact .r0 hwk⟩
            rw [show base + k = (gs.setIfInBounds 0 a').size by simp [hcom.size], Array.getElem?_push_size]
        · obtain ⟨x, q, hx, hq, hF⟩ := hcom.lv l h1 h2
          refine ⟨x, q, ?_, by rw [Deaf_still t _ _ hst2]; exact hq, by rw [upd_ne F _ (by omega)]; exact hF⟩
          rw [Array.getElem?_push_lt (by simp [hcom.size]; omega), ← Array.getElem?_eq_getElem, Array.getElem?_setIfInBounds_ne (by omega)]
          exact hx
        · refine hcom.ti.fork (x := { g := 0, fn := a.frame.fn, pos := a.frame.place, act := .go (base + j) }) (y := { g := base + j, fn := child.frame.fn, pos := a.frame.place, act := .start }) ⟨rfl, rfl⟩ ⟨rfl, rfl⟩ hcom.deaf0
            (fun g => ⟨fun ⟨h1, h2⟩ => ?_, fun h => ?_⟩) (fun g ⟨h1, h2⟩ l hl => ?_) (fun g ⟨h1, h2⟩ l hl => ?_) (fun l hl => ?_) (fun l hl => (hsplit hl).imp (fun h => h) .inl) (fun l hl => hl) (fun l hl => ?_) (fun l hl => ?_) (by omega)
          · rcases Nat.lt_or_ge g (base + j) with h | h
            · exact .inl ⟨h1, h⟩
            · exact .inr (by omega)
          · rcases h with ⟨h1, h2⟩ | rfl
            · exact ⟨h1, by omega⟩
            · exact ⟨by omega, by omega⟩
          · have : g - base ≠ j := by omega
            rcases hl with hl | hl
            · rw [upd_ne Sg _ this] at hl; exact .inl hl
            · exact .inr hl
          · have : g - base ≠ j := by omega
            have hl' : inBl (upd Rg j Rj (g - base)) l := hl
            rw [upd_ne Rg _ this] at hl'; exact hl'
          · rcases hl with hl | ⟨o, i, hi, ho, e⟩
            · cases l <;> exact hl.elim
            · exact .inr ⟨o, i, by omega, ho, e⟩
          · rcases hl with hl | ⟨o, ho, e⟩
            · rw [eb, upd_same] at hl
              cases l with
              | cell a => exact .inl (hSj _ hl)
              | obj r => exact .inl (hSj _ hl)
              | output => exact hl.elim
              | goroutines => exact hl.elim
              | mark m => exact hl.elim
            · rw [eb] at ho; exact .inr ⟨o, j, Nat.le_refl _, ho, e⟩
          · have hl' : inBl (upd Rg j Rj (base + j - base)) l := hl
            rw [eb, upd_same] at hl'
            have h2 : inBl (fun b => Rm b ∨ (Sm b ∧ ¬ Sj b)) l := by
              cases l with
              | cell a => exact hRj _ hl'
              | obj r => exact hRj _ hl'
              | output => exact hl'.elim
              | goroutines => exact hl'.elim
              | mark m => exact hl'.elim
            exact (hsplit h2).imp (fun h => h) .inl
        · rw [Deaf_still t _ _ hst2]
          rcases Nat.lt_or_ge k j with hlt | hge
          · rw [hcom.deafW k hlt, upd_ne D _ (by omega)]
          · obtain rfl : k = j := by omega
            rw [upd_same]
            exact Deaf_absent fun i op hi e => by have := hcom.ti.gs op (mem_of_getElem? hi); omega
        · rcases Nat.lt_or_ge k j with hlt | hge
          · rw [upd_ne D _ (by omega)] at hs
            obtain ⟨x, hx⟩ := hcom.rel k hlt hs
            refine ⟨x, hx.appOther fun op hop => ?_⟩
            simp at hop
            rcases hop with rfl | rfl
            · show 0 ≠ base + k; omega
            · show base + j ≠ base + k; omega
          · obtain rfl : k = j := by omega
            rw [upd_same] at hs; simp at hs
        · rcases Nat.lt_or_ge k j with hlt | hge
          · rw [upd_ne D _ (by omega)] at hs
            rw [upd_ne Sg _ (by omega)]
            exact hcom.fact k hlt hs
          · obtain rfl : k = j := by omega
            rw [upd_same] at hs; simp at hs
        · refine ⟨geo.hW, geo.hC, geo.hCW, fun k hk b hkb => ?_, fun b hb => hb.elim, fun b hb => hb.elim (geo.rm b) fun h => geo.sm b h.1, fun k hk b hkb => ?_, fun k l b hk hl h1 h2 => ?_, fun k b hk h1 h2 => h2, fun k b hk h1 h2 => ?_, fun b hb => hb.elim⟩
          · rcases Nat.lt_or_ge k j with hlt | hge
            · rw [upd_ne Sg _ (by omega)] at hkb; exact geo.sg k hlt b hkb
            · obtain rfl : k = j := by omega
              rw [upd_same] at hkb; exact geo.sm b (hSj b hkb)
          · rcases Nat.lt_or_ge k j with hlt | hge
            · rw [upd_ne Rg _ (by omega)] at hkb; exact .inl (geo.rg k hlt b hkb)
            · obtain rfl : k = j := by omega
              rw [upd_same] at hkb; exact hRj b hkb
          · rcases Nat.lt_or_ge k j with hk' | hk' <;> rcases Nat.lt_or_ge l j with hl' | hl'
            · rw [upd_ne Sg _ (by omega)] at h1; rw [upd_ne Sg _ (by omega)] at h2
              exact geo.d1 k l b hk' hl' h1 h2
            · obtain rfl : l = j := by omega
              rw [upd_ne Sg _ (by omega)] at h1; rw [upd_same] at h2
              exact absurd (hSj b h2) (geo.d2 k b hk' h1)
            · obtain rfl : k = j := by omega
              rw [upd_same] at h1; rw [upd_ne Sg _ (by omega)] at h2
              exact absurd (hSj b h1) (geo.d2 l b hl' h2)
            · omega
          · rcases Nat.lt_or_ge k j with hk' | hk'
            · rw [upd_ne Sg _ (by omega)] at h1
              exact h2.elim (geo.d3 k b hk' h1) fun h => geo.d2 k b hk' h1 h.1
            · obtain rfl : k = j := by omega
              rw [upd_same] at h1
              exact h2.elim (geo.d4 b (hSj b h1)) fun h => h.2 h1
      have eV : Vc (j + 1) (upd D j ⟨7, 0, 0⟩) = Vc j D + 1 := by
        simp only [Vc, sumTo, upd_same]
        rw [sumTo_upd_out D _ cnt (Nat.le_refl _)]; rfl
      have eS : Ssum (j + 1) (upd D j ⟨7, 0, 0⟩) = Ssum j D + 7 := by
        simp only [Ssum, sumTo, upd_same]
        rw [sumTo_upd_out D _ WD.stage (Nat.le_refl _)]
      have ho' : OpenSt (j + 1) (upd D j ⟨7, 0, 0⟩) := fun i hi => by
        by_cases e : i = j
        · subst e; rw [upd_same]; simp
        · rw [upd_ne D _ e]; exact ho i (by omega)
      have ha' : ((gs.setIfInBounds 0 a').push child)[0]? = some a' := by
        rw [Array.getElem?_push_lt (by simp [hcom.size]; omega), ← Array.getElem?_eq_getElem, Array.getElem?_setIfInBounds_self_of_lt (by rw [hcom.size]; omega)]
      have ej : j + 1 = n - r := by omega
      have est : ∀ tag', pend tag' = 0 → ((Vc j D + pend (.sp r 2) : Nat) : Int) * KK = ((Vc (j + 1) (upd D j ⟨7, 0, 0⟩) + pend tag' : Nat) : Int) * KK := fun tag' hp => by rw [eV, hp]; simp [pend]
      cases r with
      | zero =>
        obtain ⟨T3, hk⟩ := hnext
        have en : j + 1 = n := by omega
        rw [en] at hcom' eV eS ho' est
        refine .inr ⟨_, _, (phi n (Vc n (upd D j ⟨7, 0, 0⟩)) .kd + Ssum n (upd D j ⟨7, 0, 0⟩), upd F (base + j) Tc, T3), hrun', Prod.Lex.left _ _ (by simp only [phi]; omega),
          _, w, sl, n, _, _, _, _, _, _, .kd, T3, 0, a', _, _, rfl, ha', .kd hk, hcom', hwg, ?_, rfl⟩
        rw [est .kd rfl]
        exact .opn trivial ho' (by simp)
      | succ r' =>
        obtain ⟨T3, hk⟩ := hnext
        have en : j + 1 = n - (r' + 1) := by omega
        rw [en] at hcom' eV eS ho' est
        refine .inr ⟨_, _, (phi n (Vc (n - (r' + 1)) (upd D j ⟨7, 0, 0⟩)) (.sp r' 5) + Ssum (n - (r' + 1)) (upd D j ⟨7, 0, 0⟩), upd F (base + j) Tc, T3), hrun', Prod.Lex.left _ _ (by simp only [phi]; omega),
          _, w, sl, n - (r' + 1), _, _, _, _, _, _, .sp r' 5, T3, 0, a', _, _, rfl, ha', .skd (by omega) hk, hcom', hwg, ?_, rfl⟩
        rw [est (.sp r' 5) rfl]
        exact .opn trivial ho' (by simp)
    · exact .inr (idleC hFst hb hm ha hcom hwg hmode hgo hD (.sgo hr hg') (tg1 hT))
  | kd h =>
    rcases got_cases rfl' h with ⟨_, a', hgo, T2, hk⟩ | ⟨T', a', w', es, S', hT, hgo, hD, hg'⟩
    · exact .inr (bookC hFst hb hm ha hcom hgo (.refl Wg w) hwg bk_dis (.anch hk) (hmode.reopen trivial trivial rfl (by simp)) (.inl (by simp only [phi]; omega)))
    · exact .inr (idleC hFst hb hm ha hcom hwg hmode hgo hD (.kd hg') (tg1 hT))
  | anch h =>
    rcases got_cases rfl' h with hst | ⟨T', a', w', es, S', hT, hgo, hD, hg'⟩
    · obtain ⟨T2, hk⟩ := hAn _ _ _ _ hst
      obtain ⟨m₁, ops, μ', h1, h2, h3⟩ := w1Step (sl := sl) hFst hb hm hn ha hcom hwg (hmode.reopen trivial trivial rfl (by simp)) hk
      exact .inr ⟨m₁, ops, μ', h1, lt3_lift h2 (by simp only [phi]; omega), h3⟩
    · exact .inr (idleC hFst hb hm ha hcom hwg hmode hgo hD (.anch hg') (tg1 hT))
  | w1 h => exact .inr (w1Step hFst hb hm hn ha hcom hwg hmode h)
  | w2 h =>
    rename_i vs
    rcases got_cases rfl' h with ⟨_, hall⟩ | ⟨T', a', w', es, S', hT, hgo, hD, hg'⟩
    · obtain ⟨ho, rfl, rfl, hw2⟩ := hmode.open_inv trivial
      obtain ⟨hle, h1⟩ := hw2 vs rfl
      obtain ⟨hhit, hmiss⟩ := hall (Vc n D) (by omega) (by simpa [pend] using hwg)
      by_cases e : Vc n D = vs
      · obtain ⟨a', hgo, T2, hk⟩ := hhit e
        exact .inr (bookC hFst hb hm ha hcom hgo (aside_setCell w (stA Wg) _) (hwg.setSt _) bk_rw (.w3 hk) (.reg trivial ho (by omega)) (.inl (by simp only [phi]; omega)))
      · obtain ⟨a', hgo, T2, hk⟩ := hmiss e
        exact .inr (bookC hFst hb hm ha hcom hgo (.refl Wg w) hwg bk_rd (.anch hk) (hmode.reopen trivial trivial rfl (by simp)) (.inl (by simp only [phi]; omega)))
    · exact .inr (idleC hFst hb hm ha hcom hwg hmode hgo hD (.w2 hg') (tg1 hT))
  | w3 h =>
    rename_i T
    rcases got_cases rfl' h with hstop | ⟨T', a', w', es, S', hT, hgo, hD, hg'⟩
    · obtain ⟨hrn, hoff, hblk, htake⟩ := hstop w (.refl w)
      cases hmode with
      | opn h1 _ _ => exact h1.elim
      | reg h1 h2 h3 => exact .inr (bookC hFst hb hm ha hcom (hblk ⟨_, hwg⟩) (.refl Wg w) hwg (by simp) (.blk hstop) (.reg trivial h2 h3) (.inr ⟨rfl, leaf_up _⟩))
      | last L h1 h2 h3 h4 => exact .inr (bookC hFst hb hm ha hcom (hblk ⟨_, hwg⟩) (.refl Wg w) hwg (by simp) (.blk hstop) (.last L trivial h2 h3 h4) (.inr ⟨rfl, leaf_up _⟩))
      | sema h2 =>
        obtain ⟨a', hgo, T2, hk⟩ := htake hwg
        exact .inr (bookC hFst hb hm ha hcom hgo (aside_setCell w (smA Wg) _) (hwg.setSm 0) bk_sem (.w4 hk) (.fin trivial h2) (.inl (by simp only [phi]; omega)))
      | fin h1 _ => exact h1.elim
    · exact .inr (idleC hFst hb hm ha hcom hwg hmode hgo hD (.w3 hg') (up_sub hT))
  | blk h => simp at hrun
  | w4 h =>
    rcases got_cases rfl' h with ⟨_, hx⟩ | ⟨T', a', w', es, S', hT, hgo, hD, hg'⟩
    · obtain ⟨hq, rfl, rfl⟩ := hmode.fin_inv trivial
      obtain ⟨a', hgo, T2, hk⟩ := hx hwg
      exact .inr (bookC hFst hb hm ha hcom hgo (.refl Wg w) hwg bk_rd (.ke hk) (.fin trivial hq) (.inl (by simp only [phi]; omega)))
    · exact .inr (idleC hFst hb hm ha hcom hwg hmode hgo hD (.w4 hg') (tg1 hT))
  | ke h =>
    rcases got_cases rfl' h with ⟨_, a', hgo, T2, hk⟩ | ⟨T', a', w', es, S', hT, hgo, hD, hg'⟩
    · obtain ⟨hq, rfl, rfl⟩ := hmode.fin_inv trivial
      exact .inr (bookC hFst hb hm ha hcom hgo (.refl Wg w) hwg bk_en (.acq hk) (.fin trivial hq) (.inl (by simp only [phi]; omega)))
    · exact .inr (idleC hFst hb hm ha hcom hwg hmode hgo hD (.ke hg') (tg1 hT))
  | acq h =>
    rcases got_cases rfl' h with ⟨_, a', hgo, hN⟩ | ⟨T', a', w', es, S', hT, hgo, hD, hg'⟩
    · obtain ⟨hq, rfl, rfl⟩ := hmode.fin_inv trivial
      exact .inl (overStep hb ha hcom hgo hq hN hwg)
    · exact .inr (idleC hFst hb hm ha hcom hwg hmode hgo hD (.acq hg') (tg1 hT))
end
end Go.Proofs.Ytmmolicodlmlkaa.Ph
namespace Go.Proofs.Ytmmolicodlmlkaa.Ph
open Go.Conc Go.ConcN
open Go.ConcR (KK wgBlock WgAt stA smA rd wr mk DC0 Bk g_of_ofEvents bk_of_mute ofEvent_loc_mark ofEvent_cell ofEvent_mk again_blocked deafBehind_cons deafBehind_one)
open Go.Proofs.Ytmmolicodlmlkaa.Rel (RS DS EvS Tr Sub GoT Go1)
set_option linter.unusedVariables false

theorem norel_mute {e : Event} (h : e.mute = true) (ad : Addr) : MemAct.ofEvent e ≠ .mark (.release ad) := by
  obtain ⟨loc, wr, sy⟩ := e
  cases loc <;> simp_all [Event.mute]
  rename_i m
  cases m <;> simp_all [MemAct.ofEvent]
theorem exists_counted {D : Nat → WD} : ∀ {j : Nat}, 1 ≤ Vc j D → ∃ i, i < j ∧ 5 ≤ (D i).stage
  | 0, h => by simp [Vc, sumTo] at h
  | j + 1, h => by
    by_cases hs : 5 ≤ (D j).stage
    · exact ⟨j, by omega, hs⟩
    · have : 1 ≤ Vc j D := by simp only [Vc, sumTo, cnt, if_neg hs] at h ⊢; omega
      obtain ⟨i, hi, h5⟩ := exists_counted this
      exact ⟨i, by omega, h5⟩
section
variable {P : Program} {ty : TypeId} {Wg C : Nat} {mine : Nat → Nat → Prop} {Fact : Nat → (Nat → Prop) → World → Prop} {n base : Nat} {Nx Anch : (Nat → Prop) → (Nat → Prop) → Goroutine → World → Prop} {Shun : Loc → Prop}
  {gs : Array Goroutine} {w w' : World} {sl : Option (Nat × Nat)} {j : Nat} {D : Nat → WD} {Sg Rg : Nat → Nat → Prop} {F : Nat → Tr} {Sm Rm : Nat → Prop} {tag tag' : CTag} {T0 T0' : Tr} {d0 : Nat} {a a' : Goroutine} {t : Trace} {st sm st' sm' : Int} {es : Array Event}
theorem WS.running_of {i s d : Nat} {T : Tr} {Rd S : Nat → Prop} {g : Goroutine} (h : WS P ty Wg C mine Fact i Rd s T d S g w) (hs : s ≠ 1) : g.status = .running := by
  cases h with
  | r0 h => exact h.running (fun _ a => RW.refl a) (fun _ _ _ x => x.2.1)
  | k0 h => exact Goes.running (fun _ _ x => x.1) w (RW.refl w) h
  | k1 h => exact Goes.running (fun _ _ x => x.1) w (RW.refl w) h
  | k2 h => exact Goes.running (fun _ _ x => x.1) w (RW.refl w) h
  | k3 h => exact Goes.running (fun _ _ x => x.1) w (RW.refl w) h
  | k4 h => exact Goes.running (fun _ _ x => x.1) w (RW.refl w) h
  | quit h => exact absurd rfl hs
theorem someone_runs (hA : ∀ Rm S g w, Anch Rm S g w → g.status = .running) (ha : gs[0]? = some a) (hms : MS P ty Wg C mine Fact n Nx Anch tag j T0 d0 Rm Sm a w) (hcom : Com P ty Wg C mine Fact base Shun j gs w t D Sg Rg F Sm Rm d0) (hmode : ConcN.Mode j D tag st sm) :
    ∃ (i : Nat) (g : Goroutine), gs[i]? = some g ∧ g.status = .running := by
  rcases hms.status hA with ⟨hs, _⟩ | ⟨_, rfl⟩
  · exact ⟨0, a, ha, hs⟩
  · cases hmode with
    | opn h1 _ _ => exact h1.elim
    | reg _ _ h3 =>
      obtain ⟨i, hi, h5⟩ := exists_counted h3
      obtain ⟨g, hg, hs⟩ := hcom.wk i hi
      exact ⟨base + i, g, hg, hs.running_of (by omega)⟩
    | last L _ h2 h3 _ =>
      obtain ⟨g, hg, hs⟩ := hcom.wk L h2
      exact ⟨base + L, g, hg, hs.running_of (by omega)⟩
    | fin h1 _ => exact h1.elim
theorem all_awake (hA : ∀ Rm S g w, Anch Rm S g w → g.status = .running) (ha : gs[0]? = some a) (hms : MS P ty Wg C mine Fact n Nx Anch tag j T0 d0 Rm Sm a w) (hcom : Com P ty Wg C mine Fact base Shun j gs w t D Sg Rg F Sm Rm d0) : ∀ g ∈ gs, awake g := by
  intro g hg tm
  obtain ⟨i, hi⟩ := Array.mem_iff_getElem?.1 hg
  rcases Nat.eq_zero_or_pos i with rfl | hpos
  · rw [ha] at hi; cases hi
    rcases hms.status hA with ⟨hs, _⟩ | ⟨hs, _⟩ <;> rw [hs] <;> simp
  · rcases Nat.lt_or_ge i base with hlt | hge
    · obtain ⟨x, q, hx, hq, _⟩ := hcom.lv i hpos hlt
      rw [hi] at hx; cases hx
      rcases hq.status with h | h <;> rw [h] <;> simp
    · have hlt : i < base + j := by have := (Array.getElem?_eq_some_iff.1 hi).1; rw [hcom.size] at this; omega
      obtain ⟨x, hx, hs⟩ := hcom.wk (i - base) (by omega)
      rw [show base + (i - base) = i by omega, hi] at hx; cases hx
      rcases hs.status with h | h <;> rw [h] <;> simp
theorem Com.at (h : Com P ty Wg C mine Fact base Shun j gs w t D Sg Rg F Sm Rm d0) (hFst : ∀ i Rd S w w₁, RW ty Wg C (mine i) Rd S w w₁ → Fact i S w → Fact i S w₁) (d : Nat) : Com P ty Wg C mine Fact base Shun j gs (w.at d) t D Sg Rg F Sm Rm d0 :=
  ⟨h.size, fun i hi => let ⟨g, h1, h2⟩ := h.wk i hi; ⟨g, h1, h2.rely (RW.at' w d)⟩, h.lv, h.ti, h.deaf0, h.deafW, h.rel, fun i hi hs => hFst i (Rg i) _ _ _ (RW.at' w d) (h.fact i hi hs), ⟨h.geo.hW, h.geo.hC, h.geo.hCW, h.geo.sg, h.geo.sm, h.geo.rm, h.geo.rg, h.geo.d1, h.geo.d2, h.geo.d3, h.geo.d4⟩⟩
/-- A leaver slips. -/
theorem leaverStep (hA : ∀ Rm S g w, Anch Rm S g w → g.status = .running) (ha : gs[0]? = some a) (hms : MS P ty Wg C mine Fact n Nx Anch tag j T0 d0 Rm Sm a w) (hcom : Com P ty Wg C mine Fact base Shun j gs w t D Sg Rg F Sm Rm d0) (hwg : WgAt ty Wg w st sm) (hmode : ConcN.Mode j D tag st sm)
    {i : Nat} (hi : 0 < i) (hib : i < base) {g : Goroutine} (hg : gs[i]? = some g) (hrun : g.status = .running) :
    ∃ m₁ ops μ', runT P (crowd gs w sl) i = (.next m₁, ops) ∧ Lt3 (base + n) μ' (phi n (Vc j D) tag + Ssum j D, F, T0) ∧ Inv P ty Wg C mine Fact n Nx Anch base Shun μ' m₁ (t ++ ops) := by
  obtain ⟨x, q, hx, hq, hF⟩ := hcom.lv i hi hib
  obtain rfl : g = x := by rw [hg] at hx; exact Option.some.inj hx
  cases q with
  | zero => rw [hq.1] at hrun; cases hrun
  | succ k =>
    rcases hq with ⟨hf, _⟩ | ⟨_, g', es, hm, hstp, hq'⟩
    · rw [hf] at hrun; cases hrun
    have hi0 : (i == 0) = false := by simp; omega
    have hrunT := runT_crowd_go (P := P) (sl := sl) (i := i) hg (by rw [hi0]; exact hstp w)
    obtain ⟨tag', T0', hms', htag, _⟩ := hms.wokenBy hA (RM.refl w) g g'
    refine ⟨_, _, (phi n (Vc j D) tag' + Ssum j D, upd F i (trN k), T0'), hrunT, ?_, _, w, sl, j, D, Sg, Rg, upd F i (trN k), Sm, Rm, tag', T0', d0, woken P g g' w a, st, sm, rfl, ?_, hms', ?_, hwg, hmode.retag htag, rfl⟩
    · rw [phi_retag n _ htag]
      exact Prod.Lex.right _ (Prod.Lex.left _ _ ⟨i, by omega, by rw [upd_same, hF]; exact sub_trN k, fun l hl => upd_ne F _ hl⟩)
    · rw [get_map_set _ _ _ _ (by omega), ha]; rfl
    · refine ⟨by simp [hcom.size], fun l hl => ?_, fun l h1 h2 => ?_, ?_, by rw [Deaf_other t (g := 0) (g' := i) (by omega) _ g_of_ofEvents, hcom.deaf0], fun l hl => by rw [Deaf_other t (by omega) _ g_of_ofEvents, hcom.deafW l hl], fun l hl hs => ?_, hcom.fact, hcom.geo⟩
      · obtain ⟨y, hy, hsy⟩ := hcom.wk l hl
        exact ⟨y, by rw [get_map_set _ _ _ _ (by omega), hy, Option.map_some, hsy.woken], by rw [upd_ne F _ (by omega)]; exact hsy⟩
      · by_cases e : l = i
        · subst e
          exact ⟨g', k, get_map_set_same _ _ _ (by rw [hcom.size]; omega), by rw [Deaf_own]; exact hq', upd_same _ _ _⟩
        · obtain ⟨y, q, hy, hq, hF⟩ := hcom.lv l h1 h2
          refine ⟨y, q, by rw [get_map_set _ _ _ _ (by omega), hy, Option.map_some, woken_quitsD hq], ?_, by rw [upd_ne F _ e]; exact hF⟩
          rw [Deaf_other t (g := l) (g' := i) (by omega) _ g_of_ofEvents]; exact hq
      · refine hcom.ti.appMute (g := i) (by omega) fun op hop => ?_
        obtain ⟨e, he, rfl⟩ := Go.Conc.mem_ofEvents hop
        exact ⟨rfl, touch_mute (hm e he), low_mute (hm e he) _, norel_mute (hm e he) _⟩
      · obtain ⟨r, hr⟩ := hcom.rel l hl hs
        exact ⟨r, hr.appOther fun op hop => by rw [g_of_ofEvents op hop]; omega⟩
theorem phase_step (hA : ∀ Rm S g w, Anch Rm S g w → g.status = .running) (hFst : ∀ i Rd S w w₁, RW ty Wg C (mine i) Rd S w w₁ → Fact i S w → Fact i S w₁) (hb : 0 < base) (hm : ∀ i k o, mine i o → mine k o → i = k) (hn : n < 2147483648)
    (hAn : ∀ Rm S g w, Anch Rm S g w → GM P ty Wg C Rm (MW1 P ty Wg C Rm (Nx Rm) (Anch Rm)) S g w) {μ : Mu} {m : Machine} {t : Trace} (h : Inv P ty Wg C mine Fact n Nx Anch base Shun μ m t) :
    (∃ m₁ ops, stepT P m = (.next m₁, ops) ∧ Over P ty Wg C mine Fact n Nx base Shun m₁ (t ++ ops)) ∨
    (∃ m₁ ops μ', stepT P m = (.next m₁, ops) ∧ Lt3 (base + n) μ' μ ∧ Inv P ty Wg C mine Fact n Nx Anch base Shun μ' m₁ (t ++ ops)) := by
  obtain ⟨gs, w, sl, j, D, Sg, Rg, F, Sm, Rm, tag, T0, d0, a, st, sm, rfl, ha, hms, hcom, hwg, hmode, rfl⟩ := h
  obtain ⟨i, g, d, sl', hg, hrun, hstep⟩ := crowd_pick (P := P) (w := w) (sl := sl) (all_awake hA ha hms hcom) (someone_runs hA ha hms hcom hmode)
  rw [hstep]
  have hms' := hms.rely (RM.at' w d)
  have hcom' := hcom.at hFst d
  have hwg' : WgAt ty Wg (w.at d) st sm := hwg
  rcases Nat.eq_zero_or_pos i with rfl | hpos
  · rw [ha] at hg; cases hg
    exact stepCaller (sl := sl') hFst hb hm hn hAn ha hms' hcom' hwg' hmode hrun
  · rcases Nat.lt_or_ge i base with hlt | hge
    · exact .inr (leaverStep hA ha hms' hcom' hwg' hmode hpos hlt hg hrun)
    · have hlt : i < base + j := by have := (Array.getElem?_eq_some_iff.1 hg).1; rw [hcom.size] at this; omega
      obtain ⟨k, rfl⟩ : ∃ k, i = base + k := ⟨i - base, by omega⟩
      exact .inr (stepWorker hA hFst hb hm hn ha hms' hcom' hwg' hmode (by omega) hg hrun)
theorem phase_runs (hA : ∀ Rm S g w, Anch Rm S g w → g.status = .running) (hFst : ∀ i Rd S w w₁, RW ty Wg C (mine i) Rd S w w₁ → Fact i S w → Fact i S w₁) (hb : 0 < base) (hm : ∀ i k o, mine i o → mine k o → i = k) (hn : n < 2147483648)
    (hAn : ∀ Rm S g w, Anch Rm S g w → GM P ty Wg C Rm (MW1 P ty Wg C Rm (Nx Rm) (Anch Rm)) S g w) (μ : Mu) : ∀ (m : Machine) (t : Trace), Inv P ty Wg C mine Fact n Nx Anch base Shun μ m t →
    ∃ K m' t', runNT P K m t = (.next m', t') ∧ Over P ty Wg C mine Fact n Nx base Shun m' t' := by
  induction μ using (lt3_wf (base + n)).induction with
  | _ μ ih =>
    intro m t h
    rcases phase_step hA hFst hb hm hn hAn h with ⟨m₁, ops, h1, h2⟩ | ⟨m₁, ops, μ', h1, h2, h3⟩
    · exact ⟨1, m₁, t ++ ops, by simp only [runNT, h1], h2⟩
    · obtain ⟨K, m', t', k1, k2⟩ := ih μ' h2 m₁ (t ++ ops) h3
      exact ⟨K + 1, m', t', by simp only [runNT, h1]; exact k1, k2⟩
/-- Between the phases: goroutine 0, and others that only leave. -/
structure Lone (P : Program) (Shun : Loc → Prop) (gs : Array Goroutine) (w : World) (t : Trace) (q : Nat → Nat) : Prop where
  leav : Leavers P t gs q
  past : Past Shun w.heap.size t
  born : ∀ op ∈ t, op.g < gs.size
/-- ████ THE WHOLE PHASE. ████ -/
theorem phase (hA : ∀ Rm S g w, Anch Rm S g w → g.status = .running) (hFst : ∀ i Rd S w w₁, RW ty Wg C (mine i) Rd S w w₁ → Fact i S w → Fact i S w₁) (hm : ∀ i k o, mine i o → mine k o → i = k) (hn : n < 2147483648)
    (hAn : ∀ Rm S g w, Anch Rm S g w → GM P ty Wg C Rm (MW1 P ty Wg C Rm (Nx Rm) (Anch Rm)) S g w) {q : Nat → Nat} (ha : gs[0]? = some a) (hL : Lone P Shun gs w t q) (hno : NoRelease (stA Wg) t)
    (hWg : ∀ l, ShN Wg l → ¬ Shun l) (hSm : ∀ l, inBl Sm l → ¬ Shun l) (hRm : ∀ l, inBl Rm l → ¬ Shun l) (hC : ∀ i o, mine i o → ¬ Shun (.cell ⟨C, o, none⟩)) (geo : Geo Wg C 0 (fun _ _ => False) (fun _ _ => False) Sm Rm w) (hwg : WgAt ty Wg w 0 0)
    (hsp : Spawns P ty Wg C mine Fact n (Fin P ty Wg C Anch) n Rm Sm a w) : ∃ K m' t', runNT P K (crowd gs w sl) t = (.next m', t') ∧ Over P ty Wg C mine Fact n Nx gs.size Shun m' t' := by
  have hb : 0 < gs.size := (Array.getElem?_eq_some_iff.1 ha).1
  have known : ∀ i x, touchAt t i = some x → x.loc.isMemory = true → ¬ Shun x.loc → Knows t 0 i := fun i x hx hm hs => (hL.past.known i x hx hm).resolve_right fun h => hs h.1
  have mem : ∀ {S : Nat → Prop} {l : Loc}, inBl S l → l.isMemory = true := fun {S l} h => by
    cases l <;> first | rfl | exact h.elim
  have hti : TI (ownOf gs.size Wg C mine 0 (fun _ _ => False) (fun _ _ => False) Sm Rm) Shun w.heap.size (gs.size + 0) (stA Wg) t := by
    refine ⟨hL.past.clean, hL.born, fun g hg => absurd hg.1 (by have := hg.2; omega), fun g hg => absurd hg.1 (by have := hg.2; omega), fun g hg => absurd hg.1 (by have := hg.2; omega), fun l hl i x hx e => ?_, fun l hl i x hx e hw => ?_, fun i x hx hs => ?_, hL.past.seen, fun i x hx hm => ?_, fun i g hg hne _ hc => hL.past.over i g hg hne hc, hno⟩
    · rcases hl with hl | ⟨o, k, _, ho, rfl⟩
      · exact known i x hx (e ▸ mem hl) (e ▸ hSm l hl)
      · exact known i x hx (by rw [e]; rfl) (by rw [e]; exact hC k o ho)
    · exact known i x hx (e ▸ mem hl) (e ▸ hRm l hl)
    · have hk : Knows t 0 i := known i x hx (by obtain ⟨a, e, _⟩ := hs; rw [e]; rfl) (hWg _ hs)
      exact ⟨fun _ => ⟨hk, fun g hg => absurd hg.1 (by have := hg.2; omega)⟩, fun _ => hk⟩
    · exact (hL.past.known i x hx hm).imp id .inl
  have hcom : Com P ty Wg C mine Fact gs.size Shun 0 gs w t (fun _ => ⟨7, 0, 0⟩) (fun _ _ => False) (fun _ _ => False) (fun i => trN (q i)) Sm Rm 0 :=
    ⟨rfl, fun i hi => by omega, fun i h1 h2 => ⟨gs[i], q i, Array.getElem?_eq_getElem h2, hL.leav.old i _ h1 (Array.getElem?_eq_getElem h2), rfl⟩, hti, hL.past.hears, fun i hi => by omega, fun i hi => by omega, fun i hi => by omega, geo⟩
  have hV : Vc 0 (fun _ => (⟨7, 0, 0⟩ : WD)) = 0 := rfl
  have hop : OpenSt 0 (fun _ => (⟨7, 0, 0⟩ : WD)) := fun i hi => by omega
  cases n with
  | zero =>
    obtain ⟨T, hk⟩ := hsp
    refine phase_runs hA hFst hb hm hn hAn _ _ _ ⟨gs, w, sl, 0, _, _, _, _, Sm, Rm, .kd, T, 0, a, 0, 0, rfl, ha, .kd hk, hcom, hwg, ?_, rfl⟩
    have hx := ConcN.Mode.opn (tag := .kd) trivial hop (by simp)
    have e : ((Vc 0 (fun _ => (⟨7, 0, 0⟩ : WD)) + pend (.kd) : Nat) : Int) * KK = 0 := by rw [hV]; simp [pend]
    rw [e] at hx
    exact hx
  | succ r =>
    obtain ⟨T, hk⟩ := hsp
    have e0 : r + 1 - (r + 1) = 0 := by omega
    have hms : MS P ty Wg C mine Fact (r + 1) Nx Anch (.sp r 5) (r + 1 - (r + 1)) T 0 Rm Sm a w := .skd (by omega) hk
    rw [e0] at hms
    refine phase_runs hA hFst hb hm hn hAn _ _ _ ⟨gs, w, sl, 0, _, _, _, _, Sm, Rm, .sp r 5, T, 0, a, 0, 0, rfl, ha, hms, hcom, hwg, ?_, rfl⟩
    have hx := ConcN.Mode.opn (tag := .sp r 5) trivial hop (by simp)
    have e : ((Vc 0 (fun _ => (⟨7, 0, 0⟩ : WD)) + pend (.sp r 5) : Nat) : Int) * KK = 0 := by rw [hV]; simp [pend]
    rw [e] at hx
    exact hx
end
end Go.Proofs.Ytmmolicodlmlkaa.Ph
namespace Go.Proofs.Ytmmolicodlmlkaa.Ph
open Go.Conc Go.ConcN
open Go.ConcR (KK wgBlock WgAt stA smA rd wr mk DC0 Bk g_of_ofEvents)
open Go.Proofs.Ytmmolicodlmlkaa.Rel (RS DS EvS Tr Sub GoT Go1)
set_option linter.unusedVariables false

/-- What goroutine 0 may touch: nothing shunned; it lies in the heap. -/
structure Free (Shun : Loc → Prop) (S : Nat → Prop) (w : World) : Prop where
  free : ∀ l, inBl S l → ¬ Shun l
  low : ∀ b, S b → b < w.heap.size
  shun : ∀ l, Shun l → l.isMemory = true ∧ l.low w.heap.size
section
variable {P : Program} {Shun : Loc → Prop} {gs : Array Goroutine} {w w' : World} {sl : Option (Nat × Nat)} {t : Trace} {q : Nat → Nat} {S S' Rd : Nat → Prop} {es : Array Event} {a a' : Goroutine}
theorem Free.at (h : Free Shun S w) (d : Nat) : Free Shun S (w.at d) := ⟨h.free, h.low, h.shun⟩
theorem Lone.at (h : Lone P Shun gs w t q) (d : Nat) : Lone P Shun gs (w.at d) t q := ⟨h.leav, h.past, h.born⟩
theorem Free.step (h : Free Shun S w) (hs : w.heap.size ≤ w'.heap.size) (hS : ∀ b, S' b ↔ S b ∨ (w.heap.size ≤ b ∧ b < w'.heap.size)) : Free Shun S' w' := by
  refine ⟨fun l hl hs' => ?_, fun b hb => ?_, fun l hl => ⟨(h.shun l hl).1, Loc.low_mono hs (h.shun l hl).2⟩⟩
  · have hlow := (h.shun l hs').2
    cases l with
    | cell x =>
      rcases (hS _).1 hl with h1 | ⟨h1, _⟩
      · exact h.free (.cell x) h1 hs'
      · exact absurd hlow (by show ¬ x.block < _; omega)
    | obj r =>
      rcases (hS _).1 hl with h1 | ⟨h1, _⟩
      · exact h.free (.obj r) h1 hs'
      · exact absurd hlow (by show ¬ r < _; omega)
    | output => exact hl
    | goroutines => exact hl
    | mark m => exact hl
  · rcases (hS b).1 hb with h1 | ⟨_, h1⟩
    · exact Nat.lt_of_lt_of_le (h.low b h1) hs
    · exact h1
/-- What its own step lists may be said beside leavers. -/
theorem evL_of_evS {B : Nat} (hf : ∀ l, inBl S l → ¬ Shun l) (hl : ∀ b, S b → b < B) {e : Event} (h : EvS (fun _ => False) S e) : EvL Shun B e := by
  obtain ⟨loc, wr, sy⟩ := e
  rcases h with ⟨x, l1, l2, l3⟩ | ⟨r, l1, l2, ls⟩ | l
  · simp only at l1 l2 l3
    subst l1; subst l3
    have hS : S x.block := l2.elim id fun h => h.1.elim
    exact evL_cell x wr (hf (.cell x) hS) (hl _ hS)
  · simp only at l1 l2 ls
    subst l1
    have hS : S r := l2.elim id fun h => h.1.elim
    have eo : MemAct.ofEvent ⟨.obj r, wr, sy⟩ = .access ⟨.obj r, wr, sy⟩ := by cases wr <;> cases sy <;> first | rfl | exact absurd (ls rfl) (by simp)
    refine ⟨fun x hx hs => ?_, by simp, by simp, ?_⟩
    · rw [eo] at hx
      simp only [MemAct.touch?, Option.some.injEq] at hx
      subst hx
      exact absurd hs (hf (.obj r) hS)
    · rw [eo]; exact hl _ hS
  · injection l with l1 l2 l3
    subst l1; subst l2; subst l3
    exact ⟨fun x hx => (by cases hx), by simp, by simp, trivial⟩
theorem norel_evS {e : Event} (h : EvS (fun _ => False) S e) (ad : Addr) : MemAct.ofEvent e ≠ .mark (.release ad) := by
  obtain ⟨loc, wr, sy⟩ := e
  rcases h with ⟨x, l1, l2, l3⟩ | ⟨r, l1, l2, ls⟩ | l
  · simp only at l1 l3
    subst l1; subst l3
    rw [ofEvent_cell0]; simp
  · simp only at l1 ls
    subst l1
    have eo : MemAct.ofEvent ⟨.obj r, wr, sy⟩ = .access ⟨.obj r, wr, sy⟩ := by cases wr <;> cases sy <;> first | rfl | exact absurd (ls rfl) (by simp)
    rw [eo]; simp
  · injection l with l1 l2 l3
    subst l1; subst l2; subst l3
    simp [MemAct.ofEvent]
theorem norel_low {B : Nat} (h : ∀ op ∈ t, op.act.low B) {ad : Addr} (hb : B ≤ ad.block) : NoRelease ad t := fun i e => by
  unfold Trace.act? at e
  obtain ⟨op, hop, e2⟩ := Option.map_eq_some_iff.1 e
  have := h op (mem_of_getElem? hop)
  rw [e2] at this
  have : ad.block < B := this
  omega
/-- Goroutine 0's step keeps it. -/
theorem Lone.own (h : Lone P Shun gs w t q) (ha : gs[0]? = some a) (hD : DS (fun _ => False) S w w' es S') (hF : Free Shun S w) (fn : FuncId) (pos : String) :
    Lone P Shun ((gs.map (woken P a a' w')).setIfInBounds 0 a') w' (t ++ MemOp.ofEvents 0 fn pos es) q := by
  have hF' := hF.step hD.size hD.own
  have hlt : 0 < gs.size := (Array.getElem?_eq_some_iff.1 ha).1
  refine ⟨⟨fun j x hj hx => ?_, fun j hj => ?_⟩, (h.past.mono hD.size).own fun e he => evL_of_evS hF'.free hF'.low (hD.evs e he), fun op hop => ?_⟩
  · rw [get_map_set _ _ _ _ (by omega)] at hx
    obtain ⟨y, hy, rfl⟩ := Option.map_eq_some_iff.1 hx
    have hq := h.leav.old j y hj hy
    rw [woken_quitsD hq, Deaf_other t (by omega) _ g_of_ofEvents]
    exact hq
  · rw [Deaf_other t (g' := 0) (by simp at hj; omega) _ g_of_ofEvents]
    exact h.leav.above j (by simpa using hj)
  · simp only [Array.size_setIfInBounds, Array.size_map]
    rcases Array.mem_append.1 hop with h1 | h1
    · exact h.born op h1
    · rw [g_of_ofEvents op h1]; exact hlt
/-- A leaver's step keeps it. -/
theorem Lone.slip (h : Lone P Shun gs w t q) (hrun : a.status = .running) (ha : gs[0]? = some a) {i : Nat} (hi : 0 < i) {g : Goroutine} (hg : gs[i]? = some g) (hgr : g.status = .running) :
    ∃ k g' es, q i = k + 1 ∧ stepG P false g w = .go g' w es ∧ (∀ e ∈ es, e.mute = true) ∧ Lone P Shun ((gs.map (woken P g g' w)).setIfInBounds i g') w (t ++ MemOp.ofEvents i g.frame.fn g.frame.place es) (upd q i k) ∧ ((gs.map (woken P g g' w)).setIfInBounds i g')[0]? = some a := by
  have hq := h.leav.old i g hi hg
  have hlt : i < gs.size := (Array.getElem?_eq_some_iff.1 hg).1
  cases hqi : q i with
  | zero => rw [hqi] at hq; rw [hq.1] at hgr; cases hgr
  | succ k =>
    rw [hqi] at hq
    rcases hq with ⟨hf, _⟩ | ⟨_, g', es, hm, hstp, hq'⟩
    · rw [hf] at hgr; cases hgr
    refine ⟨k, g', es, rfl, hstp w, hm, ⟨⟨fun j x hj hx => ?_, fun j hj => ?_⟩, h.past.mute (by omega) hm, fun op hop => ?_⟩, ?_⟩
    · by_cases hji : j = i
      · subst hji
        rw [get_map_set_same _ _ _ hlt] at hx
        obtain rfl := Option.some.inj hx
        rw [upd_same, Deaf_own]
        exact hq'
      · rw [get_map_set _ _ _ _ (Ne.symm hji)] at hx
        obtain ⟨y, hy, rfl⟩ := Option.map_eq_some_iff.1 hx
        have hqj := h.leav.old j y hj hy
        rw [woken_quitsD hqj, upd_ne q k hji, Deaf_other t (by omega) _ g_of_ofEvents]
        exact hqj
    · rw [Deaf_other t (g' := i) (by simp at hj; omega) _ g_of_ofEvents]
      exact h.leav.above j (by simpa using hj)
    · simp only [Array.size_setIfInBounds, Array.size_map]
      rcases Array.mem_append.1 hop with h1 | h1
      · exact h.born op h1
      · rw [g_of_ofEvents op h1]; exact hlt
    · rw [get_map_set _ _ _ _ (by omega), ha]
      simp [woken_run hrun]
/-- ████ THE WALK BESIDE LEAVERS. ████ -/
theorem walk {Stop : (Nat → Prop) → Goroutine → World → Prop} (hSt : ∀ S g w d, Stop S g (w.at d) → Stop S g w) {B0 : Nat} (T : Tr) : ∀ (M : Nat) (S : Nat → Prop) (gs : Array Goroutine) (a : Goroutine) (w : World) (sl : Option (Nat × Nat)) (t : Trace) (q : Nat → Nat), sumTo gs.size q ≤ M → gs[0]? = some a → Lone P Shun gs w t q → Free Shun S w →
    (∀ ad : Addr, B0 ≤ ad.block → NoRelease ad t) → GoT P true (RS (fun _ => False)) (DS (fun _ => False)) Stop T S a w →
    ∃ (N : Nat) (gs' : Array Goroutine) (a' : Goroutine) (w' : World) (sl' : Option (Nat × Nat)) (t' : Trace) (q' : Nat → Nat) (S' : Nat → Prop),
      runNT P N (crowd gs w sl) t = (.next (crowd gs' w' sl'), t') ∧ gs'.size = gs.size ∧ gs'[0]? = some a' ∧ Stop S' a' w' ∧ Lone P Shun gs' w' t' q' ∧ Free Shun S' w' ∧ ∀ ad : Addr, B0 ≤ ad.block → NoRelease ad t' := by
  induction T with
  | leaf => intro M S gs a w sl t q _ h0 hL hF hno hG; exact ⟨0, gs, a, w, sl, t, q, S, rfl, rfl, h0, hG w (RS.refl w), hL, hF, hno⟩
  | node f ihf =>
    intro M
    induction M using Nat.strongRecOn with
    | _ M ih =>
    intro S gs a w sl t q hM h0 hL hF hno hG
    rcases hG w (RS.refl w) with hs | ⟨hrun, _⟩
    · exact ⟨0, gs, a, w, sl, t, q, S, rfl, rfl, h0, hs, hL, hF, hno⟩
    have haw : ∀ g ∈ gs, awake g := by
      intro g hg
      obtain ⟨i, hi, rfl⟩ := Array.mem_iff_getElem.1 hg
      rcases Nat.eq_zero_or_pos i with rfl | hpos
      · have : gs[0] = a := by simpa [Array.getElem?_eq_getElem hi] using h0
        rw [this]; exact awake_of (.inl hrun)
      · exact awake_of ((hL.leav.old i _ hpos (Array.getElem?_eq_getElem hi)).status.elim .inl fun x => .inr (.inr x))
    obtain ⟨i, g, d, sl', hi, hg, hst⟩ := crowd_pick (P := P) (w := w) (sl := sl) haw ⟨0, a, h0, hrun⟩
    rcases Nat.eq_zero_or_pos i with rfl | hpos
    · obtain rfl : g = a := by rw [h0] at hi; exact (Option.some.inj hi).symm
      rcases hG (w.at d) (RS.at' w d) with hs | ⟨_, a', w', es, S', hgo, hD, hG'⟩
      · exact ⟨0, gs, g, w, sl, t, q, S, rfl, rfl, h0, hSt _ _ _ _ hs, hL, hF, hno⟩
      · have hrunT := runT_crowd_go (P := P) (sl := sl') (i := 0) hi (show stepG P (0 == 0) g (w.at d) = _ from hgo)
        have hlt : 0 < gs.size := (Array.getElem?_eq_some_iff.1 h0).1
        have hno' : ∀ ad : Addr, B0 ≤ ad.block → NoRelease ad (t ++ MemOp.ofEvents 0 g.frame.fn g.frame.place es) := fun ad hb => (hno ad hb).app fun op hop => by
          obtain ⟨e, he, rfl⟩ := Go.Conc.mem_ofEvents hop
          exact norel_evS (hD.evs e he) ad
        obtain ⟨N, gs', a'', w'', sl'', t', q', S'', hr, hs', h0', hS, hL', hF', hn'⟩ := ihf (w.at d) _ S' _ a' w' sl' _ q (Nat.le_refl _) (get_map_set_same _ _ _ hlt) ((hL.at d).own h0 hD (hF.at d) _ _) ((hF.at d).step hD.size hD.own) hno' hG'
        exact ⟨N + 1, gs', a'', w'', sl'', t', q', S'', by simp only [runNT, hst, hrunT]; exact hr, hs'.trans (by simp), h0', hS, hL', hF', hn'⟩
    · obtain ⟨k, g', es, hqi, hgo, hm, hL', h0'⟩ := (hL.at d).slip hrun h0 hpos hi hg
      have hi0 : (i == 0) = false := by simp; omega
      have hlt : i < gs.size := (Array.getElem?_eq_some_iff.1 hi).1
      have hrunT := runT_crowd_go (P := P) (sl := sl') (i := i) hi (by rw [hi0]; exact hgo)
      have hsum : sumTo gs.size (upd q i k) + (k + 1) = sumTo gs.size q + k := by
        have := sumTo_upd q k id hlt
        simpa [hqi] using this
      have hsz : ((gs.map (woken P g g' (w.at d))).setIfInBounds i g').size = gs.size := by simp
      have hno' : ∀ ad : Addr, B0 ≤ ad.block → NoRelease ad (t ++ MemOp.ofEvents i g.frame.fn g.frame.place es) := fun ad hb => (hno ad hb).app fun op hop => by
        obtain ⟨e, he, rfl⟩ := Go.Conc.mem_ofEvents hop
        exact norel_mute (hm e he) ad
      obtain ⟨N, gs', a'', w'', sl'', t', q', S'', hr, hs', h0'', hS, hL'', hF', hn'⟩ := ih (sumTo gs.size (upd q i k)) (by omega) S _ a (w.at d) sl' _ (upd q i k) (by rw [hsz]; exact Nat.le_refl _) h0' hL' (hF.at d) hno'
        (GoT.rely (fun _ _ _ _ h1 h2 => h1.trans h2) (T := .node f) hG (RS.at' w d))
      exact ⟨N + 1, gs', a'', w'', sl'', t', q', S'', by simp only [runNT, hst, hrunT]; exact hr, hs'.trans hsz, h0'', hS, hL'', hF', hn'⟩
/-- The walk to the end of the run. -/
theorem ends {Post : Value → World → Prop} (ha : gs[0]? = some a) (hL : Lone P Shun gs w t q) (hF : Free Shun S w)
    (hG : Go1 P true (RS (fun _ => False)) (DS (fun _ => False)) (fun S g w => g.status = .running ∧ ∀ w₁, RS (fun _ => False) S w w₁ → ∃ v, stepG P true g w₁ = .ended (.done v) w₁ #[] ∧ Post v w₁) S a w) :
    ∃ N last o w' t', runNT P (N + 1) (crowd gs w sl) t = (.ended o w', t') ∧ runN P N (crowd gs w sl) = .next last ∧ step P last = .ended o w' ∧ Good P Post last o w' t' := by
  obtain ⟨T, hG⟩ := hG
  obtain ⟨N, gs', a', w', sl', t', q', S', hr, _, h0, ⟨hrun, hend⟩, hL', _, _⟩ := walk (B0 := w.heap.size) (fun S g w d h => ⟨h.1, fun w₁ h₁ => h.2 w₁ ⟨h₁.tape, h₁.os, h₁.output, h₁.size, h₁.own, h₁.rd⟩⟩) T _ S gs a w sl t q (Nat.le_refl _) ha hL hF
    (fun ad hb => norel_low hL.past.seen hb) hG
  have hGo : Goes P true AtRel DC0 (AtEnd P Shun w'.heap.size Post) 0 a' w' := fun w₁ h₁ => ⟨hrun, by
    obtain ⟨d, rfl⟩ := h₁
    obtain ⟨v, h1, h2⟩ := hend (w'.at d) (RS.at' w' d)
    exact ⟨v, #[], h1, by simp, h2⟩⟩
  obtain ⟨N2, last, o, w2, t2, e1, e2, e3, e4⟩ := beside_ends (P := P) (Shun := Shun) (B := w'.heap.size) (D := DC0) (sl := sl') (fun w w' es h => by obtain ⟨_, rfl⟩ := h; simp) h0 hL'.leav hL'.past hGo
  refine ⟨N + N2, last, o, w2, t2, ?_, ?_, e3, e4⟩
  · rw [Nat.add_assoc, runNT_add, hr]; exact e1
  · rw [runN_add, ← runNT_fst P _ _ t, hr]; exact e2
end
end Go.Proofs.Ytmmolicodlmlkaa.Ph
namespace Go.Proofs.Ytmmolicodlmlkaa.Ph
open Go.Conc Go.ConcN Go.RowKit Go.Conc.Lib Go.ConcR.Gen Go.ConcN.Gen
open Go.ConcR (KK wgBlock WgAt stA smA rd wr mk DC0 Payload)
open Go.Proofs.Ytmmolicodlmlkaa.Rel (RS DS EvS Tr Sub GoT Go1)
set_option linter.unusedVariables false
set_option linter.unusedSimpArgs false

section
variable {L : WgLink} {P : Program} {R : World → World → Prop} {Wg : Nat} {b₀ : Frame} {a₀ : Act} {ops₀ : Array Oper} {i₀ : Nat} {rest₀ : List Nat} {k₀ : List Item} {cs : List Frame} {qt : Nat}
theorem liveR (kn : ∀ a b, R a b → WgLive L.tWg Wg a → WgLive L.tWg Wg b) {w w₁ : World} (h : WgLive L.tWg Wg w) (r : R w w₁) : WgLive L.tWg Wg w₁ := kn _ _ r h
set_option maxRecDepth 100000 in
set_option maxHeartbeats 8000000 in
/-- Add(-1). -/
theorem addNeg (H : WgLib P L) (kn : ∀ a b, R a b → WgLive L.tWg Wg a → WgLive L.tWg Wg b) (hT : QuitsD P qt 0 (G (b₀.at (a₀.put ((ops₀[i₀]?).bind (·.dst)) (.tuple #[])) (.inRegion ops₀ rest₀ :: k₀)) cs)) (w : World) (hK : WgLive L.tWg Wg w) :
    Goes P false R DC0 (KR P L.tWg Wg R) 20 (G ((base L.add).at ⟨#[.pointer (some ⟨Wg, 0, none⟩), .int .i64 (-1), undef, undef, undef, undef, undef, undef, undef, undef, undef, undef, undef, undef, undef, undef, undef, undef, undef, undef, undef, undef, undef, undef, undef, undef, undef, undef, undef, undef, undef, undef, undef, undef, undef, undef, undef, undef, undef, undef, undef, undef, undef, undef, undef, undef, undef, undef, undef, undef, undef, undef, undef, undef, undef, undef, undef, undef, undef, undef, undef, undef, undef, undef, undef, undef, undef, undef, undef, undef, undef, undef, undef, undef, undef, undef, undef, undef, undef, undef, undef, undef, undef, undef, undef, undef, undef, undef, undef, undef, undef, undef, undef, undef, undef, undef, undef, undef, undef, undef, undef, undef, undef, undef, undef, undef, undef, undef, undef, undef, undef, undef, undef, undef, undef, undef, undef], []⟩ [.code (body_add L)]) (b₀.at a₀ (.inRegion ops₀ (i₀ :: rest₀) :: k₀) :: cs)) w := by
  lib_facts
  simp only [body_add, addFn, Option.getD_some]
  u_c stepG_seq (liveR kn) hK
  u_cond true (liveR kn) hK
  u_c stepG_seq (liveR kn) hK
  u_c stepG_seq (liveR kn) hK
  u_reg (liveR kn) hK
  u_op (liveR kn) hK
  u_op (liveR kn) hK
  u_c stepG_region_end (liveR kn) hK
  u_cond true (liveR kn) hK
  u_reg (liveR kn) hK
  u_op (liveR kn) hK
  u_conv H.underlying_tWgP H.room_tWg (WgLive.cell0 hK).choose_spec (liveR kn) hK
  refine Goes.stop (fun w₁ h₁ => ?_)
  replace hK := (liveR kn) hK h₁
  clear h₁
  refine ⟨rfl, _, stepG_markAt .releaseMerge (by simp) rfl rfl (by k_ne) rfl H.f_relMerge (x_relMerge_n L) (x_relMerge_b L) (x_relMerge_x L) (x_relMerge_f L) (by simp [Act.eval, stA]), 10, ?_⟩
  walk_nrm
  u_c stepG_region_end (liveR kn) hK
  u_c stepG_seq (liveR kn) hK
  u_reg (liveR kn) hK
  refine Goes.stop (fun w₁ h₁ => ?_)
  replace hK := (liveR kn) hK h₁
  clear h₁
  refine ⟨rfl, _, stepG_mark0 .disable (by simp) rfl rfl (by k_ne) rfl H.f_disable (x_disable_n L) (x_disable_b L) (x_disable_x L) (x_disable_f L), 50, ?_⟩
  walk_nrm
  u_c stepG_region_end (liveR kn) hK
  u_reg (liveR kn) hK
  u_defer (liveR kn) hK
  u_c stepG_region_end (liveR kn) hK
  u_c stepG_seq (liveR kn) hK
  u_reg (liveR kn) hK
  u_op (liveR kn) hK
  u_c stepG_region_end (liveR kn) hK
  u_c stepG_seq (liveR kn) hK
  u_c stepG_seq (liveR kn) hK
  u_reg (liveR kn) hK
  u_bub (liveR kn) hK
  u_c stepG_region_end (liveR kn) hK
  u_cond false (liveR kn) hK
  u_c stepG_skip (liveR kn) hK
  u_c stepG_seq (liveR kn) hK
  u_reg (liveR kn) hK
  u_op (liveR kn) hK
  u_op (liveR kn) hK
  u_op (liveR kn) hK
  u_op (liveR kn) hK
  u_op (liveR kn) hK
  u_op (liveR kn) hK
  u_call H.f_uAdd (nm_uAdd L) uAddFn (liveR kn) hK
  u_c stepG_seq (liveR kn) hK
  u_reg (liveR kn) hK
  u_op (liveR kn) hK
  u_c stepG_region_end (liveR kn) hK
  u_c stepG_seq (liveR kn) hK
  u_reg (liveR kn) hK
  u_op (liveR kn) hK
  u_op (liveR kn) hK
  u_op (liveR kn) hK
  u_op (liveR kn) hK
  refine Goes.stop (fun w₁ h₁ => ?_)
  clear h₁ hK
  refine ⟨rfl, fun v wt hwt hv hw => ?_⟩
  have e0 : IntKind.u64.wrap (KK + 18446744069414584320) = 0 := by decide
  have e1 : IntKind.u64.wrap (KK + 1 + 18446744069414584320) = 1 := by decide
  rcases Nat.eq_zero_or_pos v with rfl | hvp <;> (obtain rfl | rfl : wt = 0 ∨ wt = 1 := by omega)
  · replace hw : WgAt L.tWg Wg w₁ KK 0 := by simpa using hw
    have z : ((0 : Nat) : Int) * KK + ((0 : Nat) : Int) = 0 := by simp
    rw [z]
    refine ⟨_, (stepG_add_atomic rfl rfl (by k_ne) rfl H.f_addU64 (x_addU64_n L) (x_addU64_b L) (x_addU64_x L) .u64 (x_addU64_f L) rfl rfl hw.cellSt (hw.thaw 0)).trans (by rw [e0]; rfl), fun hl => absurd hl.2 (by decide), fun _ => ⟨qt + 89, ?_⟩⟩
    clear hw
    walk_nrm
    q_val (.int .u64 0)
    q_c stepG_region_end
    q_c stepG_ret'
    q_leave1 H.f_uAdd
    q_val (.int .u64 0)
    q_c stepG_region_end
    q_c stepG_seq
    q_c stepG_seq
    q_reg
    q_val (.int .u64 0)
    q_val (.int .u64 0)
    q_val (.bool false)
    q_val (.bool false)
    q_skip
    q_skip
    q_val (.bool false)
    q_c stepG_region_end
    q_cond false
    q_c stepG_skip
    q_c stepG_seq
    q_reg
    q_val (.int .u64 0)
    q_val (.int .u64 0)
    q_val (.int .i32 0)
    q_val (.int .i32 0)
    q_c stepG_region_end
    q_c stepG_seq
    q_reg
    q_val (.int .u64 0)
    q_val (.int .u64 0)
    q_val (.int .u32 0)
    q_val (.int .u32 0)
    q_c stepG_region_end
    q_c stepG_seq
    q_c stepG_seq
    q_reg
    q_val (.bool true)
    q_val (.int .i64 (-1))
    q_val (.bool false)
    q_val (.bool false)
    q_val (.bool false)
    q_skip
    q_skip
    q_skip
    q_skip
    q_val (.bool false)
    q_c stepG_region_end
    q_cond false
    q_c stepG_skip
    q_c stepG_seq
    q_c stepG_seq
    q_reg
    q_val (.int .i32 0)
    q_val (.bool false)
    q_c stepG_region_end
    q_cond false
    q_c stepG_skip
    q_c stepG_seq
    q_c stepG_seq
    q_reg
    q_val (.int .u32 0)
    q_val (.bool false)
    q_val (.bool false)
    q_skip
    q_skip
    q_val (.bool false)
    q_val (.bool false)
    q_skip
    q_skip
    q_skip
    q_skip
    q_val (.bool false)
    q_c stepG_region_end
    q_cond false
    q_c stepG_skip
    q_c stepG_seq
    q_c stepG_seq
    q_reg
    q_val (.int .i32 0)
    q_val (.bool false)
    q_val (.bool false)
    q_val (.int .u32 0)
    q_val (.bool true)
    q_val (.bool true)
    q_c stepG_region_end
    q_cond true
    q_c stepG_ret'
    q_enable
    q_leave0 H.f_add
    exact hT
  · replace hw : WgAt L.tWg Wg w₁ (KK + 1) 0 := by simpa using hw
    have z : ((0 : Nat) : Int) * KK + ((1 : Nat) : Int) = 1 := by simp
    rw [z]
    refine ⟨_, (stepG_add_atomic rfl rfl (by k_ne) rfl H.f_addU64 (x_addU64_n L) (x_addU64_b L) (x_addU64_x L) .u64 (x_addU64_f L) rfl rfl hw.cellSt (hw.thaw 0)).trans (by rw [e1]; rfl), fun _ => ⟨120, ?_⟩, fun hl => absurd ⟨rfl, rfl⟩ hl⟩
    have hF : WgLive L.tWg Wg (w₁.setCell (stA Wg) (.int .u64 1)) := ⟨_, _, hw.setSt 1⟩
    clear hw
    walk_nrm
    u_op (liveR kn) hF
    u_c stepG_region_end (liveR kn) hF
    u_c stepG_ret' (liveR kn) hF
    u_leave1 H.f_uAdd (liveR kn) hF
    u_op (liveR kn) hF
    u_c stepG_region_end (liveR kn) hF
    u_c stepG_seq (liveR kn) hF
    u_c stepG_seq (liveR kn) hF
    u_reg (liveR kn) hF
    u_op (liveR kn) hF
    u_op (liveR kn) hF
    u_op (liveR kn) hF
    u_op (liveR kn) hF
    u_skip (liveR kn) hF
    u_skip (liveR kn) hF
    u_op (liveR kn) hF
    u_c stepG_region_end (liveR kn) hF
    u_cond false (liveR kn) hF
    u_c stepG_skip (liveR kn) hF
    u_c stepG_seq (liveR kn) hF
    u_reg (liveR kn) hF
    u_op (liveR kn) hF
    u_op (liveR kn) hF
    u_op (liveR kn) hF
    u_op (liveR kn) hF
    u_c stepG_region_end (liveR kn) hF
    u_c stepG_seq (liveR kn) hF
    u_reg (liveR kn) hF
    u_op (liveR kn) hF
    u_op (liveR kn) hF
    u_op (liveR kn) hF
    u_op (liveR kn) hF
    u_c stepG_region_end (liveR kn) hF
    u_c stepG_seq (liveR kn) hF
    u_c stepG_seq (liveR kn) hF
    u_reg (liveR kn) hF
    u_op (liveR kn) hF
    u_op (liveR kn) hF
    u_op (liveR kn) hF
    u_op (liveR kn) hF
    u_op (liveR kn) hF
    u_skip (liveR kn) hF
    u_skip (liveR kn) hF
    u_skip (liveR kn) hF
    u_skip (liveR kn) hF
    u_op (liveR kn) hF
    u_c stepG_region_end (liveR kn) hF
    u_cond false (liveR kn) hF
    u_c stepG_skip (liveR kn) hF
    u_c stepG_seq (liveR kn) hF
    u_c stepG_seq (liveR kn) hF
    u_reg (liveR kn) hF
    u_op (liveR kn) hF
    u_op (liveR kn) hF
    u_c stepG_region_end (liveR kn) hF
    u_cond false (liveR kn) hF
    u_c stepG_skip (liveR kn) hF
    u_c stepG_seq (liveR kn) hF
    u_c stepG_seq (liveR kn) hF
    u_reg (liveR kn) hF
    u_op (liveR kn) hF
    u_op (liveR kn) hF
    u_op (liveR kn) hF
    u_op (liveR kn) hF
    u_op (liveR kn) hF
    u_op (liveR kn) hF
    u_op (liveR kn) hF
    u_skip (liveR kn) hF
    u_skip (liveR kn) hF
    u_skip (liveR kn) hF
    u_skip (liveR kn) hF
    u_op (liveR kn) hF
    u_c stepG_region_end (liveR kn) hF
    u_cond false (liveR kn) hF
    u_c stepG_skip (liveR kn) hF
    u_c stepG_seq (liveR kn) hF
    u_c stepG_seq (liveR kn) hF
    u_reg (liveR kn) hF
    u_op (liveR kn) hF
    u_op (liveR kn) hF
    u_op (liveR kn) hF
    u_op (liveR kn) hF
    u_op (liveR kn) hF
    u_op (liveR kn) hF
    u_c stepG_region_end (liveR kn) hF
    u_cond false (liveR kn) hF
    u_c stepG_skip (liveR kn) hF
    u_c stepG_seq (liveR kn) hF
    u_c stepG_seq (liveR kn) hF
    u_reg (liveR kn) hF
    u_op (liveR kn) hF
    u_op (liveR kn) hF
    u_op (liveR kn) hF
    u_call H.f_uLoad (nm_uLoad L) uLoadFn (liveR kn) hF
    u_c stepG_seq (liveR kn) hF
    u_reg (liveR kn) hF
    u_op (liveR kn) hF
    u_c stepG_region_end (liveR kn) hF
    u_c stepG_seq (liveR kn) hF
    u_reg (liveR kn) hF
    u_op (liveR kn) hF
    u_op (liveR kn) hF
    u_op (liveR kn) hF
    refine Goes.stop (fun w₂ h₂ => ?_)
    clear h₂ hF
    refine ⟨rfl, fun hw => ⟨_, stepG_load_atomic rfl rfl (by k_ne) rfl H.f_loadU64 (x_loadU64_n L) (x_loadU64_b L) (x_loadU64_x L) .u64 (x_loadU64_f L) rfl hw.cellSt, 40, ?_⟩⟩
    have hF : WgLive L.tWg Wg w₂ := ⟨_, _, hw⟩
    clear hw
    walk_nrm
    u_op (liveR kn) hF
    u_c stepG_region_end (liveR kn) hF
    u_c stepG_ret' (liveR kn) hF
    u_leave1 H.f_uLoad (liveR kn) hF
    u_op (liveR kn) hF
    u_op (liveR kn) hF
    u_c stepG_region_end (liveR kn) hF
    u_cond false (liveR kn) hF
    u_c stepG_skip (liveR kn) hF
    u_c stepG_seq (liveR kn) hF
    u_reg (liveR kn) hF
    u_op (liveR kn) hF
    u_op (liveR kn) hF
    u_op (liveR kn) hF
    u_call H.f_uStore (nm_uStore L) uStoreFn (liveR kn) hF
    u_reg (liveR kn) hF
    u_op (liveR kn) hF
    u_op (liveR kn) hF
    u_op (liveR kn) hF
    u_op (liveR kn) hF
    refine Goes.stop (fun w₃ h₃ => ?_)
    clear h₃ hF
    refine ⟨rfl, fun hw => ⟨_, stepG_store_atomic rfl rfl (by k_ne) rfl H.f_storeU64 (x_storeU64_n L) (x_storeU64_b L) (x_storeU64_x L) (x_storeU64_f L) rfl rfl hw.cellSt (hw.thaw 0), 50, ?_⟩⟩
    have hF : WgLive L.tWg Wg (w₃.setCell (stA Wg) (.int .u64 0)) := ⟨_, _, hw.setSt 0⟩
    clear hw
    walk_nrm
    u_c stepG_region_end (liveR kn) hF
    u_c stepG_end (liveR kn) hF
    u_leave0 H.f_uStore (liveR kn) hF
    u_c stepG_region_end (liveR kn) hF
    u_c stepG_seq (liveR kn) hF
    u_c stepG_seq (liveR kn) hF
    u_reg (liveR kn) hF
    u_op (liveR kn) hF
    u_c stepG_region_end (liveR kn) hF
    u_cond false (liveR kn) hF
    u_c stepG_skip (liveR kn) hF
    u_c stepG_block (liveR kn) hF
    u_c stepG_loop (liveR kn) hF
    u_c stepG_seq (liveR kn) hF
    u_c stepG_seq (liveR kn) hF
    u_reg (liveR kn) hF
    u_op (liveR kn) hF
    u_op (liveR kn) hF
    u_c stepG_region_end (liveR kn) hF
    u_cond true (liveR kn) hF
    u_c stepG_skip (liveR kn) hF
    u_c stepG_seq (liveR kn) hF
    u_c stepG_block (liveR kn) hF
    u_reg (liveR kn) hF
    u_op (liveR kn) hF
    u_op (liveR kn) hF
    u_op (liveR kn) hF
    refine Goes.stop (fun w₄ h₄ => ?_)
    clear h₄ hF
    refine ⟨rfl, mayWake_entry rfl rfl H.f_semrelease (x_semrelease_b L), fun hw => ⟨_, (stepG_semrelease rfl rfl (by k_ne) rfl H.f_semrelease (x_semrelease_n L) (x_semrelease_b L) (x_semrelease_x L) (x_semrelease_f L) (by simp [Act.eval, smA]) hw.cellSm (hw.thaw 1)).trans (by rfl), qt + 19, ?_⟩⟩
    clear hw
    walk_nrm
    q_c stepG_region_end
    q_c stepG_inBlock
    q_reg
    q_val (.int .u32 1)
    q_val (.int .u32 0)
    q_val (.int .u32 0)
    q_c stepG_region_end
    q_c stepG_inLoop
    q_c stepG_seq
    q_c stepG_seq
    q_reg
    q_val (.int .u32 0)
    q_val (.bool false)
    q_c stepG_region_end
    q_cond false
    q_exit
    q_c stepG_end
    q_enable
    q_leave0 H.f_add
    exact hT
  · replace hw : WgAt L.tWg Wg w₁ (((v : Nat) + 1) * KK + 0) 0 := by simpa using hw
    have z : ((v : Nat) : Int) * KK + ((0 : Nat) : Int) = (v : Int) * KK + 0 := by simp
    rw [z]
    have hv0 : 0 < v := by omega
    have eS : IntKind.u64.wrap (((v : Nat) + 1) * KK + 0 + 18446744069414584320) = (v : Int) * KK + 0 := by rw [IntKind.wrap_u64]; simp only [KK]; omega
    obtain ⟨S, hS⟩ : ∃ S : Int, S = (v : Int) * KK + 0 := ⟨_, rfl⟩
    rw [← hS] at eS ⊢
    have a1 : S / 4294967296 = (v : Int) := by rw [hS]; simp only [KK]; omega
    have a2 : 0 ≤ S ∧ S < 9223372036854775808 := by rw [hS]; simp only [KK]; omega
    have b1 : bits .and .u64 S 2147483648 = 0 := by rw [hS]; have := st_flag v 0 (by omega) (by omega); simpa [KK] using this
    have b2 : bits .and .u64 S 2147483647 = 0 := by rw [hS]; have := st_waiters v 0 (by omega) (by omega); simpa [KK] using this
    clear hS z
    refine ⟨_, (stepG_add_atomic rfl rfl (by k_ne) rfl H.f_addU64 (x_addU64_n L) (x_addU64_b L) (x_addU64_x L) .u64 (x_addU64_f L) rfl rfl hw.cellSt (hw.thaw 0)).trans (by rw [eS]; rfl), fun hl => absurd hl.1 (by omega), fun _ => ⟨qt + 89, ?_⟩⟩
    clear hw
    walk_nrm
    q_vn (.int .u64 S)
    q_c stepG_region_end
    q_c stepG_ret'
    q_leave1 H.f_uAdd
    q_vn (.int .u64 S)
    q_c stepG_region_end
    q_c stepG_seq
    q_c stepG_seq
    q_reg
    q_vn (.int .u64 S)
    q_vn (.int .u64 0)
    q_vn (.bool false)
    q_vn (.bool false)
    q_skip
    q_skip
    q_vn (.bool false)
    q_c stepG_region_end
    q_cond false
    q_c stepG_skip
    q_c stepG_seq
    q_reg
    q_vn (.int .u64 S)
    q_vn (.int .u64 (v : Int))
    q_vn (.int .i32 (v : Int))
    q_vn (.int .i32 (v : Int))
    q_c stepG_region_end
    q_c stepG_seq
    q_reg
    q_vn (.int .u64 S)
    q_vn (.int .u64 0)
    q_vn (.int .u32 0)
    q_vn (.int .u32 0)
    q_c stepG_region_end
    q_c stepG_seq
    q_c stepG_seq
    q_reg
    q_vn (.bool true)
    q_vn (.int .i64 (-1))
    q_vn (.bool false)
    q_vn (.bool false)
    q_vn (.bool false)
    q_skip
    q_skip
    q_skip
    q_skip
    q_vn (.bool false)
    q_c stepG_region_end
    q_cond false
    q_c stepG_skip
    q_c stepG_seq
    q_c stepG_seq
    q_reg
    q_vn (.int .i32 (v : Int))
    q_vn (.bool false)
    q_c stepG_region_end
    q_cond false
    q_c stepG_skip
    q_c stepG_seq
    q_c stepG_seq
    q_reg
    q_vn (.int .u32 0)
    q_vn (.bool false)
    q_vn (.bool false)
    q_skip
    q_skip
    q_vn (.bool false)
    q_vn (.bool false)
    q_skip
    q_skip
    q_skip
    q_skip
    q_vn (.bool false)
    q_c stepG_region_end
    q_cond false
    q_c stepG_skip
    q_c stepG_seq
    q_c stepG_seq
    q_reg
    q_vn (.int .i32 (v : Int))
    q_vn (.bool true)
    q_vn (.bool true)
    q_skip
    q_skip
    q_vn (.bool true)
    q_c stepG_region_end
    q_cond true
    q_c stepG_ret'
    q_enable
    q_leave0 H.f_add
    exact hT
  · replace hw : WgAt L.tWg Wg w₁ (((v : Nat) + 1) * KK + 1) 0 := by simpa using hw
    have z : ((v : Nat) : Int) * KK + ((1 : Nat) : Int) = (v : Int) * KK + 1 := by simp
    rw [z]
    have hv0 : 0 < v := by omega
    have eS : IntKind.u64.wrap (((v : Nat) + 1) * KK + 1 + 18446744069414584320) = (v : Int) * KK + 1 := by rw [IntKind.wrap_u64]; simp only [KK]; omega
    obtain ⟨S, hS⟩ : ∃ S : Int, S = (v : Int) * KK + 1 := ⟨_, rfl⟩
    rw [← hS] at eS ⊢
    have a1 : S / 4294967296 = (v : Int) := by rw [hS]; simp only [KK]; omega
    have a2 : 0 ≤ S ∧ S < 9223372036854775808 := by rw [hS]; simp only [KK]; omega
    have b1 : bits .and .u64 S 2147483648 = 0 := by rw [hS]; have := st_flag v 1 (by omega) (by omega); simpa [KK] using this
    have b2 : bits .and .u64 S 2147483647 = 1 := by rw [hS]; have := st_waiters v 1 (by omega) (by omega); simpa [KK] using this
    clear hS z
    refine ⟨_, (stepG_add_atomic rfl rfl (by k_ne) rfl H.f_addU64 (x_addU64_n L) (x_addU64_b L) (x_addU64_x L) .u64 (x_addU64_f L) rfl rfl hw.cellSt (hw.thaw 0)).trans (by rw [eS]; rfl), fun hl => absurd hl.1 (by omega), fun _ => ⟨qt + 89, ?_⟩⟩
    clear hw
    walk_nrm
    q_vn (.int .u64 S)
    q_c stepG_region_end
    q_c stepG_ret'
    q_leave1 H.f_uAdd
    q_vn (.int .u64 S)
    q_c stepG_region_end
    q_c stepG_seq
    q_c stepG_seq
    q_reg
    q_vn (.int .u64 S)
    q_vn (.int .u64 0)
    q_vn (.bool false)
    q_vn (.bool false)
    q_skip
    q_skip
    q_vn (.bool false)
    q_c stepG_region_end
    q_cond false
    q_c stepG_skip
    q_c stepG_seq
    q_reg
    q_vn (.int .u64 S)
    q_vn (.int .u64 (v : Int))
    q_vn (.int .i32 (v : Int))
    q_vn (.int .i32 (v : Int))
    q_c stepG_region_end
    q_c stepG_seq
    q_reg
    q_vn (.int .u64 S)
    q_vn (.int .u64 1)
    q_vn (.int .u32 1)
    q_vn (.int .u32 1)
    q_c stepG_region_end
    q_c stepG_seq
    q_c stepG_seq
    q_reg
    q_vn (.bool true)
    q_vn (.int .i64 (-1))
    q_vn (.bool false)
    q_vn (.bool false)
    q_vn (.bool false)
    q_skip
    q_skip
    q_skip
    q_skip
    q_vn (.bool false)
    q_c stepG_region_end
    q_cond false
    q_c stepG_skip
    q_c stepG_seq
    q_c stepG_seq
    q_reg
    q_vn (.int .i32 (v : Int))
    q_vn (.bool false)
    q_c stepG_region_end
    q_cond false
    q_c stepG_skip
    q_c stepG_seq
    q_c stepG_seq
    q_reg
    q_vn (.int .u32 1)
    q_vn (.bool true)
    q_vn (.bool true)
    q_vn (.int .i64 (-1))
    q_vn (.bool false)
    q_vn (.bool false)
    q_vn (.bool false)
    q_skip
    q_skip
    q_skip
    q_skip
    q_vn (.bool false)
    q_c stepG_region_end
    q_cond false
    q_c stepG_skip
    q_c stepG_seq
    q_c stepG_seq
    q_reg
    q_vn (.int .i32 (v : Int))
    q_vn (.bool true)
    q_vn (.bool true)
    q_skip
    q_skip
    q_vn (.bool true)
    q_c stepG_region_end
    q_cond true
    q_c stepG_ret'
    q_enable
    q_leave0 H.f_add
    exact hT
set_option maxRecDepth 100000 in
/-- Done, called. -/
theorem doneW (H : WgLib P L) (kn : ∀ a b, R a b → WgLive L.tWg Wg a → WgLive L.tWg Wg b) (hT : QuitsD P qt 0 (G (b₀.at (a₀.put ((ops₀[i₀]?).bind (·.dst)) (.tuple #[])) (.inRegion ops₀ rest₀ :: k₀)) cs)) (w : World) (hK : WgLive L.tWg Wg w) :
    Goes P false R DC0 (KR P L.tWg Wg R) 23 (G ((base L.done).at ⟨#[.pointer (some ⟨Wg, 0, none⟩), undef, undef, undef], []⟩ [.code (body_done L)]) (b₀.at a₀ (.inRegion ops₀ (i₀ :: rest₀) :: k₀) :: cs)) w := by
  lib_facts
  have hA := @addNeg L P R Wg
  simp only [body_done, body_add, doneFn, addFn, Option.getD_some] at hA ⊢
  u_reg (liveR kn) hK
  u_op (liveR kn) hK
  u_in (liveR kn) hK
  refine goes_call rfl rfl (by k_ne) rfl H.f_add (nm_add L) rfl ⟨by u_nil, ?_⟩
  walk_nrmf addFn
  refine hA (qt := qt + 3) H kn ?_ _ hK
  q_c stepG_region_end
  q_c stepG_end
  q_leave0 H.f_done
  exact hT
end
end Go.Proofs.Ytmmolicodlmlkaa.Ph
namespace Go.Proofs.Ytmmolicodlmlkaa.Ph
open Go.Conc Go.ConcN Go.RowKit Go.Conc.Lib Go.ConcR.Gen Go.ConcN.Gen
open Go.ConcR (KK wgBlock WgAt stA smA rd wr mk DC0 Payload)
open Go.Proofs.Ytmmolicodlmlkaa.Rel (RS DS EvS Tr Sub GoT Go1)
set_option linter.unusedVariables false
set_option linter.unusedSimpArgs false

theorem dft_defers : (default : Frame).defers = [] := rfl
theorem dft_todo : (default : Frame).todo = [] := rfl
/-- The frame with which a goroutine begins and ends. -/
def bot (P : Program) : Frame := { (default : Frame) with fn := P.funcs.size, mode := .panicking [goexitEntry] }
/-- The deferred call of a closure. -/
def dclos (f : FuncId) (cap : Array Value) : Deferred := { target := .fn (.func f) cap, args := #[] }
section
variable {P : Program} {main : Bool} {b : Frame} {a : Act} {k : List Item} {cs : List Frame} {w : World} {f : FuncId} {fn : Func} {c : Code} {cap : Array Value} {ds : List Deferred} {todo : List Item} {ops : Array Oper} {i : Nat} {rest : List Nat} {o : Oper}
theorem stepG_born (hf : P.funcs[f]? = some fn) (hname : (fn.name == "runtime.NumGoroutine") = false) (hb : fn.body = some c) :
    stepG P main (born P (dclos f cap)) w = .go (G ((baseD f).at { tmps := cap ++ Array.replicate (fn.ntmps - cap.size) undef, defers := [] } [.code c]) [bot P]) w #[] := by
  have h1 : ¬ fn.name = "runtime.NumGoroutine" := by simpa using hname
  rw [← enter_atD cap hf hb]
  simp [born, G, stepG, unwind, callDeferred, dclos, invoke, callFunc, hf, h1, hb, GStep.after, seen_none, bot, dft_defers]
theorem stepG_bot : stepG P false (G (bot P) []) w = .go { G (bot P) [] with status := .finished } w #[] := by
  simp [G, stepG, unwind, bot, Frame.catches, goexitEntry, dft_defers, dft_todo]
/-- A deferred closure is entered. -/
theorem stepG_unwind_closure (hd : a.defers = dclos f cap :: ds) (hf : P.funcs[f]? = some fn) (hname : (fn.name == "runtime.NumGoroutine") = false) (hb : fn.body = some c) :
    stepG P main (G { b.at a todo with mode := .returning } cs) w =
      .go (G ((baseD f).at { tmps := cap ++ Array.replicate (fn.ntmps - cap.size) undef, defers := [] } [.code c]) ({ b.at ⟨a.tmps, ds⟩ todo with mode := .returning } :: cs)) w #[] := by
  have h1 : ¬ fn.name = "runtime.NumGoroutine" := by simpa using hname
  rw [← enter_atD cap hf hb]
  simp [G, stepG, unwind, callDeferred, Frame.at, hd, dclos, invoke, callFunc, hf, h1, hb, GStep.after, seen_none]
/-- A deferred call returns into the first frame. -/
theorem stepG_leave_bot (hn : b.kind = .deferred) (hd : a.defers = []) (hf : P.funcs[b.fn]? = some fn) (hr : fn.results = #[]) :
    stepG P main (G { b.at a todo with mode := .returning } [bot P]) w = .go (G (bot P) []) w #[] := by
  have h1 := results_none hr a.tmps P w
  have h2 : (results fn a.tmps).events P w #[] = #[] := events_results_none hr a.tmps #[]
  simp [G, stepG, unwind, doReturn, Frame.at, hn, hd, hf, h1, h2, seen, GStep.after, bot, goexitEntry]
/-- 'defer' of a closure in a slot. -/
theorem stepG_defer_closure {t : Tmp} {ats : Array TypeId} (ho : ops[i]? = some o) (hw : Region.wanted o (yielded ops a.tmps) = true) (hk : b.kind ≠ .early) (hop : o.op = .defer { callee := .value (.tmp t), args := #[], argTypes := ats })
    (hv : a.eval (.tmp t) = .func (.func f) #[] cap) :
    stepG P main (G (b.at a (.inRegion ops (i :: rest) :: k)) cs) w = .go (G (b.at (Act.put ⟨a.tmps, dclos f cap :: a.defers⟩ o.dst undef) (.inRegion ops rest :: k)) cs) w #[] := by
  have hr : (execOp a.eval o).run P w = .ok (.defer (dclos f cap)) w := by
    unfold execOp
    simp [hop, resolve, Deferred.ofValue, hv, dclos]
  have he : (execOp a.eval o).events P w #[] = #[] := by
    unfold execOp
    simp [hop, resolve, Deferred.ofValue, hv]
  have hfin : (b.at ⟨a.tmps, dclos f cap :: a.defers⟩ (.inRegion ops (i :: rest) :: k)).finish undef = b.at (Act.put ⟨a.tmps, dclos f cap :: a.defers⟩ o.dst undef) (.inRegion ops rest :: k) := by rw [Frame.finish_at, ho]; rfl
  have hk' : (b.kind == CallKind.early) = false := by simpa using hk
  rw [stepG_oper ho hw, ← hfin]
  simp [stepG.apply, hr, he, G, Frame.at, hk', GStep.after, seen_none]
/-- 'recover' where the caller is on its way out by a plain return. -/
theorem stepG_recover {ats : Array TypeId} {c : Frame} (ho : ops[i]? = some o) (hw : Region.wanted o (yielded ops a.tmps) = true) (hk : b.kind = .deferred) (hr0 : b.roundOf = none) (hop : o.op = .call { callee := .builtin .recover, args := #[], argTypes := ats })
    (hc : c.mode = .returning) :
    stepG P main (G (b.at a (.inRegion ops (i :: rest) :: k)) (c :: cs)) w = .go (G (b.at (a.put o.dst .nilIface) (.inRegion ops rest :: k)) (c :: cs)) w #[] := by
  have hr : (execOp a.eval o).run P w = .ok .recover w := by
    unfold execOp
    simp [hop, resolve, invoke, builtin]
  have he : (execOp a.eval o).events P w #[] = #[] := by
    unfold execOp
    simp [hop, resolve, invoke, builtin]
  have hfin : (b.at a (.inRegion ops (i :: rest) :: k)).finish .nilIface = b.at (a.put o.dst .nilIface) (.inRegion ops rest :: k) := by rw [Frame.finish_at, ho]; rfl
  have hk' : (b.kind == CallKind.early) = false := by rw [hk]; rfl
  rw [stepG_oper ho hw, ← hfin]
  simp [stepG.apply, hr, he, G, Frame.at, hk', hk, hr0, GStep.after, seen_none, tryRecover, hc]
/-- A call of a closure in a slot. -/
theorem stepG_call_closure {t : Tmp} {args : Array Operand} {ats : Array TypeId} (ho : ops[i]? = some o) (hw : Region.wanted o (yielded ops a.tmps) = true) (hk : b.kind ≠ .early) (hop : o.op = .call { callee := .value (.tmp t), args := args, argTypes := ats })
    (hv : a.eval (.tmp t) = .func (.func f) #[] cap) (hf : P.funcs[f]? = some fn) (hname : (fn.name == "runtime.NumGoroutine") = false) (hb : fn.body = some c) :
    stepG P main (G (b.at a (.inRegion ops (i :: rest) :: k)) cs) w = .go (G (Frame.enter P f (args.map a.eval ++ cap) .normal) (b.at a (.inRegion ops (i :: rest) :: k) :: cs)) w #[] := by
  have h1 : ¬ fn.name = "runtime.NumGoroutine" := by simpa using hname
  have hr : (execOp a.eval o).run P w = .ok (.enter f (args.map a.eval ++ cap)) w := by
    unfold execOp
    simp [hop, resolve, Deferred.ofValue, hv, invoke, callFunc, hf, h1, hb]
  have he : (execOp a.eval o).events P w #[] = #[] := by
    unfold execOp
    simp [hop, resolve, Deferred.ofValue, hv, invoke, callFunc, hf, h1, hb]
  rw [stepG_enter ho hw hk hr]
  have : listed P b.fn a o w = #[] := by unfold listed; rw [he]; exact seen_none P _
  rw [this]
end
/-! ### a worker's own steps -/
/-- Nothing turns; what is listed is let. -/
def DE1 (Rd S : Nat → Prop) (a b : World) (es : Array Event) : Prop := b = a ∧ ∀ e ∈ es, EvS Rd S e
theorem de1_none {Rd S : Nat → Prop} {w : World} {es : Array Event} (h : ∀ e ∈ es, False) : DE1 Rd S w w es := ⟨rfl, fun e he => (h e he).elim⟩
section
variable {P : Program} {ty : TypeId} {Wg C : Nat} {mine : Nat → Prop} {Rd S : Nat → Prop} {Stop : (Nat → Prop) → Goroutine → World → Prop} {g : Goroutine} {w : World} {n : Nat}
theorem dw_same {a b : World} {es : Array Event} (h : DE1 Rd S a b es) : DW Wg C mine Rd S a b es S := by
  obtain ⟨rfl, h⟩ := h
  exact ⟨rfl, rfl, rfl, Nat.le_refl _, fun b => ⟨.inl, fun h => h.elim id fun h => by omega⟩, fun _ _ _ _ => rfl, .refl _ _ _, fun e he => .inl (h e he)⟩
abbrev GW (P : Program) (ty : TypeId) (Wg C : Nat) (mine Rd : Nat → Prop) (Stop : (Nat → Prop) → Goroutine → World → Prop) : (Nat → Prop) → Goroutine → World → Prop := Go1 P false (RW ty Wg C mine Rd) (DW Wg C mine Rd) Stop
theorem gw_seg (h : Goes P false (RW ty Wg C mine Rd S) (DE1 Rd S) (fun g w => GW P ty Wg C mine Rd Stop S g w) n g w) : GW P ty Wg C mine Rd Stop S g w :=
  Go1.bind (fun _ a => RW.refl a) (Go1.of_goes (Stop := fun S g w => GW P ty Wg C mine Rd Stop S g w) (fun _ _ h => h) (fun _ _ _ h => dw_same h) (fun _ _ h => h) h) fun _ _ _ h => h
theorem gw_last (h : Goes P false (RW ty Wg C mine Rd S) (DE1 Rd S) (Stop S) n g w) : GW P ty Wg C mine Rd Stop S g w := Go1.of_goes (fun _ _ h => h) (fun _ _ _ h => dw_same h) (fun _ _ h => h) h
end
/-- What stands under every step may be kept beside a walk. -/
theorem goes_keep {P : Program} {main : Bool} {R : World → World → Prop} {Stop : Goroutine → World → Prop} {I : World → Prop} (hI : ∀ a b, R a b → I a → I b) : ∀ {n : Nat} {g : Goroutine} {w : World}, I w → Goes P main R DC0 Stop n g w → Goes P main R DC0 (fun g w => I w ∧ Stop g w) n g w
  | 0, g, w, hi, h => fun w₁ h₁ => ⟨hI _ _ h₁ hi, h w₁ h₁⟩
  | n + 1, g, w, hi, h => by
    rcases h with h | ⟨hs, h⟩
    · exact .inl fun w₁ h₁ => ⟨hI _ _ h₁ hi, h w₁ h₁⟩
    · refine .inr ⟨hs, fun w₁ h₁ => ?_⟩
      have h2 := h w₁ h₁
      cases hg : stepG P main g w₁ with
      | go g' w' es =>
        rw [hg] at h2
        refine ⟨h2.1, goes_keep hI ?_ h2.2⟩
        rw [h2.1.1]
        exact hI _ _ h₁ hi
      | _ => rw [hg] at h2; exact h2.elim
end Go.Proofs.Ytmmolicodlmlkaa.Ph
namespace Go.Proofs.Ytmmolicodlmlkaa.Ph
open Go.Conc Go.ConcN Go.RowKit Go.Conc.Lib Go.ConcR.Gen Go.ConcN.Gen
open Go.ConcR (KK wgBlock WgAt stA smA rd wr mk DC0 Payload)
open Go.Proofs.Ytmmolicodlmlkaa.Rel (RS DS EvS Tr Sub GoT Go1)
set_option linter.unusedVariables false
set_option linter.unusedSimpArgs false

/-- What stands under every step may be kept beside a walk. -/
theorem go1_keep {σ : Type} {P : Program} {main : Bool} {R : σ → World → World → Prop} {D : σ → World → World → Array Event → σ → Prop} {Stop : σ → Goroutine → World → Prop} {I : σ → World → Prop} (hR : ∀ s a b, R s a b → I s a → I s b) (hD : ∀ s a b es s', D s a b es s' → I s a → I s' b) {s : σ} {g : Goroutine} {w : World} (hi : I s w)
    (h : Go1 P main R D Stop s g w) : Go1 P main R D (fun s g w => I s w ∧ Stop s g w) s g w := by
  obtain ⟨T, h⟩ := h
  induction T generalizing s g w with
  | leaf => exact .stop fun w₁ h₁ => ⟨hR _ _ _ h₁ hi, h w₁ h₁⟩
  | node f ih =>
    refine .intro fun w₁ h₁ => ?_
    rcases h w₁ h₁ with h2 | ⟨hr, g', w', es, s', h2, h3, h4⟩
    · exact .inl ⟨hR _ _ _ h₁ hi, h2⟩
    · exact .inr ⟨hr, g', w', es, s', h2, h3, ih w₁ (hD _ _ _ _ _ h3 (hR _ _ _ h₁ hi)) h4⟩
theorem Go1.widen {σ : Type} {P : Program} {main : Bool} {R : σ → World → World → Prop} {D : σ → World → World → Array Event → σ → Prop} {Stop Stop' : σ → Goroutine → World → Prop} {s : σ} {g : Goroutine} {w : World} (h : Go1 P main R D Stop s g w) (k : ∀ s g w, Stop s g w → Stop' s g w) : Go1 P main R D Stop' s g w :=
  let ⟨T, h⟩ := h
  ⟨T, h.mono (fun _ _ _ h => h) (fun _ _ _ _ _ h => h) k⟩
/-- A cell of a block that stands. -/
theorem cell_stay {w w₁ : World} {a : Addr} (h : w₁.heap[a.block]? = w.heap[a.block]?) : w₁.cell? a = w.cell? a := by unfold World.cell?; rw [h]
abbrev ptr (b : Nat) : Value := .pointer (some ⟨b, 0, none⟩)
/-- What a worker reads: the group's box, its function's box, the numbers' boxes, the work's box. -/
structure WkF (Wg bw bf b1 bn bk bd : Nat) (n k j : Nat) (fd : FuncId) (capd : Array Value) (Rd : Nat → Prop) (w : World) : Prop where
  rw : Rd bw
  rf : Rd bf
  r1 : Rd b1
  rn : Rd bn
  rk : Rd bk
  rd : Rd bd
  cw : w.cell? ⟨bw, 0, none⟩ = some (ptr Wg)
  cf : w.cell? ⟨bf, 0, none⟩ = some (.func (.func 126) #[] #[ptr b1, ptr bn, ptr bk, ptr bd])
  c1 : w.cell? ⟨b1, 0, none⟩ = some (.int .i64 j)
  cn : w.cell? ⟨bn, 0, none⟩ = some (.int .i64 n)
  ck : w.cell? ⟨bk, 0, none⟩ = some (.int .i64 k)
  cd : w.cell? ⟨bd, 0, none⟩ = some (.func (.func fd) #[] capd)
section
variable {Wg C bw bf b1 bn bk bd n k j : Nat} {fd : FuncId} {capd : Array Value} {Rd S S' mine : Nat → Prop} {w w₁ w' : World} {ty : TypeId} {es : Array Event}
theorem WkF.stay (h : WkF Wg bw bf b1 bn bk bd n k j fd capd Rd w) (hs : ∀ b, Rd b → w₁.heap[b]? = w.heap[b]?) : WkF Wg bw bf b1 bn bk bd n k j fd capd Rd w₁ :=
  ⟨h.rw, h.rf, h.r1, h.rn, h.rk, h.rd, (cell_stay (hs _ h.rw)).trans h.cw, (cell_stay (hs _ h.rf)).trans h.cf, (cell_stay (hs _ h.r1)).trans h.c1, (cell_stay (hs _ h.rn)).trans h.cn, (cell_stay (hs _ h.rk)).trans h.ck, (cell_stay (hs _ h.rd)).trans h.cd⟩
/-- Where the blocks lie. -/
structure WI (Wg C : Nat) (Rd S : Nat → Prop) (w : World) : Prop where
  wg : Wg < w.heap.size ∧ ¬ S Wg
  c : C < w.heap.size ∧ ¬ S C
  cw : C ≠ Wg
  s : ∀ b, S b → b < w.heap.size
  rd : ∀ b, Rd b → b < w.heap.size ∧ ¬ S b ∧ b ≠ C
theorem WI.rely (h : WI Wg C Rd S w) (hs : w.heap.size ≤ w₁.heap.size) : WI Wg C Rd S w₁ :=
  ⟨⟨Nat.lt_of_lt_of_le h.wg.1 hs, h.wg.2⟩, ⟨Nat.lt_of_lt_of_le h.c.1 hs, h.c.2⟩, h.cw, fun b hb => Nat.lt_of_lt_of_le (h.s b hb) hs, fun b hb => ⟨Nat.lt_of_lt_of_le (h.rd b hb).1 hs, (h.rd b hb).2⟩⟩
theorem WI.own (h : WI Wg C Rd S w) (hs : w.heap.size ≤ w'.heap.size) (ho : ∀ b, S' b ↔ S b ∨ (w.heap.size ≤ b ∧ b < w'.heap.size)) : WI Wg C Rd S' w' := by
  have no : ∀ b, b < w.heap.size → ¬ S b → ¬ S' b := fun b hb hn hs' => ((ho b).1 hs').elim hn fun h => by omega
  refine ⟨⟨Nat.lt_of_lt_of_le h.wg.1 hs, no _ h.wg.1 h.wg.2⟩, ⟨Nat.lt_of_lt_of_le h.c.1 hs, no _ h.c.1 h.c.2⟩, h.cw, fun b hb => ?_, fun b hb => ⟨Nat.lt_of_lt_of_le (h.rd b hb).1 hs, no _ (h.rd b hb).1 (h.rd b hb).2.1, (h.rd b hb).2.2⟩⟩
  rcases (ho b).1 hb with h1 | ⟨_, h1⟩
  · exact Nat.lt_of_lt_of_le (h.s b h1) hs
  · exact h1
/-- What a worker knows at every step. -/
structure WInv (ty : TypeId) (Wg C : Nat) (bw bf b1 bn bk bd : Nat) (n k j : Nat) (fd : FuncId) (capd : Array Value) (Rd S : Nat → Prop) (w : World) : Prop where
  geo : WI Wg C Rd S w
  live : WgLive ty Wg w
  fac : WkF Wg bw bf b1 bn bk bd n k j fd capd Rd w
theorem WInv.rely (r : RW ty Wg C mine Rd S w w₁) (h : WInv ty Wg C bw bf b1 bn bk bd n k j fd capd Rd S w) : WInv ty Wg C bw bf b1 bn bk bd n k j fd capd Rd S w₁ := ⟨h.geo.rely r.size, r.live h.live, h.fac.stay r.rd⟩
theorem WInv.own (d : DW Wg C mine Rd S w w' es S') (h : WInv ty Wg C bw bf b1 bn bk bd n k j fd capd Rd S w) : WInv ty Wg C bw bf b1 bn bk bd n k j fd capd Rd S' w' :=
  ⟨h.geo.own d.size d.own, live_of_block (d.old _ h.geo.wg.1 h.geo.wg.2 (Ne.symm h.geo.cw)) h.live, h.fac.stay fun b hb => d.old b (h.geo.rd b hb).1 (h.geo.rd b hb).2.1 (h.geo.rd b hb).2.2⟩
theorem ev_rd {b o : Nat} (h : Rd b) : EvS Rd S ⟨.cell ⟨b, o, none⟩, false, false⟩ := .inl ⟨_, rfl, .inr ⟨h, rfl⟩, rfl⟩
end
theorem ev_neq_nil (w : World) : (binOp .neq 20 .nilIface .nilIface).events Try.prog w #[] = #[] := by kernel_rfl
theorem nm_go1 : (Try.f141.name == "runtime.NumGoroutine") = false := by kernel_rfl
theorem nm_go11 : (Try.f142.name == "runtime.NumGoroutine") = false := by kernel_rfl
theorem nm_sw1 : (Try.f126.name == "runtime.NumGoroutine") = false := by kernel_rfl
section
variable {Wg C bw bf b1 bn bk bd n k j : Nat} {fd : FuncId} {capd : Array Value} {Rd mine : Nat → Prop} {Fact : (Nat → Prop) → World → Prop}
set_option maxRecDepth 100000 in
set_option maxHeartbeats 4000000 in
/-- The way out: the release, and what is behind it. -/
theorem worker_done (hFst : ∀ S w w₁, RW link.tWg Wg C mine Rd S w w₁ → Fact S w → Fact S w₁) {S : Nat → Prop} {w : World} {T : Array Value} {todo : List Item} (hT : T.size = 5)
    (hI : WInv link.tWg Wg C bw bf b1 bn bk bd n k j fd capd Rd S w) (hfact : Fact S w) :
    GW Try.prog link.tWg Wg C mine Rd (fun S g w => Fact S w ∧ KR Try.prog link.tWg Wg (RW link.tWg Wg C mine Rd S) g w) S
      (G { (baseD 141).at ⟨T, [dclos 142 #[ptr bw]]⟩ todo with mode := .returning } [bot Try.prog]) w := by
  have hF : WInv link.tWg Wg C bw bf b1 bn bk bd n k j fd capd Rd S w ∧ Fact S w := ⟨hI, hfact⟩
  have rl : ∀ {a b : World}, WInv link.tWg Wg C bw bf b1 bn bk bd n k j fd capd Rd S a ∧ Fact S a → RW link.tWg Wg C mine Rd S a b → WInv link.tWg Wg C bw bf b1 bn bk bd n k j fd capd Rd S b ∧ Fact S b := fun h r => ⟨h.1.rely r, hFst _ _ _ r h.2⟩
  refine gw_seg (n := 40) ?_
  u_in rl hF
  rw [stepG_unwind_closure rfl Try.func142 nm_go11 rfl]
  simp only [goes_go]
  refine ⟨by (refine de1_none ?_; intro e he; simp at he), ?_⟩
  walk_nrmf Try.f142
  (u_in rl hF; rw [stepG_seq]; simp only [goes_go]; refine ⟨by (refine de1_none ?_; intro e he; simp at he), ?_⟩)
  (u_in rl hF; rw [stepG_seq]; simp only [goes_go]; refine ⟨by (refine de1_none ?_; intro e he; simp at he), ?_⟩)
  (u_in rl hF; rw [stepG_region]; simp only [goes_go, List.size_toArray, List.length_cons, List.length_nil, Nat.reduceAdd, Nat.zero_add, List.range, List.range.loop]; refine ⟨by (refine de1_none ?_; intro e he; simp at he), ?_⟩)
  u_in rl hF
  rw [stepG_recover rfl rfl rfl rfl rfl rfl]
  simp only [goes_go]
  refine ⟨by (refine de1_none ?_; intro e he; simp at he), ?_⟩
  walk_nrm
  u_in rl hF
  refine goes_oper_k rfl rfl (by k_ne) (fun K hK => ?_)
  go_simp
  refine hK _ _ ⟨?_, ?_⟩
  · refine de1_none ?_
    intro e he
    have hm := mem_listed he
    simp [go_sem, *] at hm
  clear hK K
  try w_num
  (u_in rl hF; rw [stepG_region_end]; simp only [goes_go]; refine ⟨by (refine de1_none ?_; intro e he; simp at he), ?_⟩)
  (u_in rl hF; rw [stepG_seq]; simp only [goes_go]; refine ⟨by (refine de1_none ?_; intro e he; simp at he), ?_⟩)
  (u_in rl hF; rw [stepG_region]; simp only [goes_go, List.size_toArray, List.length_cons, List.length_nil, Nat.reduceAdd, Nat.zero_add, List.range, List.range.loop]; refine ⟨by (refine de1_none ?_; intro e he; simp at he), ?_⟩)
  u_in rl hF
  refine goes_oper_k rfl rfl (by k_ne) (fun K hK => ?_)
  go_simp
  refine hK _ _ ⟨?_, ?_⟩
  · refine de1_none ?_
    intro e he
    have hm := mem_listed he
    simp [go_sem, *] at hm
  clear hK K
  try w_num
  have hev := ev_neq_nil
  u_in rl hF
  refine goes_oper_k rfl rfl (by k_ne) (fun K hK => ?_)
  go_simp
  refine hK _ _ ⟨?_, ?_⟩
  · refine de1_none ?_
    intro e he
    have hm := mem_listed he
    simp [go_sem, *] at hm
  clear hK K
  try w_num
  clear hev
  (u_in rl hF; rw [stepG_region_end]; simp only [goes_go]; refine ⟨by (refine de1_none ?_; intro e he; simp at he), ?_⟩)
  (u_in rl hF; rw [stepG_cond (t := false) rfl]; simp only [goes_go, if_true, if_false, Bool.false_eq_true, ↓reduceIte]; refine ⟨by (refine de1_none ?_; intro e he; simp at he), ?_⟩)
  (u_in rl hF; rw [stepG_skip]; simp only [goes_go]; refine ⟨by (refine de1_none ?_; intro e he; simp at he), ?_⟩)
  (u_in rl hF; rw [stepG_region]; simp only [goes_go, List.size_toArray, List.length_cons, List.length_nil, Nat.reduceAdd, Nat.zero_add, List.range, List.range.loop]; refine ⟨by (refine de1_none ?_; intro e he; simp at he), ?_⟩)
  g_opw rl hF [hF.1.fac.cw] rfl (ev_rd hF.1.fac.rw)
  u_in rl hF
  refine goes_call rfl rfl (by k_ne) rfl wgLib.f_done (nm_done link) rfl ⟨by (refine de1_none ?_; intro e he; simp at he), ?_⟩
  walk_nrmf doneFn
  refine Goes.stop (fun w₂ h₂ => ?_)
  replace hF := rl hF h₂
  clear h₂
  have hD := @doneW link Try.prog (RW link.tWg Wg C mine Rd S) Wg
  simp only [body_done, doneFn, Option.getD_some] at hD
  refine Go1.of_goes (R₁ := RW link.tWg Wg C mine Rd S) (D₁ := DC0) (n := 23) (fun _ _ h => h) (fun a b es h => dw_same ⟨h.1, by rw [h.2]; simp⟩) (fun g w h => h) (goes_keep (I := Fact S) (fun a b r h => hFst _ _ _ r h) hF.2 (hD (qt := 5) wgLib (fun a b r h => r.live h) ?_ w₂ hF.1.live))
  q_c stepG_region_end
  q_c stepG_end
  refine QuitsD.leaveD rfl rfl Try.func142 rfl rfl ?_
  q_c (stepG_leave_bot rfl rfl Try.func141 rfl)
  q_c stepG_bot
  exact ⟨rfl, rfl⟩
end
end Go.Proofs.Ytmmolicodlmlkaa.Ph
namespace Go.Proofs.Ytmmolicodlmlkaa.Ph
open Go.Conc Go.ConcN Go.RowKit Go.Conc.Lib Go.ConcR.Gen Go.ConcN.Gen
open Go.ConcR (KK wgBlock WgAt stA smA rd wr mk DC0 Payload)
open Go.Proofs.Ytmmolicodlmlkaa.Rel (RS DS EvS Tr Sub GoT Go1)
set_option linter.unusedVariables false
set_option linter.unusedSimpArgs false

noncomputable def lw : Code := match Try.f126.body with | some (.seq _ (.block _ (.loop c))) => c | _ => .skip
section
variable {Wg C bw bf b1 bn bk bd n k j : Nat} {fd : FuncId} {fn : Func} {code : Code} {capd : Array Value} {Rd mine : Nat → Prop} {J : Nat → (Nat → Prop) → World → Prop} {Stop : (Nat → Prop) → Goroutine → World → Prop}
  {b₀ : Frame} {a₀ : Act} {ops₀ : Array Oper} {i₀ : Nat} {rest₀ : List Nat} {k₀ : List Item} {cs : List Frame}
set_option maxRecDepth 100000 in
set_option maxHeartbeats 4000000 in
theorem worker_loop (hn : n < 4294967296) (hk : 1 ≤ k ∧ k < 4294967296) (hfn : Try.prog.funcs[fd]? = some fn) (hnm : (fn.name == "runtime.NumGoroutine") = false) (hbd : fn.body = some code)
    (hJ : ∀ i S a b, RW link.tWg Wg C mine Rd S a b → J i S a → J i S b)
    (hdo : ∀ (i : Nat) (S : Nat → Prop) (w : World) (b : Frame) (a : Act) (ops : Array Oper) (x : Nat) (rest : List Nat) (kk : List Item) (cs : List Frame), i < n → WInv link.tWg Wg C bw bf b1 bn bk bd n k j fd capd Rd S w → J i S w →
      GW Try.prog link.tWg Wg C mine Rd (fun S' g' w' => g' = G (b.at (a.put ((ops[x]?).bind (·.dst)) (.tuple #[])) (.inRegion ops rest :: kk)) cs ∧ J (i + k) S' w') S (G (Frame.enter Try.prog fd (#[.int .i64 i] ++ capd) .normal) (b.at a (.inRegion ops (x :: rest) :: kk) :: cs)) w)
    (hend : ∀ i S w, n ≤ i → WInv link.tWg Wg C bw bf b1 bn bk bd n k j fd capd Rd S w → J i S w → GW Try.prog link.tWg Wg C mine Rd Stop S (G (b₀.at (a₀.put ((ops₀[i₀]?).bind (·.dst)) (.tuple #[])) (.inRegion ops₀ rest₀ :: k₀)) cs) w) :
    ∀ (m i : Nat), n ≤ i + m → i < 8589934592 → ∀ (S : Nat → Prop) (w : World) (v5 v6 v7 v8 v9 v10 v11 v12 v13 v14 : Value), WInv link.tWg Wg C bw bf b1 bn bk bd n k j fd capd Rd S w → J i S w →
      GW Try.prog link.tWg Wg C mine Rd Stop S (G ((base 126).at ⟨#[ptr b1, ptr bn, ptr bk, ptr bd, .int .i64 i, v5, v6, v7, v8, v9, v10, v11, v12, v13, v14], []⟩ [.code lw, .inLoop lw, .inBlock 0]) (b₀.at a₀ (.inRegion ops₀ (i₀ :: rest₀) :: k₀) :: cs)) w := by
  intro m
  induction m with
  | zero | succ m ih => ?_
  all_goals
    intro i hm hi8 S w v5 v6 v7 v8 v9 v10 v11 v12 v13 v14 hI hj
    have hF : WInv link.tWg Wg C bw bf b1 bn bk bd n k j fd capd Rd S w ∧ J i S w := ⟨hI, hj⟩
    clear hI hj
    have rl : ∀ {a b : World}, WInv link.tWg Wg C bw bf b1 bn bk bd n k j fd capd Rd S a ∧ J i S a → RW link.tWg Wg C mine Rd S a b → WInv link.tWg Wg C bw bf b1 bn bk bd n k j fd capd Rd S b ∧ J i S b := fun h r => ⟨h.1.rely r, hJ _ _ _ _ r h.2⟩
    refine gw_seg (n := 40) ?_
    simp only [lw, Try.f126]
    (u_in rl hF; rw [stepG_seq]; simp only [goes_go]; refine ⟨by (refine de1_none ?_; intro e he; simp at he), ?_⟩)
    (u_in rl hF; rw [stepG_seq]; simp only [goes_go]; refine ⟨by (refine de1_none ?_; intro e he; simp at he), ?_⟩)
    (u_in rl hF; rw [stepG_region]; simp only [goes_go, List.size_toArray, List.length_cons, List.length_nil, Nat.reduceAdd, Nat.zero_add, List.range, List.range.loop]; refine ⟨by (refine de1_none ?_; intro e he; simp at he), ?_⟩)
    u_in rl hF
    refine goes_oper_k rfl rfl (by k_ne) (fun K hK => ?_)
    go_simp
    refine hK _ _ ⟨?_, ?_⟩
    · refine de1_none ?_
      intro e he
      have hm := mem_listed he
      simp [go_sem, *] at hm
    clear hK K
    try w_num
    g_opw rl hF [hF.1.fac.cn] rfl (ev_rd hF.1.fac.rn)
    u_in rl hF
    refine goes_oper_k rfl rfl (by k_ne) (fun K hK => ?_)
    go_simp
    refine hK _ _ ⟨?_, ?_⟩
    · refine de1_none ?_
      intro e he
      have hm := mem_listed he
      simp [go_sem, *] at hm
    clear hK K
    try w_num
    (u_in rl hF; rw [stepG_region_end]; simp only [goes_go]; refine ⟨by (refine de1_none ?_; intro e he; simp at he), ?_⟩)
    by_cases hin : i < n
    rotate_left
    · -- none is left
      (u_in rl hF; rw [stepG_cond (t := false) (by first | rfl | (simp [Act.eval]; omega))]; simp only [goes_go, if_true, if_false, Bool.false_eq_true, ↓reduceIte]; refine ⟨by (refine de1_none ?_; intro e he; simp at he), ?_⟩)
      (u_in rl hF; refine goes_exit rfl ?_; refine ⟨by (refine de1_none ?_; intro e he; simp at he), ?_⟩)
      (u_in rl hF; rw [stepG_end]; simp only [goes_go]; refine ⟨by (refine de1_none ?_; intro e he; simp at he), ?_⟩)
      (u_in rl hF; refine goes_leave0 rfl rfl Try.func126 rfl ⟨by (refine de1_none ?_; intro e he; simp at he), ?_⟩; walk_nrm)
      exact Goes.stop fun w₁ h₁ => hend i S w₁ (by omega) (rl hF h₁).1 (rl hF h₁).2
  · omega
  · (u_in rl hF; rw [stepG_cond (t := true) (by first | rfl | (simp [Act.eval]; omega))]; simp only [goes_go, if_true, if_false, Bool.false_eq_true, ↓reduceIte]; refine ⟨by (refine de1_none ?_; intro e he; simp at he), ?_⟩)
    (u_in rl hF; rw [stepG_skip]; simp only [goes_go]; refine ⟨by (refine de1_none ?_; intro e he; simp at he), ?_⟩)
    (u_in rl hF; rw [stepG_seq]; simp only [goes_go]; refine ⟨by (refine de1_none ?_; intro e he; simp at he), ?_⟩)
    (u_in rl hF; rw [stepG_block]; simp only [goes_go]; refine ⟨by (refine de1_none ?_; intro e he; simp at he), ?_⟩)
    (u_in rl hF; rw [stepG_region]; simp only [goes_go, List.size_toArray, List.length_cons, List.length_nil, Nat.reduceAdd, Nat.zero_add, List.range, List.range.loop]; refine ⟨by (refine de1_none ?_; intro e he; simp at he), ?_⟩)
    g_opw rl hF [hF.1.fac.cd] rfl (ev_rd hF.1.fac.rd)
    u_in rl hF
    refine goes_oper_k rfl rfl (by k_ne) (fun K hK => ?_)
    go_simp
    refine hK _ _ ⟨?_, ?_⟩
    · refine de1_none ?_
      intro e he
      have hm := mem_listed he
      simp [go_sem, *] at hm
    clear hK K
    try w_num
    u_in rl hF
    rw [stepG_call_closure (cap := capd) (f := fd) rfl rfl (by k_ne) rfl rfl hfn hnm hbd]
    simp only [goes_go]
    refine ⟨by (refine de1_none ?_; intro e he; simp at he), ?_⟩
    walk_nrm
    refine Goes.stop fun w₁ h₁ => ?_
    replace hF := rl hF h₁
    clear h₁
    refine Go1.bind (fun _ a => RW.refl a) (go1_keep (I := fun S w => WInv link.tWg Wg C bw bf b1 bn bk bd n k j fd capd Rd S w) (fun _ _ _ r h => h.rely r) (fun _ _ _ _ _ d h => h.own d) hF.1 (hdo i S w₁ _ _ _ _ _ _ _ hin hF.1 hF.2)) ?_
    rintro S' g' w' ⟨hI', rfl, hj'⟩
    clear hF rl
    have hF : WInv link.tWg Wg C bw bf b1 bn bk bd n k j fd capd Rd S' w' ∧ J (i + k) S' w' := ⟨hI', hj'⟩
    have rl : ∀ {a b : World}, WInv link.tWg Wg C bw bf b1 bn bk bd n k j fd capd Rd S' a ∧ J (i + k) S' a → RW link.tWg Wg C mine Rd S' a b → WInv link.tWg Wg C bw bf b1 bn bk bd n k j fd capd Rd S' b ∧ J (i + k) S' b := fun h r => ⟨h.1.rely r, hJ _ _ _ _ r h.2⟩
    refine gw_seg (n := 40) ?_
    walk_nrm
    (u_in rl hF; rw [stepG_region_end]; simp only [goes_go]; refine ⟨by (refine de1_none ?_; intro e he; simp at he), ?_⟩)
    (u_in rl hF; rw [stepG_inBlock]; simp only [goes_go]; refine ⟨by (refine de1_none ?_; intro e he; simp at he), ?_⟩)
    (u_in rl hF; rw [stepG_region]; simp only [goes_go, List.size_toArray, List.length_cons, List.length_nil, Nat.reduceAdd, Nat.zero_add, List.range, List.range.loop]; refine ⟨by (refine de1_none ?_; intro e he; simp at he), ?_⟩)
    u_in rl hF
    refine goes_oper_k rfl rfl (by k_ne) (fun K hK => ?_)
    go_simp
    refine hK _ _ ⟨?_, ?_⟩
    · refine de1_none ?_
      intro e he
      have hm := mem_listed he
      simp [go_sem, *] at hm
    clear hK K
    try w_num
    g_opw rl hF [hF.1.fac.ck] rfl (ev_rd hF.1.fac.rk)
    have hw : IntKind.i64.wrap ((i : Int) + (k : Int)) = ((i + k : Nat) : Int) := by rw [IntKind.wrap_i64]; omega
    u_in rl hF
    refine goes_oper_k rfl rfl (by k_ne) (fun K hK => ?_)
    go_simp
    refine hK _ _ ⟨?_, ?_⟩
    · refine de1_none ?_
      intro e he
      have hm := mem_listed he
      simp [go_sem, *] at hm
    clear hK K
    try w_num
    u_in rl hF
    refine goes_oper_k rfl rfl (by k_ne) (fun K hK => ?_)
    go_simp
    refine hK _ _ ⟨?_, ?_⟩
    · refine de1_none ?_
      intro e he
      have hm := mem_listed he
      simp [go_sem, *] at hm
    clear hK K
    try w_num
    (u_in rl hF; rw [stepG_region_end]; simp only [goes_go]; refine ⟨by (refine de1_none ?_; intro e he; simp at he), ?_⟩)
    (u_in rl hF; rw [stepG_inLoop]; simp only [goes_go]; refine ⟨by (refine de1_none ?_; intro e he; simp at he), ?_⟩)
    refine Goes.stop fun w₂ h₂ => ?_
    have hx := ih (i + k) (by omega) (by omega) S' w₂
    simp only [lw, Try.f126] at hx
    exact hx _ _ _ _ _ _ _ _ _ _ (rl hF h₂).1 (rl hF h₂).2
set_option maxRecDepth 100000 in
set_option maxHeartbeats 4000000 in
/-- THE WHOLE WORKER. -/
theorem worker {Fact : (Nat → Prop) → World → Prop} (hn : n < 4294967296) (hk : 1 ≤ k ∧ k < 4294967296) (hjk : j < k) (hfn : Try.prog.funcs[fd]? = some fn) (hnm : (fn.name == "runtime.NumGoroutine") = false) (hbd : fn.body = some code)
    (hJ : ∀ i S a b, RW link.tWg Wg C mine Rd S a b → J i S a → J i S b) (hFst : ∀ S w w₁, RW link.tWg Wg C mine Rd S w w₁ → Fact S w → Fact S w₁)
    (hdo : ∀ (i : Nat) (S : Nat → Prop) (w : World) (b : Frame) (a : Act) (ops : Array Oper) (x : Nat) (rest : List Nat) (kk : List Item) (cs : List Frame), i < n → WInv link.tWg Wg C bw bf b1 bn bk bd n k j fd capd Rd S w → J i S w →
      GW Try.prog link.tWg Wg C mine Rd (fun S' g' w' => g' = G (b.at (a.put ((ops[x]?).bind (·.dst)) (.tuple #[])) (.inRegion ops rest :: kk)) cs ∧ J (i + k) S' w') S (G (Frame.enter Try.prog fd (#[.int .i64 i] ++ capd) .normal) (b.at a (.inRegion ops (x :: rest) :: kk) :: cs)) w)
    (hend : ∀ i S w, n ≤ i → J i S w → Fact S w) {S : Nat → Prop} {w : World} (hI : WInv link.tWg Wg C bw bf b1 bn bk bd n k j fd capd Rd S w) (hj : J j S w) :
    GW Try.prog link.tWg Wg C mine Rd (fun S g w => Fact S w ∧ KR Try.prog link.tWg Wg (RW link.tWg Wg C mine Rd S) g w) S (born Try.prog (dclos 141 #[ptr bw, ptr bf])) w := by
  have hF : WInv link.tWg Wg C bw bf b1 bn bk bd n k j fd capd Rd S w ∧ J j S w := ⟨hI, hj⟩
  have rl : ∀ {a b : World}, WInv link.tWg Wg C bw bf b1 bn bk bd n k j fd capd Rd S a ∧ J j S a → RW link.tWg Wg C mine Rd S a b → WInv link.tWg Wg C bw bf b1 bn bk bd n k j fd capd Rd S b ∧ J j S b := fun h r => ⟨h.1.rely r, hJ _ _ _ _ r h.2⟩
  refine Go1.step rfl fun w₁ h₁ => ⟨_, w₁, #[], S, stepG_born Try.func141 nm_go1 rfl, dw_same ⟨rfl, by simp⟩, ?_⟩
  replace hF := rl hF h₁
  clear h₁
  refine gw_seg (n := 40) ?_
  walk_nrmf Try.f141
  (u_in rl hF; rw [stepG_seq]; simp only [goes_go]; refine ⟨by (refine de1_none ?_; intro e he; simp at he), ?_⟩)
  (u_in rl hF; rw [stepG_region]; simp only [goes_go, List.size_toArray, List.length_cons, List.length_nil, Nat.reduceAdd, Nat.zero_add, List.range, List.range.loop]; refine ⟨by (refine de1_none ?_; intro e he; simp at he), ?_⟩)
  u_in rl hF
  refine goes_oper_k rfl rfl (by k_ne) (fun K hK => ?_)
  go_simp
  refine hK _ _ ⟨?_, ?_⟩
  · refine de1_none ?_
    intro e he
    have hm := mem_listed he
    simp [go_sem, *] at hm
  clear hK K
  try w_num
  u_in rl hF
  rw [stepG_defer_closure (f := 142) (cap := #[ptr bw]) rfl rfl (by k_ne) rfl rfl]
  simp only [goes_go]
  refine ⟨by (refine de1_none ?_; intro e he; simp at he), ?_⟩
  walk_nrm
  (u_in rl hF; rw [stepG_region_end]; simp only [goes_go]; refine ⟨by (refine de1_none ?_; intro e he; simp at he), ?_⟩)
  (u_in rl hF; rw [stepG_region]; simp only [goes_go, List.size_toArray, List.length_cons, List.length_nil, Nat.reduceAdd, Nat.zero_add, List.range, List.range.loop]; refine ⟨by (refine de1_none ?_; intro e he; simp at he), ?_⟩)
  g_opw rl hF [hF.1.fac.cf] rfl (ev_rd hF.1.fac.rf)
  u_in rl hF
  rw [stepG_call_closure (f := 126) (cap := #[ptr b1, ptr bn, ptr bk, ptr bd]) rfl rfl (by k_ne) rfl rfl Try.func126 nm_sw1 rfl, enter_at _ Try.func126 rfl]
  simp only [goes_go]
  refine ⟨by (refine de1_none ?_; intro e he; simp at he), ?_⟩
  walk_nrmf Try.f126
  (u_in rl hF; rw [stepG_seq]; simp only [goes_go]; refine ⟨by (refine de1_none ?_; intro e he; simp at he), ?_⟩)
  (u_in rl hF; rw [stepG_region]; simp only [goes_go, List.size_toArray, List.length_cons, List.length_nil, Nat.reduceAdd, Nat.zero_add, List.range, List.range.loop]; refine ⟨by (refine de1_none ?_; intro e he; simp at he), ?_⟩)
  g_opw rl hF [hF.1.fac.c1] rfl (ev_rd hF.1.fac.r1)
  u_in rl hF
  refine goes_oper_k rfl rfl (by k_ne) (fun K hK => ?_)
  go_simp
  refine hK _ _ ⟨?_, ?_⟩
  · refine de1_none ?_
    intro e he
    have hm := mem_listed he
    simp [go_sem, *] at hm
  clear hK K
  try w_num
  (u_in rl hF; rw [stepG_region_end]; simp only [goes_go]; refine ⟨by (refine de1_none ?_; intro e he; simp at he), ?_⟩)
  (u_in rl hF; rw [stepG_block]; simp only [goes_go]; refine ⟨by (refine de1_none ?_; intro e he; simp at he), ?_⟩)
  (u_in rl hF; rw [stepG_loop]; simp only [goes_go]; refine ⟨by (refine de1_none ?_; intro e he; simp at he), ?_⟩)
  refine Goes.stop fun w₁ h₁ => ?_
  replace hF := rl hF h₁
  clear h₁ rl
  refine worker_loop hn hk hfn hnm hbd hJ hdo ?_ (n - j) j (by omega) (by omega) S w₁ _ _ _ _ _ _ _ _ _ _ hF.1 hF.2
  intro i S w hi hI hj
  have hF : WInv link.tWg Wg C bw bf b1 bn bk bd n k j fd capd Rd S w ∧ J i S w := ⟨hI, hj⟩
  have rl : ∀ {a b : World}, WInv link.tWg Wg C bw bf b1 bn bk bd n k j fd capd Rd S a ∧ J i S a → RW link.tWg Wg C mine Rd S a b → WInv link.tWg Wg C bw bf b1 bn bk bd n k j fd capd Rd S b ∧ J i S b := fun h r => ⟨h.1.rely r, hJ _ _ _ _ r h.2⟩
  refine gw_seg (n := 4) ?_
  walk_nrm
  (u_in rl hF; rw [stepG_region_end]; simp only [goes_go]; refine ⟨by (refine de1_none ?_; intro e he; simp at he), ?_⟩)
  (u_in rl hF; rw [stepG_end]; simp only [goes_go]; refine ⟨by (refine de1_none ?_; intro e he; simp at he), ?_⟩)
  refine Goes.stop fun w₂ h₂ => ?_
  exact worker_done hFst (by rfl) (rl hF h₂).1 (hend i S w₂ hi (rl hF h₂).2)
end
end Go.Proofs.Ytmmolicodlmlkaa.Ph
