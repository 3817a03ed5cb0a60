/-
  Parts of the proof: A region walked alone up to its last operation. sync.WaitGroup of this program: under which numbers its functions and types stand. PRINTED BY gen_wgl.py. The order of RowsShared$1's operations: whatever is drawn, the store comes last. A phase in which goroutine 0 starts some goroutines and waits for them: the trace's law. Each has places of its own, which grow by what it makes, and places that it only reads; the group's places are touched atomically. A phase in which goroutine 0 starts some goroutines and waits for them by a sync.WaitGroup: what is asked of each goroutine. A phase in which gor No condition.
-/
import Derived.Orders
import Derived.Test.YtmmolicodlmlkaaPC
import Derived.Conc.WgGenN3
import Derived.Test.YtmmolicodlmlkaaChecked
import Derived.Conc.CrowdRun
import Derived.Conc.Beside
set_option linter.unusedVariables false
set_option linter.unusedSimpArgs false
namespace Go.Proofs.Ytmmolicodlmlkaa.Rel
open Go.Conc (G base)
set_option linter.unusedVariables false

/-- The operations ahead of the one that is left out. -/
theorem ops_upto {P : Program} {ops ops' : Array Oper} {Q : Exit → Act → World → Prop} {r rest : List Nat} (hQ : ∀ e a w, e ≠ .normal → ¬ Q e a w) (l : List Nat) :
    (∀ i ∈ l, ops'[i]? = ops[i]? ∧ ∀ o, ops[i]? = some o → o.guard = none) → ∀ (a : Act) (w : World), wpOps P ops' Q (l ++ r) a w → ∀ (b : Frame) (k : List Item) (cs : List Frame),
      ∃ a' w', wpOps P ops' Q r a' w' ∧ Steps P (lone (b.at a (.inRegion ops (l ++ rest) :: k)) cs w) (lone (b.at a' (.inRegion ops rest :: k)) cs w') := by
  induction l with
  | nil => exact fun _ a w h b k cs => ⟨a, w, h, ⟨0, rfl⟩⟩
  | cons i l ih =>
    intro hl a w h b k cs
    obtain ⟨he, hg⟩ := hl i List.mem_cons_self
    have hl' : ∀ x ∈ l, ops'[x]? = ops[x]? ∧ ∀ o, ops[x]? = some o → o.guard = none := fun x hx => hl x (List.mem_cons_of_mem _ hx)
    simp only [List.cons_append, wpOps] at h
    rw [he] at h
    cases ho : ops[i]? with
    | none =>
      simp only [ho] at h
      obtain ⟨a', w', hq, harr⟩ := ih hl' a w h b k cs
      have hs := step_op_skip (P := P) (b := b) (a := a) (k := k) (cs := cs) (w := w) (ops := ops) (i := i) (rest := l ++ rest) (by simp [ho])
      simp only [ho, Option.bind_none, Act.put] at hs
      exact ⟨a', w', hq, Steps.trans (.one hs) harr⟩
    | some o =>
      have hgo := hg o ho
      have hw : ∀ y, Region.wanted o y = true := fun y => by unfold Region.wanted; rw [hgo]
      simp only [ho, hw, if_true] at h
      rcases h with h | ⟨_, a₀, w₀, hq⟩
      case inr => exact absurd hq (hQ _ _ _ (by simp))
      simp only [Oper.wp, Oper.upon] at h
      have hgst := stepG_op (P := P) (b := b) (a := a) (k := k) (cs := cs) (w := w) (rest := l ++ rest) ho (hw _)
      have hfin : ∀ v, (b.at a (.inRegion ops (i :: (l ++ rest)) :: k)).finish v = b.at (a.put o.dst v) (.inRegion ops (l ++ rest) :: k) := by
        intro v; rw [Frame.finish_at, ho]; rfl
      split at h
      · rename_i v w' hr
        obtain ⟨a', w'', hq, harr⟩ := ih hl' _ _ h b k cs
        refine ⟨a', w'', hq, Steps.trans (.one (step_lone_go ?_)) harr⟩
        rw [List.cons_append, hgst, ← hfin]; simp [stepG.apply, hr]
      · rename_i w' hr
        obtain ⟨a', w'', hq, harr⟩ := ih hl' _ _ h b k cs
        refine ⟨a', w'', hq, Steps.trans (.one (step_lone_go ?_)) harr⟩
        rw [List.cons_append, hgst, ← hfin]; simp [stepG.apply, hr]
      · rename_i d w' hr
        obtain ⟨a', w'', hq, harr⟩ := ih hl' _ _ h b k cs
        refine ⟨a', w'', hq, Steps.trans (.one (step_lone_go ?_)) harr⟩
        have : ({ b.at a (.inRegion ops (i :: (l ++ rest)) :: k) with defers := d :: a.defers } : Frame).finish undef =
            b.at ({ a with defers := d :: a.defers }.put o.dst undef) (.inRegion ops (l ++ rest) :: k) := by
          have := Frame.finish_at b { a with defers := d :: a.defers } ops i (l ++ rest) k undef
          rw [ho] at this; exact this
        rw [List.cons_append, hgst]; simp only [stepG.apply, Sem.runT_eq, hr, GStep.bare_after]
        exact congrArg (fun fr => GStep.go { frame := fr, callers := cs, status := .running, dying := none } w') this
      · rename_i f args w' hr
        obtain ⟨e, w'', fr, hR, hsteps, _, hleave⟩ := h (b.at a (.inRegion ops (i :: (l ++ rest)) :: k) :: cs)
        have henter : step P (lone (b.at a (.inRegion ops (i :: (l ++ rest)) :: k)) cs w) =
            .next (lone (Frame.enter P f args .normal) (b.at a (.inRegion ops (i :: (l ++ rest)) :: k) :: cs) w') :=
          step_lone_go (by rw [hgst]; simp [stepG.apply, hr, Frame.at])
        cases e with
        | returned v =>
          obtain ⟨a', w₃, hq, harr⟩ := ih hl' _ _ hR b k cs
          refine ⟨a', w₃, hq, Steps.trans (.head henter (Steps.trans hsteps (.one ?_))) harr⟩
          rw [← hfin]; exact step_leave_returned hleave
        | panicked chain => exact absurd hR (hQ _ _ _ (by simp))
        | outgrown =>
          obtain ⟨a₀, w₀, hq⟩ := hR
          exact absurd hq (hQ _ _ _ (by simp))
      · rename_i row args w' hr
        obtain ⟨v, w'', hR, hsteps⟩ := h (b.at a (.inRegion ops (i :: (l ++ rest)) :: k)) cs
        have henter : step P (lone (b.at a (.inRegion ops (i :: (l ++ rest)) :: k)) cs w) =
            .next (lone (Frame.ofRow P row args .normal) (b.at a (.inRegion ops (i :: (l ++ rest)) :: k) :: cs) w') :=
          step_lone_go (by rw [hgst]; simp [stepG.apply, hr, Frame.at])
        obtain ⟨a', w₃, hq, harr⟩ := ih hl' _ _ hR b k cs
        refine ⟨a', w₃, hq, Steps.trans (.head henter ?_) harr⟩
        rw [← hfin]; exact hsteps
      · rename_i v w' hr
        exact absurd h (hQ _ _ _ (by simp))
      · exact h.elim
/-- Whatever order is drawn, number n comes last. -/
def lastOk (ops : Array Oper) (n : Nat) : Nat → Array Bool → Bool
  | 0, _ => false
  | fuel + 1, listed => !(Region.ready .any ops listed).isEmpty && (Region.ready .any ops listed).all fun i => if i = n then (Region.ready .any ops (listed.setIfInBounds i true)).isEmpty else lastOk ops n fuel (listed.setIfInBounds i true)
theorem lastOk_sound {ops : Array Oper} {n : Nat} : ∀ (fuel : Nat) (listed : Array Bool), lastOk ops n fuel listed = true → ∀ t, ∃ l, Region.linearise.go .any ops fuel t listed [] = l ++ [n] ∧ n ∉ l
  | 0, _, h, _ => by cases h
  | fuel + 1, listed, h, t => by
    simp only [lastOk, Bool.and_eq_true, Bool.not_eq_true', List.isEmpty_eq_false_iff, List.all_eq_true] at h
    obtain ⟨hne, hall⟩ := h
    simp only [Region.linearise.go]
    change ∃ l, (match (Region.ready .any ops listed)[t % (Region.ready .any ops listed).length]? with
      | some i => Region.linearise.go .any ops fuel (t / (Region.ready .any ops listed).length) (listed.setIfInBounds i true) [i]
      | none => [].reverse) = l ++ [n] ∧ n ∉ l
    have hlt : t % (Region.ready .any ops listed).length < (Region.ready .any ops listed).length := Nat.mod_lt _ (List.length_pos_iff.2 hne)
    rw [List.getElem?_eq_getElem hlt]
    have hm := hall _ (List.getElem_mem hlt)
    generalize (Region.ready .any ops listed)[t % (Region.ready .any ops listed).length] = i at hm
    simp only
    rw [linearise_go_acc, List.reverse_singleton, List.singleton_append]
    by_cases hi : i = n
    · subst hi
      rw [if_pos rfl] at hm
      have h0 : Region.ready .any ops (listed.setIfInBounds i true) = [] := List.isEmpty_iff.1 hm
      refine ⟨[], ?_, by simp⟩
      cases fuel with
      | zero => rfl
      | succ fuel =>
        simp only [Region.linearise.go]
        change i :: (match (Region.ready .any ops (listed.setIfInBounds i true))[_ % (Region.ready .any ops (listed.setIfInBounds i true)).length]? with
          | some j => _
          | none => [].reverse) = _
        rw [h0]; rfl
    · rw [if_neg hi] at hm
      obtain ⟨l, h1, h2⟩ := lastOk_sound fuel _ hm (t / (Region.ready .any ops listed).length)
      exact ⟨i :: l, by rw [h1]; rfl, by simp [h2, Ne.symm hi]⟩
/-- The order hangs on what each waits for alone. -/
theorem linearise_same {ops ops' : Array Oper} (hs : ops'.size = ops.size) (ha : ∀ i : Nat, (ops'[i]?).map Oper.after = (ops[i]?).map Oper.after) : ∀ (fuel t : Nat) (listed : Array Bool) (acc : List Nat), Region.linearise.go .any ops' fuel t listed acc = Region.linearise.go .any ops fuel t listed acc := by
  have hr : ∀ (listed : Array Bool) (i : Nat), ((ops'[i]?).map (·.after.all fun e => !Region.binds .any e || listed.getD e.on false)).getD false = ((ops[i]?).map (·.after.all fun e => !Region.binds .any e || listed.getD e.on false)).getD false := by
    intro listed i
    have := ha i
    cases h1 : ops'[i]? <;> cases h2 : ops[i]? <;> rw [h1, h2] at this <;> first
      | rfl
      | (cases this; done)
      | (simp only [Option.map_some, Option.some.injEq] at this; simp only [Option.map_some, Option.getD_some, this])
  intro fuel
  induction fuel with
  | zero => intro t listed acc; rfl
  | succ fuel ih =>
    intro t listed acc
    simp only [Region.linearise.go, hs, hr, ih]
end Go.Proofs.Ytmmolicodlmlkaa.Rel
namespace Go.Proofs.Ytmmolicodlmlkaa
abbrev link : Go.Conc.Lib.WgLink := { add := 140, done := 143, wait := 127, relMerge := 167, disable := 144, enable := 146, inBubble := 152, associate := 168, fatal := 169, uOr := 170, uAdd := 171, raceRead := 172, uLoad := 145, uStore := 173, disassociate := 150, semrelease := 174, acquire := 147, isAssociated := 148, uCas := 149, raceWrite := 151, semacquire := 153, orU64 := 183, addU64 := 184, loadU64 := 175, storeU64 := 185, casU64 := 176, tWgP := 137, tUP := 140, tAssoc := 158, tWg := 124, tAU := 121, tU64 := 76, tUint := 110, tU32 := 122, tPU32 := 144, tPAU := 163, tPU64 := 165, tNoCopy := 117, tANoCopy := 118, tAlign64 := 119 }
theorem wgLib : Go.Conc.Lib.WgLib Try.prog link :=
  ⟨Try.func140, Try.func143, Try.func127, Try.func167, Try.func144, Try.func146, Try.func152, Try.func168, Try.func169, Try.func170, Try.func171, Try.func172, Try.func145, Try.func173, Try.func150, Try.func174, Try.func147, Try.func148, Try.func149, Try.func151, Try.func153, Try.func183, Try.func184, Try.func175, Try.func185, Try.func176, Try.underlying137, Try.runUnderlying137, Try.sizeOf137, Try.isAgg137, Try.zeroValue137, Try.underlying140, Try.runUnderlying140, Try.sizeOf140, Try.isAgg140, Try.zeroValue140, Try.underlying158, Try.runUnderlying158, Try.sizeOf158, Try.isAgg158, Try.zeroValue158, Try.underlying124, Try.runUnderlying124, Try.sizeOf124, Try.isAgg124, Try.zeroValue124, Try.underlying121, Try.runUnderlying121, Try.sizeOf121, Try.isAgg121, Try.zeroValue121, Try.underlying76, Try.runUnderlying76, Try.sizeOf76, Try.isAgg76, Try.zeroValue76, Try.underlying110, Try.runUnderlying110, Try.sizeOf110, Try.isAgg110, Try.zeroValue110, Try.underlying122, Try.runUnderlying122, Try.sizeOf122, Try.isAgg122, Try.zeroValue122, Try.underlying144, Try.runUnderlying144, Try.sizeOf144, Try.isAgg144, Try.zeroValue144, Try.underlying163, Try.runUnderlying163, Try.sizeOf163, Try.isAgg163, Try.zeroValue163, Try.underlying165, Try.runUnderlying165, Try.sizeOf165, Try.isAgg165, Try.zeroValue165, Try.underlying0, Try.runUnderlying0, Try.sizeOf0, Try.isAgg0, Try.zeroValue0, Try.underlying3, Try.runUnderlying3, Try.sizeOf3, Try.isAgg3, Try.zeroValue3, Try.underlying4, Try.runUnderlying4, Try.sizeOf4, Try.isAgg4, Try.zeroValue4, Try.underlying9, Try.runUnderlying9, Try.sizeOf9, Try.isAgg9, Try.zeroValue9, Try.underlying20, Try.runUnderlying20, Try.sizeOf20, Try.isAgg20, Try.zeroValue20, Try.underlying21, Try.runUnderlying21, Try.sizeOf21, Try.isAgg21, Try.zeroValue21, (by kernel_rfl), (by kernel_rfl)⟩
end Go.Proofs.Ytmmolicodlmlkaa
namespace Go.Proofs.Ytmmolicodlmlkaa
open Go.RowKit
open Go.Proofs.Ytmmolicodlmlkaa.Rel (ops_upto lastOk lastOk_sound linearise_same)
set_option linter.unusedVariables false

abbrev ptrB (b : Nat) : Value := .pointer (some ⟨b, 0, none⟩)
noncomputable def rowOps : Array Oper := match Try.f82.body with | some (.region _ ops _) => ops | _ => #[]
/-- The store is left out. -/
noncomputable def rowOps' : Array Oper := rowOps.modify 9 fun o => { o with op := .move (.const (.bool true)) }
theorem row_last : lastOk rowOps 9 10 (Array.replicate 10 false) = true := by kernel_rfl
theorem row_size : rowOps.size = 10 := by kernel_rfl
theorem row_same : ∀ i : Nat, (rowOps'[i]?).map Oper.after = (rowOps[i]?).map Oper.after := by
  intro i
  unfold rowOps'
  rw [Array.getElem?_modify]
  split
  · cases rowOps[i]? <;> rfl
  · rfl
end Go.Proofs.Ytmmolicodlmlkaa
namespace Go.Proofs.Ytmmolicodlmlkaa.Ph
open Go.Conc Go.ConcN
set_option linter.unusedVariables false

/-- Whose each place is. -/
structure Own where
  W : Nat → Prop
  own : Nat → Loc → Prop
  rd : Nat → Loc → Prop
  fre : Loc → Prop
  mr : Loc → Prop
  sh : Loc → Prop
structure Own.Apart (O : Own) : Prop where
  own : ∀ g g' l, O.W g → O.W g' → O.own g l → O.own g' l → g = g'
  ownRd : ∀ g g' l, O.W g → O.W g' → O.own g l → ¬ O.rd g' l
  ownFre : ∀ g l, O.W g → O.own g l → ¬ O.fre l
  ownMr : ∀ g l, O.W g → O.own g l → ¬ O.mr l
  ownSh : ∀ g l, O.W g → O.own g l → ¬ O.sh l
  rdSh : ∀ g l, O.W g → O.rd g l → ¬ O.sh l
  rdFre : ∀ g l, O.W g → O.rd g l → ¬ O.fre l
  freSh : ∀ l, O.fre l → ¬ O.sh l
  mrSh : ∀ l, O.mr l → ¬ O.sh l
structure TI (O : Own) (Shun : Loc → Prop) (B nb : Nat) (ad : Addr) (t : Trace) : Prop where
  clean : ∀ said, ¬ Race said t
  gs : ∀ op ∈ t, op.g < nb
  w0 : ∀ g, O.W g → 0 < g ∧ g < nb
  own : ∀ g, O.W g → ∀ l, O.own g l → Perm t g l
  rd : ∀ g, O.W g → ∀ l, O.rd g l → PermW t g l
  fre : ∀ l, O.fre l → Perm t 0 l
  mr : ∀ l, O.mr l → PermW t 0 l
  wg : ∀ i a, touchAt t i = some a → O.sh a.loc → (a.kind = .plain → Knows t 0 i ∧ ∀ g, O.W g → Knows t g i) ∧ (a.kind = .said → Knows t 0 i)
  low : ∀ op ∈ t, op.act.low B
  known : ∀ i a, touchAt t i = some a → a.loc.isMemory = true → Knows t 0 i ∨ (Shun a.loc ∧ a.kind = .atomic) ∨ ∃ g, t.g? i = some g ∧ O.W g
  over : ∀ i g, t.g? i = some g → g ≠ 0 → ¬ O.W g → t.counts i → ∃ j, t.g? j = some 0 ∧ HappensBefore t i j
  norel : NoRelease ad t
section
variable {O O' : Own} {Shun : Loc → Prop} {B B' nb : Nat} {ad : Addr} {t u : Trace} {g : Nat}
/-- What worker g may list. -/
def OkG (O : Own) (B : Nat) (ad : Addr) (g : Nat) (op : MemOp) : Prop :=
  op.g = g ∧ op.act.low B ∧ op.act ≠ .mark (.release ad) ∧ ∀ x, op.act.touch? = some x → O.own g x.loc ∨ (O.rd g x.loc ∧ x.write = false) ∨ (O.sh x.loc ∧ x.kind = .atomic)
/-- What goroutine 0 may list. -/
def OkM (O : Own) (B : Nat) (ad : Addr) (op : MemOp) : Prop :=
  op.g = 0 ∧ op.act.low B ∧ op.act ≠ .mark (.release ad) ∧ ∀ x, op.act.touch? = some x → O.fre x.loc ∨ (O.mr x.loc ∧ x.write = false) ∨ (O.sh x.loc ∧ x.kind ≠ .plain)
theorem known_app (h : ∀ i a, touchAt t i = some a → a.loc.isMemory = true → Knows t 0 i ∨ (Shun a.loc ∧ a.kind = .atomic) ∨ ∃ g, t.g? i = some g ∧ O.W g)
    (hu : ∀ op ∈ u, op.g = 0 ∨ O.W op.g ∨ op.act.touch? = none) : ∀ i a, touchAt (t ++ u) i = some a → a.loc.isMemory = true → Knows (t ++ u) 0 i ∨ (Shun a.loc ∧ a.kind = .atomic) ∨ ∃ g, (t ++ u).g? i = some g ∧ O.W g := by
  intro i a ha hm
  obtain ⟨x, hx, hxa⟩ := touch_of ha
  rcases getElem?_append_cases hx with ⟨hi, hx'⟩ | ⟨_, hxu⟩
  · rcases h i a (by rw [touchAt_of hx']; exact hxa) hm with h1 | h1 | ⟨g, h1, h2⟩
    · exact .inl (h1.app u)
    · exact .inr (.inl h1)
    · exact .inr (.inr ⟨g, by rw [g?_old hi]; exact h1, h2⟩)
  · rcases hu x hxu with h1 | h1 | h1
    · have := knows_own hx
      rw [h1] at this
      exact .inl this
    · exact .inr (.inr ⟨x.g, by simp [Trace.g?, hx], h1⟩)
    · rw [h1] at hxa; cases hxa
theorem over_app (h : ∀ i g, t.g? i = some g → g ≠ 0 → ¬ O.W g → t.counts i → ∃ j, t.g? j = some 0 ∧ HappensBefore t i j)
    (hu : ∀ op ∈ u, op.g = 0 ∨ O.W op.g ∨ op.act.touch? = none) : ∀ i g, (t ++ u).g? i = some g → g ≠ 0 → ¬ O.W g → (t ++ u).counts i → ∃ j, (t ++ u).g? j = some 0 ∧ HappensBefore (t ++ u) i j := by
  intro i g hg hne hnw hc
  obtain ⟨x, hx, hxx⟩ := hc
  obtain ⟨op, hop, hox⟩ := touch_of hx
  rcases getElem?_append_cases hop with ⟨hi, hop'⟩ | ⟨_, hopu⟩
  · obtain ⟨j, hj, hb⟩ := h i g (by simpa [Trace.g?, getElem?_append_old hi] using hg) hne hnw ((counts_old hi).1 ⟨x, hx, hxx⟩)
    have hjl : j < t.size := by
      unfold Trace.g? at hj
      obtain ⟨z, hz, _⟩ := Option.map_eq_some_iff.1 hj
      exact lt_size_of_getElem? hz
    exact ⟨j, by simpa [Trace.g?, getElem?_append_old hjl] using hj, hb_app u hb⟩
  · have hgo : op.g = g := by simpa [Trace.g?, hop] using hg
    rcases hu op hopu with h0 | h0 | h0
    · exact absurd (hgo.symm.trans h0) hne
    · exact absurd (hgo ▸ h0) hnw
    · rw [h0] at hox; cases hox
theorem wg_app (h : ∀ i a, touchAt t i = some a → O.sh a.loc → (a.kind = .plain → Knows t 0 i ∧ ∀ g, O.W g → Knows t g i) ∧ (a.kind = .said → Knows t 0 i))
    (hu : ∀ op ∈ u, ∀ x, op.act.touch? = some x → O.sh x.loc → x.kind ≠ .plain ∧ (x.kind = .said → op.g = 0)) : ∀ i a, touchAt (t ++ u) i = some a → O.sh a.loc → (a.kind = .plain → Knows (t ++ u) 0 i ∧ ∀ g, O.W g → Knows (t ++ u) g i) ∧ (a.kind = .said → Knows (t ++ u) 0 i) := by
  intro i a ha hs
  obtain ⟨x, hx, hxa⟩ := touch_of ha
  rcases getElem?_append_cases hx with ⟨_, hx'⟩ | ⟨_, hxu⟩
  · obtain ⟨h1, h2⟩ := h i a (by rw [touchAt_of hx']; exact hxa) hs
    exact ⟨fun hk => ⟨(h1 hk).1.app u, fun g hg => ((h1 hk).2 g hg).app u⟩, fun hk => (h2 hk).app u⟩
  · obtain ⟨h1, h2⟩ := hu x hxu a hxa hs
    refine ⟨fun hk => absurd hk h1, fun hk => ?_⟩
    have := knows_own hx
    rwa [h2 hk] at this
/-- The bound may be raised. -/
theorem TI.mono (h : TI O Shun B nb ad t) (hB : B ≤ B') : TI O Shun B' nb ad t := { h with low := fun op hop => MemAct.low_mono hB (h.low op hop) }
theorem TI.appW (A : O.Apart) (h : TI O Shun B nb ad t) (hg : O.W g) (hu : ∀ op ∈ u, OkG O B ad g op) : TI O Shun B nb ad (t ++ u) := by
  have hw : ∀ op ∈ u, op.g = 0 ∨ O.W op.g ∨ op.act.touch? = none := fun op hop => .inr (.inl (by rw [(hu op hop).1]; exact hg))
  refine ⟨fun said => noRace_append (g := g) (h.clean said) (fun op hop => (hu op hop).1) fun i a ha op hop b hb hc => ?_, fun op hop => (Array.mem_append.1 hop).elim (h.gs op) fun hop => by rw [(hu op hop).1]; exact (h.w0 g hg).2, h.w0,
    fun g' hg' l hl => (h.own g' hg' l hl).app fun op hop b hb e => ?_, fun g' hg' l hl => (h.rd g' hg' l hl).app fun op hop b hb e hw => ?_, fun l hl => (h.fre l hl).app fun op hop b hb e => ?_, fun l hl => (h.mr l hl).app fun op hop b hb e hw => ?_,
    wg_app h.wg fun op hop x hx hs => ?_, fun op hop => (Array.mem_append.1 hop).elim (h.low op) fun hop => (hu op hop).2.1, known_app h.known hw, over_app h.over hw, h.norel.app fun op hop => (hu op hop).2.2.1⟩
  · rcases (hu op hop).2.2.2 b hb with ho | ⟨hr, hbw⟩ | ⟨hs, hk⟩
    · exact h.own g hg b.loc ho i a ha hc.1
    · exact h.rd g hg b.loc hr i a ha hc.1 (hc.2.2.1.resolve_right (by simp [hbw]))
    · have hka : a.kind = .plain := by
        rcases hc.2.2.2 with x | x | ⟨_, _, x⟩
        · exact x
        · rw [hk] at x; cases x
        · rw [hk] at x; cases x
      exact ((h.wg i a ha (hc.1 ▸ hs)).1 hka).2 g hg
  · rcases (hu op hop).2.2.2 b hb with ho | ⟨hr, _⟩ | ⟨hs, _⟩
    · rw [(hu op hop).1]; exact A.own g g' l hg hg' (e ▸ ho) hl
    · exact absurd (e ▸ hr) (A.ownRd g' g l hg' hg hl)
    · exact absurd (e ▸ hs) (A.ownSh g' l hg' hl)
  · rcases (hu op hop).2.2.2 b hb with ho | ⟨_, hbw⟩ | ⟨hs, _⟩
    · exact absurd hl (A.ownRd g g' l hg hg' (e ▸ ho))
    · rw [hbw] at hw; cases hw
    · exact absurd (e ▸ hs) (A.rdSh g' l hg' hl)
  · rcases (hu op hop).2.2.2 b hb with ho | ⟨hr, _⟩ | ⟨hs, _⟩
    · exact absurd hl (A.ownFre g l hg (e ▸ ho))
    · exact absurd hl (A.rdFre g l hg (e ▸ hr))
    · exact absurd (e ▸ hs) (A.freSh l hl)
  · rcases (hu op hop).2.2.2 b hb with ho | ⟨_, hbw⟩ | ⟨hs, _⟩
    · exact absurd hl (A.ownMr g l hg (e ▸ ho))
    · rw [hbw] at hw; cases hw
    · exact absurd (e ▸ hs) (A.mrSh l hl)
  · rcases (hu op hop).2.2.2 x hx with ho | ⟨hr, _⟩ | ⟨_, hk⟩
    · exact absurd hs (A.ownSh g _ hg ho)
    · exact absurd hs (A.rdSh g _ hg hr)
    · rw [hk]; exact ⟨by simp, by simp⟩
theorem TI.app0 (A : O.Apart) (h : TI O Shun B nb ad t) (hu : ∀ op ∈ u, OkM O B ad op) (h0 : 0 < nb) : TI O Shun B nb ad (t ++ u) := by
  have hw : ∀ op ∈ u, op.g = 0 ∨ O.W op.g ∨ op.act.touch? = none := fun op hop => .inl (hu op hop).1
  refine ⟨fun said => noRace_append (g := 0) (h.clean said) (fun op hop => (hu op hop).1) fun i a ha op hop b hb hc => ?_, fun op hop => (Array.mem_append.1 hop).elim (h.gs op) fun hop => by rw [(hu op hop).1]; exact h0, h.w0,
    fun g' hg' l hl => (h.own g' hg' l hl).app fun op hop b hb e => ?_, fun g' hg' l hl => (h.rd g' hg' l hl).app fun op hop b hb e hw => ?_, fun l hl => (h.fre l hl).app fun op hop _ _ _ => (hu op hop).1, fun l hl => (h.mr l hl).app fun op hop _ _ _ _ => (hu op hop).1,
    wg_app h.wg fun op hop x hx hs => ?_, fun op hop => (Array.mem_append.1 hop).elim (h.low op) fun hop => (hu op hop).2.1, known_app h.known hw, over_app h.over hw, h.norel.app fun op hop => (hu op hop).2.2.1⟩
  · rcases (hu op hop).2.2.2 b hb with ho | ⟨hr, hbw⟩ | ⟨hs, hk⟩
    · exact h.fre b.loc ho i a ha hc.1
    · exact h.mr b.loc hr i a ha hc.1 (hc.2.2.1.resolve_right (by simp [hbw]))
    · obtain ⟨h1, h2⟩ := h.wg i a ha (hc.1 ▸ hs)
      rcases hc.2.2.2 with x | x | ⟨_, x, _⟩
      · exact (h1 x).1
      · exact absurd x hk
      · exact h2 x
  · rcases (hu op hop).2.2.2 b hb with ho | ⟨hr, _⟩ | ⟨hs, _⟩
    · exact absurd (e ▸ ho) (A.ownFre g' l hg' hl)
    · exact absurd (e ▸ hr) (A.ownMr g' l hg' hl)
    · exact absurd (e ▸ hs) (A.ownSh g' l hg' hl)
  · rcases (hu op hop).2.2.2 b hb with ho | ⟨_, hbw⟩ | ⟨hs, _⟩
    · exact absurd (e ▸ ho) (A.rdFre g' l hg' hl)
    · rw [hbw] at hw; cases hw
    · exact absurd (e ▸ hs) (A.rdSh g' l hg' hl)
  · rcases (hu op hop).2.2.2 x hx with ho | ⟨hr, _⟩ | ⟨_, hk⟩
    · exact absurd hs (A.freSh _ ho)
    · exact absurd hs (A.mrSh _ hr)
    · exact ⟨hk, fun _ => (hu op hop).1⟩
/-- Somebody else says something that names no place. -/
theorem TI.appMute (h : TI O Shun B nb ad t) (hg : g < nb) (hu : ∀ op ∈ u, op.g = g ∧ op.act.touch? = none ∧ op.act.low B ∧ op.act ≠ .mark (.release ad)) : TI O Shun B nb ad (t ++ u) := by
  have hw : ∀ op ∈ u, op.g = 0 ∨ O.W op.g ∨ op.act.touch? = none := fun op hop => .inr (.inr (hu op hop).2.1)
  have no : ∀ op ∈ u, ∀ b, op.act.touch? = some b → False := fun op hop b hb => by rw [(hu op hop).2.1] at hb; cases hb
  exact ⟨fun said => noRace_append (g := g) (h.clean said) (fun op hop => (hu op hop).1) fun i a ha op hop b hb hc => (no op hop b hb).elim, fun op hop => (Array.mem_append.1 hop).elim (h.gs op) fun hop => by rw [(hu op hop).1]; exact hg, h.w0,
    fun g' hg' l hl => (h.own g' hg' l hl).app fun op hop b hb e => (no op hop b hb).elim, fun g' hg' l hl => (h.rd g' hg' l hl).app fun op hop b hb e hw => (no op hop b hb).elim, fun l hl => (h.fre l hl).app fun op hop b hb _ => (no op hop b hb).elim, fun l hl => (h.mr l hl).app fun op hop b hb _ _ => (no op hop b hb).elim,
    wg_app h.wg fun op hop x hx hs => (no op hop x hx).elim, fun op hop => (Array.mem_append.1 hop).elim (h.low op) fun hop => (hu op hop).2.2.1, known_app h.known hw, over_app h.over hw, h.norel.app fun op hop => (hu op hop).2.2.2⟩
/-- Nobody has touched a place of a block that nobody could name. -/
theorem untouched (h : ∀ op ∈ t, op.act.low B) {l : Loc} (hl : ¬ l.low B) {i : Nat} {a : Touch} (ha : touchAt t i = some a) : a.loc ≠ l := by
  rintro rfl
  obtain ⟨x, hx, hxa⟩ := touch_of ha
  have := h x (mem_of_getElem? hx)
  obtain ⟨g, fn, pos, act⟩ := x
  cases act with
  | access e =>
    simp only [MemAct.touch?, Option.some.injEq] at hxa
    subst hxa
    exact hl this
  | mark m =>
    cases m <;> simp only [MemAct.touch?, Option.some.injEq] at hxa <;> first
      | (subst hxa; exact hl this)
      | cases hxa
  | _ => simp [MemAct.touch?] at hxa
/-- Places may change hands: what is new may be anybody's; what is free may become what is read; what somebody has he may let go. -/
theorem TI.hand (h : TI O Shun B nb ad t) (hW : ∀ g, O'.W g ↔ O.W g) (h1 : ∀ g, O.W g → ∀ l, O'.own g l → O.own g l ∨ ¬ l.low B) (h2 : ∀ g, O.W g → ∀ l, O'.rd g l → O.rd g l ∨ O.own g l ∨ ¬ l.low B)
    (h3 : ∀ l, O'.fre l → O.fre l ∨ ¬ l.low B) (h4 : ∀ l, O'.mr l → O.mr l ∨ O.fre l ∨ ¬ l.low B) (h5 : ∀ l, O'.sh l → O.sh l ∨ ¬ l.low B) : TI O' Shun B nb ad t := by
  have hn : ∀ {g : Nat} {l : Loc}, ¬ l.low B → Perm t g l := fun hl i a ha e => absurd e (untouched h.low hl ha)
  refine ⟨h.clean, h.gs, fun g hg => h.w0 g ((hW g).1 hg), fun g hg l hl => (h1 g ((hW g).1 hg) l hl).elim (h.own g ((hW g).1 hg) l) hn, fun g hg l hl => ?_, fun l hl => (h3 l hl).elim (h.fre l) hn, fun l hl => ?_, fun i a ha hs => ?_, h.low,
    fun i a ha hm => (h.known i a ha hm).imp id fun h => h.imp id fun ⟨g, x, y⟩ => ⟨g, x, (hW g).2 y⟩, fun i g hg hne hnw hc => h.over i g hg hne (fun x => hnw ((hW g).2 x)) hc, h.norel⟩
  · have hg' := (hW g).1 hg
    rcases h2 g hg' l hl with x | x | x
    · exact h.rd g hg' l x
    · exact .of (h.own g hg' l x)
    · exact .of (hn x)
  · rcases h4 l hl with x | x | x
    · exact h.mr l x
    · exact .of (h.fre l x)
    · exact .of (hn x)
  · rcases h5 _ hs with x | x
    · obtain ⟨y, z⟩ := h.wg i a ha x
      exact ⟨fun hk => ⟨(y hk).1, fun g hg => (y hk).2 g ((hW g).1 hg)⟩, z⟩
    · exact absurd rfl (untouched h.low x ha)
/-- A go statement: what was free becomes the child's, or is read from now on. -/
theorem TI.fork (h : TI O Shun B nb ad t) {x y : MemOp} (hx : x.g = 0 ∧ x.act = .go nb) (hy : y.g = nb ∧ y.act = .start) (h0 : Deaf t 0 = 0)
    (hW : ∀ g, O'.W g ↔ O.W g ∨ g = nb) (h1 : ∀ g, O.W g → ∀ l, O'.own g l → O.own g l) (h2 : ∀ g, O.W g → ∀ l, O'.rd g l → O.rd g l) (h3 : ∀ l, O'.fre l → O.fre l) (h4 : ∀ l, O'.mr l → O.mr l ∨ O.fre l) (h5 : ∀ l, O'.sh l → O.sh l)
    (h6 : ∀ l, O'.own nb l → O.fre l) (h7 : ∀ l, O'.rd nb l → O.mr l ∨ O.fre l) (hnb : 0 < nb) : TI O' Shun B (nb + 1) ad (t ++ #[x, y]) := by
  have hk : Deaf t nb = 0 := Deaf_absent fun i op hi e => by have := h.gs op (mem_of_getElem? hi); omega
  have hm : ∀ op ∈ #[x, y], op = x ∨ op = y := by intro op hop; simpa using hop
  have hnt : ∀ op ∈ #[x, y], ∀ b, op.act.touch? = some b → False := by
    intro op hop b hb
    rcases hm op hop with rfl | rfl
    · rw [hx.2] at hb; cases hb
    · rw [hy.2] at hb; cases hb
  have old : ∀ {i : Nat} {a : Touch}, touchAt (t ++ #[x, y]) i = some a → i < t.size ∧ touchAt t i = some a := by
    intro i a ha
    obtain ⟨z, hz, hza⟩ := touch_of ha
    rcases getElem?_append_cases hz with ⟨hi, hz'⟩ | ⟨_, hzu⟩
    · exact ⟨hi, by rw [touchAt_of hz']; exact hza⟩
    · exact (hnt z hzu a hza).elim
  have fk : ∀ {i : Nat}, Knows t 0 i → Knows (t ++ #[x, y]) nb i := fun hi => fork_knows hx hy h0 hk hi
  have pf : ∀ {l : Loc}, Perm t 0 l → Perm (t ++ #[x, y]) nb l := fun hp i a ha e => fk (hp i a (old ha).2 e)
  have pw : ∀ {l : Loc}, PermW t 0 l → PermW (t ++ #[x, y]) nb l := fun hp i a ha e hw => fk (hp i a (old ha).2 e hw)
  have keep : ∀ {g : Nat} {l : Loc}, Perm t g l → Perm (t ++ #[x, y]) g l := fun hp => hp.app fun op hop b hb _ => (hnt op hop b hb).elim
  have keepW : ∀ {g : Nat} {l : Loc}, PermW t g l → PermW (t ++ #[x, y]) g l := fun hp => hp.app fun op hop b hb _ _ => (hnt op hop b hb).elim
  refine ⟨fun said => ?_, fun op hop => (Array.mem_append.1 hop).elim (fun hop => Nat.lt_succ_of_lt (h.gs op hop)) fun hop => ?_, fun g hg => ?_, fun g hg l hl => ?_, fun g hg l hl => ?_, fun l hl => keep (h.fre l (h3 l hl)), fun l hl => ?_, fun i a ha hs => ?_,
    fun op hop => (Array.mem_append.1 hop).elim (h.low op) fun hop => ?_, fun i a ha hmm => ?_, fun i g hg hne hnw hc => ?_, h.norel.app fun op hop => ?_⟩
  · have e : t ++ #[x, y] = (t ++ #[x]) ++ #[y] := by apply Array.ext'; simp
    rw [e]
    refine noRace_append (g := nb) (noRace_append (g := 0) (h.clean said) (fun op hop => by simp at hop; rw [hop]; exact hx.1) (fun i a _ op hop b hb _ => (hnt op (by simp at hop ⊢; exact .inl hop) b hb).elim))
      (fun op hop => by simp at hop; rw [hop]; exact hy.1) (fun i a _ op hop b hb _ => (hnt op (by simp at hop ⊢; exact .inr hop) b hb).elim)
  · rcases hm op hop with rfl | rfl
    · rw [hx.1]; omega
    · rw [hy.1]; omega
  · rcases (hW g).1 hg with hg | rfl
    · have := h.w0 g hg; omega
    · omega
  · rcases (hW g).1 hg with hg | rfl
    · exact keep (h.own g hg l (h1 g hg l hl))
    · exact pf (h.fre l (h6 l hl))
  · rcases (hW g).1 hg with hg | rfl
    · exact keepW (h.rd g hg l (h2 g hg l hl))
    · rcases h7 l hl with z | z
      · exact pw (h.mr l z)
      · exact pw (.of (h.fre l z))
  · rcases h4 l hl with z | z
    · exact keepW (h.mr l z)
    · exact keepW (.of (h.fre l z))
  · obtain ⟨_, ha'⟩ := old ha
    obtain ⟨y1, y2⟩ := h.wg i a ha' (h5 _ hs)
    refine ⟨fun hkp => ⟨(y1 hkp).1.app _, fun g hg => ?_⟩, fun hkp => (y2 hkp).app _⟩
    rcases (hW g).1 hg with hg | rfl
    · exact ((y1 hkp).2 g hg).app _
    · exact fk (y1 hkp).1
  · rcases hm op hop with rfl | rfl
    · rw [hx.2]; trivial
    · rw [hy.2]; trivial
  · obtain ⟨hi, ha'⟩ := old ha
    rcases h.known i a ha' hmm with z | z | ⟨g, z1, z2⟩
    · exact .inl (z.app _)
    · exact .inr (.inl z)
    · exact .inr (.inr ⟨g, by rw [g?_old hi]; exact z1, (hW g).2 (.inl z2)⟩)
  · obtain ⟨z, hz, hzz⟩ := hc
    obtain ⟨hi, _⟩ := old hz
    obtain ⟨j, hj, hb⟩ := h.over i g (by rw [← g?_old hi]; exact hg) hne (fun q => hnw ((hW g).2 (.inl q))) ((counts_old hi).1 ⟨z, hz, hzz⟩)
    have hjl : j < t.size := by
      unfold Trace.g? at hj
      obtain ⟨z, hz, _⟩ := Option.map_eq_some_iff.1 hj
      exact lt_size_of_getElem? hz
    exact ⟨j, by rw [g?_old hjl]; exact hj, hb_app _ hb⟩
  · rcases hm op hop with rfl | rfl
    · rw [hx.2]; simp
    · rw [hy.2]; simp
/-- Worker g has said its release-and-merge, heard; behind it it only touches the group's places, atomically, and deaf. -/
structure Rel (sh : Loc → Prop) (ad : Addr) (t : Trace) (k r : Nat) : Prop extends RelBy ad t k r where
  only : ∀ i, r < i → t.g? i = some k → ∀ a, touchAt t i = some a → sh a.loc ∧ a.kind = .atomic
theorem Rel.appOther {sh : Loc → Prop} {r : Nat} (h : Rel sh ad t g r) (hu : ∀ op ∈ u, op.g ≠ g) : Rel sh ad (t ++ u) g r := by
  refine ⟨h.toRelBy.appNot hu, fun i hi hg a ha => ?_⟩
  obtain ⟨x, hx, hxa⟩ := touch_of ha
  rcases getElem?_append_cases hx with ⟨hlt, hx'⟩ | ⟨_, hxu⟩
  · exact h.only i hi (by rw [← g?_old (u := u) hlt]; exact hg) a (by rw [touchAt_of hx']; exact hxa)
  · exact absurd (by simpa [Trace.g?, hx] using hg) (hu x hxu)
/-- ████ THE STARTER SAYS 'acquire': what it does behind it follows upon all that was done. ████ -/
theorem TI.join (h : TI O Shun B nb ad t) (hr : ∀ g, O.W g → ∃ r, Rel O.sh ad t g r) (h0 : Deaf t 0 = 0) {y : MemOp} (hy : y.g = 0 ∧ y.act = .mark (.acquire ad)) (hB : ad.block < B) :
    Past (fun l => Shun l ∨ O.sh l) B (t ++ #[y]) := by
  have hyp : (t ++ #[y])[t.size]? = some y := by simp
  have hya : (t ++ #[y]).act? t.size = some (.mark (.acquire ad)) := by rw [act?_of hyp, hy.2]
  have hyh : (t ++ #[y]).heard t.size := ⟨0, by simp [Trace.g?, hy.1], by rw [deaf_old (Nat.le_refl _)]; exact h0⟩
  have hno : NoRelease ad (t ++ #[y]) := h.norel.app fun op hop => by simp at hop; rw [hop, hy.2]; simp
  have hnt : ∀ op ∈ #[y], op.act.touch? = none := fun op hop => by simp at hop; rw [hop, hy.2]; rfl
  -- what a worker did at or ahead of its release
  have edge : ∀ {g r i : Nat}, Rel O.sh ad t g r → t.g? i = some g → i ≤ r → HappensBefore (t ++ #[y]) i t.size := by
    intro g r i hr hg hi
    have hrl := lt_of_act? hr.act
    have e1 : HappensBefore (t ++ #[y]) r t.size := .single (.inr ⟨.marked hrl (.inr (by rw [act?_old hrl]; exact hr.act)) hya (fun k _ _ => hno k), (heard_old hrl).2 hr.heard, hyh⟩)
    rcases Nat.lt_or_ge i r with hlt | hge
    · exact .trans (.single (.inl ⟨hlt, g, by rw [g?_old (by omega)]; exact hg, by rw [g?_old hrl]; exact hr.g⟩)) e1
    · obtain rfl : i = r := by omega
      exact e1
  refine ⟨fun said => noRace_append (g := 0) (h.clean said) (fun op hop => by simp at hop; rw [hop]; exact hy.1) fun i a _ op hop b hb _ => ?_, fun i a ha hm => ?_, fun i g hg hne hc => ?_, ?_, fun op hop => (Array.mem_append.1 hop).elim (h.low op) fun hop => ?_⟩
  · rw [hnt op hop] at hb; cases hb
  · obtain ⟨x, hx, hxa⟩ := touch_of ha
    rcases getElem?_append_cases hx with ⟨hi, hx'⟩ | ⟨_, hxu⟩
    · have ha' : touchAt t i = some a := by rw [touchAt_of hx']; exact hxa
      rcases h.known i a ha' hm with z | z | ⟨g, z1, z2⟩
      · exact .inl (z.app _)
      · exact .inr ⟨.inl z.1, z.2⟩
      · obtain ⟨r, hr⟩ := hr g z2
        rcases Nat.lt_or_ge r i with hlt | hge
        · obtain ⟨q1, q2⟩ := hr.only i hlt z1 a ha'
          exact .inr ⟨.inr q1, q2⟩
        · exact .inl ⟨t.size, y, hyp, hy.1, .inr (edge hr z1 hge)⟩
    · rw [hnt x hxu] at hxa; cases hxa
  · obtain ⟨x, hx, hxx⟩ := hc
    obtain ⟨op, hop, hox⟩ := touch_of hx
    rcases getElem?_append_cases hop with ⟨hi, hop'⟩ | ⟨_, hopu⟩
    · have hg' : t.g? i = some g := by rw [← g?_old (u := #[y]) hi]; exact hg
      have hc' : t.counts i := (counts_old hi).1 ⟨x, hx, hxx⟩
      by_cases hw : O.W g
      · obtain ⟨r, hr⟩ := hr g hw
        have hle : i ≤ r := Nat.le_of_not_lt fun hlt => hr.after i hlt hg' hc'
        exact ⟨t.size, by simp [Trace.g?, hy.1], edge hr hg' hle⟩
      · obtain ⟨j, hj, hb⟩ := h.over i g hg' hne hw hc'
        have hjl : j < t.size := by
          unfold Trace.g? at hj
          obtain ⟨z, hz, _⟩ := Option.map_eq_some_iff.1 hj
          exact lt_size_of_getElem? hz
        exact ⟨j, by rw [g?_old hjl]; exact hj, hb_app _ hb⟩
    · rw [hnt op hopu] at hox; cases hox
  · rw [Deaf_push]; simp [deafStep, hy.2, h0]
  · simp at hop; rw [hop, hy.2]; exact hB
end
end Go.Proofs.Ytmmolicodlmlkaa.Ph
namespace Go.Proofs.Ytmmolicodlmlkaa.Ph
open Go.Conc Go.ConcN
open Go.ConcR (KK wgBlock WgAt stA smA rd wr mk DC0 Bk)
open Go.Proofs.Ytmmolicodlmlkaa.Rel (RS DS EvS Tr Sub GoT Go1)
set_option linter.unusedVariables false

/-- The block into which each lays what it has made: it stays one; the cells that are this goroutine's stand. -/
def OutStay (C : Nat) (mine : Nat → Prop) (w w₁ : World) : Prop :=
  ∀ cs e fr, w.heap[C]? = some (.cells cs e fr) → ∃ cs', w₁.heap[C]? = some (.cells cs' e fr) ∧ cs'.size = cs.size ∧ ∀ o, mine o → cs'[o]? = cs[o]?
/-- What a worker suffers. -/
structure RW (ty : TypeId) (Wg C : Nat) (mine : Nat → Prop) (Rd S : Nat → Prop) (w w₁ : World) : Prop extends RS Rd S w w₁ where
  live : WgLive ty Wg w → WgLive ty Wg w₁
  out : OutStay C mine w w₁
/-- What a worker does while it works. -/
structure DW (Wg C : Nat) (mine : Nat → Prop) (Rd S : Nat → Prop) (w w' : World) (es : Array Event) (S' : Nat → Prop) : Prop where
  tape : w'.tape = w.tape
  os : w'.os = w.os
  output : w'.output = w.output
  size : w.heap.size ≤ w'.heap.size
  own : ∀ b, S' b ↔ S b ∨ (w.heap.size ≤ b ∧ b < w'.heap.size)
  old : ∀ b, b < w.heap.size → ¬ S b → b ≠ C → w'.heap[b]? = w.heap[b]?
  out : OutStay C (fun o => ¬ mine o) w w'
  evs : ∀ e ∈ es, EvS Rd S' e ∨ ∃ o wr, mine o ∧ e = ⟨.cell ⟨C, o, none⟩, wr, false⟩
/-- What the starter suffers. -/
structure RM (ty : TypeId) (Wg C : Nat) (Rd S : Nat → Prop) (w w₁ : World) : Prop extends RS Rd S w w₁ where
  live : WgLive ty Wg w → WgLive ty Wg w₁
  out : OutStay C (fun _ => False) w w₁
/-- What the starter does. -/
structure DM (Wg : Nat) (Rd S : Nat → Prop) (w w' : World) (es : Array Event) (S' : Nat → Prop) : Prop where
  tape : w'.tape = w.tape
  os : w'.os = w.os
  output : w'.output = w.output
  size : w.heap.size ≤ w'.heap.size
  own : ∀ b, S' b ↔ S b ∨ (w.heap.size ≤ b ∧ b < w'.heap.size)
  old : ∀ b, b < w.heap.size → ¬ S b → w'.heap[b]? = w.heap[b]?
  evs : ∀ e ∈ es, EvS Rd S' e ∨ e = mk (.read (smA Wg)) ∨ e = mk (.write (smA Wg))
section
variable {ty : TypeId} {Wg C : Nat} {mine : Nat → Prop} {Rd S : Nat → Prop} {a b c w w' : World}
theorem OutStay.refl (C : Nat) (mine : Nat → Prop) (w : World) : OutStay C mine w w := fun cs e fr h => ⟨cs, h, rfl, fun _ _ => rfl⟩
theorem OutStay.trans (h : OutStay C mine a b) (k : OutStay C mine b c) : OutStay C mine a c := fun cs e fr h0 =>
  let ⟨cs1, h1, h2, h3⟩ := h cs e fr h0
  let ⟨cs2, k1, k2, k3⟩ := k cs1 e fr h1
  ⟨cs2, k1, k2.trans h2, fun o ho => (k3 o ho).trans (h3 o ho)⟩
theorem OutStay.of_block (h : w'.heap[C]? = w.heap[C]?) : OutStay C mine w w' := fun cs e fr h0 => ⟨cs, h.trans h0, rfl, fun _ _ => rfl⟩
theorem RW.refl (w : World) : RW ty Wg C mine Rd S w w := ⟨RS.refl w, id, .refl _ _ _⟩
theorem RW.trans (h : RW ty Wg C mine Rd S a b) (k : RW ty Wg C mine Rd S b c) : RW ty Wg C mine Rd S a c := ⟨h.toRS.trans k.toRS, fun x => k.live (h.live x), h.out.trans k.out⟩
theorem RM.refl (w : World) : RM ty Wg C Rd S w w := ⟨RS.refl w, id, .refl _ _ _⟩
theorem RM.trans (h : RM ty Wg C Rd S a b) (k : RM ty Wg C Rd S b c) : RM ty Wg C Rd S a c := ⟨h.toRS.trans k.toRS, fun x => k.live (h.live x), h.out.trans k.out⟩
theorem RS.at' (w : World) (d : Nat) : RS Rd S w (w.at d) := ⟨rfl, rfl, rfl, Nat.le_refl _, fun _ _ => rfl, fun _ _ => rfl⟩
theorem RW.at' (w : World) (d : Nat) : RW ty Wg C mine Rd S w (w.at d) := ⟨RS.at' w d, id, .of_block rfl⟩
theorem RM.at' (w : World) (d : Nat) : RM ty Wg C Rd S w (w.at d) := ⟨RS.at' w d, id, .of_block rfl⟩
theorem DW.of_dc0 {es : Array Event} (h : DC0 w w' es) (hS : ∀ b, S b → b < w.heap.size) : DW Wg C mine Rd S w w' es S := by
  obtain ⟨rfl, rfl⟩ := h
  exact ⟨rfl, rfl, rfl, Nat.le_refl _, fun b => ⟨.inl, fun h => h.elim id fun h => by omega⟩, fun _ _ _ _ => rfl, .refl _ _ _, by simp⟩
end
/-! ### A WORKER, behind its work -/
section
variable (P : Program) (ty : TypeId) (Wg : Nat) (R : World → World → Prop)
def K4 (g : Goroutine) (w : World) : Prop :=
  g.status = .running ∧ mayWake P g = true ∧ (WgAt ty Wg w 0 0 → ∃ g', stepG P false g w = .go g' (w.setCell (smA Wg) (.int .u32 1)) (semEvents (smA Wg)) ∧ ∃ q, QuitsD P q 1 g')
def K3 (g : Goroutine) (w : World) : Prop :=
  g.status = .running ∧ (WgAt ty Wg w 1 0 → ∃ g', stepG P false g w = .go g' (w.setCell (stA Wg) (.int .u64 0)) #[wr (stA Wg)] ∧ ∃ m, Goes P false R DC0 (K4 P ty Wg) m g' (w.setCell (stA Wg) (.int .u64 0)))
def K2 (g : Goroutine) (w : World) : Prop :=
  g.status = .running ∧ (WgAt ty Wg w 1 0 → ∃ g', stepG P false g w = .go g' w #[rd (stA Wg)] ∧ ∃ m, Goes P false R DC0 (K3 P ty Wg R) m g' w)
/-- The atomic add of -1. -/
def K1 (g : Goroutine) (w : World) : Prop :=
  g.status = .running ∧ ∀ v wt : Nat, wt ≤ 1 → v < 2147483647 → WgAt ty Wg w ((v + 1) * KK + wt) 0 →
    ∃ g', stepG P false g w = .go g' (w.setCell (stA Wg) (.int .u64 (v * KK + wt))) #[rd (stA Wg), wr (stA Wg)] ∧
      ((v = 0 ∧ wt = 1) → ∃ m, Goes P false R DC0 (K2 P ty Wg R) m g' (w.setCell (stA Wg) (.int .u64 (v * KK + wt)))) ∧ (¬ (v = 0 ∧ wt = 1) → ∃ q, QuitsD P q 1 g')
def K0 (g : Goroutine) (w : World) : Prop :=
  g.status = .running ∧ ∃ g', stepG P false g w = .go g' w #[mk .disable] ∧ ∃ m, Goes P false R DC0 (K1 P ty Wg R) m g' w
/-- It is about to say its release. -/
def KR (g : Goroutine) (w : World) : Prop :=
  g.status = .running ∧ ∃ g', stepG P false g w = .go g' w #[mk (.releaseMerge (stA Wg))] ∧ ∃ m, Goes P false R DC0 (K0 P ty Wg R) m g' w
end
/-- A worker's whole script: it works, then holds Fact, and says its release. -/
def Works (P : Program) (ty : TypeId) (Wg C : Nat) (mine : Nat → Prop) (Fact : (Nat → Prop) → World → Prop) (Rd : Nat → Prop) : (Nat → Prop) → Goroutine → World → Prop :=
  Go1 P false (RW ty Wg C mine Rd) (DW Wg C mine Rd) (fun S g w => Fact S w ∧ KR P ty Wg (RW ty Wg C mine Rd S) g w)
/-! ### THE STARTER, from its end backwards -/
section
variable (P : Program) (ty : TypeId) (Wg C : Nat) (Rm : Nat → Prop)
abbrev GM (Stop : (Nat → Prop) → Goroutine → World → Prop) : (Nat → Prop) → Goroutine → World → Prop := Go1 P true (RM ty Wg C Rm) (DM Wg Rm) Stop
section
variable (Nx : (Nat → Prop) → Goroutine → World → Prop)
def MAcq (S : Nat → Prop) (g : Goroutine) (w : World) : Prop := g.status = .running ∧ ∃ g', stepG P true g w = .go g' w #[mk (.acquire (stA Wg))] ∧ Nx S g' w
def MKe (S : Nat → Prop) (g : Goroutine) (w : World) : Prop := g.status = .running ∧ ∃ g', stepG P true g w = .go g' w #[mk .enable] ∧ GM P ty Wg C Rm (MAcq P Wg Nx) S g' w
def MW4 (S : Nat → Prop) (g : Goroutine) (w : World) : Prop := g.status = .running ∧ (WgAt ty Wg w 0 0 → ∃ g', stepG P true g w = .go g' w #[rd (stA Wg)] ∧ GM P ty Wg C Rm (MKe P ty Wg C Rm Nx) S g' w)
def MW3 (S : Nat → Prop) (g : Goroutine) (w : World) : Prop :=
  g.status = .running ∧ g.offers = none ∧ ((∃ st, WgAt ty Wg w st 0) → stepG P true g w = .go { g with status := .blocked } w #[]) ∧
    (WgAt ty Wg w 0 1 → ∃ g', stepG P true g w = .go g' (w.setCell (smA Wg) (.int .u32 0)) (semEvents (smA Wg)) ∧ GM P ty Wg C Rm (MW4 P ty Wg C Rm Nx) S g' (w.setCell (smA Wg) (.int .u32 0)))
/-- .. under whatever the others do. -/
def MW3S (S : Nat → Prop) (g : Goroutine) (w : World) : Prop := ∀ w₁, RM ty Wg C Rm S w w₁ → MW3 P ty Wg C Rm Nx S g w₁
variable (Anch : (Nat → Prop) → Goroutine → World → Prop)
def MW2 (vs : Nat) (S : Nat → Prop) (g : Goroutine) (w : World) : Prop :=
  g.status = .running ∧ ∀ v : Nat, v < 2147483648 → WgAt ty Wg w (v * KK) 0 →
    (v = vs → ∃ g', stepG P true g w = .go g' (w.setCell (stA Wg) (.int .u64 (v * KK + 1))) #[rd (stA Wg), wr (stA Wg)] ∧ GM P ty Wg C Rm (MW3S P ty Wg C Rm Nx) S g' (w.setCell (stA Wg) (.int .u64 (v * KK + 1)))) ∧
    (v ≠ vs → ∃ g', stepG P true g w = .go g' w #[rd (stA Wg)] ∧ GM P ty Wg C Rm Anch S g' w)
def MW1 (S : Nat → Prop) (g : Goroutine) (w : World) : Prop :=
  g.status = .running ∧ ∀ v : Nat, v < 2147483648 → WgAt ty Wg w (v * KK) 0 → ∃ g', stepG P true g w = .go g' w #[rd (stA Wg)] ∧
    (v = 0 → GM P ty Wg C Rm (MKe P ty Wg C Rm Nx) S g' w) ∧ (v ≠ 0 → GM P ty Wg C Rm (MW2 P ty Wg C Rm Nx Anch v) S g' w)
def MKd (S : Nat → Prop) (g : Goroutine) (w : World) : Prop := g.status = .running ∧ ∃ g', stepG P true g w = .go g' w #[mk .disable] ∧ GM P ty Wg C Rm Anch S g' w
end
end
/-! ### .. while it starts them -/
section
variable (P : Program) (ty : TypeId) (Wg C : Nat) (mine : Nat → Nat → Prop) (Fact : Nat → (Nat → Prop) → World → Prop)
/-- The go statement: the child gets what the starter has made for it; the rest is read from now on. -/
def MGo (j : Nat) (Next : (Nat → Prop) → (Nat → Prop) → Goroutine → World → Prop) (Rm S : Nat → Prop) (g : Goroutine) (w : World) : Prop :=
  g.status = .running ∧ ∃ g' child Sj Rj, stepG P true g w = .spawn g' child w #[] ∧ child.status = .running ∧ (∀ b, Sj b → S b) ∧ (∀ b, Rj b → Rm b ∨ (S b ∧ ¬ Sj b)) ∧
    Works P ty Wg C (mine j) (Fact j) Rj Sj child w ∧ Next (fun b => Rm b ∨ (S b ∧ ¬ Sj b)) (fun _ => False) g' w
def MKeS (j : Nat) (Next : (Nat → Prop) → (Nat → Prop) → Goroutine → World → Prop) (Rm S : Nat → Prop) (g : Goroutine) (w : World) : Prop :=
  g.status = .running ∧ ∃ g', stepG P true g w = .go g' w #[mk .enable] ∧ GM P ty Wg C Rm (MGo P ty Wg C mine Fact j Next Rm) S g' w
def MA1 (j : Nat) (Next : (Nat → Prop) → (Nat → Prop) → Goroutine → World → Prop) (Rm S : Nat → Prop) (g : Goroutine) (w : World) : Prop :=
  g.status = .running ∧ ∀ v : Nat, v < 2147483647 → WgAt ty Wg w (v * KK) 0 →
    ∃ g', stepG P true g w = .go g' (w.setCell (stA Wg) (.int .u64 ((v + 1) * KK))) #[rd (stA Wg), wr (stA Wg)] ∧ GM P ty Wg C Rm (MKeS P ty Wg C mine Fact j Next Rm) S g' (w.setCell (stA Wg) (.int .u64 ((v + 1) * KK)))
def MKdS (j : Nat) (Next : (Nat → Prop) → (Nat → Prop) → Goroutine → World → Prop) (Rm S : Nat → Prop) (g : Goroutine) (w : World) : Prop :=
  g.status = .running ∧ ∃ g', stepG P true g w = .go g' w #[mk .disable] ∧ GM P ty Wg C Rm (MA1 P ty Wg C mine Fact j Next Rm) S g' w
/-- r workers of n are still to be started. -/
def Spawns (n : Nat) (Fin : (Nat → Prop) → (Nat → Prop) → Goroutine → World → Prop) : Nat → (Nat → Prop) → (Nat → Prop) → Goroutine → World → Prop
  | 0, Rm, S, g, w => Fin Rm S g w
  | r + 1, Rm, S, g, w => GM P ty Wg C Rm (MKdS P ty Wg C mine Fact (n - (r + 1)) (Spawns n Fin r) Rm) S g w
end
/-! ### the measure -/
/-- A number as a tree. -/
def trN : Nat → Tr
  | 0 => .leaf
  | n + 1 => .node fun _ => trN n
theorem sub_trN (n : Nat) : Sub (trN n) (trN (n + 1)) := ⟨_, default, rfl, rfl⟩
/-- One of the first N goes down, the others stand. -/
def Down (N : Nat) (f' f : Nat → Tr) : Prop := ∃ i, i < N ∧ Sub (f' i) (f i) ∧ ∀ k, k ≠ i → f' k = f k
theorem down_acc : ∀ (N : Nat) (f : Nat → Tr), Acc (Down N) f
  | 0, f => ⟨_, fun f' ⟨i, h, _⟩ => by omega⟩
  | N + 1, f => by
    have key : ∀ t : Tr, ∀ f : Nat → Tr, f N = t → Acc (Down (N + 1)) f := by
      intro t
      induction t using Rel.sub_wf.induction with
      | _ t iht =>
        intro f hf
        induction down_acc N f with
        | intro f _ ihf =>
          refine ⟨_, fun f' ⟨i, h1, h2, h3⟩ => ?_⟩
          by_cases hi : i = N
          · subst hi
            exact iht (f' i) (hf ▸ h2) f' rfl
          · exact ihf f' ⟨i, by omega, h2, h3⟩ (by rw [h3 N (fun e => hi e.symm)]; exact hf)
    exact key _ f rfl
abbrev Mu := Nat × (Nat → Tr) × Tr
def Lt3 (N : Nat) : Mu → Mu → Prop := Prod.Lex (· < ·) (Prod.Lex (Down N) (Relation.TransGen Sub))
theorem lt3_wf (N : Nat) : WellFounded (Lt3 N) := (Prod.lex ⟨_, Nat.lt_wfRel.wf⟩ (Prod.lex ⟨_, ⟨down_acc N⟩⟩ ⟨_, Rel.sub_wf.transGen⟩)).wf
end Go.Proofs.Ytmmolicodlmlkaa.Ph
namespace Go.Proofs.Ytmmolicodlmlkaa.Ph
open Go.Conc Go.ConcN
open Go.ConcR (KK wgBlock WgAt stA smA rd wr mk DC0 Bk g_of_ofEvents bk_of_mute ofEvent_loc_mark ofEvent_cell ofEvent_mk again_blocked deafBehind_cons deafBehind_one)
open Go.Proofs.Ytmmolicodlmlkaa.Rel (RS DS EvS Tr Sub GoT Go1)
set_option linter.unusedVariables false

/-- Places in these blocks. -/
def inBl (S : Nat → Prop) : Loc → Prop
  | .cell a => S a.block
  | .obj r => S r
  | _ => False
section
variable (base : Nat) (Wg C : Nat) (mine : Nat → Nat → Prop)
def ownOf (j : Nat) (Sg Rg : Nat → Nat → Prop) (Sm Rm : Nat → Prop) : Own :=
  { W := fun g => base ≤ g ∧ g < base + j,
    own := fun g l => inBl (Sg (g - base)) l ∨ ∃ o, mine (g - base) o ∧ l = .cell ⟨C, o, none⟩,
    rd := fun g l => inBl (Rg (g - base)) l,
    fre := fun l => inBl Sm l ∨ ∃ o i, j ≤ i ∧ mine i o ∧ l = .cell ⟨C, o, none⟩,
    mr := fun l => inBl Rm l,
    sh := ShN Wg }
/-- Where the blocks lie. -/
structure Geo (j : Nat) (Sg Rg : Nat → Nat → Prop) (Sm Rm : Nat → Prop) (w : World) : Prop where
  hW : Wg < w.heap.size
  hC : C < w.heap.size
  hCW : C ≠ Wg
  sg : ∀ i, i < j → ∀ b, Sg i b → b < w.heap.size ∧ b ≠ Wg ∧ b ≠ C
  sm : ∀ b, Sm b → b < w.heap.size ∧ b ≠ Wg ∧ b ≠ C
  rm : ∀ b, Rm b → b < w.heap.size ∧ b ≠ Wg ∧ b ≠ C
  rg : ∀ i, i < j → ∀ b, Rg i b → Rm b
  d1 : ∀ i k b, i < j → k < j → Sg i b → Sg k b → i = k
  d2 : ∀ i b, i < j → Sg i b → ¬ Sm b
  d3 : ∀ i b, i < j → Sg i b → ¬ Rm b
  d4 : ∀ b, Sm b → ¬ Rm b
end
section
variable {base Wg C : Nat} {mine : Nat → Nat → Prop} {j : Nat} {Sg Rg : Nat → Nat → Prop} {Sm Rm : Nat → Prop} {w : World}
theorem inBl_sh {S : Nat → Prop} {l : Loc} (h : inBl S l) (hs : ShN Wg l) : S Wg := by
  obtain ⟨a, rfl, rfl⟩ := hs
  exact h
theorem Geo.apart (h : Geo Wg C j Sg Rg Sm Rm w) (hm : ∀ i k o, mine i o → mine k o → i = k) : (ownOf base Wg C mine j Sg Rg Sm Rm).Apart := by
  have hC : ∀ {S : Nat → Prop} {o : Nat}, (S C → False) → ¬ inBl S (.cell ⟨C, o, none⟩) := fun hS h => hS h
  have notC : ∀ i, i < j → ¬ Sg i C := fun i hi hs => (h.sg i hi C hs).2.2 rfl
  have notCm : ¬ Sm C := fun hs => (h.sm C hs).2.2 rfl
  have notCr : ¬ Rm C := fun hs => (h.rm C hs).2.2 rfl
  have two : ∀ {A B : Nat → Prop} {l : Loc}, (∀ b, A b → B b → False) → inBl A l → inBl B l → False := by
    intro A B l hAB ha hb
    cases l <;> first | exact hAB _ ha hb | exact ha
  refine ⟨fun g g' l hg hg' ho ho' => ?_, fun g g' l hg hg' ho hr => ?_, fun g l hg ho hf => ?_, fun g l hg ho hr => ?_, fun g l hg ho hs => ?_, fun g l hg hr hs => ?_, fun g l hg hr hf => ?_, fun l hf hs => ?_, fun l hr hs => ?_⟩
  all_goals
    try (obtain ⟨hg1, hg2⟩ := hg)
    try (obtain ⟨hg1', hg2'⟩ := hg')
  · rcases ho with ho | ⟨o, ho, rfl⟩ <;> rcases ho' with ho' | ⟨o', ho', e⟩
    · apply Classical.byContradiction
      intro hne
      exact two (fun b x y => hne (by have := h.d1 (g - base) (g' - base) b (by omega) (by omega) x y; omega)) ho ho'
    · subst e; exact (notC (g - base) (by omega) ho).elim
    · exact (notC (g' - base) (by omega) ho').elim
    · injection e with e; injection e with _ e; subst e
      have := hm _ _ _ ho ho'; omega
  · rcases ho with ho | ⟨o, ho, rfl⟩
    · exact two (fun b x y => h.d3 (g - base) b (by omega) x (h.rg (g' - base) (by omega) b y)) ho hr
    · exact notCr (h.rg (g' - base) (by omega) C hr)
  · rcases ho with ho | ⟨o, ho, rfl⟩ <;> rcases hf with hf | ⟨o', i, hi, hf, e⟩
    · exact two (fun b x y => h.d2 (g - base) b (by omega) x y) ho hf
    · subst e; exact notC (g - base) (by omega) ho
    · exact notCm hf
    · injection e with e; injection e with _ e; subst e
      have := hm _ _ _ ho hf; omega
  · rcases ho with ho | ⟨o, ho, rfl⟩
    · exact two (fun b x y => h.d3 (g - base) b (by omega) x y) ho hr
    · exact notCr hr
  · rcases ho with ho | ⟨o, ho, rfl⟩
    · exact (h.sg (g - base) (by omega) Wg (inBl_sh ho hs)).2.1 rfl
    · obtain ⟨a, e, e2⟩ := hs
      injection e with e; subst e
      exact h.hCW e2
  · exact (h.rm Wg (h.rg (g - base) (by omega) Wg (inBl_sh hr hs))).2.1 rfl
  · rcases hf with hf | ⟨o', i, hi, hf, e⟩
    · exact two (fun b x y => h.d4 b y (h.rg (g - base) (by omega) b x)) hr hf
    · subst e; exact notCr (h.rg (g - base) (by omega) C hr)
  · rcases hf with hf | ⟨o', i, hi, hf, e⟩
    · exact (h.sm Wg (inBl_sh hf hs)).2.1 rfl
    · subst e
      obtain ⟨a, e, e2⟩ := hs
      injection e with e; subst e
      exact h.hCW e2
  · exact (h.rm Wg (inBl_sh hr hs)).2.1 rfl
end
section
variable (P : Program) (ty : TypeId) (Wg C : Nat) (mine : Nat → Nat → Prop) (Fact : Nat → (Nat → Prop) → World → Prop)
/-- Where a worker stands: stage, tree, deafness, what it owns. -/
inductive WS (i : Nat) (Rd : Nat → Prop) : Nat → Tr → Nat → (Nat → Prop) → Goroutine → World → Prop
  | r0 {T : Tr} {S : Nat → Prop} {g : Goroutine} {w : World} : GoT P false (RW ty Wg C (mine i) Rd) (DW Wg C (mine i) Rd) (fun S g w => Fact i S w ∧ KR P ty Wg (RW ty Wg C (mine i) Rd S) g w) T S g w → WS i Rd 7 T 0 S g w
  | k0 {m : Nat} {S : Nat → Prop} {g : Goroutine} {w : World} : Goes P false (RW ty Wg C (mine i) Rd S) DC0 (K0 P ty Wg (RW ty Wg C (mine i) Rd S)) m g w → WS i Rd 6 (trN m) 0 S g w
  | k1 {m : Nat} {S : Nat → Prop} {g : Goroutine} {w : World} : Goes P false (RW ty Wg C (mine i) Rd S) DC0 (K1 P ty Wg (RW ty Wg C (mine i) Rd S)) m g w → WS i Rd 5 (trN m) 1 S g w
  | k2 {m : Nat} {S : Nat → Prop} {g : Goroutine} {w : World} : Goes P false (RW ty Wg C (mine i) Rd S) DC0 (K2 P ty Wg (RW ty Wg C (mine i) Rd S)) m g w → WS i Rd 4 (trN m) 1 S g w
  | k3 {m : Nat} {S : Nat → Prop} {g : Goroutine} {w : World} : Goes P false (RW ty Wg C (mine i) Rd S) DC0 (K3 P ty Wg (RW ty Wg C (mine i) Rd S)) m g w → WS i Rd 3 (trN m) 1 S g w
  | k4 {m : Nat} {S : Nat → Prop} {g : Goroutine} {w : World} : Goes P false (RW ty Wg C (mine i) Rd S) DC0 (K4 P ty Wg) m g w → WS i Rd 2 (trN m) 1 S g w
  | quit {q d : Nat} {S : Nat → Prop} {g : Goroutine} {w : World} : QuitsD P q d g → WS i Rd 1 (trN q) d S g w
variable (n : Nat) (Nx Anch : (Nat → Prop) → (Nat → Prop) → Goroutine → World → Prop)
/-- Into Wait. -/
def Fin (Rm : Nat → Prop) : (Nat → Prop) → Goroutine → World → Prop := GM P ty Wg C Rm (MKd P ty Wg C Rm (Anch Rm))
/-- A tree with one step more at each end. -/
def up : Tr → Tr
  | .leaf => .node fun _ => .leaf
  | .node f => .node fun w => up (f w)
/-- Where the starter stands: tag, how many are started, tree, deafness, what it reads, what it owns. -/
inductive MS : CTag → Nat → Tr → Nat → (Nat → Prop) → (Nat → Prop) → Goroutine → World → Prop
  | skd {r : Nat} {T : Tr} {Rm S : Nat → Prop} {g : Goroutine} {w : World} : r < n → GoT P true (RM ty Wg C Rm) (DM Wg Rm) (MKdS P ty Wg C mine Fact (n - (r + 1)) (Spawns P ty Wg C mine Fact n (Fin P ty Wg C Anch) r) Rm) T S g w → MS (.sp r 5) (n - (r + 1)) T 0 Rm S g w
  | sa1 {r : Nat} {T : Tr} {Rm S : Nat → Prop} {g : Goroutine} {w : World} : r < n → GoT P true (RM ty Wg C Rm) (DM Wg Rm) (MA1 P ty Wg C mine Fact (n - (r + 1)) (Spawns P ty Wg C mine Fact n (Fin P ty Wg C Anch) r) Rm) T S g w → MS (.sp r 4) (n - (r + 1)) T 1 Rm S g w
  | ske {r : Nat} {T : Tr} {Rm S : Nat → Prop} {g : Goroutine} {w : World} : r < n → GoT P true (RM ty Wg C Rm) (DM Wg Rm) (MKeS P ty Wg C mine Fact (n - (r + 1)) (Spawns P ty Wg C mine Fact n (Fin P ty Wg C Anch) r) Rm) T S g w → MS (.sp r 3) (n - (r + 1)) T 1 Rm S g w
  | sgo {r : Nat} {T : Tr} {Rm S : Nat → Prop} {g : Goroutine} {w : World} : r < n → GoT P true (RM ty Wg C Rm) (DM Wg Rm) (MGo P ty Wg C mine Fact (n - (r + 1)) (Spawns P ty Wg C mine Fact n (Fin P ty Wg C Anch) r) Rm) T S g w → MS (.sp r 2) (n - (r + 1)) T 0 Rm S g w
  | kd {T : Tr} {Rm S : Nat → Prop} {g : Goroutine} {w : World} : GoT P true (RM ty Wg C Rm) (DM Wg Rm) (MKd P ty Wg C Rm (Anch Rm)) T S g w → MS .kd n T 0 Rm S g w
  | anch {T : Tr} {Rm S : Nat → Prop} {g : Goroutine} {w : World} : GoT P true (RM ty Wg C Rm) (DM Wg Rm) (Anch Rm) T S g w → MS .anch n T 1 Rm S g w
  | w1 {T : Tr} {Rm S : Nat → Prop} {g : Goroutine} {w : World} : GoT P true (RM ty Wg C Rm) (DM Wg Rm) (MW1 P ty Wg C Rm (Nx Rm) (Anch Rm)) T S g w → MS .w1 n T 1 Rm S g w
  | w2 {vs : Nat} {T : Tr} {Rm S : Nat → Prop} {g : Goroutine} {w : World} : GoT P true (RM ty Wg C Rm) (DM Wg Rm) (MW2 P ty Wg C Rm (Nx Rm) (Anch Rm) vs) T S g w → MS (.w2 vs) n T 1 Rm S g w
  | w3 {T : Tr} {Rm S : Nat → Prop} {g : Goroutine} {w : World} : GoT P true (RM ty Wg C Rm) (DM Wg Rm) (MW3S P ty Wg C Rm (Nx Rm)) T S g w → MS .w3 n (up T) 1 Rm S g w
  | blk {Rm S : Nat → Prop} {g : Goroutine} {w : World} : MW3S P ty Wg C Rm (Nx Rm) S g w → MS .blk n .leaf 1 Rm S { g with status := .blocked } w
  | w4 {T : Tr} {Rm S : Nat → Prop} {g : Goroutine} {w : World} : GoT P true (RM ty Wg C Rm) (DM Wg Rm) (MW4 P ty Wg C Rm (Nx Rm)) T S g w → MS .w4 n T 1 Rm S g w
  | ke {T : Tr} {Rm S : Nat → Prop} {g : Goroutine} {w : World} : GoT P true (RM ty Wg C Rm) (DM Wg Rm) (MKe P ty Wg C Rm (Nx Rm)) T S g w → MS .ke n T 1 Rm S g w
  | acq {T : Tr} {Rm S : Nat → Prop} {g : Goroutine} {w : World} : GoT P true (RM ty Wg C Rm) (DM Wg Rm) (MAcq P Wg (Nx Rm)) T S g w → MS .acq n T 0 Rm S g w
variable (base : Nat) (Shun : Loc → Prop)
/-- What holds at every moment, whoever stands where. -/
structure Com (j : Nat) (gs : Array Goroutine) (w : World) (t : Trace) (D : Nat → WD) (Sg Rg : Nat → Nat → Prop) (F : Nat → Tr) (Sm Rm : Nat → Prop) (d0 : Nat) : Prop where
  size : gs.size = base + j
  wk : ∀ i, i < j → ∃ g, gs[base + i]? = some g ∧ WS P ty Wg C mine Fact i (Rg i) (D i).stage (F (base + i)) (D i).deaf (Sg i) g w
  lv : ∀ i, 0 < i → i < base → ∃ g q, gs[i]? = some g ∧ QuitsD P q (Deaf t i) g ∧ F i = trN q
  ti : TI (ownOf base Wg C mine j Sg Rg Sm Rm) Shun w.heap.size (base + j) (stA Wg) t
  deaf0 : Deaf t 0 = d0
  deafW : ∀ i, i < j → Deaf t (base + i) = (D i).deaf
  rel : ∀ i, i < j → (D i).stage ≤ 6 → ∃ r, Rel (ShN Wg) (stA Wg) t (base + i) r
  fact : ∀ i, i < j → (D i).stage ≤ 6 → Fact i (Sg i) w
  geo : Geo Wg C j Sg Rg Sm Rm w
def Inv (μ : Mu) (m : Machine) (t : Trace) : Prop :=
  ∃ (gs : Array Goroutine) (w : World) (sl : Option (Nat × Nat)) (j : Nat) (D : Nat → WD) (Sg Rg : Nat → Nat → Prop) (F : Nat → Tr) (Sm Rm : Nat → Prop) (tag : CTag) (T0 : Tr) (d0 : Nat) (a : Goroutine) (st sm : Int),
    m = crowd gs w sl ∧ gs[0]? = some a ∧ MS P ty Wg C mine Fact n Nx Anch tag j T0 d0 Rm Sm a w ∧ Com P ty Wg C mine Fact base Shun j gs w t D Sg Rg F Sm Rm d0 ∧ WgAt ty Wg w st sm ∧ ConcN.Mode j D tag st sm ∧ μ = (phi n (Vc j D) tag + Ssum j D, F, T0)
end
section
variable {P : Program} {ty : TypeId} {Wg C : Nat} {mine : Nat → Nat → Prop} {Fact : Nat → (Nat → Prop) → World → Prop} {n base : Nat} {Nx Anch : (Nat → Prop) → (Nat → Prop) → Goroutine → World → Prop} {Shun : Loc → Prop}
  {i s d : Nat} {T : Tr} {Rd S : Nat → Prop} {g : Goroutine} {w w₁ : World}
theorem WS.rely (h : WS P ty Wg C mine Fact i Rd s T d S g w) (hr : RW ty Wg C (mine i) Rd S w w₁) : WS P ty Wg C mine Fact i Rd s T d S g w₁ := by
  have tr : ∀ a b c, RW ty Wg C (mine i) Rd S a b → RW ty Wg C (mine i) Rd S b c → RW ty Wg C (mine i) Rd S a c := fun _ _ _ h1 h2 => h1.trans h2
  cases h with
  | r0 h => exact .r0 (h.rely (fun _ _ _ _ h1 h2 => h1.trans h2) hr)
  | k0 h => exact .k0 (Goes.rely tr h hr)
  | k1 h => exact .k1 (Goes.rely tr h hr)
  | k2 h => exact .k2 (Goes.rely tr h hr)
  | k3 h => exact .k3 (Goes.rely tr h hr)
  | k4 h => exact .k4 (Goes.rely tr h hr)
  | quit h => exact .quit h
theorem WS.status (h : WS P ty Wg C mine Fact i Rd s T d S g w) : g.status = .running ∨ g.status = .finished := by
  cases h with
  | r0 h => exact .inl (h.running (fun _ a => RW.refl a) (fun _ _ _ x => x.2.1))
  | k0 h => exact .inl (Goes.running (fun _ _ x => x.1) w (RW.refl w) h)
  | k1 h => exact .inl (Goes.running (fun _ _ x => x.1) w (RW.refl w) h)
  | k2 h => exact .inl (Goes.running (fun _ _ x => x.1) w (RW.refl w) h)
  | k3 h => exact .inl (Goes.running (fun _ _ x => x.1) w (RW.refl w) h)
  | k4 h => exact .inl (Goes.running (fun _ _ x => x.1) w (RW.refl w) h)
  | quit h => exact h.status
theorem WS.woken (h : WS P ty Wg C mine Fact i Rd s T d S g w) (a a' : Goroutine) (w' : World) : woken P a a' w' g = g := by
  unfold Go.Conc.woken
  split
  · exact again_running _ h.status
  · rfl
variable {tag : CTag} {j : Nat} {Rm : Nat → Prop}
theorem MS.rely (h : MS P ty Wg C mine Fact n Nx Anch tag j T d Rm S g w) (hr : RM ty Wg C Rm S w w₁) : MS P ty Wg C mine Fact n Nx Anch tag j T d Rm S g w₁ := by
  have tr : ∀ (S : Nat → Prop) (a b c : World), RM ty Wg C Rm S a b → RM ty Wg C Rm S b c → RM ty Wg C Rm S a c := fun _ _ _ _ h1 h2 => h1.trans h2
  cases h with
  | skd hn h => exact .skd hn (h.rely tr hr)
  | sa1 hn h => exact .sa1 hn (h.rely tr hr)
  | ske hn h => exact .ske hn (h.rely tr hr)
  | sgo hn h => exact .sgo hn (h.rely tr hr)
  | kd h => exact .kd (h.rely tr hr)
  | anch h => exact .anch (h.rely tr hr)
  | w1 h => exact .w1 (h.rely tr hr)
  | w2 h => exact .w2 (h.rely tr hr)
  | w3 h => exact .w3 (h.rely tr hr)
  | blk h => exact .blk fun w₂ h₂ => h w₂ (hr.trans h₂)
  | w4 h => exact .w4 (h.rely tr hr)
  | ke h => exact .ke (h.rely tr hr)
  | acq h => exact .acq (h.rely tr hr)
theorem MS.status (hA : ∀ Rm S g w, Anch Rm S g w → g.status = .running) (h : MS P ty Wg C mine Fact n Nx Anch tag j T d Rm S g w) : (g.status = .running ∧ tag ≠ .blk) ∨ (g.status = .blocked ∧ tag = .blk) := by
  have run : ∀ {Stop : (Nat → Prop) → Goroutine → World → Prop} {T : Tr} {S : Nat → Prop}, (∀ s g w, Stop s g w → g.status = .running) → GoT P true (RM ty Wg C Rm) (DM Wg Rm) Stop T S g w → g.status = .running := fun hS h => h.running (fun _ a => RM.refl a) hS
  cases h with
  | skd _ h => exact .inl ⟨run (fun _ _ _ x => x.1) h, by simp⟩
  | sa1 _ h => exact .inl ⟨run (fun _ _ _ x => x.1) h, by simp⟩
  | ske _ h => exact .inl ⟨run (fun _ _ _ x => x.1) h, by simp⟩
  | sgo _ h => exact .inl ⟨run (fun _ _ _ x => x.1) h, by simp⟩
  | kd h => exact .inl ⟨run (fun _ _ _ x => x.1) h, by simp⟩
  | anch h => exact .inl ⟨run (fun _ _ _ x => hA _ _ _ _ x) h, by simp⟩
  | w1 h => exact .inl ⟨run (fun _ _ _ x => x.1) h, by simp⟩
  | w2 h => exact .inl ⟨run (fun _ _ _ x => x.1) h, by simp⟩
  | w3 h => exact .inl ⟨run (fun _ _ w x => (x w (.refl w)).1) h, by simp⟩
  | blk h => exact .inr ⟨rfl, rfl⟩
  | w4 h => exact .inl ⟨run (fun _ _ _ x => x.1) h, by simp⟩
  | ke h => exact .inl ⟨run (fun _ _ _ x => x.1) h, by simp⟩
  | acq h => exact .inl ⟨run (fun _ _ _ x => x.1) h, by simp⟩
/-- Under another's step: as it stood; or, blocked, let try again. -/
theorem MS.wokenBy (hA : ∀ Rm S g w, Anch Rm S g w → g.status = .running) (h : MS P ty Wg C mine Fact n Nx Anch tag j T d Rm S g w) (hr : RM ty Wg C Rm S w w₁) (g1 g' : Goroutine) :
    ∃ tag' T', MS P ty Wg C mine Fact n Nx Anch tag' j T' d Rm S (woken P g1 g' w₁ g) w₁ ∧ (tag' = tag ∨ (tag = .blk ∧ tag' = .w3)) ∧ (mayWake P g1 = true → g'.status = .running → tag' ≠ .blk) := by
  have h' := h.rely hr
  unfold Go.Conc.woken
  split
  · rcases h'.status hA with ⟨hs, hne⟩ | ⟨_, rfl⟩
    · exact ⟨tag, T, by rw [again_running _ (.inl hs)]; exact h', .inl rfl, fun _ _ => hne⟩
    · cases h' with
      | blk hb =>
        have h3 := hb w₁ (.refl w₁)
        exact ⟨.w3, up .leaf, by rw [again_blocked h3.1 h3.2.1]; exact .w3 (T := .leaf) fun w₂ h₂ w₃ h₃ => hb w₃ (h₂.trans h₃), .inr ⟨rfl, rfl⟩, fun _ _ => by simp⟩
  · rename_i hc
    exact ⟨tag, T, h', .inl rfl, fun h1 h2 => absurd (by simp [h1, h2]) hc⟩
theorem MS.bound (h : MS P ty Wg C mine Fact n Nx Anch tag j T d Rm S g w) : j + pend tag ≤ n := by
  cases h <;> simp only [pend] <;> (try simp) <;> omega
end
end Go.Proofs.Ytmmolicodlmlkaa.Ph
namespace Go.Proofs.Ytmmolicodlmlkaa.Ph
open Go.Conc Go.ConcN
open Go.ConcR (KK wgBlock WgAt stA smA rd wr mk DC0 Bk g_of_ofEvents bk_of_mute ofEvent_loc_mark ofEvent_cell ofEvent_mk again_blocked deafBehind_cons deafBehind_one)
open Go.Proofs.Ytmmolicodlmlkaa.Rel (RS DS EvS Tr Sub GoT Go1)
set_option linter.unusedVariables false

theorem got_cases {σ : Type} {P : Program} {main : Bool} {R : σ → World → World → Prop} {D : σ → World → World → Array Event → σ → Prop} {Stop : σ → Goroutine → World → Prop} (refl : ∀ s a, R s a a) {T : Tr} {s : σ} {g : Goroutine} {w : World} (h : GoT P main R D Stop T s g w) :
    Stop s g w ∨ ∃ T' g' w' es s', Sub T' T ∧ stepG P main g w = .go g' w' es ∧ D s w w' es s' ∧ GoT P main R D Stop T' s' g' w' := by
  cases T with
  | leaf => exact .inl (h w (refl _ _))
  | node f => exact (h w (refl _ _)).imp id fun ⟨_, g', w', es, s', h1, h2, h3⟩ => ⟨f w, g', w', es, s', ⟨f, w, rfl, rfl⟩, h1, h2, h3⟩
theorem live_of_block {ty : TypeId} {Wg : Nat} {w w' : World} (h : w'.heap[Wg]? = w.heap[Wg]?) (k : WgLive ty Wg w) : WgLive ty Wg w' := let ⟨st, sm, x⟩ := k; ⟨st, sm, x.of_block h⟩
/-! ### the release -/
section
variable {sh : Loc → Prop} {ad : Addr} {t u : Trace} {k r : Nat}
theorem rel_new (hd : Deaf t k = 0) (fn : FuncId) (pos : String) : Rel sh ad (t ++ MemOp.ofEvents k fn pos #[mk (.releaseMerge ad)]) k t.size := by
  refine ⟨RelBy.new hd fn pos, fun i hi hg a ha => ?_⟩
  obtain ⟨x, hx, hxa⟩ := touch_of ha
  have := lt_size_of_getElem? hx
  rw [Go.Conc.ofEvents_eq] at this
  simp at this
  omega
theorem Rel.book {Wg d : Nat} (h : Rel (ShN Wg) ad t k r) (hdk : Deaf t k = d) (fn : FuncId) (pos : String) {es : Array Event} (hes : ∀ e ∈ es, Bk Wg e)
    (hd : ∀ j e, es[j]? = some e → (MemAct.ofEvent e).touch? = none ∨ 0 < deafBehind d (es.extract 0 j)) : Rel (ShN Wg) ad (t ++ MemOp.ofEvents k fn pos es) k r := by
  refine ⟨h.toRelBy.book hdk fn pos hes hd, fun i hi hg a ha => ?_⟩
  obtain ⟨x, hx, hxa⟩ := touch_of ha
  rcases getElem?_append_cases hx with ⟨hlt, hx'⟩ | ⟨_, hxu⟩
  · exact h.only i hi (by rw [← g?_old hlt]; exact hg) a (by rw [touchAt_of hx']; exact hxa)
  · obtain ⟨e, he, rfl⟩ := Go.Conc.mem_ofEvents hxu
    rcases hes e he with h1 | h1 | ⟨ad, wr, rfl, h3⟩
    · simp only [ofEvent_loc_mark h1] at hxa; cases hxa
    · simp only [ofEvent_loc_mark h1] at hxa; cases hxa
    · simp only [ofEvent_cell, MemAct.touch?, Option.some.injEq] at hxa
      subst hxa
      exact ⟨⟨ad, rfl, h3⟩, rfl⟩
end
section
variable {P : Program} {ty : TypeId} {Wg C : Nat} {mine : Nat → Nat → Prop} {Fact : Nat → (Nat → Prop) → World → Prop} {n base : Nat} {Nx Anch : (Nat → Prop) → (Nat → Prop) → Goroutine → World → Prop} {Shun : Loc → Prop}
  {gs : Array Goroutine} {w w' : World} {sl : Option (Nat × Nat)} {j : Nat} {D : Nat → WD} {Sg Rg : Nat → Nat → Prop} {F : Nat → Tr} {Sm Rm : Nat → Prop} {tag : CTag} {T0 : Tr} {d0 : Nat} {a : Goroutine} {t : Trace} {st sm : Int}
/-- What everybody else needs to know of a step that leaves all but the group's block. -/
theorem rw_of_aside {Rd S : Nat → Prop} {i : Nat} (h : Aside Wg w w') (hl : WgLive ty Wg w') (hS : ∀ b, S b → b ≠ Wg) (hR : ∀ b, Rd b → b ≠ Wg) (hC : C ≠ Wg) : RW ty Wg C (mine i) Rd S w w' :=
  ⟨⟨h.tape, h.os, h.output, by rw [h.size]; exact Nat.le_refl _, fun b hb => h.block b (hS b hb), fun b hb => h.block b (hR b hb)⟩, fun _ => hl, .of_block (h.block C hC)⟩
theorem rm_of_aside {Rd S : Nat → Prop} (h : Aside Wg w w') (hl : WgLive ty Wg w') (hS : ∀ b, S b → b ≠ Wg) (hR : ∀ b, Rd b → b ≠ Wg) (hC : C ≠ Wg) : RM ty Wg C Rd S w w' :=
  ⟨⟨h.tape, h.os, h.output, by rw [h.size]; exact Nat.le_refl _, fun b hb => h.block b (hS b hb), fun b hb => h.block b (hR b hb)⟩, fun _ => hl, .of_block (h.block C hC)⟩
theorem OutStay.weaken {mine mine' : Nat → Prop} (h : OutStay C mine w w') (k : ∀ o, mine' o → mine o) : OutStay C mine' w w' := fun cs e fr h0 =>
  let ⟨cs', h1, h2, h3⟩ := h cs e fr h0
  ⟨cs', h1, h2, fun o ho => h3 o (k o ho)⟩
theorem Geo.sized (h : Geo Wg C j Sg Rg Sm Rm w) (hs : w.heap.size ≤ w'.heap.size) : Geo Wg C j Sg Rg Sm Rm w' :=
  ⟨Nat.lt_of_lt_of_le h.hW hs, Nat.lt_of_lt_of_le h.hC hs, h.hCW, fun i hi b hb => let ⟨x, y⟩ := h.sg i hi b hb; ⟨Nat.lt_of_lt_of_le x hs, y⟩, fun b hb => let ⟨x, y⟩ := h.sm b hb; ⟨Nat.lt_of_lt_of_le x hs, y⟩, fun b hb => let ⟨x, y⟩ := h.rm b hb; ⟨Nat.lt_of_lt_of_le x hs, y⟩,
    h.rg, h.d1, h.d2, h.d3, h.d4⟩
/-- The library's bookkeeping: whoever says it. -/
theorem okG_of_Bk {O : Own} {B g : Nat} {fn : FuncId} {pos : String} {es : Array Event} (hsh : ∀ l, ShN Wg l → O.sh l) (hW : Wg < B) (h : ∀ e ∈ es, Bk Wg e) : ∀ op ∈ MemOp.ofEvents g fn pos es, OkG O B (stA Wg) g op := by
  intro op hop
  obtain ⟨e, he, rfl⟩ := Go.Conc.mem_ofEvents hop
  rcases h e he with h1 | h1 | ⟨ad, wr, rfl, h3⟩
  · simp only [OkG, ofEvent_loc_mark h1]; exact ⟨trivial, trivial, by simp, fun x hx => by cases hx⟩
  · simp only [OkG, ofEvent_loc_mark h1]; exact ⟨trivial, trivial, by simp, fun x hx => by cases hx⟩
  · simp only [OkG, ofEvent_cell]
    refine ⟨trivial, by show ad.block < B; omega, by simp, fun x hx => ?_⟩
    simp only [MemAct.touch?, Option.some.injEq] at hx
    subst hx
    exact .inr (.inr ⟨hsh _ ⟨ad, rfl, h3⟩, rfl⟩)
/-- WHATEVER STEP OF WORKER NUMBER i. -/
theorem workerStep (hA : ∀ Rm S g w, Anch Rm S g w → g.status = .running) (hFst : ∀ i Rd S w w₁, RW ty Wg C (mine i) Rd S w w₁ → Fact i S w → Fact i S w₁) (hb : 0 < base)
    (ha : gs[0]? = some a) (hms : MS P ty Wg C mine Fact n Nx Anch tag j T0 d0 Rm Sm a w) (hcom : Com P ty Wg C mine Fact base Shun j gs w t D Sg Rg F Sm Rm d0)
    {i : Nat} (hi : i < j) {g g' : Goroutine} {es : Array Event} {s' dd' : Nat} {T' : Tr} {S' : Nat → Prop} {st' sm' : Int} (hg : gs[base + i]? = some g) (hgo : stepG P false g w = .go g' w' es)
    (hRm : RM ty Wg C Rm Sm w w') (hRk : ∀ k, k < j → k ≠ i → RW ty Wg C (mine k) (Rg k) (Sg k) w w') (hws : WS P ty Wg C mine Fact i (Rg i) s' T' dd' S' g' w') (hgeo : Geo Wg C j (upd Sg i S') Rg Sm Rm w')
    (hti : TI (ownOf base Wg C mine j (upd Sg i S') Rg Sm Rm) Shun w'.heap.size (base + j) (stA Wg) (t ++ MemOp.ofEvents (base + i) g.frame.fn g.frame.place es)) (hdd : deafBehind (D i).deaf es = dd')
    (hrel : s' ≤ 6 → ∃ r, Rel (ShN Wg) (stA Wg) (t ++ MemOp.ofEvents (base + i) g.frame.fn g.frame.place es) (base + i) r) (hfact : s' ≤ 6 → Fact i S' w') (hwg : WgAt ty Wg w' st' sm')
    (hmode : ∀ tag', (tag' = tag ∨ (tag = .blk ∧ tag' = .w3)) → (mayWake P g = true → g'.status = .running → tag' ≠ .blk) → ConcN.Mode j (upd D i ⟨s', 0, dd'⟩) tag' st' sm')
    (hlt : (s' < (D i).stage ∧ cnt ⟨s', 0, dd'⟩ ≤ cnt (D i)) ∨ (s' = (D i).stage ∧ Sub T' (F (base + i)))) :
    ∃ m₁ ops μ', runT P (crowd gs w sl) (base + i) = (.next m₁, ops) ∧ Lt3 (base + n) μ' (phi n (Vc j D) tag + Ssum j D, F, T0) ∧ Inv P ty Wg C mine Fact n Nx Anch base Shun μ' m₁ (t ++ ops) := by
  have hrun := runT_crowd_go (P := P) (sl := sl) (i := base + i) hg (by
    have : (base + i == 0) = false := by simp; omega
    rw [this]; exact hgo)
  obtain ⟨tag', T0', hms', htag, hwk⟩ := hms.wokenBy hA hRm g g'
  have hbd := hms.bound
  have hV := Vc_upd D (⟨s', 0, dd'⟩ : WD) hi
  have hS : Ssum j (upd D i ⟨s', 0, dd'⟩) + (D i).stage = Ssum j D + s' := sumTo_upd D (⟨s', 0, dd'⟩ : WD) (fun x => x.stage) hi
  refine ⟨_, _, (phi n (Vc j (upd D i ⟨s', 0, dd'⟩)) tag' + Ssum j (upd D i ⟨s', 0, dd'⟩), upd F (base + i) T', T0'), hrun, ?_,
    _, w', sl, j, upd D i ⟨s', 0, dd'⟩, upd Sg i S', Rg, upd F (base + i) T', Sm, Rm, tag', T0', d0, woken P g g' w' a, st', sm', rfl, ?_, hms', ?_, hwg, hmode tag' htag hwk, rfl⟩
  · rw [phi_retag n _ htag]
    rcases hlt with ⟨h1, h2⟩ | ⟨h1, h2⟩
    · refine Prod.Lex.left _ _ ?_
      have := phi_mono n (v' := Vc j (upd D i ⟨s', 0, dd'⟩)) (v := Vc j D) (by omega) tag
      omega
    · have ec : cnt (⟨s', 0, dd'⟩ : WD) = cnt (D i) := by simp only [cnt, h1]
      have ev : Vc j (upd D i ⟨s', 0, dd'⟩) = Vc j D := by omega
      have es' : Ssum j (upd D i ⟨s', 0, dd'⟩) = Ssum j D := by omega
      rw [ev, es']
      exact Prod.Lex.right _ (Prod.Lex.left _ _ ⟨base + i, by omega, by rw [upd_same]; exact h2, fun k hk => upd_ne F T' hk⟩)
  · rw [get_map_set _ _ _ _ (by omega), ha]; rfl
  · refine ⟨by simp [hcom.size], fun k hk => ?_, fun l h1 h2 => ?_, hti, ?_, fun k hk => ?_, fun k hk hs => ?_, fun k hk hs => ?_, hgeo⟩
    · by_cases e : k = i
      · subst e
        exact ⟨g', get_map_set_same _ _ _ (by rw [hcom.size]; omega), by rw [upd_same, upd_same, upd_same]; exact hws⟩
      · obtain ⟨x, hx, hsx⟩ := hcom.wk k hk
        refine ⟨x, by rw [get_map_set _ _ _ _ (by omega), hx, Option.map_some, hsx.woken], ?_⟩
        rw [upd_ne D _ e, upd_ne F _ (by omega), upd_ne Sg _ e]
        exact hsx.rely (hRk k hk e)
    · obtain ⟨x, q, hx, hq, hF⟩ := hcom.lv l h1 h2
      refine ⟨x, q, by rw [get_map_set _ _ _ _ (by omega), hx, Option.map_some, woken_quitsD hq], ?_, by rw [upd_ne F _ (by omega)]; exact hF⟩
      rw [Deaf_other t (g := l) (g' := base + i) (by omega) _ g_of_ofEvents]; exact hq
    · rw [Deaf_other t (g := 0) (g' := base + i) (by omega) _ g_of_ofEvents, hcom.deaf0]
    · by_cases e : k = i
      · subst e; rw [Deaf_own, hcom.deafW k hk, upd_same]; exact hdd
      · rw [Deaf_other t (by omega) _ g_of_ofEvents, hcom.deafW k hk, upd_ne D _ e]
    · by_cases e : k = i
      · subst e; rw [upd_same] at hs; exact hrel hs
      · rw [upd_ne D _ e] at hs
        obtain ⟨r, hr⟩ := hcom.rel k hk hs
        exact ⟨r, hr.appOther fun op hop => by rw [g_of_ofEvents op hop]; omega⟩
    · by_cases e : k = i
      · subst e; rw [upd_same] at hs ⊢; exact hfact hs
      · rw [upd_ne D _ e] at hs
        rw [upd_ne Sg _ e]
        exact hFst k (Rg k) _ _ _ (hRk k hk e) (hcom.fact k hk hs)
theorem upd_self {α : Type} (f : Nat → α) (i : Nat) : upd f i (f i) = f := by
  funext k
  by_cases e : k = i
  · subst e; rw [upd_same]
  · rw [upd_ne f _ e]
set_option maxHeartbeats 1600000 in
theorem stepWorker (hA : ∀ Rm S g w, Anch Rm S g w → g.status = .running) (hFst : ∀ i Rd S w w₁, RW ty Wg C (mine i) Rd S w w₁ → Fact i S w → Fact i S w₁) (hb : 0 < base) (hm : ∀ i k o, mine i o → mine k o → i = k) (hn : n < 2147483648)
    (ha : gs[0]? = some a) (hms : MS P ty Wg C mine Fact n Nx Anch tag j T0 d0 Rm Sm a w) (hcom : Com P ty Wg C mine Fact base Shun j gs w t D Sg Rg F Sm Rm d0) (hwg : WgAt ty Wg w st sm) (hmode : ConcN.Mode j D tag st sm)
    {i : Nat} (hi : i < j) {g : Goroutine} (hg : gs[base + i]? = some g) (hrun : g.status = .running) :
    ∃ m₁ ops μ', runT P (crowd gs w sl) (base + i) = (.next m₁, ops) ∧ Lt3 (base + n) μ' (phi n (Vc j D) tag + Ssum j D, F, T0) ∧ Inv P ty Wg C mine Fact n Nx Anch base Shun μ' m₁ (t ++ ops) := by
  obtain ⟨g₁, hg₁, hs⟩ := hcom.wk i hi
  obtain rfl : g = g₁ := by rw [hg] at hg₁; exact Option.some.inj hg₁
  generalize hst : (D i).stage = s at hs
  generalize hfu : F (base + i) = T at hs
  generalize hde : (D i).deaf = dd at hs
  generalize hSi : Sg i = Si at hs
  have hbd := hms.bound
  have hVj := Vc_le j D
  have geo := hcom.geo
  have hap := geo.apart (base := base) (mine := mine) hm
  have hWi : (ownOf base Wg C mine j Sg Rg Sm Rm).W (base + i) := ⟨by omega, by omega⟩
  have hdk : Deaf t (base + i) = dd := by rw [hcom.deafW i hi, hde]
  have eS : upd Sg i Si = Sg := by rw [← hSi]; exact upd_self Sg i
  have hWlt : Wg < w.heap.size := geo.hW
  -- a step of the library's bookkeeping: at most the group's block turns
  have bookG : ∀ {g' : Goroutine} {w' : World} {es : Array Event} {s' dd' : Nat} {T' : Tr} {st' sm' : Int}, stepG P false g w = .go g' w' es → Aside Wg w w' → WgAt ty Wg w' st' sm' → (∀ e ∈ es, Bk Wg e) →
      (∀ jx e, es[jx]? = some e → (MemAct.ofEvent e).touch? = none ∨ 0 < deafBehind dd (es.extract 0 jx)) → WS P ty Wg C mine Fact i (Rg i) s' T' dd' Si g' w' → deafBehind dd es = dd' → s ≤ 6 →
      (∀ tag', (tag' = tag ∨ (tag = .blk ∧ tag' = .w3)) → (mayWake P g = true → g'.status = .running → tag' ≠ .blk) → ConcN.Mode j (upd D i ⟨s', 0, dd'⟩) tag' st' sm') → ((s' < s ∧ cnt ⟨s', 0, dd'⟩ ≤ cnt (D i)) ∨ (s' = s ∧ Sub T' T)) →
      ∃ m₁ ops μ', runT P (crowd gs w sl) (base + i) = (.next m₁, ops) ∧ Lt3 (base + n) μ' (phi n (Vc j D) tag + Ssum j D, F, T0) ∧ Inv P ty Wg C mine Fact n Nx Anch base Shun μ' m₁ (t ++ ops) := by
    intro g' w' es s' dd' T' st' sm' hgo hAs hwg' hbk hd hs' hdd h6 hmode' hlt
    have hl : WgLive ty Wg w' := ⟨_, _, hwg'⟩
    have hrw : ∀ k, k < j → RW ty Wg C (mine k) (Rg k) (Sg k) w w' := fun k hk => rw_of_aside hAs hl (fun b hb => (geo.sg k hk b hb).2.1) (fun b hb => (geo.rm b (geo.rg k hk b hb)).2.1) geo.hCW
    refine workerStep hA hFst hb ha hms hcom hi hg hgo (rm_of_aside hAs hl (fun b hb => (geo.sm b hb).2.1) (fun b hb => (geo.rm b hb).2.1) geo.hCW) (fun k hk _ => hrw k hk) hs' (by rw [eS]; exact geo.sized (by rw [hAs.size]; exact Nat.le_refl _)) ?_ (by rw [hde]; exact hdd)
      (fun _ => let ⟨r, hr⟩ := hcom.rel i hi (by omega); ⟨r, hr.book hdk _ _ hbk hd⟩) (fun _ => by rw [← hSi]; exact hFst i (Rg i) _ _ _ (hrw i hi) (hcom.fact i hi (by omega))) hwg' hmode' (by rw [hst, hfu]; exact hlt)
    rw [eS, hAs.size]
    exact hcom.ti.appW hap hWi (okG_of_Bk (fun l h => h) hWlt hbk)
  have book : ∀ {g' : Goroutine} {w' : World} {es : Array Event} {s' dd' : Nat} {T' : Tr} {st' sm' : Int}, stepG P false g w = .go g' w' es → Aside Wg w w' → WgAt ty Wg w' st' sm' → (∀ e ∈ es, Bk Wg e) →
      (∀ jx e, es[jx]? = some e → (MemAct.ofEvent e).touch? = none ∨ 0 < deafBehind dd (es.extract 0 jx)) → WS P ty Wg C mine Fact i (Rg i) s' T' dd' Si g' w' → deafBehind dd es = dd' → s ≤ 6 →
      ConcN.Mode j (upd D i ⟨s', 0, dd'⟩) tag st' sm' → ((s' < s ∧ cnt ⟨s', 0, dd'⟩ ≤ cnt (D i)) ∨ (s' = s ∧ Sub T' T)) →
      ∃ m₁ ops μ', runT P (crowd gs w sl) (base + i) = (.next m₁, ops) ∧ Lt3 (base + n) μ' (phi n (Vc j D) tag + Ssum j D, F, T0) ∧ Inv P ty Wg C mine Fact n Nx Anch base Shun μ' m₁ (t ++ ops) :=
    fun hgo hAs hwg' hbk hd hs' hdd h6 hmode' hlt => bookG hgo hAs hwg' hbk hd hs' hdd h6 (fun _ ht _ => hmode'.retag ht) hlt
  -- an idle step behind the release: nothing turns, nothing is listed
  have idle : ∀ {g' : Goroutine} {T' : Tr}, stepG P false g w = .go g' w #[] → WS P ty Wg C mine Fact i (Rg i) s T' dd Si g' w → Sub T' T → s ≤ 6 →
      ∃ m₁ ops μ', runT P (crowd gs w sl) (base + i) = (.next m₁, ops) ∧ Lt3 (base + n) μ' (phi n (Vc j D) tag + Ssum j D, F, T0) ∧ Inv P ty Wg C mine Fact n Nx Anch base Shun μ' m₁ (t ++ ops) := by
    intro g' T' hgo hs' hT h6
    exact book hgo (.refl Wg w) hwg (by simp) (by simp) hs' rfl h6 (by have := hmode.same (i := i) 0 dd; rwa [hst] at this) (.inr ⟨rfl, hT⟩)
  cases hs with
  | r0 h =>
    rcases got_cases (fun _ a => RW.refl a) h with ⟨hfact, _, g', hgo, m₂, hk⟩ | ⟨T', g', w', es, S', hT, hgo, hD, hg'⟩
    · refine workerStep hA hFst hb ha hms hcom hi hg hgo (.refl w) (fun _ _ _ => RW.refl w) (.k0 hk) (by rw [eS]; exact geo) ?_ (by rw [hde]; rfl) (fun _ => ⟨t.size, rel_new hdk _ _⟩) (fun _ => hfact) hwg (fun _ ht _ => (hmode.counted hi (by omega) (.inl rfl) _ _).retag ht) (.inl ⟨by omega, by simp [cnt, hst]⟩)
      rw [eS]
      refine hcom.ti.appW hap hWi fun op hop => ?_
      obtain ⟨e, he, rfl⟩ := Go.Conc.mem_ofEvents hop
      simp at he
      subst he
      exact ⟨rfl, hWlt, by simp [ofEvent_mk], fun x hx => by cases hx⟩
    · -- it works
      subst hSi
      have hsz := hD.size
      have hstay : ∀ b, b < w.heap.size → ¬ Sg i b → b ≠ C → w'.heap[b]? = w.heap[b]? := hD.old
      have hWst : w'.heap[Wg]? = w.heap[Wg]? := hstay Wg hWlt (fun hs => (geo.sg i hi Wg hs).2.1 rfl) (Ne.symm geo.hCW)
      have hS' : ∀ b, S' b ↔ Sg i b ∨ (w.heap.size ≤ b ∧ b < w'.heap.size) := hD.own
      have hrd : ∀ b, Rm b → w'.heap[b]? = w.heap[b]? := fun b hb => hstay b (geo.rm b hb).1 (fun hs => geo.d3 i b hi hs hb) (geo.rm b hb).2.2
      have hgeo' : Geo Wg C j (upd Sg i S') Rg Sm Rm w' := by
        have g1 := geo.sized hsz
        have big : ∀ b, w.heap.size ≤ b → b ≠ Wg ∧ b ≠ C := fun b hb => ⟨by omega, by have := geo.hC; omega⟩
        refine ⟨g1.hW, g1.hC, g1.hCW, fun k hk b hkb => ?_, g1.sm, g1.rm, g1.rg, fun k l b hk hl h1 h2 => ?_, fun k b hk h1 h2 => ?_, fun k b hk h1 h2 => ?_, g1.d4⟩
        · by_cases e : k = i
          · subst e
            rw [upd_same] at hkb
            rcases (hS' b).1 hkb with h | ⟨h1, h2⟩
            · exact g1.sg k hk b h
            · exact ⟨h2, big b h1⟩
          · rw [upd_ne Sg _ e] at hkb; exact g1.sg k hk b hkb
        · by_cases e : k = i <;> by_cases e' : l = i
          · omega
          · subst e
            rw [upd_same] at h1; rw [upd_ne Sg _ e'] at h2
            rcases (hS' b).1 h1 with h | ⟨h, _⟩
            · exact geo.d1 k l b hk hl h h2
            · have := (geo.sg l hl b h2).1; omega
          · subst e'
            rw [upd_same] at h2; rw [upd_ne Sg _ e] at h1
            rcases (hS' b).1 h2 with h | ⟨h, _⟩
            · exact geo.d1 k l b hk hl h1 h
            · have := (geo.sg k hk b h1).1; omega
          · rw [upd_ne Sg _ e] at h1; rw [upd_ne Sg _ e'] at h2; exact geo.d1 k l b hk hl h1 h2
        · by_cases e : k = i
          · subst e
            rw [upd_same] at h1
            rcases (hS' b).1 h1 with h | ⟨h, _⟩
            · exact geo.d2 k b hk h h2
            · have := (geo.sm b h2).1; omega
          · rw [upd_ne Sg _ e] at h1; exact geo.d2 k b hk h1 h2
        · by_cases e : k = i
          · subst e
            rw [upd_same] at h1
            rcases (hS' b).1 h1 with h | ⟨h, _⟩
            · exact geo.d3 k b hk h h2
            · have := (geo.rm b h2).1; omega
          · rw [upd_ne Sg _ e] at h1; exact geo.d3 k b hk h1 h2
      have hti : TI (ownOf base Wg C mine j (upd Sg i S') Rg Sm Rm) Shun w'.heap.size (base + j) (stA Wg) (t ++ MemOp.ofEvents (base + i) g.frame.fn g.frame.place es) := by
        have h1 : TI (ownOf base Wg C mine j (upd Sg i S') Rg Sm Rm) Shun w.heap.size (base + j) (stA Wg) t := hcom.ti.hand (fun _ => Iff.rfl) (fun γ hγ l hl => by
            rcases hl with hl | hl
            · by_cases e : γ - base = i
              · rw [e, upd_same] at hl
                have key : inBl (Sg i) l ∨ ¬ l.low w.heap.size := by
                  cases l with
                  | cell a => exact ((hS' _).1 hl).imp (fun h => h) fun h => by show ¬ a.block < _; omega
                  | obj r => exact ((hS' _).1 hl).imp (fun h => h) fun h => by show ¬ r < _; omega
                  | output => exact hl.elim
                  | goroutines => exact hl.elim
                  | mark m => exact hl.elim
                exact key.imp (fun h => .inl (by rw [e]; exact h)) id
              · rw [upd_ne Sg _ e] at hl; exact .inl (.inl hl)
            · exact .inl (.inr hl)) (fun _ _ _ h => .inl h) (fun _ h => .inl h) (fun _ h => .inl h) (fun _ h => .inl h)
        refine (h1.mono hsz).appW (hgeo'.apart (base := base) (mine := mine) hm) hWi fun op hop => ?_
        obtain ⟨e, he, rfl⟩ := Go.Conc.mem_ofEvents hop
        have eb : base + i - base = i := by omega
        have hown : ∀ l, inBl S' l → (ownOf base Wg C mine j (upd Sg i S') Rg Sm Rm).own (base + i) l := fun l hl => .inl (by rw [eb, upd_same]; exact hl)
        have hrdd : ∀ l, inBl (Rg i) l → (ownOf base Wg C mine j (upd Sg i S') Rg Sm Rm).rd (base + i) l := fun l hl => by show inBl (Rg (base + i - base)) l; rw [eb]; exact hl
        have lowS : ∀ b, S' b → b < w'.heap.size := fun b hb => by have := hgeo'.sg i hi b (by rw [upd_same]; exact hb); exact this.1
        have lowR : ∀ b, Rg i b → b < w'.heap.size := fun b hb => (hgeo'.rm b (geo.rg i hi b hb)).1
        rcases hD.evs e he with ev | ⟨o, wr, ho, rfl⟩
        · obtain ⟨loc, wr, sy⟩ := e
          rcases ev with ⟨a, l1, l2, l3⟩ | ⟨r, l1, l2, ls⟩ | l
          · simp only at l1 l2 l3
            subst l1; subst l3
            simp only [OkG, ofEvent_cell]
            refine ⟨trivial, l2.elim (lowS _) (fun h => lowR _ h.1), by simp, fun x hx => ?_⟩
            simp only [MemAct.touch?, Option.some.injEq] at hx
            subst hx
            rcases l2 with l2 | ⟨l2, l3⟩
            · exact .inl (hown (.cell a) l2)
            · exact .inr (.inl ⟨hrdd (.cell a) l2, l3⟩)
          · simp only at l1 l2 ls
            subst l1
            have eo : MemAct.ofEvent ⟨.obj r, wr, sy⟩ = .access ⟨.obj r, wr, sy⟩ := by cases wr <;> cases sy <;> first | rfl | exact absurd (ls rfl) (by simp)
            simp only [OkG, eo]
            refine ⟨trivial, l2.elim (lowS _) (fun h => lowR _ h.1), by simp, fun x hx => ?_⟩
            simp only [MemAct.touch?, Option.some.injEq] at hx
            subst hx
            rcases l2 with l2 | ⟨l2, l3⟩
            · exact .inl (hown (.obj r) l2)
            · exact .inr (.inl ⟨hrdd (.obj r) l2, l3⟩)
          · injection l with l1 l2 l3
            subst l1; subst l2; subst l3
            exact ⟨rfl, trivial, by simp [MemAct.ofEvent], fun x hx => by cases hx⟩
        · simp only [OkG, ofEvent_cell]
          refine ⟨trivial, hgeo'.hC, by simp, fun x hx => ?_⟩
          simp only [MemAct.touch?, Option.some.injEq] at hx
          subst hx
          exact .inl (.inr ⟨o, by rw [eb]; exact ho, rfl⟩)
      have hdf : deafBehind 0 es = 0 := deafBehind_still (fun e he => by
        rcases hD.evs e he with (⟨a, l1, _⟩ | ⟨r, l1, _⟩ | l) | ⟨o, wr, _, rfl⟩
        · rw [l1]; exact ⟨by simp, by simp⟩
        · rw [l1]; exact ⟨by simp, by simp⟩
        · rw [l]; exact ⟨by simp, by simp⟩
        · exact ⟨by simp, by simp⟩) 0
      refine workerStep hA hFst hb ha hms hcom hi hg hgo ⟨⟨hD.tape, hD.os, hD.output, hsz, fun b hb => hstay b (geo.sm b hb).1 (fun hs => geo.d2 i b hi hs hb) (geo.sm b hb).2.2, hrd⟩, live_of_block hWst, hD.out.weaken fun _ h => h.elim⟩ (fun k hk hne => ?_) (.r0 hg') hgeo' hti (by rw [hde]; exact hdf) (fun h => by omega) (fun h => by omega) (hwg.of_block hWst)
        (fun _ ht _ => ConcN.Mode.retag (by have := hmode.same (i := i) 0 0; rwa [hst] at this) ht) (.inr ⟨hst.symm, by rw [hfu]; exact hT⟩)
      refine ⟨⟨hD.tape, hD.os, hD.output, hsz, fun b hb => hstay b (geo.sg k hk b hb).1 (fun hs => hne (geo.d1 k i b hk hi hb hs)) (geo.sg k hk b hb).2.2, fun b hb => hrd b (geo.rg k hk b hb)⟩, live_of_block hWst, fun cs e fr h0 => ?_⟩
      obtain ⟨cs', h1, h2, h3⟩ := hD.out cs e fr h0
      exact ⟨cs', h1, h2, fun o ho => h3 o fun hx => hne (hm k i o ho hx)⟩
  | k0 h =>
    rcases Goes.cases h with hstop | ⟨m', rfl, hstep⟩
    · obtain ⟨_, g', hgo, m₂, hk⟩ := hstop w (RW.refl w)
      exact book hgo (.refl Wg w) hwg (by intro e he; simp at he; subst he; exact .inl rfl) (by intro jx e he; exact .inl (by have := Array.mem_of_getElem? he; simp at this; subst this; rfl)) (.k1 hk) rfl (by omega)
        (hmode.counted hi (by omega) (.inr rfl) _ _) (.inl ⟨by omega, by simp [cnt, hst]⟩)
    · obtain ⟨g', w', es, hgo, ⟨rfl, rfl⟩, hg'⟩ := hstep w (RW.refl w)
      exact idle hgo (.k0 hg') (sub_trN _) (by omega)
  | k1 h =>
    rcases Goes.cases h with hstop | ⟨m', rfl, hstep⟩
    · obtain ⟨_, hall⟩ := hstop w (RW.refl w)
      have hc1 : cnt (D i) = 1 := by simp [cnt, hst]
      have hV1 : 1 ≤ Vc j D := by have := le_sumTo (f := fun x => cnt (D x)) hi; simp only [Vc]; omega
      have bk2 : ∀ e ∈ #[rd (stA Wg), wr (stA Wg)], Bk Wg e := by intro e he; simp at he; rcases he with rfl | rfl <;> exact bk_cell _ _ rfl
      have df2 : ∀ jx e, (#[rd (stA Wg), wr (stA Wg)] : Array Event)[jx]? = some e → (MemAct.ofEvent e).touch? = none ∨ 0 < deafBehind 1 ((#[rd (stA Wg), wr (stA Wg)] : Array Event).extract 0 jx) := by
        intro jx e he
        match jx, he with
        | 0, _ => exact .inr (by simp [deafBehind])
        | 1, _ => exact .inr (by simp [deafBehind, rd])
        | jx + 2, he => simp at he
      have hq0 : cnt (⟨1, 0, 1⟩ : WD) = 0 := rfl
      have opq : OpenSt j D → OpenSt j (upd D i ⟨1, 0, 1⟩) := fun h a ha => by
        by_cases e : a = i
        · subst e; rw [upd_same]; simp
        · rw [upd_ne D _ e]; exact h a ha
      have hVu := Vc_upd D (⟨1, 0, 1⟩ : WD) hi
      cases hmode with
      | opn h1 h2 h3 =>
        obtain ⟨v, hv⟩ : ∃ v, Vc j D + pend tag = v + 1 := ⟨Vc j D + pend tag - 1, by omega⟩
        rw [hv] at hwg
        have hw1 : WgAt ty Wg w (((v : Nat) + 1) * KK + ((0 : Nat) : Int)) 0 := by simpa using hwg
        obtain ⟨g', hgo, _, hq⟩ := hall v 0 (by omega) (by omega) hw1
        obtain ⟨q, hq⟩ := hq (by omega)
        have hv' : Vc j (upd D i ⟨1, 0, 1⟩) + pend tag = v := by omega
        refine book hgo (aside_setCell w (stA Wg) _) (hwg.setSt _) bk2 df2 (.quit hq) rfl (by omega) ?_ (.inl ⟨by omega, by simp [cnt]⟩)
        have e : ((v : Nat) : Int) * KK + ((0 : Nat) : Int) = ((Vc j (upd D i ⟨1, 0, 1⟩) + pend tag : Nat) : Int) * KK := by rw [hv']; simp
        rw [e]
        exact .opn h1 (opq h2) (fun vs ev => by have := h3 vs ev; omega)
      | reg h1 h2 h3 =>
        obtain ⟨v, hv⟩ : ∃ v, Vc j D = v + 1 := ⟨Vc j D - 1, by omega⟩
        rw [hv] at hwg
        have hw1 : WgAt ty Wg w (((v : Nat) + 1) * KK + ((1 : Nat) : Int)) 0 := by simpa using hwg
        obtain ⟨g', hgo, hl, hq⟩ := hall v 1 (by omega) (by omega) hw1
        by_cases hv0 : v = 0
        · subst hv0
          obtain ⟨m₂, hk⟩ := hl ⟨rfl, rfl⟩
          refine book hgo (aside_setCell w (stA Wg) _) (hwg.setSt _) bk2 df2 (.k2 hk) rfl (by omega) ?_ (.inl ⟨by omega, by simp [cnt]⟩)
          have hoth : ∀ a, a < j → a ≠ i → (D a).stage = 1 := fun a ha e => by
            have c0 := others_uncounted hi hv hc1 a ha e
            have := h2 a ha
            simp only [cnt] at c0
            split at c0 <;> omega
          have := ConcN.Mode.last (j := j) (D := upd D i ⟨4, 0, 1⟩) (tag := tag) i h1 hi (by rw [upd_same]; simp) (fun a ha e => by rw [upd_ne D _ e]; exact hoth a ha e)
          rw [upd_same] at this
          simpa using this
        · obtain ⟨q, hq⟩ := hq (by omega)
          have hv' : Vc j (upd D i ⟨1, 0, 1⟩) = v := by omega
          refine book hgo (aside_setCell w (stA Wg) _) (hwg.setSt _) bk2 df2 (.quit hq) rfl (by omega) ?_ (.inl ⟨by omega, by simp [cnt]⟩)
          have e : ((v : Nat) : Int) * KK + ((1 : Nat) : Int) = ((Vc j (upd D i ⟨1, 0, 1⟩) : Nat) : Int) * KK + 1 := by rw [hv']; simp
          rw [e]
          exact .reg h1 (opq h2) (by omega)
      | last L _ h2 h3 h4 =>
        by_cases e : i = L
        · subst e; omega
        · have := h4 i hi e; omega
      | sema h2 => have := h2 i hi; omega
      | fin _ h2 => have := h2 i hi; omega
    · obtain ⟨g', w', es, hgo, ⟨rfl, rfl⟩, hg'⟩ := hstep w (RW.refl w)
      exact idle hgo (.k1 hg') (sub_trN _) (by omega)
  | k2 h =>
    rcases Goes.cases h with hstop | ⟨m', rfl, hstep⟩
    · obtain ⟨_, hx⟩ := hstop w (RW.refl w)
      obtain ⟨hW3, hoth, rfl, rfl⟩ := hmode.isLast hi (by omega)
      simp only [hst] at hwg
      obtain ⟨g', hgo, m₂, hk⟩ := hx (by simpa using hwg)
      refine book hgo (.refl Wg w) hwg (by intro e he; simp at he; subst he; exact bk_cell _ _ rfl) (by intro jx e he; match jx, he with | 0, _ => exact .inr (by simp [deafBehind]) | jx + 1, he => simp at he) (.k3 hk) rfl (by omega) ?_ (.inl ⟨by omega, by simp [cnt]⟩)
      have := ConcN.Mode.last (j := j) (D := upd D i ⟨3, 0, 1⟩) (tag := tag) i hW3 hi (by rw [upd_same]; simp) (fun a ha e => by rw [upd_ne D _ e]; exact hoth a ha e)
      rw [upd_same] at this
      simpa using this
    · obtain ⟨g', w', es, hgo, ⟨rfl, rfl⟩, hg'⟩ := hstep w (RW.refl w)
      exact idle hgo (.k2 hg') (sub_trN _) (by omega)
  | k3 h =>
    rcases Goes.cases h with hstop | ⟨m', rfl, hstep⟩
    · obtain ⟨_, hx⟩ := hstop w (RW.refl w)
      obtain ⟨hW3, hoth, rfl, rfl⟩ := hmode.isLast hi (by omega)
      simp only [hst] at hwg
      obtain ⟨g', hgo, m₂, hk⟩ := hx (by simpa using hwg)
      refine book hgo (aside_setCell w (stA Wg) _) (hwg.setSt 0) (by intro e he; simp at he; subst he; exact bk_cell _ _ rfl) (by intro jx e he; match jx, he with | 0, _ => exact .inr (by simp [deafBehind]) | jx + 1, he => simp at he) (.k4 hk) rfl (by omega) ?_ (.inl ⟨by omega, by simp [cnt]⟩)
      have := ConcN.Mode.last (j := j) (D := upd D i ⟨2, 0, 1⟩) (tag := tag) i hW3 hi (by rw [upd_same]; simp) (fun a ha e => by rw [upd_ne D _ e]; exact hoth a ha e)
      rw [upd_same] at this
      simpa using this
    · obtain ⟨g', w', es, hgo, ⟨rfl, rfl⟩, hg'⟩ := hstep w (RW.refl w)
      exact idle hgo (.k3 hg') (sub_trN _) (by omega)
  | k4 h =>
    rcases Goes.cases h with hstop | ⟨m', rfl, hstep⟩
    · obtain ⟨_, hmw, hx⟩ := hstop w (RW.refl w)
      obtain ⟨hW3, hoth, rfl, rfl⟩ := hmode.isLast hi (by omega)
      simp only [hst] at hwg
      obtain ⟨g', hgo, q, hq⟩ := hx (by simpa using hwg)
      have hrun' : g'.status = .running := by
        cases q with
        | zero => exact absurd hq.2 (by decide)
        | succ q => exact hq.elim (fun x => absurd x.2 (by decide)) (fun x => x.1)
      refine bookG hgo (aside_setCell w (smA Wg) _) (hwg.setSm 1) (es := semEvents (smA Wg)) bk_sem ?_ (.quit hq) (by simp [deafBehind, semEvents]) (by omega) ?_ (.inl ⟨by omega, by simp [cnt]⟩)
      · intro jx e he
        match jx, he with
        | 0, he => simp [semEvents] at he; subst he; exact .inl rfl
        | 1, _ => exact .inr (by simp [deafBehind, semEvents])
        | 2, _ => exact .inr (by simp [deafBehind, semEvents])
        | 3, he => simp [semEvents] at he; subst he; exact .inl rfl
        | jx + 4, he => simp [semEvents] at he
      · intro tag' ht hw
        have hnb := hw hmw hrun'
        have e3 : tag' = .w3 := by
          rcases ht with rfl | ⟨_, rfl⟩
          · cases tag' <;> first | rfl | exact hW3.elim | exact absurd rfl hnb
          · rfl
        subst e3
        simp only [if_true]
        exact .sema fun a ha => by
          by_cases e : a = i
          · subst e; rw [upd_same]
          · rw [upd_ne D _ e]; exact hoth a ha e
    · obtain ⟨g', w', es, hgo, ⟨rfl, rfl⟩, hg'⟩ := hstep w (RW.refl w)
      exact idle hgo (.k4 hg') (sub_trN _) (by omega)
  | quit h =>
    rename_i q
    cases q with
    | zero => rw [h.1] at hrun; cases hrun
    | succ q =>
      rcases h with ⟨hf, _⟩ | ⟨_, g', es, hmute, hstep, hq⟩
      · rw [hf] at hrun; cases hrun
      · have hbk : ∀ e ∈ es, Bk Wg e := fun e he => bk_of_mute (hmute e he)
        have hno : ∀ jx e, es[jx]? = some e → (MemAct.ofEvent e).touch? = none ∨ 0 < deafBehind dd (es.extract 0 jx) := fun jx e he => .inl (touch_mute (hmute e (Array.mem_of_getElem? he)))
        exact book (hstep w) (.refl Wg w) hwg hbk hno (.quit hq) rfl (by omega) (by have := hmode.same (i := i) 0 (deafBehind dd es); rwa [hst] at this) (.inr ⟨rfl, sub_trN _⟩)
end
end Go.Proofs.Ytmmolicodlmlkaa.Ph
