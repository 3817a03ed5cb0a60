/-
  Parts of the proof: A goroutine's walk does not hang on the numbers of blocks: addresses in arithmetic. A goroutine's walk does not hang on the numbers of blocks: comparisons. A goroutine's walk does not hang on the numbers of blocks: binary operations. A goroutine's walk does not hang on the numbers of blocks: binary operations. A goroutine's walk does not hang on the numbers of blocks: binary operations at the plain types. A goroutine's walk does not hang on the numbers of blocks: slices of slices, structs that are built, calls. A goroutine's walk does not hang on the numbers of blocks: maps whose keys are inte No condition.
-/
import Derived.Test.YtmmolicodlmlkaaPA
import Derived.Laws.Sem
import Derived.Conc.Own
set_option linter.unusedVariables false
set_option linter.unusedSimpArgs false
namespace Go.Proofs.Ytmmolicodlmlkaa.Rel
set_option linter.unusedVariables false
variable {X : Cx} {B : Nat}

/-- What a block that stands for a number says. -/
def RNm (X : Cx) (B : Nat) : Option (Addr × Bool) → Option (Addr × Bool) → Prop
  | none, none => True
  | some p, some q => RA X B p.1 q.1 ∧ p.2 = q.2
  | _, _ => False
theorem sr_numberAt {r : Nat} (hr : inB X.Fs B r = true) : SR X (RNm X) B (numberAt r) (numberAt (X.ρ.f r)) := by
  refine .shape hr (fun x => ?_) (fun e n => .pure trivial)
  cases x with
  | some x => exact .pure trivial
  | none =>
    refine .getObj hr (fun o ho => ?_) (fun a l ha => .pure ⟨⟨rfl, ha⟩, rfl⟩) (fun _ _ _ _ => .pure trivial)
    cases o <;> first | exact ho.elim | exact .pure trivial
theorem sr_viewAt {r : Nat} (hr : inB X.Fs B r = true) : SR X (fun _ (a b : Option (Addr × TypeId)) => a = none ∧ b = none) B (viewAt r) (viewAt (X.ρ.f r)) := by
  refine .shape hr (fun x => ?_) (fun e n => .pure ⟨rfl, rfl⟩)
  cases x with
  | some x => exact .pure ⟨rfl, rfl⟩
  | none =>
    refine .getObj hr (fun o ho => ?_) (fun a l ha => .pure ⟨rfl, rfl⟩) (fun _ _ _ _ => .pure ⟨rfl, rfl⟩)
    cases o <;> first | exact ho.elim | exact .pure ⟨rfl, rfl⟩
theorem sr_behind {a a' : Addr} (h : RA X B a a') : SR X (fun B p q => RA X B p.1 q.1 ∧ p.2 = q.2) B (behindNumber a) (behindNumber a') := by
  have hb : a'.block = X.ρ.f a.block := by rw [h.1]; rfl
  unfold behindNumber
  rw [hb]
  refine (sr_numberAt h.2).bind X ?_
  intro B1 p q hB hpq
  cases p <;> cases q <;> first | exact .pure ⟨h.mono hB, rfl⟩ | exact .pure hpq | exact hpq.elim
theorem sr_asNumber {a a' : Addr} {l : Bool} (h : RA X B a a') : SR X (RV X) B (asNumber a l) (asNumber a' l) := by
  obtain ⟨rfl, h⟩ := h
  exact .newNum h fun hal => .pure ⟨by rw [ren_pointer]; rfl, by simpa using inB_new hal⟩
/-- What a move of an address does behind the look at its arguments. -/
def addTail (r1 r2 r3 r4 : Unsupported) (p : Option Addr) (n : Int) : Sem Value := do
  if n = 0 then
    let some a := p | unsupported r1
    if (← viewAt a.block).isSome then unsupported r2
    return .pointer p
  if n < 0 then unsupported r3
  let some a := p | unsupported r4
  let some (e, cells) ← shape a.block | unsupported r4
  let P ← program
  match cellAtBytes P P.depth e (cells / P.cellsOf e) a.off n with
  | some off => pure (.pointer (some { a with off }))
  | none => unsupported r4
theorem cellAt_zero (P : Program) (d : Nat) (e : TypeId) (off : Nat) (n : Int) : cellAtBytes P d e 0 off n = none := by
  unfold cellAtBytes
  simp only [bind, Option.bind]
  split
  · rfl
  · split
    · rfl
    · dsimp only
      split
      · rfl
      · rename_i h
        exfalso
        simp at h
        omega
/-- An address. -/
def RVp (X : Cx) (B : Nat) (a b : Value) : Prop := RV X B a b ∧ ∃ p, a = .pointer p
theorem sr_addTail {r1 r2 r3 r4 : Unsupported} (h1 : deadH (.unsupported r1)) (h2 : deadH (.unsupported r2)) (h3 : deadH (.unsupported r3)) (h4 : deadH (.unsupported r4)) {p : Option Addr} {n : Int} (hp : ∀ a, p = some a → inB X.Fs B a.block = true) : SR X (RVp X) B (addTail r1 r2 r3 r4 p n) (addTail r1 r2 r3 r4 (p.map (renA X.ρ)) n) := by
  unfold addTail
  cases p with
  | none =>
    simp only [Option.map_none]
    split
    · exact sr_unsup (by assumption)
    · split <;> exact sr_unsup (by assumption)
  | some a =>
    have ha : RA X B a (renA X.ρ a) := ⟨rfl, hp a rfl⟩
    simp only [Option.map_some]
    split
    · refine (sr_viewAt ha.2).bind X ?_
      rintro B2 _ _ hB2 ⟨rfl, rfl⟩
      exact .pure ⟨(ha.mono hB2).ptr, _, rfl⟩
    · split
      · exact sr_unsup (by assumption)
      · refine .shape ha.2 (fun x => ?_) (fun e m => ?_)
        · cases x with
          | none => exact sr_unsup (by assumption)
          | some x =>
            refine .program ?_
            show SR X (RVp X) B (match cellAtBytes X.P X.P.depth x.1 (x.2 / X.P.cellsOf x.1) a.off n with | some off => pure (.pointer (some { a with off })) | none => unsupported r4) (match cellAtBytes X.P X.P.depth x.1 (x.2 / X.P.cellsOf x.1) a.off n with | some off => pure (.pointer (some { renA X.ρ a with off })) | none => unsupported r4)
            split
            · exact .pure ⟨⟨by rw [ren_pointer]; rfl, by simpa using ha.2⟩, _, rfl⟩
            · exact sr_unsup (by assumption)
        · refine .program ?_
          show SR X (RVp X) B (match cellAtBytes X.P X.P.depth e (0 / X.P.cellsOf e) a.off n with | some off => pure (.pointer (some { a with off })) | none => unsupported r4) _
          rw [Nat.zero_div, cellAt_zero]
          exact sr_unsup (by assumption)
/-- The types at which values are compared or reckoned with here. -/
def plainD : TypeDesc → Bool
  | .int _ | .bool | .string | .float _ | .slice _ => true
  | _ => false
theorem sr_addP {g : Array Value → Sem Value} {p : Option Addr} {v' y y' : Value} (hv : RV X B (.pointer p) v') (hy : RV X B y y') (hg : ∃ r1 r2 r3 r4, (∀ p y, g #[.pointer p, y] = (asInt y >>= addTail r1 r2 r3 r4 p)) ∧ deadH (.unsupported r1) ∧ deadH (.unsupported r2) ∧ deadH (.unsupported r3) ∧ deadH (.unsupported r4)) : SR X (RVp X) B (g #[.pointer p, y]) (g #[v', y']) := by
  obtain ⟨r1, r2, r3, r4, hg, h1, h2, h3, h4⟩ := hg
  obtain ⟨rfl, hv⟩ := hv
  rw [ren_pointer, hg, hg]
  refine (sr_asInt hy).bind X ?_
  intro B1 n n' hB e
  obtain rfl : n = n' := e
  exact sr_addTail h1 h2 h3 h4 fun a h => inB_mono hB (by subst h; simpa using hv)
theorem sr_movedNumber {t : TypeId} {d : TypeDesc} {p : Option Addr} {v' y y' : Value} (ht : X.P.underlying t = some d) (hd : plainD d = true) (hv : RV X B (.pointer p) v') (hy : RV X B y y') : SR X (RV X) B (movedNumber t (.pointer p) y) (movedNumber t v' y') := by
  obtain ⟨rfl, hv⟩ := hv
  rw [ren_pointer]
  unfold movedNumber
  refine under_bind ht ?_
  clear ht
  cases d <;> first | (simp [plainD] at hd; done) | skip
  all_goals
    simp only [Bool.false_eq_true, if_false]
    cases p with
    | none =>
      simp only [Option.map_none]
      refine SR.mono X (R := RVp X) (sr_addP (p := none) ⟨(ren_pointer X.ρ none).symm, by simp⟩ hy ?_) fun _ _ _ _ h => h.1
      exact ⟨_, _, _, _, fun _ _ => rfl, by exact trivial, by exact trivial, by exact trivial, by exact trivial⟩
    | some a =>
      have ha : RA X B a (renA X.ρ a) := ⟨rfl, by simpa using hv⟩
      simp only [Option.map_some]
      refine (sr_behind ha).bind X ?_
      rintro B1 ⟨b, l⟩ ⟨b', l'⟩ hB ⟨hb, hl⟩
      obtain rfl : l = l' := hl
      simp only []
      refine (sr_addP hb.ptr (hy.mono hB) (by exact ⟨_, _, _, _, fun _ _ => rfl, by exact trivial, by exact trivial, by exact trivial, by exact trivial⟩)).bind X ?_
      intro B2 u u' hB2 hu
      obtain ⟨⟨rfl, hu⟩, q, rfl⟩ := hu
      rw [ren_pointer]
      cases q with
      | none => exact .pure ⟨(ren_pointer _ _).symm, by simp⟩
      | some c => exact sr_asNumber ⟨rfl, by simpa using hu⟩
end Go.Proofs.Ytmmolicodlmlkaa.Rel
namespace Go.Proofs.Ytmmolicodlmlkaa.Rel
set_option linter.unusedVariables false
variable {X : Cx} {B : Nat}

/-- The renaming leaves the package-level variables' blocks as they are, and no other becomes one of them. -/
def Fix (X : Cx) : Prop := (∀ b, b < X.P.globals.size → X.ρ.f b = b) ∧ ∀ b, ¬ b < X.P.globals.size → ¬ X.ρ.f b < X.P.globals.size
theorem Fix.lt (h : Fix X) (b : Nat) : X.ρ.f b < X.P.globals.size ↔ b < X.P.globals.size := by
  constructor
  · intro h1
    apply Classical.byContradiction
    intro h2
    exact h.2 b h2 h1
  · intro h1; rw [h.1 b h1]; exact h1
theorem sr_boolQ {b : Bool} : SR X RQ B (pure b) (pure b) := SR.pure (R := RQ) rfl
theorem sr_equalSlice {t e : TypeId} {n : Nat} {x x' y y' : Value} (ht : X.P.underlying t = some (.slice e)) (hx : RV X B x x') (hy : RV X B y y') : SR X RQ B (Op.equalIn (n + 1) t x y) (Op.equalIn (n + 1) t x' y') := by
  obtain ⟨rfl, hx⟩ := hx
  obtain ⟨rfl, hy⟩ := hy
  clear hx hy
  unfold Op.equalIn
  refine under_bind ht ?_
  cases x
  case slice a l c =>
    rw [ren_slice]
    cases y
    case slice b m d =>
      rw [ren_slice]
      cases a <;> cases b <;> first | exact sr_boolQ | exact sr_stuck
    all_goals cases a <;> exact sr_stuck
  all_goals exact sr_stuck
theorem sr_equalBool {t : TypeId} {n : Nat} {x x' y y' : Value} (ht : X.P.underlying t = some .bool) (hx : RV X B x x') (hy : RV X B y y') : SR X RQ B (Op.equalIn (n + 1) t x y) (Op.equalIn (n + 1) t x' y') := by
  obtain ⟨rfl, hx⟩ := hx
  obtain ⟨rfl, hy⟩ := hy
  clear hx hy
  unfold Op.equalIn
  refine under_bind ht ?_
  cases x
  case bool a =>
    rw [ren_bool]
    cases y
    case bool b => rw [ren_bool]; exact sr_boolQ
    all_goals exact sr_stuck
  all_goals exact sr_stuck
theorem sr_noView {a a' : Addr} (h : RA X B a a') : SR X RQ B (noView a) (noView a') := by
  obtain ⟨rfl, h⟩ := h
  refine (sr_viewAt h).bind X ?_
  rintro B1 _ _ hB ⟨rfl, rfl⟩
  exact SR.pure (R := RQ) rfl
theorem sr_byteOf {a a' : Addr} (h : RA X B a a') : SR X RQ B (byteOf a) (byteOf a') := by
  have hs : a'.spot = a.spot := by rw [h.1]; rfl
  have hb : a'.block = X.ρ.f a.block := by rw [h.1]; rfl
  have ho : a'.off = a.off := by rw [h.1]; rfl
  unfold byteOf
  rw [hs]
  cases a.spot with
  | some s => exact SR.pure (R := RQ) rfl
  | none =>
    refine .program ?_
    refine (sr_noView h).bind X ?_
    intro B1 _ _ hB _
    rw [hb, ho]
    refine .shape (inB_mono hB h.2) (fun x => ?_) (fun e m => ?_)
    · cases x with
      | none => exact sr_stuck
      | some x =>
        dsimp only [Sem.bind]
        split
        · exact SR.pure (R := RQ) rfl
        · split
          · exact SR.pure (R := RQ) rfl
          · exact sr_stuck
    · dsimp only [Sem.bind]
      split
      · exact SR.pure (R := RQ) rfl
      · split
        · exact SR.pure (R := RQ) rfl
        · exact sr_stuck
theorem renA_beq (ρ : Rn) (a b : Addr) : (renA ρ a == renA ρ b) = (a == b) := by
  rw [Bool.eq_iff_iff, beq_iff_eq, beq_iff_eq]
  constructor
  · intro h
    obtain ⟨x1, x2, x3⟩ := a
    obtain ⟨y1, y2, y3⟩ := b
    unfold renA at h
    injection h with h1 h2 h3
    have h4 := ρ.inj _ _ h1
    simp only at h2 h3 h4
    rw [h2, h3, h4]
  · intro h; rw [h]
theorem block_beq (ρ : Rn) (a b : Addr) : ((renA ρ a).block == (renA ρ b).block) = (a.block == b.block) := by
  rw [Bool.eq_iff_iff, beq_iff_eq, beq_iff_eq]
  exact ⟨fun h => ρ.inj _ _ h, fun h => by show ρ.f a.block = ρ.f b.block; rw [h]⟩
theorem sr_equalPtrInt (hF : Fix X) {t : TypeId} {a a' b b' : Addr} (ha : RA X B a a') (hb : RA X B b b') :
    SR X RQ B (do
      let (a, b) := ((← behindNumber a).1, (← behindNumber b).1)
      if a.block == b.block && a.block < (← program).globals.size then return (← byteOf a) == (← byteOf b)
      let .named "sync.copyChecker" _ := (← typeInfo t).desc | unsupported .addressObserved
      if a == b then pure true else unsupported .addressObserved)
     (do
      let (a, b) := ((← behindNumber a').1, (← behindNumber b').1)
      if a.block == b.block && a.block < (← program).globals.size then return (← byteOf a) == (← byteOf b)
      let .named "sync.copyChecker" _ := (← typeInfo t).desc | unsupported .addressObserved
      if a == b then pure true else unsupported .addressObserved) := by
  refine (sr_behind ha).bind X ?_
  rintro B1 ⟨p, l⟩ ⟨p', l'⟩ hB ⟨hp, _⟩
  refine (sr_behind (hb.mono hB)).bind X ?_
  rintro B2 ⟨q, m⟩ ⟨q', m'⟩ hB2 ⟨hq, _⟩
  have hp2 : RA X B2 p p' := hp.mono hB2
  have hq : RA X B2 q q' := hq
  refine .program ?_
  simp only [Sem.bind]
  have e1 : (p'.block == q'.block && decide (p'.block < X.P.globals.size)) = (p.block == q.block && decide (p.block < X.P.globals.size)) := by
    rw [hp2.1, hq.1, block_beq]
    congr 1
    exact decide_eq_decide.2 (hF.lt p.block)
  have e2 : (p' == q') = (p == q) := by rw [hp2.1, hq.1, renA_beq]
  simp only [e1, e2]
  split
  · refine (sr_byteOf hp2).bind X ?_
    intro B3 u u' hB3 e
    obtain rfl : u = u' := e
    refine (sr_byteOf (hq.mono hB3)).bind X ?_
    intro B4 w w' hB4 e
    obtain rfl : w = w' := e
    exact sr_boolQ
  · refine sr_typeInfo.bind X ?_
    intro B3 i i' hB3 e
    obtain rfl : i = i' := e
    split
    · split
      · exact sr_boolQ
      · exact sr_unsup
    · exact sr_unsup
theorem sr_equalInt (hF : Fix X) {t : TypeId} {k : IntKind} {n : Nat} {x x' y y' : Value} (ht : X.P.underlying t = some (.int k)) (hx : RV X B x x') (hy : RV X B y y') : SR X RQ B (Op.equalIn (n + 1) t x y) (Op.equalIn (n + 1) t x' y') := by
  obtain ⟨rfl, hx⟩ := hx
  obtain ⟨rfl, hy⟩ := hy
  unfold Op.equalIn
  refine under_bind ht ?_
  cases x
  case int k1 a =>
    clear hx
    rw [ren_int]
    cases y
    case int k2 b =>
      clear hy
      rw [ren_int]
      simp only []
      split
      · exact sr_boolQ
      · exact sr_stuck
    case pointer b =>
      clear hy
      rw [ren_pointer]
      cases b with
      | none => exact sr_unsup
      | some b =>
        match a with
        | .ofNat 0 => exact sr_boolQ
        | .ofNat (m + 1) => exact sr_unsup
        | .negSucc m => exact sr_unsup
    all_goals exact sr_stuck
  case pointer a =>
    rw [ren_pointer]
    cases y
    case pointer b =>
      rw [ren_pointer]
      cases a with
      | none => cases b <;> exact sr_unsup
      | some a =>
        cases b with
        | none => exact sr_unsup
        | some b => exact sr_equalPtrInt hF (t := t) ⟨rfl, by simpa using hx⟩ ⟨rfl, by simpa using hy⟩
    case int k2 b =>
      rw [ren_int]
      cases a with
      | none => exact sr_unsup
      | some a =>
        match b with
        | .ofNat 0 => exact sr_boolQ
        | .ofNat (m + 1) => exact sr_unsup
        | .negSucc m => exact sr_unsup
    all_goals cases a <;> exact sr_unsup
  all_goals
    clear hx
    cases y
    case pointer b => exact sr_unsup
    all_goals exact sr_stuck
end Go.Proofs.Ytmmolicodlmlkaa.Rel
namespace Go.Proofs.Ytmmolicodlmlkaa.Rel
set_option linter.unusedVariables false
variable {X : Cx} {B : Nat}

theorem sr_twoPlaces (hF : Fix X) {a a' b b' : Addr} (ha : RA X B a a') (hb : RA X B b b') : SR X RQ B (Op.twoPlaces a b) (Op.twoPlaces a' b') := by
  unfold Op.twoPlaces
  have e1 : (a'.block != b'.block) = (a.block != b.block) := by
    rw [ha.1, hb.1, bne, bne, block_beq]
  by_cases h1 : (a.block != b.block) = true
  · simp only [e1, h1, Bool.true_or, if_true]
    exact .program sr_unsup
  · refine .program ?_
    have e2 : decide (a'.block ≥ X.P.globals.size) = decide (a.block ≥ X.P.globals.size) := by
      apply decide_eq_decide.2
      have h := hF.lt a.block
      have e : a'.block = X.ρ.f a.block := by rw [ha.1]; rfl
      rw [e]
      omega
    simp only [e1, e2, Sem.bind]
    split
    · exact sr_unsup
    · refine (sr_byteOf ha).bind X ?_
      intro B1 u u' hB e
      obtain rfl : u = u' := e
      refine (sr_byteOf (hb.mono hB)).bind X ?_
      intro B2 w w' hB2 e
      obtain rfl : w = w' := e
      exact SR.pure (R := RQ) rfl
/-- It looks at nothing: it only asks the tape. -/
inductive Calm {α : Type} (Q : α → Prop) : Sem α → Prop
  | pure {a : α} : Q a → Calm Q (.pure a)
  | halt {h : Halt} : deadH h → Calm Q (.halt h)
  | choose {q : Question} {k : Nat → Sem α} : (∀ n, Calm Q (k n)) → Calm Q (.choose q k)
theorem Calm.bind {α β : Type} {Q : α → Prop} {Q' : β → Prop} {s : Sem α} {f : α → Sem β} (h : Calm Q s) (hf : ∀ a, Q a → Calm Q' (f a)) : Calm Q' (s >>= f) := by
  show Calm Q' (s.bind f)
  induction h with
  | pure h => exact hf _ h
  | halt h => exact .halt h
  | choose _ ih => exact .choose ih
theorem Calm.sr {s : Sem Value} (h : Calm (fun v => noAddr v = true) s) : SR X (RV X) B s s := by
  induction h with
  | pure h =>
    obtain ⟨h1, h2⟩ := noAddr_ok X.ρ X.Fs B _ h
    exact .pure ⟨h1.symm, h2⟩
  | halt h => exact .dead (.halt h)
  | choose _ ih => exact .choose ih
theorem noAddr_float (k : FloatKind) (n : Nat) : noAddr (.float k n) = true := by rw [noAddr] <;> simp
theorem noAddr_bool (b : Bool) : noAddr (.bool b) = true := by rw [noAddr] <;> simp
theorem calm_floatArith {op : BinOp} {k : FloatKind} {x y : Nat} : Calm (fun v => noAddr v = true) (Op.floatArith op k x y) := by
  have tail : ∀ r : Option Nat, Calm (fun v => noAddr v = true) (match r with | some r => pure (.float k r) | none => do pure (.float k (← choose (.nanBits k x y))) : Sem Value) := by
    intro r
    cases r with
    | some r => exact .pure (noAddr_float _ _)
    | none => exact .choose fun n => .pure (noAddr_float _ _)
  cases op <;> first | exact tail _ | exact .halt trivial
theorem calm_floatCmp {op : BinOp} {k : FloatKind} {x y : Nat} : Calm (fun v => noAddr v = true) (Op.floatCmp op k x y) := by
  cases op <;> first | exact .pure (noAddr_bool _) | exact .halt trivial
theorem sr_addrSub (hF : Fix X) {k : IntKind} {a a' b b' : Addr} (ha : RA X B a a') (hb : RA X B b b') : SR X (RV X) B (Op.addrSub k a b) (Op.addrSub k a' b') := by
  refine (sr_twoPlaces hF ha hb).bind X ?_
  intro B1 p q hB e
  obtain rfl : p = q := e
  exact sr_int
theorem sr_addrCmp (hF : Fix X) {op : BinOp} {a a' b b' : Addr} (ha : RA X B a a') (hb : RA X B b b') : SR X (RV X) B (Op.addrCmp op a b) (Op.addrCmp op a' b') := by
  refine (sr_twoPlaces hF ha hb).bind X ?_
  intro B1 p q hB e
  obtain rfl : p = q := e
  cases op <;> first | exact sr_bool | exact sr_unsup
theorem sr_addrMod {k : IntKind} {n : Int} {a a' : Addr} (ha : RA X B a a') : SR X (RV X) B (Op.addrMod k a n) (Op.addrMod k a' n) := by
  have hb : a'.block = X.ρ.f a.block := by rw [ha.1]; rfl
  unfold Op.addrMod
  rw [hb]
  have tail : ∀ e : TypeId, SR X (RV X) B
      (do let i ← typeInfo e; if (decide (n < 1) || decide (n.toNat > i.align) || i.align % n.toNat != 0) = true then (do unsupported .addressObserved; pure (.int k (((← byteOf a) % n.toNat : Nat) : Int))) else pure (.int k (((← byteOf a) % n.toNat : Nat) : Int)))
      (do let i ← typeInfo e; if (decide (n < 1) || decide (n.toNat > i.align) || i.align % n.toNat != 0) = true then (do unsupported .addressObserved; pure (.int k (((← byteOf a') % n.toNat : Nat) : Int))) else pure (.int k (((← byteOf a') % n.toNat : Nat) : Int))) := by
    intro e
    refine sr_typeInfo.bind X ?_
    intro B1 i i' hB e
    obtain rfl : i = i' := e
    split
    · exact .dead (.halt trivial)
    · refine (sr_byteOf (ha.mono hB)).bind X ?_
      intro B2 u u' hB2 e
      obtain rfl : u = u' := e
      exact sr_int
  refine .shape ha.2 (fun x => ?_) (fun e m => tail e)
  cases x with
  | none => exact sr_unsup
  | some x => exact tail x.1
end Go.Proofs.Ytmmolicodlmlkaa.Rel
namespace Go.Proofs.Ytmmolicodlmlkaa.Rel
set_option linter.unusedVariables false
variable {X : Cx} {B : Nat}

theorem sr_binInt {op : BinOp} {t : TypeId} {k k' : IntKind} {a b : Int} : SR X (RV X) B (binOp op t (.int k a) (.int k' b)) (binOp op t (.int k a) (.int k' b)) := by
  by_cases h : op = .shl ∨ op = .shr
  · rcases h with rfl | rfl
    · exact sr_shift (op := .shl) (k := k) (k' := k') (x := a) (y := b)
    · exact sr_shift (op := .shr) (k := k) (k' := k') (x := a) (y := b)
  · have e : binOp op t (.int k a) (.int k' b) = if k ≠ k' then stuck "BinOp: operands of different kinds" else
        match op with
        | .add | .sub | .mul => Op.intArith op k a b
        | .quo | .rem => Op.intDiv op k a b
        | .and | .or | .xor | .andNot => Op.intBits op k a b
        | _ => Op.intCmp op a b := by
      cases op <;> first | rfl | exact absurd (by simp) h
    rw [e]
    split
    · exact sr_stuck
    · cases op <;> first | exact sr_intArith | exact sr_intDiv | exact sr_intBits | exact sr_intCmp
theorem sr_binFloat {op : BinOp} {t : TypeId} {k k' : FloatKind} {a b : Nat} : SR X (RV X) B (binOp op t (.float k a) (.float k' b)) (binOp op t (.float k a) (.float k' b)) := by
  have e : binOp op t (.float k a) (.float k' b) = if k ≠ k' then stuck "BinOp: operands of different kinds" else
      match op with
      | .add | .sub | .mul | .quo => Op.floatArith op k a b
      | _ => Op.floatCmp op k a b := by
    cases op <;> rfl
  rw [e]
  split
  · exact sr_stuck
  · cases op <;> first | exact calm_floatArith.sr | exact calm_floatCmp.sr
theorem sr_binString {op : BinOp} {t : TypeId} {a b : ByteArray} : SR X (RV X) B (binOp op t (.string a) (.string b)) (binOp op t (.string a) (.string b)) := by
  have e : binOp op t (.string a) (.string b) = Op.stringOp op a b := by cases op <;> rfl
  rw [e]
  exact sr_stringOp
end Go.Proofs.Ytmmolicodlmlkaa.Rel
namespace Go.Proofs.Ytmmolicodlmlkaa.Rel
set_option linter.unusedVariables false
variable {X : Cx} {B : Nat}

theorem sr_equalString {t : TypeId} {n : Nat} {x x' y y' : Value} (ht : X.P.underlying t = some .string) (hx : RV X B x x') (hy : RV X B y y') : SR X RQ B (Op.equalIn (n + 1) t x y) (Op.equalIn (n + 1) t x' y') := by
  obtain ⟨rfl, hx⟩ := hx
  obtain ⟨rfl, hy⟩ := hy
  clear hx hy
  unfold Op.equalIn
  refine under_bind ht ?_
  cases x
  case string a =>
    rw [ren_string]
    cases y
    case string b => rw [ren_string]; exact sr_boolQ
    all_goals exact sr_stuck
  all_goals exact sr_stuck
theorem sr_equalFloat {t : TypeId} {k : FloatKind} {n : Nat} {x x' y y' : Value} (ht : X.P.underlying t = some (.float k)) (hx : RV X B x x') (hy : RV X B y y') : SR X RQ B (Op.equalIn (n + 1) t x y) (Op.equalIn (n + 1) t x' y') := by
  obtain ⟨rfl, hx⟩ := hx
  obtain ⟨rfl, hy⟩ := hy
  clear hx hy
  unfold Op.equalIn
  refine under_bind ht ?_
  cases x
  case float k1 a =>
    rw [ren_float]
    cases y
    case float k2 b =>
      rw [ren_float]
      simp only []
      split
      · exact sr_boolQ
      · exact sr_stuck
    all_goals exact sr_stuck
  all_goals exact sr_stuck
theorem sr_equal (hF : Fix X) {t : TypeId} {d : TypeDesc} {x x' y y' : Value} (ht : X.P.underlying t = some d) (hd : plainD d = true) (hx : RV X B x x') (hy : RV X B y y') : SR X RQ B (Op.equal t x y) (Op.equal t x' y') := by
  show SR X RQ B (Op.equalIn (9999 + 1) t x y) (Op.equalIn (9999 + 1) t x' y')
  cases d <;> first
    | exact sr_equalInt hF ht hx hy
    | exact sr_equalBool ht hx hy
    | exact sr_equalString ht hx hy
    | exact sr_equalFloat ht hx hy
    | exact sr_equalSlice ht hx hy
    | exact absurd hd (by simp [plainD])
def pk : Value → Nat
  | .int _ _ => 0
  | .float _ _ => 1
  | .complex _ _ _ => 2
  | .string _ => 3
  | .pointer _ => 4
  | _ => 5
/-- No function but the program's own. -/
def noJunk : Value → Prop
  | .func (.func _) _ _ => True
  | .func _ _ _ => False
  | _ => True
theorem pk_ren (ρ : Rn) {v : Value} (h : noJunk v) : pk (ren ρ v) = pk v := by
  cases v
  case func fn a b => cases fn <;> first | exact h.elim | simp [pk]
  all_goals simp [pk]
theorem left_under2 {α β γ : Type} {R : Nat → α → β → Prop} {t : TypeId} {d : TypeDesc} (ht : X.P.underlying t = some d) {f : TypeDesc → Sem γ} {g : γ → Sem α} {s' : Sem β} (h : SR X R B (f d >>= g) s') : SR X R B ((underlying t >>= f) >>= g) s' := by
  have e : ((underlying t >>= f) >>= g) = .program fun p => ((match p.underlying t with | some d => pure d | none => stuck "no such type") >>= f) >>= g := rfl
  rw [e]
  refine .programL ?_
  rw [ht]
  exact h
theorem junk_fn {x : Value} (h : ¬ noJunk x) : ∃ fn a b, x = .func fn a b ∧ ∀ f, fn ≠ .func f := by
  cases x
  case func fn a b => exact ⟨fn, a, b, rfl, by cases fn <;> first | exact absurd trivial h | (intro f h; cases h)⟩
  all_goals exact absurd trivial h
/-- What is hidden is compared with nothing. -/
theorem sr_equalJ {α β : Type} {R : Nat → α → β → Prop} {t : TypeId} {d : TypeDesc} {n : Nat} {x y : Value} {g : Bool → Sem α} {s' : Sem β} (ht : X.P.underlying t = some d) (hd : plainD d = true) (h : ¬ noJunk x ∨ ¬ noJunk y) : SR X R B (Op.equalIn (n + 1) t x y >>= g) s' := by
  unfold Op.equalIn
  refine left_under2 ht ?_
  rcases h with h | h
  · obtain ⟨fn, a, b, rfl, _⟩ := junk_fn h
    cases d <;> first
      | (simp [plainD] at hd; done)
      | skip
    all_goals cases y <;> (refine .dead (.halt ?_); trivial)
  · obtain ⟨fn, a, b, rfl, _⟩ := junk_fn h
    cases d <;> first
      | (simp [plainD] at hd; done)
      | skip
    all_goals
      cases x
      case slice a l c => cases a <;> (refine .dead (.halt ?_); trivial)
      case pointer a => cases a <;> (refine .dead (.halt ?_); trivial)
      all_goals (refine .dead (.halt ?_); trivial)
theorem pk_junk {x : Value} (h : ¬ noJunk x) : pk x = 5 := by
  obtain ⟨fn, a, b, rfl, _⟩ := junk_fn h
  rfl
/-- Operands that no arithmetic takes. -/
theorem bin_rest {op : BinOp} {t : TypeId} {x y : Value} (h1 : pk x ≠ 4) (h2 : pk y ≠ 4) (h3 : pk x = pk y → pk x = 5) :
    binOp op t x y = match op with
      | .eql => do pure (.bool (← Op.equal t x y))
      | .neq => do pure (.bool (!(← Op.equal t x y)))
      | _ => stuck "BinOp: no such operator on these operands" := by
  cases x <;> cases y <;> first
    | exact absurd rfl h1
    | exact absurd rfl h2
    | (simp [pk] at h3; done)
    | (cases op <;> rfl)
theorem sr_eqs (hF : Fix X) {t : TypeId} {d : TypeDesc} {x x' y y' : Value} (ht : X.P.underlying t = some d) (hd : plainD d = true) (hx : RV X B x x') (hy : RV X B y y') (n : Bool → Bool) : SR X (RV X) B (do pure (.bool (n (← Op.equal t x y)))) (do pure (.bool (n (← Op.equal t x' y')))) :=
  (sr_equal hF ht hd hx hy).bind X fun B1 a b _ e => by
    obtain rfl : a = b := e
    exact sr_bool
theorem binAdd_eq (t : TypeId) (k : IntKind) (n : Int) : ∃ f : Option Addr → TypeDesc → Sem Value, (∀ p, binOp .add t (.pointer p) (.int k n) = (underlying t >>= f p)) ∧ ∀ d p, plainD d = true → f p d = movedNumber t (.pointer p) (.int k n) :=
  ⟨_, fun _ => rfl, fun d p hd => by cases d <;> first | rfl | exact absurd hd (by simp [plainD])⟩
theorem sr_binPtrInt (hF : Fix X) {op : BinOp} {t : TypeId} {d : TypeDesc} {k : IntKind} {n : Int} {p : Option Addr} (ht : X.P.underlying t = some d) (hd : plainD d = true) (hp : okJ X.Fs B (.pointer p) = true) :
    SR X (RV X) B (binOp op t (.pointer p) (.int k n)) (binOp op t (.pointer (p.map (renA X.ρ))) (.int k n)) := by
  have hv : RV X B (.pointer p) (.pointer (p.map (renA X.ρ))) := ⟨(ren_pointer _ _).symm, hp⟩
  have hi : ∀ m : Int, RV X B (.int k m) (.int k m) := fun m => ⟨(ren_int _ _ _).symm, by simp⟩
  have he : ∀ m : Int, SR X (RV X) B (movedNumber t (.pointer p) (.int k m)) (movedNumber t (.pointer (p.map (renA X.ρ))) (.int k m)) := fun m => sr_movedNumber ht hd hv (hi m)
  have ha : ∀ {a : Addr}, p = some a → RA X B a (renA X.ρ a) := fun {a} h => ⟨rfl, by subst h; simpa using hp⟩
  cases op
  case eql => exact sr_eqs hF ht hd hv (hi n) id
  case neq => exact sr_eqs hF ht hd hv (hi n) (!·)
  case add =>
    obtain ⟨f, hf, hg⟩ := binAdd_eq t k n
    rw [hf, hf]
    refine under_bind ht ?_
    rw [hg d _ hd, hg d _ hd]
    exact he n
  case sub => exact he (-n)
  case rem =>
    cases p with
    | none => exact sr_unsup
    | some a =>
      refine (sr_behind (ha rfl)).bind X ?_
      rintro B1 ⟨b, l⟩ ⟨b', l'⟩ hB ⟨hb, _⟩
      exact sr_addrMod hb
  case and =>
    cases p with
    | none => exact sr_unsup
    | some a =>
      refine (sr_behind (ha rfl)).bind X ?_
      rintro B1 ⟨b, l⟩ ⟨b', l'⟩ hB ⟨hb, _⟩
      exact sr_addrMod hb
  all_goals cases p <;> exact sr_unsup
theorem sr_binIntPtr (hF : Fix X) {op : BinOp} {t : TypeId} {d : TypeDesc} {k : IntKind} {n : Int} {p : Option Addr} (ht : X.P.underlying t = some d) (hd : plainD d = true) (hp : okJ X.Fs B (.pointer p) = true) :
    SR X (RV X) B (binOp op t (.int k n) (.pointer p)) (binOp op t (.int k n) (.pointer (p.map (renA X.ρ)))) := by
  have hv : RV X B (.pointer p) (.pointer (p.map (renA X.ρ))) := ⟨(ren_pointer _ _).symm, hp⟩
  have hi : ∀ m : Int, RV X B (.int k m) (.int k m) := fun m => ⟨(ren_int _ _ _).symm, by simp⟩
  have ha : ∀ {a : Addr}, p = some a → RA X B a (renA X.ρ a) := fun {a} h => ⟨rfl, by subst h; simpa using hp⟩
  cases op
  case eql => exact sr_eqs hF ht hd (hi n) hv id
  case neq => exact sr_eqs hF ht hd (hi n) hv (!·)
  case add => exact sr_movedNumber ht hd hv (hi n)
  case and =>
    cases p with
    | none => exact sr_unsup
    | some a =>
      refine (sr_behind (ha rfl)).bind X ?_
      rintro B1 ⟨b, l⟩ ⟨b', l'⟩ hB ⟨hb, _⟩
      exact sr_addrMod hb
  all_goals cases p <;> exact sr_unsup
theorem sr_binPtrPtr (hF : Fix X) {op : BinOp} {t : TypeId} {d : TypeDesc} {p q : Option Addr} (ht : X.P.underlying t = some d) (hd : plainD d = true) (hp : okJ X.Fs B (.pointer p) = true) (hq : okJ X.Fs B (.pointer q) = true) :
    SR X (RV X) B (binOp op t (.pointer p) (.pointer q)) (binOp op t (.pointer (p.map (renA X.ρ))) (.pointer (q.map (renA X.ρ)))) := by
  have hv : RV X B (.pointer p) (.pointer (p.map (renA X.ρ))) := ⟨(ren_pointer _ _).symm, hp⟩
  have hw : RV X B (.pointer q) (.pointer (q.map (renA X.ρ))) := ⟨(ren_pointer _ _).symm, hq⟩
  have ha : ∀ {a : Addr}, p = some a → RA X B a (renA X.ρ a) := fun {a} h => ⟨rfl, by subst h; simpa using hp⟩
  have hb : ∀ {a : Addr}, q = some a → RA X B a (renA X.ρ a) := fun {a} h => ⟨rfl, by subst h; simpa using hq⟩
  have two : ∀ {f : Addr → Addr → Sem Value}, (∀ {B a a' b b'}, RA X B a a' → RA X B b b' → SR X (RV X) B (f a b) (f a' b')) → ∀ {a b : Addr}, RA X B a (renA X.ρ a) → RA X B b (renA X.ρ b) →
      SR X (RV X) B (do f (← behindNumber a).1 (← behindNumber b).1) (do f (← behindNumber (renA X.ρ a)).1 (← behindNumber (renA X.ρ b)).1) := by
    intro f hf a b h1 h2
    refine (sr_behind h1).bind X ?_
    rintro B1 ⟨u, l⟩ ⟨u', l'⟩ hB ⟨hu, _⟩
    refine (sr_behind (h2.mono hB)).bind X ?_
    rintro B2 ⟨w, m⟩ ⟨w', m'⟩ hB2 ⟨hw, _⟩
    have hu2 : RA X B2 u u' := RA.mono hB2 hu
    exact hf hu2 hw
  cases op
  case eql => exact sr_eqs hF ht hd hv hw id
  case neq => exact sr_eqs hF ht hd hv hw (!·)
  case sub =>
    cases p <;> cases q <;> first
      | exact sr_unsup
      | exact two (f := fun a b => Op.addrSub .u64 a b) (fun h1 h2 => sr_addrSub hF h1 h2) (ha rfl) (hb rfl)
  case lss =>
    cases p <;> cases q <;> first
      | exact sr_unsup
      | exact two (f := fun a b => Op.addrCmp .lss a b) (fun h1 h2 => sr_addrCmp hF h1 h2) (ha rfl) (hb rfl)
  case leq =>
    cases p <;> cases q <;> first
      | exact sr_unsup
      | exact two (f := fun a b => Op.addrCmp .leq a b) (fun h1 h2 => sr_addrCmp hF h1 h2) (ha rfl) (hb rfl)
  case gtr =>
    cases p <;> cases q <;> first
      | exact sr_unsup
      | exact two (f := fun a b => Op.addrCmp .gtr a b) (fun h1 h2 => sr_addrCmp hF h1 h2) (ha rfl) (hb rfl)
  case geq =>
    cases p <;> cases q <;> first
      | exact sr_unsup
      | exact two (f := fun a b => Op.addrCmp .geq a b) (fun h1 h2 => sr_addrCmp hF h1 h2) (ha rfl) (hb rfl)
  all_goals cases p <;> cases q <;> exact sr_unsup
/-- A pointer and something that is neither a pointer nor an int. -/
theorem bin_ptr1 {op : BinOp} {t : TypeId} {p : Option Addr} {y : Value} (h2 : pk y ≠ 4) (h3 : pk y ≠ 0) :
    binOp op t (.pointer p) y = match op with
      | .eql => do pure (.bool (← Op.equal t (.pointer p) y))
      | .neq => do pure (.bool (!(← Op.equal t (.pointer p) y)))
      | _ => unsupported .addressObserved := by
  cases p <;> cases y <;> first
    | exact absurd rfl h2
    | exact absurd rfl h3
    | (cases op <;> rfl)
theorem bin_ptr2 {op : BinOp} {t : TypeId} {p : Option Addr} {y : Value} (h2 : pk y ≠ 4) (h3 : pk y ≠ 0) :
    binOp op t y (.pointer p) = match op with
      | .eql => do pure (.bool (← Op.equal t y (.pointer p)))
      | .neq => do pure (.bool (!(← Op.equal t y (.pointer p))))
      | _ => unsupported .addressObserved := by
  cases p <;> cases y <;> first
    | exact absurd rfl h2
    | exact absurd rfl h3
    | (cases op <;> rfl)
theorem pk4 {v : Value} (h : pk v = 4) : ∃ p, v = .pointer p := by cases v <;> first | exact ⟨_, rfl⟩ | exact absurd h (by simp [pk])
theorem pk0 {v : Value} (h : pk v = 0) : ∃ k n, v = .int k n := by cases v <;> first | exact ⟨_, _, rfl⟩ | exact absurd h (by simp [pk])
theorem pk1 {v : Value} (h : pk v = 1) : ∃ k n, v = .float k n := by cases v <;> first | exact ⟨_, _, rfl⟩ | exact absurd h (by simp [pk])
theorem pk2 {v : Value} (h : pk v = 2) : ∃ k n m, v = .complex k n m := by cases v <;> first | exact ⟨_, _, _, rfl⟩ | exact absurd h (by simp [pk])
theorem pk3 {v : Value} (h : pk v = 3) : ∃ s, v = .string s := by cases v <;> first | exact ⟨_, rfl⟩ | exact absurd h (by simp [pk])
theorem pk_le (v : Value) : pk v ≤ 5 := by cases v <;> simp [pk]
theorem sr_binJunk {op : BinOp} {t : TypeId} {d : TypeDesc} {x y : Value} {s' : Sem Value} (ht : X.P.underlying t = some d) (hd : plainD d = true) (h : ¬ noJunk x ∨ ¬ noJunk y) : SR X (RV X) B (binOp op t x y) s' := by
  have he : ∀ n : Bool → Bool, SR X (RV X) B (do pure (.bool (n (← Op.equal t x y)))) s' := fun n => sr_equalJ (n := 9999) ht hd h
  by_cases px : pk x = 4
  · obtain ⟨p, rfl⟩ := pk4 px
    have hy : pk y = 5 := h.elim (fun h => absurd trivial h) pk_junk
    rw [bin_ptr1 (by omega) (by omega)]
    cases op
    case eql => exact he id
    case neq => exact he (!·)
    all_goals exact sr_unsup
  · by_cases py : pk y = 4
    · obtain ⟨q, rfl⟩ := pk4 py
      have hx : pk x = 5 := h.elim pk_junk fun h => absurd trivial h
      rw [bin_ptr2 (by omega) (by omega)]
      cases op
      case eql => exact he id
      case neq => exact he (!·)
      all_goals exact sr_unsup
    · have h5 : pk x = pk y → pk x = 5 := fun e => h.elim pk_junk fun h => e.trans (pk_junk h)
      rw [bin_rest px py h5]
      cases op
      case eql => exact he id
      case neq => exact he (!·)
      all_goals exact sr_stuck
theorem sr_binOp (hF : Fix X) {op : BinOp} {t : TypeId} {d : TypeDesc} {x x' y y' : Value} (ht : X.P.underlying t = some d) (hd : plainD d = true) (hx : RV X B x x') (hy : RV X B y y') : SR X (RV X) B (binOp op t x y) (binOp op t x' y') := by
  have hx0 := hx
  have hy0 := hy
  obtain ⟨rfl, hx⟩ := hx
  obtain ⟨rfl, hy⟩ := hy
  by_cases jx : noJunk x
  rotate_left
  · exact sr_binJunk ht hd (.inl jx)
  by_cases jy : noJunk y
  rotate_left
  · exact sr_binJunk ht hd (.inr jy)
  by_cases px : pk x = 4
  · obtain ⟨p, rfl⟩ := pk4 px
    by_cases py : pk y = 4
    · obtain ⟨q, rfl⟩ := pk4 py
      rw [ren_pointer, ren_pointer]
      exact sr_binPtrPtr hF ht hd hx hy
    · by_cases py0 : pk y = 0
      · obtain ⟨k, n, rfl⟩ := pk0 py0
        rw [ren_pointer, ren_int]
        exact sr_binPtrInt hF ht hd hx
      · rw [ren_pointer, bin_ptr1 py py0, bin_ptr1 (by rw [pk_ren _ jy]; exact py) (by rw [pk_ren _ jy]; exact py0)]
        rw [ren_pointer] at hx0
        cases op
        case eql => exact sr_eqs hF ht hd hx0 hy0 id
        case neq => exact sr_eqs hF ht hd hx0 hy0 (!·)
        all_goals exact sr_unsup
  · by_cases py : pk y = 4
    · obtain ⟨q, rfl⟩ := pk4 py
      by_cases px0 : pk x = 0
      · obtain ⟨k, n, rfl⟩ := pk0 px0
        rw [ren_pointer, ren_int]
        exact sr_binIntPtr hF ht hd hy
      · rw [ren_pointer, bin_ptr2 px px0, bin_ptr2 (by rw [pk_ren _ jx]; exact px) (by rw [pk_ren _ jx]; exact px0)]
        rw [ren_pointer] at hy0
        cases op
        case eql => exact sr_eqs hF ht hd hx0 hy0 id
        case neq => exact sr_eqs hF ht hd hx0 hy0 (!·)
        all_goals exact sr_unsup
    · by_cases hxy : pk x = pk y → pk x = 5
      · rw [bin_rest px py hxy, bin_rest (by rw [pk_ren _ jx]; exact px) (by rw [pk_ren _ jy]; exact py) (by rw [pk_ren _ jx, pk_ren _ jy]; exact hxy)]
        cases op
        case eql => exact sr_eqs hF ht hd hx0 hy0 id
        case neq => exact sr_eqs hF ht hd hx0 hy0 (!·)
        all_goals exact sr_stuck
      · have he : pk x = pk y := Classical.byContradiction fun h => hxy fun h' => absurd h' h
        have h5 : pk x ≠ 5 := fun h => hxy fun _ => h
        have hle := pk_le x
        rcases (by omega : pk x = 0 ∨ pk x = 1 ∨ pk x = 2 ∨ pk x = 3) with h | h | h | h
        · obtain ⟨k, n, rfl⟩ := pk0 h
          obtain ⟨k', n', rfl⟩ := pk0 (he.symm.trans h)
          rw [ren_int, ren_int]; exact sr_binInt
        · obtain ⟨k, n, rfl⟩ := pk1 h
          obtain ⟨k', n', rfl⟩ := pk1 (he.symm.trans h)
          rw [ren_float, ren_float]; exact sr_binFloat
        · obtain ⟨k, n, m, rfl⟩ := pk2 h
          exact (okJ_complex hx).elim
        · obtain ⟨s, rfl⟩ := pk3 h
          obtain ⟨s', rfl⟩ := pk3 (he.symm.trans h)
          rw [ren_string, ren_string]; exact sr_binString
end Go.Proofs.Ytmmolicodlmlkaa.Rel
namespace Go.Proofs.Ytmmolicodlmlkaa.Rel
set_option linter.unusedVariables false
variable {X : Cx} {B : Nat}

theorem sr_unit : SR X RQ B (pure () : Sem Unit) (pure ()) := SR.pure (R := RQ) rfl
theorem sr_eqGuardIn {t : TypeId} {d : TypeDesc} {n : Nat} {x y x' y' : Value} (ht : X.P.underlying t = some d) (hd : plainD d = true) : SR X (fun _ a b => a = false ∧ b = false) B (Op.eqGuardIn (n + 1) t x y) (Op.eqGuardIn (n + 1) t x' y') := by
  unfold Op.eqGuardIn
  refine under_bind ht ?_
  cases d <;> first
    | exact SR.pure ⟨rfl, rfl⟩
    | exact absurd hd (by simp [plainD])
theorem eqGuardType_plain {P : Program} {t : TypeId} {d : TypeDesc} {n : Nat} (ht : P.underlying t = some d) (hd : plainD d = true) : P.eqGuardType (n + 1) t = false := by
  unfold Program.eqGuardType
  rw [ht]
  cases d <;> first
    | rfl
    | exact absurd hd (by simp [plainD])
theorem sr_eqGuard {op : BinOp} {t : TypeId} {d : TypeDesc} {ox oy : Operand} {x x' y y' : Value} (ht : X.P.underlying t = some d) (hd : plainD d = true) (hx : RV X B x x') (hy : RV X B y y') : SR X RQ B (eqGuard op t ox oy x y) (eqGuard op t ox oy x' y') := by
  obtain ⟨rfl, hx⟩ := hx
  obtain ⟨rfl, hy⟩ := hy
  clear hx hy
  have main : SR X RQ B
      (match x, y with
        | .nilIface, .nilIface => do
          if (ox matches .const _) || (oy matches .const _) then return
          if ← Op.eqGuardIn Op.maxDepth t x y then unsupported (.noEntry "binop/eql: two nil values of an interface type with methods, neither of them the literal nil")
        | .agg _, .agg _ => do
          if !(← program).eqGuardType (← program).depth t then return
          if ← Op.eqGuardIn Op.maxDepth t x y then unsupported (.noEntry "binop/eql: two nil values of an interface type with methods, in a part of a struct or an array")
        | _, _ => (pure () : Sem Unit))
      (match ren X.ρ x, ren X.ρ y with
        | .nilIface, .nilIface => do
          if (ox matches .const _) || (oy matches .const _) then return
          if ← Op.eqGuardIn Op.maxDepth t (ren X.ρ x) (ren X.ρ y) then unsupported (.noEntry "binop/eql: two nil values of an interface type with methods, neither of them the literal nil")
        | .agg _, .agg _ => do
          if !(← program).eqGuardType (← program).depth t then return
          if ← Op.eqGuardIn Op.maxDepth t (ren X.ρ x) (ren X.ρ y) then unsupported (.noEntry "binop/eql: two nil values of an interface type with methods, in a part of a struct or an array")
        | _, _ => (pure () : Sem Unit)) := by
    have hin : SR X RQ B (do if ← Op.eqGuardIn Op.maxDepth t x y then unsupported (.noEntry "binop/eql: two nil values of an interface type with methods, neither of them the literal nil"))
        (do if ← Op.eqGuardIn Op.maxDepth t (ren X.ρ x) (ren X.ρ y) then unsupported (.noEntry "binop/eql: two nil values of an interface type with methods, neither of them the literal nil")) := by
      refine (sr_eqGuardIn (n := 9999) ht hd).bind X ?_
      rintro B1 a b hB ⟨rfl, rfl⟩
      exact sr_unit
    cases x
    case nilIface =>
      rw [ren_nilIface] at hin ⊢
      cases y
      case nilIface =>
        rw [ren_nilIface] at hin ⊢
        clear ht hd
        cases ox <;> cases oy <;> first | exact hin | exact sr_unit
      case func fn a b =>
        have hf := ren_fn X.ρ fn a b
        clear hin
        generalize ren X.ρ (.func fn a b) = u at hf ⊢
        clear ht hd
        cases u <;> first | exact sr_unit | simp [hidV] at hf
      all_goals
        simp only [ren_bool, ren_int, ren_float, ren_complex, ren_string, ren_pointer, ren_slice, ren_map, ren_chan, ren_nilFunc, ren_iface, ren_agg, ren_tuple, ren_func]
        exact sr_unit
    case agg cs =>
      rw [ren_agg]
      cases y
      case agg ds =>
        rw [ren_agg]
        simp only []
        refine .program ?_
        refine .program ?_
        have : X.P.eqGuardType X.P.depth t = false := eqGuardType_plain (n := 2 * (X.P.types.size + Made.depth) + 1) ht hd
        simp only [Sem.bind, this, Bool.not_false, if_true]
        exact sr_unit
      case func fn a b =>
        have hf := ren_fn X.ρ fn a b
        clear hin
        generalize ren X.ρ (.func fn a b) = u at hf ⊢
        clear ht hd
        cases u <;> first | exact sr_unit | simp [hidV] at hf
      all_goals
        simp only [ren_bool, ren_int, ren_float, ren_complex, ren_string, ren_pointer, ren_slice, ren_map, ren_chan, ren_nilFunc, ren_nilIface, ren_iface, ren_tuple, ren_func]
        exact sr_unit
    case func fn a b =>
      have hf := ren_fn X.ρ fn a b
      clear hin
      generalize ren X.ρ (.func fn a b) = u at hf ⊢
      clear ht hd
      cases u <;> first | exact sr_unit | simp [hidV] at hf
    all_goals
      simp only [ren_bool, ren_int, ren_float, ren_complex, ren_string, ren_pointer, ren_slice, ren_map, ren_chan, ren_nilFunc, ren_iface, ren_tuple]
      exact sr_unit
  unfold eqGuard
  cases op <;> first
    | exact sr_unit
    | exact main
/-- Bounds of a slice expression. -/
def RO (X : Cx) (B : Nat) : Option Value → Option Value → Prop
  | none, none => True
  | some a, some b => RV X B a b
  | _, _ => False
theorem RO.mono {B' : Nat} (hB : B ≤ B') {a b : Option Value} (h : RO X B a b) : RO X B' a b := by
  cases a <;> cases b <;> first | exact h | exact RV.mono hB h
theorem RO.same {a b : Option Value} (h : RO X B a b) : b.isSome = a.isSome := by
  cases a <;> cases b <;> first | rfl | exact h.elim
theorem sr_sliceBound {v v' : Value} {y : Nat} {c : BoundsCode} (h : RV X B v v') : SR X (fun _ a b => a = b ∧ a ≤ y) B (Instr.sliceBound v y c) (Instr.sliceBound v' y c) := by
  unfold Instr.sliceBound
  refine (sr_asIntOf h).bind X ?_
  rintro B1 ⟨k, i⟩ q hB e
  obtain rfl : (k, i) = q := e
  simp only []
  split
  · exact .pure ⟨rfl, by omega⟩
  · exact sr_boundsPanic
theorem sr_sliceBounds {b : Bool} {l c : Nat} {lo lo' hi hi' mx mx' : Option Value} (h1 : RO X B lo lo') (h2 : RO X B hi hi') (h3 : RO X B mx mx') : SR X (fun _ p q => p = q ∧ (l = 0 → c = 0 → p = (0, 0, 0))) B (Instr.sliceBounds b l c lo hi mx) (Instr.sliceBounds b l c lo' hi' mx') := by
  have step : ∀ {α : Type} {R : Nat → α → α → Prop} {B' : Nat} {v v' : Value} {y : Nat} {c : BoundsCode} {f f' : Nat → Sem α}, B ≤ B' → RV X B v v' → (∀ B2 n, B ≤ B2 → n ≤ y → SR X R B2 (f n) (f' n)) → SR X R B' (Instr.sliceBound v y c >>= f) (Instr.sliceBound v' y c >>= f') := by
    intro α R B' v v' y c f f' hB hv hf
    refine (sr_sliceBound (hv.mono hB)).bind X ?_
    rintro B2 m m' hB2 ⟨e, hm⟩
    obtain rfl : m = m' := e
    exact hf B2 m (by omega) hm
  have done : ∀ {B' : Nat} (p : Nat × Nat × Nat), (l = 0 → c = 0 → p = (0, 0, 0)) → SR X (fun _ p q => p = q ∧ (l = 0 → c = 0 → p = (0, 0, 0))) B' (pure p) (pure p) := fun p h => .pure ⟨rfl, h⟩
  unfold Instr.sliceBounds
  cases mx <;> cases mx' <;> try exact h3.elim
  · cases hi <;> cases hi' <;> try exact h2.elim
    · cases lo <;> cases lo' <;> try exact h1.elim
      · exact done _ (by rintro rfl rfl; rfl)
      · exact step (Nat.le_refl _) h1 fun B2 n hB hn => done _ (by rintro rfl rfl; simp; omega)
    · cases lo <;> cases lo' <;> try exact h1.elim
      · exact step (Nat.le_refl _) h2 fun B2 n hB hn => done _ (by rintro rfl rfl; simp; omega)
      · exact step (Nat.le_refl _) h2 fun B2 n hB hn => step hB h1 fun B3 m hB3 hm => done _ (by rintro rfl rfl; simp; omega)
  · cases hi <;> cases hi' <;> try exact h2.elim
    · exact step (Nat.le_refl _) h3 fun B2 n hB hn => sr_stuck
    · cases lo <;> cases lo' <;> try exact h1.elim
      · exact step (Nat.le_refl _) h3 fun B2 n hB hn => step hB h2 fun B3 m hB3 hm => done _ (by rintro rfl rfl; simp; omega)
      · exact step (Nat.le_refl _) h3 fun B2 n hB hn => step hB h2 fun B3 m hB3 hm => step hB3 h1 fun B4 k hB4 hk => done _ (by rintro rfl rfl; simp; omega)
theorem sr_slice {t e : TypeId} {x x' : Value} {lo lo' hi hi' mx mx' : Option Value} (ht : X.P.underlying t = some (.slice e)) (hx : RV X B x x') (h1 : RO X B lo lo') (h2 : RO X B hi hi') (h3 : RO X B mx mx') : SR X (RV X) B (Instr.slice t x lo hi mx) (Instr.slice t x' lo' hi' mx') := by
  unfold Instr.slice
  refine under_bind ht ?_
  cases x
  case slice a n c =>
    obtain ⟨rfl, hb⟩ := hx.slice
    simp only []
    refine (sr_sliceBounds h1 h2 h3).bind X ?_
    rintro B1 ⟨l, h, m⟩ q hB ⟨e, hz⟩
    obtain rfl : (l, h, m) = q := e
    simp only []
    refine sr_sizeOf.bind X ?_
    intro B2 s s' hB2 e
    obtain rfl : s = s' := e
    cases a with
    | none =>
      refine .pure ?_
      split <;> exact ⟨by simp, by simp⟩
    | some a =>
      have hs := inS_mono (B' := B2) (by omega) (hb a rfl)
      rcases inS_or hs with ⟨⟨e1, h4⟩, h5⟩ | ⟨rfl, rfl⟩
      · refine .pure ?_
        have key : ∀ (a' : Addr), a'.spot = none → inB X.Fs B2 a'.block = true → ∀ n c, okJ X.Fs B2 (.slice (some a') n c) = true := fun a' q1 q2 n c => by rw [okJ_slice]; exact inZ_S (by simp [inZ, q1, q2])
        split
        · exact ⟨(ren_slice _ _ _ _).symm, key a h5 h4 _ _⟩
        · have q1 : (a.add (l * s)).spot = none := by unfold Addr.add; split <;> first | exact h5 | rfl
          have q2 : (a.add (l * s)).block = a.block := by unfold Addr.add; split <;> rfl
          refine ⟨?_, key _ q1 (by rw [q2]; exact h4) _ _⟩
          rw [ren_slice]
          simp only [Option.map_some, e1, renS_none _ q1]
          rw [renA_add]
      · obtain ⟨rfl, rfl, rfl⟩ : l = 0 ∧ h = 0 ∧ m = 0 := by simpa using hz rfl rfl
        simp only [if_true]
        exact .pure ⟨(ren_slice _ _ _ _).symm, by rw [okJ_slice]; exact hs⟩
  case bool b => obtain ⟨rfl, _⟩ := hx; exact sr_stuck
  all_goals exact sr_stuck
theorem sr_sliceAt {t e : TypeId} {x x' : Value} {lo lo' hi hi' mx mx' : Option Value} (ht : X.P.underlying t = some (.slice e)) (hx : RV X B x x') (h1 : RO X B lo lo') (h2 : RO X B hi hi') (h3 : RO X B mx mx') : SR X (RV X) B (Instr.sliceAt t x lo hi mx) (Instr.sliceAt t x' lo' hi' mx') := by
  unfold Instr.sliceAt
  refine under_bind ht ?_
  exact sr_slice ht hx h1 h2 h3
theorem sr_fieldsPlaces {fs : Array Field} : SR X (fun _ (a b : Array (Nat × Nat)) => a = b) B (fs.mapM fun f => do pure (f.offset, ← sizeOf f.type)) (fs.mapM fun f => do pure (f.offset, ← sizeOf f.type)) := by
  rw [Array.mapM_eq_mapM_toList]
  have key : ∀ (l : List Field) (B : Nat), SR X (fun _ (a b : List (Nat × Nat)) => a = b) B (l.mapM fun f => do pure (f.offset, ← sizeOf f.type)) (l.mapM fun f => do pure (f.offset, ← sizeOf f.type)) := by
    intro l
    induction l with
    | nil => intro B; exact .pure rfl
    | cons f l ih =>
      intro B
      rw [List.mapM_cons]
      refine SR.bind X (R := RQ) ?_ ?_
      · refine sr_sizeOf.bind X ?_
        intro B1 s s' hB e
        obtain rfl : s = s' := e
        exact SR.pure (R := RQ) rfl
      · intro B1 p p' hB e
        obtain rfl : p = p' := e
        refine (ih B1).bind X ?_
        intro B2 q q' hB2 e
        obtain rfl : q = q' := e
        exact .pure rfl
  refine (key fs.toList B).bind X ?_
  intro B1 p p' hB e
  obtain rfl : p = p' := e
  exact .pure rfl
theorem sr_build (hz : ZeroOk X.P) {t : TypeId} {fs : Array Field} {p q : Array (Nat × Value)} (ht : X.P.underlying t = some (.struct fs)) (hp : RP X B p q) : SR X (RV X) B (Instr.build t p) (Instr.build t q) := by
  unfold Instr.build
  refine (sr_zeroValue hz).bind X ?_
  intro B1 z z' hB h
  have hc := h.cells
  refine under_bind ht ?_
  refine sr_fieldsPlaces.bind X ?_
  intro B2 pl pl' hB2 e
  obtain rfl : pl = pl' := e
  have hp2 : RP X B2 p q := hp.mono (by omega)
  have hc2 : RC X B2 z.cells z'.cells := hc.mono hB2
  have e1 : q.toList = p.toList.map fun x => (x.1, ren X.ρ x.2) := by rw [hp2.1]; simp
  have e2 := fill_ren X.ρ (pl[·]?) p.toList z.cells
  rw [e1, hc2.1, e2]
  cases hf : Instr.fill (pl[·]?) z.cells p.toList with
  | none => exact sr_stuck
  | some c =>
    have hok := fill_ok X.Fs B2 (pl[·]?) p.toList z.cells c hc2.2 (fun x hx => hp2.2 x (by simpa using hx)) hf
    exact .pure ⟨by rw [ren_agg], by rw [okJ_agg, Array.all_eq_true']; exact hok⟩
theorem sr_intToFloat {k : FloatKind} {n : Int} : SR X (RV X) B (Conv.intToFloat k n) (Conv.intToFloat k n) := sr_float
theorem sr_convertFloat {s d : TypeId} {k : IntKind} {k' : FloatKind} {x x' : Value} (hx : RV X B x x') (hs : X.P.underlying s = some (.int k)) (hd : X.P.underlying d = some (.float k')) : SR X (RV X) B (convert s d x) (convert s d x') := by
  unfold convert
  refine under_bind hs ?_
  refine under_bind hd ?_
  obtain ⟨rfl, hx⟩ := hx
  cases x
  case int k2 n => rw [ren_int]; exact sr_intToFloat
  case float fk b =>
    clear hx
    rw [ren_float]
    have : Calm (fun v => noAddr v = true) (Conv.floatToFloat fk b k') := by
      unfold Conv.floatToFloat
      split
      · exact .pure (noAddr_float _ _)
      · split
        · exact .choose fun n => .pure (noAddr_float _ _)
        · exact .pure (noAddr_float _ _)
        · simp only []
          split
          · exact .choose fun n => .pure (noAddr_float _ _)
          · exact .pure (noAddr_float _ _)
    exact this.sr
  case pointer a => cases a <;> exact sr_unsup
  all_goals exact sr_unsup
def nilOf : Value → Sem Value
  | .pointer none | .nilIface | .nilFunc => runtimePanic .nilDeref
  | x => pure x
theorem sr_nilOf {x x' : Value} (hj : noJunk x) (hx : RV X B x x') : SR X (RV X) B (nilOf x) (nilOf x') := by
  have hx0 := hx
  obtain ⟨rfl, hok⟩ := hx
  clear hok
  cases x
  case pointer a => cases a <;> first | exact sr_runtimePanic (e := .nilDeref) trivial | (rw [ren_pointer]; rw [ren_pointer] at hx0; exact .pure hx0)
  case nilIface => exact sr_runtimePanic (e := .nilDeref) trivial
  case nilFunc => exact sr_runtimePanic (e := .nilDeref) trivial
  case func fn a b =>
    cases fn
    case func f =>
      rw [ren_func] at hx0 ⊢
      exact .pure hx0
    all_goals exact hj.elim
  all_goals
    simp only [ren_bool, ren_int, ren_float, ren_complex, ren_string, ren_slice, ren_map, ren_chan, ren_iface, ren_agg, ren_tuple] at hx0 ⊢
    exact .pure hx0
theorem sr_makeInterface {t : TypeId} {x x' : Value} (hx : RV X B x x') : SR X (RV X) B (Instr.makeInterface t x) (Instr.makeInterface t x') := by
  unfold Instr.makeInterface
  refine sr_underlying.bind X ?_
  intro B1 d d' hB e
  obtain rfl : d = d' := e
  have h1 := hx.mono hB
  have : SR X (RV X) B1 (pure (.iface t x)) (pure (.iface t x')) := .pure ⟨by rw [ren_iface, h1.1], by rw [okJ_iface]; exact h1.2⟩
  cases d <;> first | exact sr_stuck | exact this
theorem sr_panic {x : Value} {s' : Sem Value} : SR X (RV X) B (Instr.panic x) s' := by
  refine .dead ?_
  unfold Instr.panic
  cases x <;> first
    | exact .halt trivial
    | skip
  unfold Instr.panicnil
  refine .sys fun r => ?_
  have pn : Doomed (runtimePanic .panicNil : Sem Value) := .program fun p => by
    show Doomed (elemOf p.rt.panicNilError >>= fun x => newVar x (.agg #[]) >>= fun r => goPanic (.iface p.rt.panicNilError (.pointer (some r))))
    have last : ∀ x, Doomed (newVar x (.agg #[]) >>= fun r => (goPanic (.iface p.rt.panicNilError (.pointer (some r))) : Sem Value)) := fun x => .new fun r => .halt trivial
    refine .program fun p2 => ?_
    dsimp only [Sem.bind]
    cases p2.underlying p.rt.panicNilError with
    | none => exact .halt trivial
    | some d => cases d <;> first | exact last _ | exact .halt trivial
  cases r <;> first
    | exact .halt trivial
    | skip
  refine .program fun p => ?_
  show Doomed (if _ then goPanic .nilIface else runtimePanic .panicNil : Sem Value)
  split
  · exact .halt trivial
  · exact pn
end Go.Proofs.Ytmmolicodlmlkaa.Rel
namespace Go.Proofs.Ytmmolicodlmlkaa.Rel
set_option linter.unusedVariables false
variable {X : Cx} {B : Nat}

theorem ren_isInt {v : Value} {k : IntKind} {n : Int} (h : ren X.ρ v = .int k n) : v = .int k n := by
  cases v
  case func fn a b =>
    rcases ren_fn X.ρ fn a b with h1 | h1
    · rw [h] at h1; cases h1
    · rw [h] at h1; cases h1
  case int k' n' => rw [ren_int] at h; exact h
  all_goals first
    | (rw [ren_bool] at h; cases h)
    | (rw [ren_float] at h; cases h)
    | (rw [ren_complex] at h; cases h)
    | (rw [ren_string] at h; cases h)
    | (rw [ren_pointer] at h; cases h)
    | (rw [ren_slice] at h; cases h)
    | (rw [ren_map] at h; cases h)
    | (rw [ren_chan] at h; cases h)
    | (rw [ren_nilFunc] at h; cases h)
    | (rw [ren_nilIface] at h; cases h)
    | (rw [ren_iface] at h; cases h)
    | (rw [ren_agg] at h; cases h)
    | (rw [ren_tuple] at h; cases h)
theorem sameNow_none {kd : IntKind} {a b : Value} (h : ¬ ∃ k n k' m, a = .int k n ∧ b = .int k' m) : Instr.sameNow (.int kd) a b = none := by
  cases a <;> first
    | rfl
    | (cases b <;> first | rfl | exact absurd ⟨_, _, _, _, rfl, rfl⟩ h)
theorem sameNow_ren {kd : IntKind} (a b : Value) : Instr.sameNow (.int kd) (ren X.ρ a) (ren X.ρ b) = Instr.sameNow (.int kd) a b := by
  by_cases h : ∃ k n k' m, a = .int k n ∧ b = .int k' m
  · obtain ⟨k, n, k', m, rfl, rfl⟩ := h
    rw [ren_int, ren_int]
  · rw [sameNow_none h, sameNow_none]
    rintro ⟨k, n, k', m, h1, h2⟩
    exact h ⟨k, n, k', m, ren_isInt h1, ren_isInt h2⟩
def renMe (ρ : Rn) (e : MapEntry) : MapEntry := { e with key := ren ρ e.key, val := ren ρ e.val }
theorem renM_list (ρ : Rn) (es : Array MapEntry) : (renM ρ es).toList = es.toList.map (renMe ρ) := by
  unfold renM renMe; simp
/-- What a look for a key comes to. -/
def RFd (X : Cx) (v : Value) (es : List MapEntry) (i : Nat) (B : Nat) : Option (Nat × Value) → Option (Nat × Value) → Prop
  | none, none => True
  | some p, some q => q.1 = p.1 ∧ RV X B p.2 q.2 ∧ ∃ j e, p.1 = i + j ∧ es[j]? = some e ∧ ∀ N, Instr.sameBits N e.key v = Instr.sameBits N (ren X.ρ e.key) (ren X.ρ v)
  | _, _ => False
theorem RFd.cons {v : Value} {e : MapEntry} {es : List MapEntry} {i B : Nat} {a b : Option (Nat × Value)} (h : RFd X v es (i + 1) B a b) : RFd X v (e :: es) i B a b := by
  cases a <;> cases b <;> first | exact h | skip
  obtain ⟨h1, h2, j, e', h3, h4, h5⟩ := h
  exact ⟨h1, h2, j + 1, e', by omega, by simpa using h4, h5⟩
theorem bits_int (k k' : IntKind) (a b : Int) : ∀ N, Instr.sameBits N (.int k a) (.int k' b) = Instr.sameBits N (ren X.ρ (.int k a)) (ren X.ρ (.int k' b)) := by
  intro N; rw [ren_int, ren_int]
theorem bits_ptr (a b : Option Addr) : ∀ N, Instr.sameBits N (.pointer a) (.pointer b) = Instr.sameBits N (ren X.ρ (.pointer a)) (ren X.ρ (.pointer b)) := by
  intro N
  rw [ren_pointer, ren_pointer]
  have e1 : ∀ a b : Option Addr, Instr.sameBits N (.pointer a) (.pointer b) = (a == b) := by intro a b; cases N <;> rfl
  rw [e1, e1]
  cases a <;> cases b <;> first | rfl | skip
  show (some _ == some _) = (some (renA X.ρ _) == some (renA X.ρ _))
  have h : ∀ x y : Addr, (some x == some y) = (x == y) := fun x y => rfl
  rw [h, h, renA_beq]
theorem bits_mixed {a b : Value} (h : (∃ k n q, a = .int k n ∧ b = .pointer q) ∨ (∃ k n q, b = .int k n ∧ a = .pointer q)) : ∀ N, Instr.sameBits N a b = Instr.sameBits N (ren X.ρ a) (ren X.ρ b) := by
  intro N
  rcases h with ⟨k, n, q, rfl, rfl⟩ | ⟨k, n, q, rfl, rfl⟩ <;> rw [ren_int, ren_pointer] <;> cases N <;> rfl
theorem under_bindL {α β : Type} {R : Nat → α → β → Prop} {t : TypeId} {d : TypeDesc} {f : TypeDesc → Sem α} {s' : Sem β} (ht : X.P.underlying t = some d) (h : SR X R B (f d) s') : SR X R B (underlying t >>= f) s' := by
  refine .programL ?_
  show SR X R B (Sem.bind (match X.P.underlying t with | some i => pure i | none => stuck "no such type") f) s'
  rw [ht]
  exact h
theorem sr_equalOther {t : TypeId} {kd : IntKind} {n : Nat} {α : Type} {R : Nat → Bool → α → Prop} {s' : Sem α} {x y : Value} (ht : X.P.underlying t = some (.int kd)) (h : ¬ ((∃ k a, x = .int k a) ∨ ∃ q, x = .pointer q) ∨ ¬ ((∃ k a, y = .int k a) ∨ ∃ q, y = .pointer q)) : SR X R B (Op.equalIn (n + 1) t x y) s' := by
  unfold Op.equalIn
  refine under_bindL ht ?_
  cases x <;> first
    | (cases y <;> first
      | exact sr_stuck
      | exact sr_unsup
      | (exfalso; rcases h with h | h <;> exact h (by first | exact .inl ⟨_, _, rfl⟩ | exact .inr ⟨_, rfl⟩)))
    | (rename_i q; cases q <;> cases y <;> first | exact sr_stuck | exact sr_unsup | (exfalso; rcases h with h | h <;> exact h (by first | exact .inl ⟨_, _, rfl⟩ | exact .inr ⟨_, rfl⟩)))
theorem sr_equalKey (hF : Fix X) {t : TypeId} {kd : IntKind} (ht : X.P.underlying t = some (.int kd)) {x x' y y' : Value} (hx : RV X B x x') (hy : RV X B y y') :
    SR X (fun _ a b => a = b ∧ ∀ N, Instr.sameBits N y x = Instr.sameBits N (ren X.ρ y) (ren X.ρ x)) B (Op.equal t x y) (Op.equal t x' y') := by
  by_cases h : ((∃ k a, x = .int k a) ∨ ∃ q, x = .pointer q) ∧ ((∃ k a, y = .int k a) ∨ ∃ q, y = .pointer q)
  · refine (sr_equalInt hF ht hx hy).mono X fun B' a b _ e => ⟨e, ?_⟩
    rcases h with ⟨⟨k, a, rfl⟩ | ⟨q, rfl⟩, ⟨k', a', rfl⟩ | ⟨q', rfl⟩⟩
    · exact bits_int _ _ _ _
    · exact bits_mixed (.inr ⟨_, _, _, rfl, rfl⟩)
    · exact bits_mixed (.inl ⟨_, _, _, rfl, rfl⟩)
    · exact bits_ptr _ _
  · exact sr_equalOther ht (by rcases Classical.not_and_iff_not_or_not.1 h with h | h; exact .inl h; exact .inr h)
theorem sr_findAsking (hF : Fix X) {t : TypeId} {kd : IntKind} (ht : X.P.underlying t = some (.int kd)) {v : Value} : ∀ (es : List MapEntry) (i : Nat) (B : Nat), okJ X.Fs B v = true → (∀ e ∈ es, okJ X.Fs B e.key = true ∧ okJ X.Fs B e.val = true) →
    SR X (RFd X v es i) B (Instr.findAsking t v es i) (Instr.findAsking t (ren X.ρ v) (es.map (renMe X.ρ)) i)
  | [], i, B, hv, he => .pure trivial
  | e :: es, i, B, hv, he => by
    show SR X _ B (Op.equal t v e.key >>= fun c => if c then pure (some (i, e.val)) else Instr.findAsking t v es (i + 1)) (Op.equal t (ren X.ρ v) (ren X.ρ e.key) >>= fun c => if c then pure (some (i, ren X.ρ e.val)) else Instr.findAsking t (ren X.ρ v) (es.map (renMe X.ρ)) (i + 1))
    refine (sr_equalKey hF ht ⟨rfl, hv⟩ ⟨rfl, (he e List.mem_cons_self).1⟩).bind X ?_
    rintro B1 c c' hB ⟨rfl, hb⟩
    cases c
    · exact (sr_findAsking hF ht es (i + 1) B1 (okJ_mono _ hB _ hv) (fun e' h' => ⟨okJ_mono _ hB _ (he e' (List.mem_cons_of_mem _ h')).1, okJ_mono _ hB _ (he e' (List.mem_cons_of_mem _ h')).2⟩)).mono X fun _ _ _ _ h => h.cons
    · exact .pure ⟨rfl, ⟨rfl, okJ_mono _ hB _ (he e List.mem_cons_self).2⟩, 0, e, rfl, rfl, hb⟩
theorem findNow_ren {kd : IntKind} {v : Value} : ∀ (es : List MapEntry) (i : Nat), (∀ e ∈ es, okJ X.Fs B e.key = true ∧ okJ X.Fs B e.val = true) →
    (Instr.findNow (.int kd) v es i = none ∧ Instr.findNow (.int kd) (ren X.ρ v) (es.map (renMe X.ρ)) i = none) ∨
    ∃ r r', Instr.findNow (.int kd) v es i = some r ∧ Instr.findNow (.int kd) (ren X.ρ v) (es.map (renMe X.ρ)) i = some r' ∧ RFd X v es i B r r'
  | [], i, _ => .inr ⟨none, none, rfl, rfl, trivial⟩
  | e :: es, i, he => by
    have hs : Instr.sameNow (.int kd) (ren X.ρ v) (renMe X.ρ e).key = Instr.sameNow (.int kd) v e.key := sameNow_ren v e.key
    rw [List.map_cons]
    unfold Instr.findNow
    rw [hs]
    cases hn : Instr.sameNow (.int kd) v e.key with
    | none => exact .inl ⟨rfl, rfl⟩
    | some c =>
      cases c
      · rcases findNow_ren es (i + 1) (fun e' h' => he e' (List.mem_cons_of_mem _ h')) with ⟨h1, h2⟩ | ⟨r, r', h1, h2, h3⟩
        · exact .inl ⟨h1, h2⟩
        · exact .inr ⟨r, r', h1, h2, h3.cons⟩
      · refine .inr ⟨_, _, rfl, rfl, rfl, ⟨rfl, (he e List.mem_cons_self).2⟩, 0, e, rfl, rfl, ?_⟩
        by_cases h : ∃ k n k' m, v = .int k n ∧ e.key = .int k' m
        · obtain ⟨k, n, k', m, h1, h2⟩ := h
          rw [h1, h2]; exact bits_int _ _ _ _
        · rw [sameNow_none h] at hn; cases hn
theorem sr_findKey (hF : Fix X) {t : TypeId} {kd : IntKind} (ht : X.P.underlying t = some (.int kd)) {v : Value} {es : List MapEntry} (hv : okJ X.Fs B v = true) (he : ∀ e ∈ es, okJ X.Fs B e.key = true ∧ okJ X.Fs B e.val = true) :
    SR X (RFd X v es 0) B (Instr.findKey t v es) (Instr.findKey t (ren X.ρ v) (es.map (renMe X.ρ))) := by
  unfold Instr.findKey
  refine under_bind ht ?_
  rcases findNow_ren (X := X) (B := B) (kd := kd) (v := v) es 0 he with ⟨h1, h2⟩ | ⟨r, r', h1, h2, h3⟩
  · rw [h1, h2]; exact sr_findAsking hF ht es 0 B hv he
  · rw [h1, h2]; exact .pure h3
theorem sr_checkKey {t : TypeId} {kd : IntKind} (ht : X.P.underlying t = some (.int kd)) {b b' : Bool} {n : Nat} {v v' : Value} : SR X RQ B (Instr.checkKey b (n + 1) t v) (Instr.checkKey b' (n + 1) t v') := by
  unfold Instr.checkKey
  refine under_bind ht ?_
  cases v <;> cases v' <;> exact SR.pure (R := RQ) rfl
theorem sr_makeMap {t : TypeId} : SR X (RV X) B (Instr.makeMap t none) (Instr.makeMap t none) := by
  show SR X (RV X) B (.new (.map #[] 0) fun r => .pure (.map (some r))) (.new (.map #[] 0) fun r => .pure (.map (some r)))
  exact .newMap fun hal => .pure ⟨by rw [ren_map]; rfl, by rw [okJ]; exact inB_new hal⟩
theorem okM_list {B B' : Nat} (hB : B ≤ B') {es : Array MapEntry} (h : okM X.Fs B es) : ∀ e ∈ es.toList, okJ X.Fs B' e.key = true ∧ okJ X.Fs B' e.val = true := fun e he => okM_mono hB h e (by simpa using he)
theorem sr_lookup (hz : ZeroOk X.P) (hF : Fix X) {t kt et : TypeId} {kd : IntKind} (ht : X.P.underlying t = some (.map kt et)) (hk : X.P.underlying kt = some (.int kd)) {x x' i i' : Value} {ok : Bool} (hx : RV X B x x') (hi : RV X B i i') :
    SR X (RV X) B (Instr.lookup t x i ok) (Instr.lookup t x' i' ok) := by
  have tail : ∀ (B1 : Nat) (es es' : Array MapEntry), B ≤ B1 → okM X.Fs B1 es → es' = renM X.ρ es → SR X (RV X) B1
      (do
        Instr.checkKey es.isEmpty 10000 kt i
        let (v, o) ← match ← Instr.findKey kt i es.toList with
          | some (_, v) => pure (v, true)
          | none => pure (← zeroValue et, false)
        pure (if ok then .tuple #[v, .bool o] else v))
      (do
        Instr.checkKey es'.isEmpty 10000 kt i'
        let (v, o) ← match ← Instr.findKey kt i' es'.toList with
          | some (_, v) => pure (v, true)
          | none => pure (← zeroValue et, false)
        pure (if ok then .tuple #[v, .bool o] else v)) := by
    rintro B1 es _ hB he rfl
    refine (sr_checkKey hk).bind X ?_
    intro B2 _ _ hB2 _
    obtain ⟨rfl, hi⟩ := hi
    rw [renM_list]
    have fin : ∀ (B3 : Nat) (v v' : Value) (o : Bool), RV X B3 v v' → SR X (RV X) B3 (pure (if ok then .tuple #[v, .bool o] else v)) (pure (if ok then .tuple #[v', .bool o] else v')) := by
      intro B3 v v' o h
      obtain ⟨rfl, h⟩ := h
      cases ok
      · exact .pure ⟨rfl, h⟩
      · exact .pure ⟨by simp, by simp [h]⟩
    have key := sr_findKey (B := B2) hF hk (v := i) (es := es.toList) (okJ_mono _ (by omega) _ hi) (okM_list hB2 he)
    refine key.bind X ?_
    intro B3 r r' hB3 hr
    cases r <;> cases r' <;> first | exact hr.elim | skip
    · show SR X (RV X) B3 (zeroValue et >>= fun z => pure (if ok then .tuple #[z, .bool false] else z)) (zeroValue et >>= fun z => pure (if ok then .tuple #[z, .bool false] else z))
      refine (sr_zeroValue hz).bind X ?_
      intro B4 z z' hB4 h1
      exact fin B4 z z' false h1
    · rename_i p q
      exact fin B3 p.2 q.2 true hr.2.1
  unfold Instr.lookup
  refine under_bind ht ?_
  simp only []
  obtain ⟨rfl, hx⟩ := hx
  cases x
  case map r =>
    rw [ren_map]
    cases r with
    | none => exact tail B #[] #[] (Nat.le_refl _) (fun e he => by simp at he) (by simp [renM])
    | some r =>
      rw [okJ] at hx
      refine .getObj hx (fun o ho => ?_) (fun a l _ => sr_stuck) (fun es c he hw => tail B es _ (Nat.le_refl _) he rfl)
      cases o <;> first | exact ho.elim | exact sr_stuck
  all_goals exact sr_stuck
theorem renM_push (ρ : Rn) (es : Array MapEntry) (k v : Value) (c : Nat) : (renM ρ es).push { key := ren ρ k, val := ren ρ v, born := c } = renM ρ (es.push { key := k, val := v, born := c }) := by
  simp [renM]
theorem renM_modify (ρ : Rn) (es : Array MapEntry) (i : Nat) (k v : Value) : ((renM ρ es).modify i fun e => { e with key := ren ρ k, val := ren ρ v }) = renM ρ (es.modify i fun e => { e with key := k, val := v }) := by
  unfold renM
  apply Array.ext (by simp)
  intro j h1 h2
  simp only [Array.getElem_modify, Array.getElem_map]
  split <;> rfl
theorem okM_push {es : Array MapEntry} {k v : Value} {c : Nat} (h : okM X.Fs B es) (hk : okJ X.Fs B k = true) (hv : okJ X.Fs B v = true) : okM X.Fs B (es.push { key := k, val := v, born := c }) := by
  intro e he
  rcases Array.mem_push.1 he with h1 | rfl
  · exact h e h1
  · exact ⟨hk, hv⟩
theorem okM_modify {es : Array MapEntry} {i : Nat} {k v : Value} (h : okM X.Fs B es) (hk : okJ X.Fs B k = true) (hv : okJ X.Fs B v = true) : okM X.Fs B (es.modify i fun e => { e with key := k, val := v }) := by
  intro e he
  obtain ⟨j, hj, rfl⟩ := Array.mem_iff_getElem.1 he
  rw [Array.getElem_modify]
  split
  · exact ⟨hk, hv⟩
  · exact h _ (Array.getElem_mem _)
theorem sr_keyStays {old new : Value} (hb : ∀ N, Instr.sameBits N old new = Instr.sameBits N (ren X.ρ old) (ren X.ρ new)) (ho : okJ X.Fs B old = true) (hn : okJ X.Fs B new = true) : SR X (RV X) B (Instr.keyThatStays old new) (Instr.keyThatStays (ren X.ρ old) (ren X.ρ new)) := by
  unfold Instr.keyThatStays
  rw [← hb]
  split
  · exact .pure ⟨rfl, hn⟩
  · refine .choose fun n => ?_
    dsimp only [Sem.bind]
    by_cases h : n = 0
    · rw [if_pos h, if_pos h]; exact .pure ⟨rfl, hn⟩
    · rw [if_neg h, if_neg h]; exact .pure ⟨rfl, ho⟩
theorem sr_mapUpdate (hF : Fix X) {t kt et : TypeId} {kd : IntKind} (ht : X.P.underlying t = some (.map kt et)) (hk : X.P.underlying kt = some (.int kd)) {m m' k k' x x' : Value} (hm : RV X B m m') (hk2 : RV X B k k') (hx : RV X B x x') :
    SR X RQ B (Instr.mapUpdate t m k x) (Instr.mapUpdate t m' k' x') := by
  unfold Instr.mapUpdate
  refine under_bind ht ?_
  simp only []
  obtain ⟨rfl, hm⟩ := hm
  obtain ⟨rfl, hk2⟩ := hk2
  obtain ⟨rfl, hx⟩ := hx
  cases m
  case map r =>
    rw [ren_map]
    cases r with
    | none => exact sr_runtimePanic trivial
    | some r =>
      rw [okJ] at hm
      refine .getObj hm (fun o ho => ?_) (fun a l _ => sr_stuck) (fun es c he hw => ?_)
      · cases o <;> first | exact ho.elim | exact sr_stuck
      have setIt : ∀ (B1 : Nat) (es' es'' : Array MapEntry) (c' : Nat), B ≤ B1 → okM X.Fs B1 es' → es'' = renM X.ρ es' → SR X RQ B1 (setObj r (.map es' c')) (setObj (X.ρ.f r) (.map es'' c')) := by
        rintro B1 es' _ c' hB h1 rfl
        exact .setMap (inB_mono hB hm) hw h1 (SR.pure (R := RQ) rfl)
      show SR X RQ B (Instr.checkKey false 10000 kt k >>= fun _ => Instr.findKey kt k es.toList >>= fun q => match q with
          | some (i, _) => (do
            let key ← Instr.keyThatStays (((es[i]?).map (·.key)).getD k) k
            setObj r (.map (es.modify i fun e => { e with key, val := x }) c))
          | none => setObj r (.map (es.push { key := k, val := x, born := c }) (c + 1)))
        (Instr.checkKey false 10000 kt (ren X.ρ k) >>= fun _ => Instr.findKey kt (ren X.ρ k) (renM X.ρ es).toList >>= fun q => match q with
          | some (i, _) => (do
            let key ← Instr.keyThatStays ((((renM X.ρ es)[i]?).map (·.key)).getD (ren X.ρ k)) (ren X.ρ k)
            setObj (X.ρ.f r) (.map ((renM X.ρ es).modify i fun e => { e with key, val := ren X.ρ x }) c))
          | none => setObj (X.ρ.f r) (.map ((renM X.ρ es).push { key := ren X.ρ k, val := ren X.ρ x, born := c }) (c + 1)))
      refine (sr_checkKey hk).bind X ?_
      intro B2 _ _ hB2 _
      rw [renM_list]
      refine (sr_findKey (B := B2) hF hk (v := k) (es := es.toList) (okJ_mono _ hB2 _ hk2) (okM_list hB2 he)).bind X ?_
      intro B3 q q' hB3 hq
      have hB : B ≤ B3 := Nat.le_trans hB2 hB3
      cases q <;> cases q' <;> first | exact hq.elim | skip
      · exact setIt B3 _ _ _ hB (okM_push (okM_mono hB he) (okJ_mono _ hB _ hk2) (okJ_mono _ hB _ hx)) (renM_push _ _ _ _ _)
      · rename_i p p'
        obtain ⟨i, u⟩ := p
        obtain ⟨i', u'⟩ := p'
        obtain ⟨h1, h2, j, e, h3, h4, h5⟩ := hq
        simp only at h1 h3
        obtain rfl : i' = i := h1
        obtain rfl : i' = j := by omega
        have h4 : es[i']? = some e := by rw [← Array.getElem?_toList]; exact h4
        have h6 : (renM X.ρ es)[i']? = some { e with key := ren X.ρ e.key, val := ren X.ρ e.val } := by
          unfold renM; rw [Array.getElem?_map, h4]; rfl
        simp only [h4, h6, Option.map_some, Option.getD_some]
        have hem := he e (Array.mem_of_getElem? h4)
        refine (sr_keyStays (B := B3) h5 (okJ_mono _ hB _ hem.1) (okJ_mono _ hB _ hk2)).bind X ?_
        rintro B4 w _ hB4 ⟨rfl, hw4⟩
        have hB' : B ≤ B4 := Nat.le_trans hB hB4
        exact setIt B4 _ _ _ hB' (okM_modify (okM_mono hB' he) hw4 (okJ_mono _ hB' _ hx)) (renM_modify _ _ _ _ _)
  all_goals exact sr_stuck
end Go.Proofs.Ytmmolicodlmlkaa.Rel
namespace Go.Proofs.Ytmmolicodlmlkaa.Rel
set_option linter.unusedVariables false
variable {X : Cx} {B : Nat}

/-- What the operation has the machine do. -/
inductive NR (X : Cx) (B : Nat) : Next → Next → Prop
  | value {a b : Value} : RV X B a b → NR X B (.value a) (.value b)
  | skip : NR X B .skip .skip
  | enter {f : FuncId} {a b : Array Value} : X.Fs.fs f = true → RC X B a b → NR X B (.enter f a) (.enter f b)
theorem sr_v {s s' : Sem Value} (h : SR X (RV X) B s s') : SR X (NR X) B (do pure (.value (← s))) (do pure (.value (← s'))) := h.bind X fun B1 a b _ h => .pure (.value h)
theorem sr_u {s s' : Sem Unit} (h : SR X RQ B s s') : SR X (NR X) B (do s; pure .skip) (do s'; pure .skip) := h.bind X fun B1 a b _ h => .pure .skip
/-- Every function that may be called stands in the program with a body. -/
def Bodied (X : Cx) : Prop := ∀ f, X.Fs.fs f = true → ∃ fn, X.P.funcs[f]? = some fn ∧ (fn.name == "runtime.NumGoroutine") = false ∧ fn.body.isNone = false
theorem sr_callFunc (hb : Bodied X) {f : FuncId} {a b : Array Value} (hf : X.Fs.fs f = true) (h : RC X B a b) : SR X (NR X) B (callFunc f a) (callFunc f b) := by
  obtain ⟨fn, h1, h2, h3⟩ := hb f hf
  unfold callFunc
  refine .program ?_
  simp only [Sem.bind, h1, h2, h3, Bool.false_eq_true, if_false]
  exact .pure (.enter hf h)
def opdOk (P : Program) (Fs : Fns) : Operand → Bool
  | .tmp _ => true
  | .const v => noAddr v
  | .global g => decide (g < P.globals.size) && Fs.al g
  | .func f => Fs.fs f
def tyIs (P : Program) (p : TypeDesc → Bool) (t : TypeId) : Bool := (P.underlying t).any p
def dSlice : TypeDesc → Bool
  | .slice _ => true
  | _ => false
def dStruct : TypeDesc → Bool
  | .struct _ => true
  | _ => false
def dInt : TypeDesc → Bool
  | .int _ => true
  | _ => false
def dFloat : TypeDesc → Bool
  | .float _ => true
  | _ => false
def fieldOk (P : Program) (t : TypeId) (i : Nat) : Bool :=
  match P.underlying t with
  | some (.struct fs) => (fs[i]?).all fun f => (P.info? f.type).all fun j => j.size != 0
  | _ => true
def callOk (P : Program) (Fs : Fns) (c : Call) : Bool :=
  c.args.all (opdOk P Fs) && match c.callee with
    | .value x => opdOk P Fs x
    | .builtin .append => match c.argTypes.toList, c.args.toList with
      | [t, t'], [_, _] => t == t' && tyIs P dSlice t
      | _, _ => false
    | .builtin .len => match c.argTypes.toList, c.args.toList with
      | t :: _, [_] => tyIs P dSlice t
      | _, _ => false
    | .builtin .max | .builtin .min => true
    | _ => false
def oOk (P : Program) (Fs : Fns) (o : Option Operand) : Bool := o.all (opdOk P Fs)
/-- Maps whose keys are integers. -/
def mapOk (P : Program) (t : TypeId) : Bool := match P.underlying t with
  | some (.map k _) => tyIs P dInt k
  | _ => false
/-- The operations that may occur. -/
def opOk (P : Program) (Fs : Fns) (o : Oper) : Bool :=
  match o.op with
  | .move x | .assign x | .box _ x | .load _ x | .nilCheck x | .unOp _ _ x | .makeInterface _ x | .extract x _ => opdOk P Fs x
  | .pick c a b => opdOk P Fs c && opdOk P Fs a && opdOk P Fs b
  | .alloc _ | .panic _ => true
  | .build t ps => tyIs P dStruct t && ps.all fun p => opdOk P Fs p.2
  | .buildSlice _ _ ps => ps.all fun p => opdOk P Fs p.2
  | .store _ a v | .makeSlice _ a v | .indexAddr _ a v => opdOk P Fs a && opdOk P Fs v
  | .binOp _ t x y _ => tyIs P plainD t && opdOk P Fs x && opdOk P Fs y
  | .convert s d x => tyIs P dInt s && (tyIs P dInt d || tyIs P dFloat d) && opdOk P Fs x
  | .makeFunc (.func f) first captured => Fs.fs f && first.all (opdOk P Fs) && captured.all (opdOk P Fs)
  | .slice t x lo hi mx => tyIs P dSlice t && opdOk P Fs x && oOk P Fs lo && oOk P Fs hi && oOk P Fs mx
  | .fieldAddr t x i => fieldOk P t i && opdOk P Fs x
  | .call c => callOk P Fs c
  | .makeMap _ none => true
  | .lookup t x i _ => mapOk P t && opdOk P Fs x && opdOk P Fs i
  | .mapUpdate t m k v => mapOk P t && opdOk P Fs m && opdOk P Fs k && opdOk P Fs v
  | _ => false
theorem tyIs_some {P : Program} {p : TypeDesc → Bool} {t : TypeId} (h : tyIs P p t = true) : ∃ d, P.underlying t = some d ∧ p d = true := by
  unfold tyIs at h
  cases hu : P.underlying t with
  | none => rw [hu] at h; cases h
  | some d => rw [hu] at h; exact ⟨d, rfl, h⟩
theorem mapOk_some {P : Program} {t : TypeId} (h : mapOk P t = true) : ∃ k e kd, P.underlying t = some (.map k e) ∧ P.underlying k = some (.int kd) := by
  unfold mapOk at h
  split at h
  · rename_i k e hu
    obtain ⟨d, hd, hs⟩ := tyIs_some h
    cases d <;> first | (simp [dInt] at hs; done) | exact ⟨_, _, _, hu, hd⟩
  · cases h
section
variable {ev ev' : Operand → Value} (hE : ∀ x, opdOk X.P X.Fs x = true → RV X B (ev x) (ev' x))
include hE
theorem rc_args {xs : Array Operand} (h : xs.all (opdOk X.P X.Fs) = true) : RC X B (xs.map ev) (xs.map ev') := by
  rw [Array.all_eq_true'] at h
  refine ⟨?_, ?_⟩
  · rw [Array.map_map]
    apply Array.map_congr_left
    intro x hx
    exact (hE x (h x hx)).1
  · intro v hv
    obtain ⟨x, hx, rfl⟩ := Array.mem_map.1 hv
    exact (hE x (h x hx)).2
theorem rp_args {ps : Array (Nat × Operand)} (h : (ps.all fun p => opdOk X.P X.Fs p.2) = true) : RP X B (ps.map fun (i, x) => (i, ev x)) (ps.map fun (i, x) => (i, ev' x)) := by
  rw [Array.all_eq_true'] at h
  refine ⟨?_, ?_⟩
  · rw [Array.map_map]
    apply Array.map_congr_left
    intro x hx
    show (x.1, ev' x.2) = (x.1, ren X.ρ (ev x.2))
    rw [(hE x.2 (h x hx)).1]
  · intro v hv
    obtain ⟨x, hx, rfl⟩ := Array.mem_map.1 hv
    exact (hE x.2 (h x hx)).2
theorem ro_arg {o : Option Operand} (h : oOk X.P X.Fs o = true) : RO X B (o.map ev) (o.map ev') := by
  cases o with
  | none => trivial
  | some x => exact hE x h
end
theorem RC.app {a b c d : Array Value} (h : RC X B a b) (k : RC X B c d) : RC X B (a ++ c) (b ++ d) := by
  refine ⟨by rw [h.1, k.1, Array.map_append], fun v hv => ?_⟩
  rcases Array.mem_append.1 hv with h1 | h1
  · exact h.2 v h1
  · exact k.2 v h1
theorem RC.get? {a b : Array Value} (h : RC X B a b) (i : Nat) : RO X B a[i]? b[i]? := by
  rw [h.1, Array.getElem?_map]
  cases hi : a[i]? with
  | none => trivial
  | some v => exact ⟨rfl, h.2 v (Array.mem_of_getElem? hi)⟩
theorem sr_max2 {x x' y y' : Value} (hx : RV X B x x') (hy : RV X B y y') : SR X (RV X) B (Builtin.max2 x y) (Builtin.max2 x' y') := by
  obtain ⟨rfl, hx⟩ := hx
  obtain ⟨rfl, hy⟩ := hy
  clear hx hy
  cases x
  case int k n =>
    rw [ren_int]
    cases y
    case int k' m => rw [ren_int]; exact sr_int
    case pointer p => cases p <;> first | exact sr_unsup | exact sr_stuck
    all_goals exact sr_stuck
  case float k n =>
    rw [ren_float]
    cases y
    case float k' m =>
      rw [ren_float]
      refine Calm.sr ?_
      show Calm _ (match k.format.order n m with
        | none => (do pure (Value.float k (← choose (.nanMinMax k true n m))) : Sem Value)
        | some .lt => pure (Value.float k m)
        | some .gt => pure (Value.float k n)
        | some .eq => pure (Value.float k (if (k.decode n).neg then m else n)))
      split
      · exact .choose fun n => .pure (noAddr_float _ _)
      · exact .pure (noAddr_float _ _)
      · exact .pure (noAddr_float _ _)
      · exact .pure (noAddr_float _ _)
    case pointer p => cases p <;> first | exact sr_unsup | exact sr_stuck
    all_goals exact sr_stuck
  case string s =>
    rw [ren_string]
    cases y
    case string s' => rw [ren_string]; exact sr_string
    case pointer p => cases p <;> first | exact sr_unsup | exact sr_stuck
    all_goals exact sr_stuck
  case pointer p => cases p <;> first | exact sr_unsup | (cases y <;> first | exact sr_stuck | (rename_i q; cases q <;> first | exact sr_unsup | exact sr_stuck))
  all_goals (cases y <;> first | exact sr_stuck | (rename_i q; cases q <;> first | exact sr_unsup | exact sr_stuck))
theorem sr_min2 {x x' y y' : Value} (hx : RV X B x x') (hy : RV X B y y') : SR X (RV X) B (Builtin.min2 x y) (Builtin.min2 x' y') := by
  obtain ⟨rfl, hx⟩ := hx
  obtain ⟨rfl, hy⟩ := hy
  clear hx hy
  cases x
  case int k n =>
    rw [ren_int]
    cases y
    case int k' m => rw [ren_int]; exact sr_int
    case pointer p => cases p <;> first | exact sr_unsup | exact sr_stuck
    all_goals exact sr_stuck
  case float k n =>
    rw [ren_float]
    cases y
    case float k' m =>
      rw [ren_float]
      refine Calm.sr ?_
      show Calm _ (match k.format.order n m with
        | none => (do pure (Value.float k (← choose (.nanMinMax k false n m))) : Sem Value)
        | some .lt => pure (Value.float k n)
        | some .gt => pure (Value.float k m)
        | some .eq => pure (Value.float k (if (k.decode n).neg then n else m)))
      split
      · exact .choose fun n => .pure (noAddr_float _ _)
      · exact .pure (noAddr_float _ _)
      · exact .pure (noAddr_float _ _)
      · exact .pure (noAddr_float _ _)
    case pointer p => cases p <;> first | exact sr_unsup | exact sr_stuck
    all_goals exact sr_stuck
  case string s =>
    rw [ren_string]
    cases y
    case string s' => rw [ren_string]; exact sr_string
    case pointer p => cases p <;> first | exact sr_unsup | exact sr_stuck
    all_goals exact sr_stuck
  case pointer p => cases p <;> first | exact sr_unsup | (cases y <;> first | exact sr_stuck | (rename_i q; cases q <;> first | exact sr_unsup | exact sr_stuck))
  all_goals (cases y <;> first | exact sr_stuck | (rename_i q; cases q <;> first | exact sr_unsup | exact sr_stuck))
theorem sr_fold2 {f : Value → Value → Sem Value} (hf : ∀ {B x x' y y'}, RV X B x x' → RV X B y y' → SR X (RV X) B (f x y) (f x' y')) : ∀ (l : List Value) (B : Nat) (x x' : Value), RV X B x x' → (∀ v ∈ l, okJ X.Fs B v = true) → SR X (RV X) B (l.foldlM f x) ((l.map (ren X.ρ)).foldlM f x')
  | [], B, x, x', hx, _ => .pure hx
  | v :: l, B, x, x', hx, hl => by
    rw [List.map_cons, List.foldlM_cons, List.foldlM_cons]
    refine (hf hx ⟨rfl, hl v List.mem_cons_self⟩).bind X ?_
    intro B1 a b hB h
    exact sr_fold2 hf l B1 a b h fun u hu => okJ_mono _ hB u (hl u (List.mem_cons_of_mem _ hu))
theorem sr_max {ts : Array TypeId} {t : TypeId} {a b : Array Value} (h : RC X B a b) : SR X (RV X) B (Builtin.max_ ts t a) (Builtin.max_ ts t b) := by
  obtain ⟨rfl, h⟩ := h
  unfold Builtin.max_
  rw [Array.toList_map]
  cases hl : a.toList with
  | nil => exact sr_stuck
  | cons x l =>
    have hm : ∀ v ∈ x :: l, okJ X.Fs B v = true := fun v hv => h v (by rw [← hl] at hv; simpa using hv)
    exact sr_fold2 (fun h1 h2 => sr_max2 h1 h2) l B x _ ⟨rfl, hm x List.mem_cons_self⟩ fun u hu => hm u (List.mem_cons_of_mem _ hu)
theorem sr_min {ts : Array TypeId} {t : TypeId} {a b : Array Value} (h : RC X B a b) : SR X (RV X) B (Builtin.min_ ts t a) (Builtin.min_ ts t b) := by
  obtain ⟨rfl, h⟩ := h
  unfold Builtin.min_
  rw [Array.toList_map]
  cases hl : a.toList with
  | nil => exact sr_stuck
  | cons x l =>
    have hm : ∀ v ∈ x :: l, okJ X.Fs B v = true := fun v hv => h v (by rw [← hl] at hv; simpa using hv)
    exact sr_fold2 (fun h1 h2 => sr_min2 h1 h2) l B x _ ⟨rfl, hm x List.mem_cons_self⟩ fun u hu => hm u (List.mem_cons_of_mem _ hu)
theorem arr1 {α : Type} {a : Array α} {x : α} (h : a.toList = [x]) : a = #[x] := by
  apply Array.ext'; simpa using h
theorem arr2 {α : Type} {a : Array α} {x y : α} (h : a.toList = [x, y]) : a = #[x, y] := by
  apply Array.ext'; simpa using h
theorem junk_first {Fs : Fns} {B : Nat} {s : String} {a b : Array Value} (h : okJ Fs B (.func (.method s) a b) = true) : ∃ w, a = #[.nilIface] ∧ b = #[w] := by
  rw [okJ] at h
  unfold isJunk at h
  split at h
  · rename_i v h1 h2
    exact ⟨v, by apply Array.ext'; simpa using h1, by apply Array.ext'; simpa using h2⟩
  · cases h
theorem doomed_junk {s : String} {b args : Array Value} : Doomed (do let d ← Deferred.ofValue (.func (.method s) #[.nilIface] b) args; invoke d.target d.args) := by
  have e : ((#[Value.nilIface] ++ args) : Array Value)[0]? = some .nilIface := by rw [Array.getElem?_append_left (by simp)]; rfl
  show Doomed (invoke (.fn (.method s) b) (#[.nilIface] ++ args))
  unfold invoke
  simp only [e]
  exact .program fun p => .halt trivial
/-- A call that the check allows. -/
theorem sr_call (hz : ZeroOk X.P) (hb : Bodied X) {ev ev' : Operand → Value} (hE : ∀ x, opdOk X.P X.Fs x = true → RV X B (ev x) (ev' x)) {c : Call} {t : TypeId} (hc : callOk X.P X.Fs c = true) :
    SR X (NR X) B (do let d ← resolve ev c t; invoke d.target d.args) (do let d ← resolve ev' c t; invoke d.target d.args) := by
  unfold callOk at hc
  rw [Bool.and_eq_true] at hc
  obtain ⟨ha, hc⟩ := hc
  have hA := rc_args hE ha
  unfold resolve
  cases hcc : c.callee with
  | value x =>
    rw [hcc] at hc
    have hv := hE x hc
    simp only []
    generalize ev x = u at hv
    generalize ev' x = u' at hv
    obtain ⟨rfl, hu⟩ := hv
    cases u
    case func fn a b =>
      cases fn
      case func f =>
        rw [ren_func]
        rw [okJ_func, Bool.and_eq_true, Bool.and_eq_true, Array.all_eq_true', Array.all_eq_true'] at hu
        have h1 : RC X B a (a.map (ren X.ρ)) := ⟨rfl, hu.1.2⟩
        have h2 : RC X B b (b.map (ren X.ρ)) := ⟨rfl, hu.2⟩
        exact sr_callFunc hb hu.1.1 ((h1.app hA).app h2)
      case method s =>
        obtain ⟨w, rfl, _⟩ := junk_first hu
        exact .dead doomed_junk
      all_goals exact absurd hu (by rw [okJ] <;> simp)
    case nilFunc =>
      rw [ren_nilFunc]
      exact sr_runtimePanic (e := .nilDeref) trivial
    all_goals exact sr_stuck
  | invoke r n => rw [hcc] at hc; cases hc
  | builtin b =>
    rw [hcc] at hc
    cases b <;> first
      | (cases hc; done)
      | skip
    case append =>
      simp only [] at hc
      split at hc
      · rename_i t1 t2 x y ht hx
        rw [Bool.and_eq_true] at hc
        obtain ⟨h1, h2⟩ := hc
        obtain rfl : t1 = t2 := by simpa using h1
        obtain ⟨d, hd, hs⟩ := tyIs_some h2
        have e1 := arr2 ht
        have e2 := arr2 hx
        rw [e2] at ha
        simp only [List.all_toArray, List.all_cons, List.all_nil, Bool.and_true, Bool.and_eq_true] at ha
        cases d <;> first | (simp [dSlice] at hs; done) | skip
        rw [e1, e2]
        show SR X (NR X) B (do pure (.value (← Builtin.append_ #[t1, t1] t (#[x, y].map ev)))) (do pure (.value (← Builtin.append_ #[t1, t1] t (#[x, y].map ev'))))
        have m1 : #[x, y].map ev = #[ev x, ev y] := by simp
        have m2 : #[x, y].map ev' = #[ev' x, ev' y] := by simp
        rw [m1, m2]
        exact sr_v (sr_append hz hd (hE x ha.1) (hE y ha.2))
      · cases hc
    case len =>
      simp only [] at hc
      split at hc
      · rename_i t1 rest x ht hx
        obtain ⟨d, hd, hs⟩ := tyIs_some hc
        have e2 := arr1 hx
        rw [e2] at ha
        simp only [List.all_toArray, List.all_cons, List.all_nil, Bool.and_true] at ha
        cases d <;> first | (simp [dSlice] at hs; done) | skip
        rw [e2]
        have h0 : c.argTypes[0]? = some t1 := by rw [← Array.getElem?_toList, ht]; rfl
        show SR X (NR X) B (do pure (.value (← Builtin.len_ c.argTypes t (#[x].map ev)))) (do pure (.value (← Builtin.len_ c.argTypes t (#[x].map ev'))))
        have m1 : #[x].map ev = #[ev x] := by simp
        have m2 : #[x].map ev' = #[ev' x] := by simp
        rw [m1, m2]
        exact sr_v (sr_len (hE x ha) h0 hd)
      · cases hc
    case max => exact sr_v (sr_max hA)
    case min => exact sr_v (sr_min hA)
theorem execOp_nilCheck {ev : Operand → Value} {B : Nat} {x : Operand} {o : Oper} (ho : o.op = .nilCheck x) (hj : noJunk (ev x)) (hx : okJ X.Fs B (ev x) = true) : execOp ev o = (do pure (.value (← nilOf (ev x)))) := by
  unfold execOp
  simp only [ho]
  generalize ev x = u at hx hj
  cases u <;> first
    | rfl
    | skip
  case pointer a => cases a <;> rfl
  case func fn a b =>
    cases fn <;> first
      | rfl
      | exact hj.elim
theorem sr_nilJunk {ev : Operand → Value} {x : Operand} {o : Oper} {s' : Sem Next} (ho : o.op = .nilCheck x) (hj : ¬ noJunk (ev x)) (hx : okJ X.Fs B (ev x) = true) : SR X (NR X) B (execOp ev o) s' := by
  unfold execOp
  simp only [ho]
  generalize ev x = u at hx hj
  obtain ⟨fn, a, b, rfl, hf⟩ := junk_fn hj
  cases fn
  case method s =>
    obtain ⟨w, rfl, _⟩ := junk_first hx
    exact .dead (.program fun p => .halt trivial)
  case func f => exact absurd rfl (hf f)
  all_goals exact absurd hx (by rw [okJ] <;> simp)
/-- ████ WHATEVER OPERATION THE CHECK ALLOWS. ████ -/
theorem sr_execOp (hz : ZeroOk X.P) (hF : Fix X) (hb : Bodied X) {ev ev' : Operand → Value} (hE : ∀ x, opdOk X.P X.Fs x = true → RV X B (ev x) (ev' x)) {o : Oper} (ho : opOk X.P X.Fs o = true) : SR X (NR X) B (execOp ev o) (execOp ev' o) := by
  unfold opOk at ho
  cases hop : o.op <;> rw [hop] at ho <;> (try (cases ho; done)) <;> (simp only [Bool.and_eq_true] at ho)
  case nilCheck x =>
    have h := hE x ho
    by_cases hj : noJunk (ev x)
    rotate_left
    · exact sr_nilJunk hop hj h.2
    rw [execOp_nilCheck hop hj h.2]
    have e : execOp ev' o = (do pure (.value (← nilOf (ev' x)))) := by
      unfold execOp
      simp only [hop]
      obtain ⟨h1, h2⟩ := h
      generalize ev x = u at h1 h2 hj
      rw [h1]
      cases u <;> first
        | (simp only [ren_bool, ren_int, ren_float, ren_complex, ren_string, ren_slice, ren_map, ren_chan, ren_iface, ren_agg, ren_tuple, ren_nilFunc, ren_nilIface]; rfl)
        | skip
      case pointer a => cases a <;> (rw [ren_pointer]; rfl)
      case func fn a b =>
        cases fn <;> first
          | (rw [ren_func]; rfl)
          | exact hj.elim
    rw [e]
    exact sr_v (sr_nilOf hj h)
  case move x => unfold execOp; simp only [hop]; exact .pure (.value (hE x ho))
  case assign x => unfold execOp; simp only [hop]; exact .pure (.value (hE x ho))
  case pick c a b =>
    unfold execOp; simp only [hop]
    refine (sr_asBool (hE c ho.1.1)).bind X ?_
    intro B1 u u' hB e
    obtain rfl : u = u' := e
    cases u
    · exact .pure (.value (RV.mono hB (hE b ho.2)))
    · exact .pure (.value (RV.mono hB (hE a ho.1.2)))
  case alloc e => unfold execOp; simp only [hop]; exact sr_v (sr_alloc hz)
  case box e x => unfold execOp; simp only [hop]; exact sr_v (sr_box (hE x ho))
  case build t ps =>
    unfold execOp; simp only [hop]
    obtain ⟨d, hd, hs⟩ := tyIs_some ho.1
    cases d <;> first | (simp [dStruct] at hs; done) | skip
    exact sr_v (sr_build hz hd (rp_args hE ho.2))
  case buildSlice t n ps => unfold execOp; simp only [hop]; exact sr_v (sr_buildSlice hz (rp_args hE ho))
  case load t a => unfold execOp; simp only [hop]; exact sr_v (sr_loadAt (hE a ho))
  case store t a v => unfold execOp; simp only [hop]; exact sr_u (sr_storeAt (hE a ho.1) (hE v ho.2))
  case binOp op t x y t2 =>
    unfold execOp; simp only [hop]
    obtain ⟨d, hd, hs⟩ := tyIs_some ho.1.1
    refine sr_v ?_
    refine (sr_eqGuard hd hs (hE x ho.1.2) (hE y ho.2)).bind X ?_
    intro B1 _ _ hB _
    exact sr_binOp hF hd hs (RV.mono hB (hE x ho.1.2)) (RV.mono hB (hE y ho.2))
  case unOp op t x => unfold execOp; simp only [hop]; exact sr_v (sr_unary (hE x ho))
  case convert s d x =>
    unfold execOp; simp only [hop]
    obtain ⟨ds, hds, hs⟩ := tyIs_some ho.1.1
    cases ds <;> first | (simp [dInt] at hs; done) | skip
    rcases Bool.or_eq_true_iff.1 ho.1.2 with h | h
    · obtain ⟨dd, hdd, hs2⟩ := tyIs_some h
      cases dd <;> first | (simp [dInt] at hs2; done) | skip
      exact sr_v (sr_convertInt (hE x ho.2) hds hdd)
    · obtain ⟨dd, hdd, hs2⟩ := tyIs_some h
      cases dd <;> first | (simp [dFloat] at hs2; done) | skip
      exact sr_v (sr_convertFloat (hE x ho.2) hds hdd)
  case makeInterface t x => unfold execOp; simp only [hop]; exact sr_v (sr_makeInterface (hE x ho))
  case makeFunc fn first captured =>
    cases fn <;> simp only [] at ho <;> (try (cases ho; done))
    rename_i f
    simp only [Bool.and_eq_true] at ho
    unfold execOp; simp only [hop]
    have h1 := rc_args hE ho.1.2
    have h2 := rc_args hE ho.2
    refine sr_v (.pure ⟨by rw [ren_func, h1.1, h2.1], ?_⟩)
    rw [okJ_func, Bool.and_eq_true, Bool.and_eq_true, Array.all_eq_true', Array.all_eq_true']
    exact ⟨⟨ho.1.1, h1.2⟩, h2.2⟩
  case makeSlice t l c => unfold execOp; simp only [hop]; exact sr_v (sr_makeSlice hz (hE l ho.1) (hE c ho.2))
  case slice t x lo hi mx =>
    unfold execOp; simp only [hop]
    obtain ⟨d, hd, hs⟩ := tyIs_some ho.1.1.1.1
    cases d <;> first | (simp [dSlice] at hs; done) | skip
    exact sr_v (sr_sliceAt hd (hE x ho.1.1.1.2) (ro_arg hE ho.1.1.2) (ro_arg hE ho.1.2) (ro_arg hE ho.2))
  case makeMap t r =>
    cases r with
    | some r => cases ho
    | none => unfold execOp; simp only [hop]; exact sr_v sr_makeMap
  case lookup t x i ok =>
    unfold execOp; simp only [hop]
    obtain ⟨k, e, kd, h1, h2⟩ := mapOk_some ho.1.1
    exact sr_v (sr_lookup hz hF h1 h2 (hE x ho.1.2) (hE i ho.2))
  case mapUpdate t m k v =>
    unfold execOp; simp only [hop]
    obtain ⟨kt, e, kd, h1, h2⟩ := mapOk_some ho.1.1.1
    exact sr_u (sr_mapUpdate hF h1 h2 (hE m ho.1.1.2) (hE k ho.1.2) (hE v ho.2))
  case fieldAddr t x i =>
    unfold execOp; simp only [hop]
    refine sr_v (sr_fieldAt (hE x ho.2) fun fs f h1 h2 j h3 => ?_)
    have h := ho.1
    unfold fieldOk at h
    rw [h1] at h
    simp only [h2, h3, Option.all_some] at h
    simpa using h
  case indexAddr t x i => unfold execOp; simp only [hop]; exact sr_v (sr_indexAt (hE x ho.1) (hE i ho.2))
  case extract x i => unfold execOp; simp only [hop]; exact sr_v (sr_extract (hE x ho))
  case panic x => unfold execOp; simp only [hop]; exact sr_v sr_panic
  case call c => unfold execOp; simp only [hop]; exact sr_call hz hb hE ho
end Go.Proofs.Ytmmolicodlmlkaa.Rel
namespace Go.Proofs.Ytmmolicodlmlkaa.Rel
open Go.Conc (G)
set_option linter.unusedVariables false
variable {X : Cx} {B : Nat}

def codeOk (P : Program) (Fs : Fns) : Code → Bool
  | .skip | .exit _ | .label _ | .goto _ | .ret | .refuse _ => true
  | .region _ ops _ => ops.all (opOk P Fs)
  | .seq a b => codeOk P Fs a && codeOk P Fs b
  | .cond c a b => opdOk P Fs c && codeOk P Fs a && codeOk P Fs b
  | .block _ a | .loop a | .scope a => codeOk P Fs a
  | .rangeFunc .. => false
/-- The operations that are still to come. -/
def opsOk (P : Program) (Fs : Fns) (ops : Array Oper) (l : List Nat) : Bool := l.all fun i => (ops[i]?).all (opOk P Fs)
theorem opsOk_all {P : Program} {Fs : Fns} {ops : Array Oper} (h : ops.all (opOk P Fs) = true) (l : List Nat) : opsOk P Fs ops l = true := by
  rw [Array.all_eq_true'] at h
  unfold opsOk
  rw [List.all_eq_true]
  intro i _
  cases ho : ops[i]? with
  | none => rfl
  | some o => exact h o (Array.mem_of_getElem? ho)
theorem opsOk_cons {P : Program} {Fs : Fns} {ops : Array Oper} {i : Nat} {l : List Nat} (h : opsOk P Fs ops (i :: l) = true) : opsOk P Fs ops l = true ∧ ∀ o, ops[i]? = some o → opOk P Fs o = true := by
  unfold opsOk at h ⊢
  rw [List.all_cons, Bool.and_eq_true] at h
  exact ⟨h.2, fun o ho => by have := h.1; rw [ho] at this; exact this⟩
def itemOk (P : Program) (Fs : Fns) : Item → Bool
  | .code c | .inLoop c | .inScope c => codeOk P Fs c
  | .inBlock _ => true
  | .inRegion ops l => opsOk P Fs ops l
  | _ => false
def resOk : ResultVar → Bool
  | .tmp _ => true
  | .cell _ _ => true
/-- Every function that may be called is fit. -/
def FnsOk (X : Cx) : Prop := ∀ f, X.Fs.fs f = true → ∃ fn c, X.P.funcs[f]? = some fn ∧ (fn.name == "runtime.NumGoroutine") = false ∧ fn.body = some c ∧ codeOk X.P X.Fs c = true ∧ fn.results.all resOk = true
theorem FnsOk.bodied (h : FnsOk X) : Bodied X := fun f hf => by
  obtain ⟨fn, c, h1, h2, h3, _⟩ := h f hf
  exact ⟨fn, h1, h2, by rw [h3]; rfl⟩
/-- The items behind, or a sequence that ends in them: the lone one's is cut where the other goes on. -/
inductive TL (P : Program) (Fs : Fns) (kl kc : List Item) : List Item → List Item → Prop
  | here : TL P Fs kl kc kl kc
  | seq {a b b' : Code} {l r : List Item} : codeOk P Fs a = true → TL P Fs kl kc (.code b :: l) (.code b' :: r) → TL P Fs kl kc (.code (.seq a b) :: l) (.code (.seq a b') :: r)
/-- Two frames that are alike, the lone one's items followed by kl, the other's by kc. -/
structure FR (X : Cx) (B : Nat) (kl kc : List Item) (fl fc : Frame) : Prop where
  fn : fc.fn = fl.fn
  tmps : RC X B fl.tmps fc.tmps
  todo : ∃ its tl tc, fl.todo = its ++ tl ∧ fc.todo = its ++ tc ∧ (∀ it ∈ its, itemOk X.P X.Fs it = true) ∧ TL X.P X.Fs kl kc tl tc
  defl : fl.defers = []
  defc : fc.defers = []
  mode : (fl.mode = .run ∧ fc.mode = .run) ∨ (fl.mode = .returning ∧ fc.mode = .returning)
  kindl : fl.kind = .normal
  kindc : fc.kind = .normal
  rol : fl.roundOf = none
  roc : fc.roundOf = none
theorem FR.mono {B' : Nat} (hB : B ≤ B') {kl kc : List Item} {fl fc : Frame} (h : FR X B kl kc fl fc) : FR X B' kl kc fl fc := ⟨h.fn, h.tmps.mono hB, h.todo, h.defl, h.defc, h.mode, h.kindl, h.kindc, h.rol, h.roc⟩
/-- Two stacks that are alike down to a frame below which the lone one goes on with csl, the other with csc. -/
inductive ST (X : Cx) (B : Nat) (kl kc : List Item) (csl csc : List Frame) : List Frame → List Frame → Prop
  | last {fl fc : Frame} : FR X B kl kc fl fc → ST X B kl kc csl csc (fl :: csl) (fc :: csc)
  | cons {fl fc : Frame} {L L' : List Frame} : FR X B [] [] fl fc → X.Fs.fs fl.fn = true → (∃ ops i rest k, (L.head?).map (·.todo) = some (.inRegion ops (i :: rest) :: k)) → ST X B kl kc csl csc L L' → ST X B kl kc csl csc (fl :: L) (fc :: L')
theorem ST.mono {B' : Nat} (hB : B ≤ B') {kl kc : List Item} {csl csc L L' : List Frame} (h : ST X B kl kc csl csc L L') : ST X B' kl kc csl csc L L' := by
  induction h with
  | last h => exact .last (h.mono hB)
  | cons h hf ht _ ih => exact .cons (h.mono hB) hf ht ih

theorem ren_undef (ρ : Rn) : ren ρ undef = undef := by unfold undef; rw [ren_tuple]; simp
theorem okJ_undef (Fs : Fns) (B : Nat) : okJ Fs B undef = true := by unfold undef; rw [okJ_tuple]; simp
theorem RC.getD {a b : Array Value} (h : RC X B a b) (i : Nat) : RV X B (a.getD i undef) (b.getD i undef) := by
  have := h.get? i
  rw [Array.getD_eq_getD_getElem?, Array.getD_eq_getD_getElem?]
  cases h1 : a[i]? <;> cases h2 : b[i]? <;> rw [h1, h2] at this <;> first
    | exact this.elim
    | exact this
    | exact ⟨(ren_undef _).symm, okJ_undef _ _⟩
section
variable {kl kc : List Item} {fl fc : Frame} (hF : Fix X) (hG : X.P.globals.size ≤ B)
include hF hG
theorem FR.eval (h : FR X B kl kc fl fc) : ∀ x, opdOk X.P X.Fs x = true → RV X B (fl.eval x) (fc.eval x) := by
  intro x hx
  cases x with
  | tmp t => exact h.tmps.getD t
  | const v =>
    obtain ⟨h1, h2⟩ := noAddr_ok X.ρ X.Fs B v hx
    exact ⟨h1.symm, h2⟩
  | global g =>
    unfold opdOk at hx
    rw [Bool.and_eq_true, decide_eq_true_eq] at hx
    refine ⟨?_, ?_⟩
    · show Value.pointer _ = ren X.ρ (.pointer (some ⟨g, 0, none⟩))
      rw [ren_pointer]
      simp only [Option.map_some, renA, hF.1 g hx.1]
    · show okJ X.Fs B (.pointer (some ⟨g, 0, none⟩)) = true
      rw [okJ_pointer]
      unfold inB
      simp only [Bool.and_eq_true, decide_eq_true_eq]
      exact ⟨by omega, hx.2⟩
  | func f =>
    refine ⟨?_, ?_⟩
    · show Value.func (.func f) #[] #[] = ren X.ρ (.func (.func f) #[] #[])
      rw [ren_func]; simp
    · show okJ X.Fs B (.func (.func f) #[] #[]) = true
      rw [okJ_func]
      simpa [opdOk] using hx
end
theorem yielded_same {a b : Array Value} (h : RC X B a b) (ops : Array Oper) (j : Nat) : yielded ops b j = yielded ops a j := by
  unfold yielded
  cases hd : (ops[j]?).bind (·.dst) with
  | none => rfl
  | some d =>
    simp only [Option.bind_some]
    have := h.get? d
    cases h1 : a[d]? <;> cases h2 : b[d]? <;> rw [h1, h2] at this <;> first
      | exact this.elim
      | rfl
      | skip
    rename_i u u'
    obtain ⟨rfl, hok⟩ := this
    clear h1 h2 hok
    cases u
    case func fn x y =>
      have hf := ren_fn X.ρ fn x y
      generalize ren X.ρ (.func fn x y) = u at hf ⊢
      cases u <;> first | rfl | simp [hidV] at hf
    all_goals first
      | rfl
      | (simp only [ren_bool, ren_int, ren_float, ren_complex, ren_string, ren_pointer, ren_slice, ren_map, ren_chan, ren_iface, ren_agg, ren_tuple, ren_nilFunc, ren_nilIface])
theorem RC.set {a b : Array Value} {u u' : Value} (h : RC X B a b) (hu : RV X B u u') (d : Nat) : RC X B (a.setIfInBounds d u) (b.setIfInBounds d u') := by
  obtain ⟨rfl, h⟩ := h
  obtain ⟨rfl, hu⟩ := hu
  refine ⟨by apply Array.ext'; simp, fun v hv => ?_⟩
  rcases Array.mem_or_eq_of_mem_setIfInBounds hv with h1 | h1
  · exact h v h1
  · rw [h1]; exact hu
theorem RC.replicate (n : Nat) : RC X B (Array.replicate n undef) (Array.replicate n undef) := by
  refine ⟨by rw [Array.map_replicate, ren_undef], fun v hv => ?_⟩
  rw [(Array.mem_replicate.1 hv).2]
  exact okJ_undef _ _
theorem RC.size {a b : Array Value} (h : RC X B a b) : b.size = a.size := by rw [h.1]; simp
/-- An operation's value is laid down. -/
theorem FR.finish {kl kc : List Item} {fl fc : Frame} {u u' : Value} {ops : Array Oper} {i : Nat} {rest : List Nat} {its tl tc : List Item} (h : FR X B kl kc fl fc) (hT : TL X.P X.Fs kl kc tl tc) (hu : RV X B u u')
    (h1 : fl.todo = (.inRegion ops (i :: rest) :: its) ++ tl) (h2 : fc.todo = (.inRegion ops (i :: rest) :: its) ++ tc) (h3 : ∀ it ∈ its, itemOk X.P X.Fs it = true) (h4 : opsOk X.P X.Fs ops (i :: rest) = true) : FR X B kl kc (fl.finish u) (fc.finish u') := by
  unfold Frame.finish
  rw [h1, h2]
  simp only [List.cons_append]
  refine ⟨h.fn, ?_, ⟨.inRegion ops rest :: its, tl, tc, rfl, rfl, fun it hit => ?_, hT⟩, h.defl, h.defc, h.mode, h.kindl, h.kindc, h.rol, h.roc⟩
  · show RC X B (match (ops[i]?).bind (·.dst) with | some d => fl.tmps.setIfInBounds d u | none => fl.tmps) (match (ops[i]?).bind (·.dst) with | some d => fc.tmps.setIfInBounds d u' | none => fc.tmps)
    cases (ops[i]?).bind (·.dst) with
    | none => exact h.tmps
    | some d => exact h.tmps.set hu d
  · rcases List.mem_cons.1 hit with e | e
    · rw [e]; exact (opsOk_cons h4).1
    · exact h3 it e
/-- A frame that is entered. -/
theorem FR.enter (hO : FnsOk X) {f : FuncId} {a b : Array Value} (hf : X.Fs.fs f = true) (h : RC X B a b) : FR X B [] [] (Frame.enter X.P f a .normal) (Frame.enter X.P f b .normal) := by
  obtain ⟨fn, c, h1, _, h3, h4, _⟩ := hO f hf
  unfold Frame.enter
  simp only [h1, Option.map_some, Option.bind_some, h3, Option.getD_some, h.size]
  exact ⟨rfl, h.app (RC.replicate _), ⟨[.code c], [], [], rfl, rfl, fun it hit => by simp at hit; rw [hit]; exact h4, .here⟩, rfl, rfl, .inl ⟨rfl, rfl⟩, rfl, rfl, rfl, rfl⟩
/-! ### events -/
/-- The function of the library that a mark names, if it names one. -/
noncomputable def snM (m : Mark) : Option FuncId := Mark.casesOn (motive := fun _ => Option FuncId) m (fun _ => none) (fun _ => none) (fun _ => none) none none (fun _ => none) (fun _ => none) (fun f => some f) none
noncomputable def sn (P : Program) (x : Bool × Array Event) (e : Event) : Bool × Array Event :=
  match e.loc with
  | .mark m => match snM m with
    | some f => ((P.funcs[f]?).any (·.norace), x.2)
    | none => (x.1, if x.1 && !e.sync then x.2 else x.2.push e)
  | _ => (x.1, if x.1 && !e.sync then x.2 else x.2.push e)
theorem seen_sn (P : Program) (fn : FuncId) (es : Array Event) : seen P fn es = (es.toList.foldl (sn P) ((P.funcs[fn]?).any (·.norace), #[])).2 := by
  rw [Array.foldl_toList]
  unfold seen
  refine congrArg Prod.snd (congrArg (fun g => Array.foldl g ((P.funcs[fn]?).any (·.norace), (#[] : Array Event)) es) ?_)
  funext x e
  obtain ⟨loc, wr, sy⟩ := e
  cases loc with
  | mark m => cases m <;> rfl
  | _ => rfl
theorem sn_ren (P : Program) (q : Bool) (k : Array Event) (e : Event) : sn P (q, k.map (renE X)) (renE X e) = ((sn P (q, k) e).1, (sn P (q, k) e).2.map (renE X)) := by
  obtain ⟨loc, wr, sy⟩ := e
  have push : ∀ x : Event, (if q && !sy then k.map (renE X) else (k.map (renE X)).push (renE X x)) = (if q && !sy then k else k.push x).map (renE X) := by
    intro x
    split
    · rfl
    · rw [Array.map_push]
  cases loc with
  | mark m =>
    cases m <;> first
      | rfl
      | exact congrArg (Prod.mk q) (push _)
  | _ => exact congrArg (Prod.mk q) (push _)
theorem sn_fold (P : Program) : ∀ (l : List Event) (q : Bool) (k : Array Event), (l.map (renE X)).foldl (sn P) (q, k.map (renE X)) = ((l.foldl (sn P) (q, k)).1, (l.foldl (sn P) (q, k)).2.map (renE X))
  | [], q, k => rfl
  | e :: l, q, k => by
    rw [List.map_cons, List.foldl_cons, List.foldl_cons, sn_ren]
    exact sn_fold P l _ _
theorem seen_ren (P : Program) (fn : FuncId) (es : Array Event) : seen P fn (es.map (renE X)) = (seen P fn es).map (renE X) := by
  rw [seen_sn, seen_sn, Array.toList_map]
  have := sn_fold (X := X) P es.toList ((P.funcs[fn]?).any (·.norace)) #[]
  rw [show (#[] : Array Event).map (renE X) = #[] from by simp] at this
  rw [this]
theorem seen_sub {P : Program} {fn : FuncId} {es : Array Event} {e : Event} (h : e ∈ seen P fn es) : e ∈ es := by
  rw [seen_sn] at h
  have key : ∀ (l : List Event) (q : Bool) (k : Array Event), e ∈ (l.foldl (sn P) (q, k)).2 → e ∈ k ∨ e ∈ l := by
    intro l
    induction l with
    | nil => intro q k h; exact .inl h
    | cons x l ih =>
      intro q k h
      rw [List.foldl_cons] at h
      have push : e ∈ (sn P (q, k) x).2 → e ∈ k ∨ e = x := by
        intro h
        unfold sn at h
        split at h
        · split at h
          · exact .inl h
          · simp only at h
            split at h
            · exact .inl h
            · exact (Array.mem_push.1 h)
        · simp only at h
          split at h
          · exact .inl h
          · exact (Array.mem_push.1 h)
      rcases ih _ _ h with h1 | h1
      · exact (push h1).imp id fun h => by rw [h]; exact List.mem_cons_self
      · exact .inr (List.mem_cons_of_mem _ h1)
  have := key es.toList _ _ h
  simpa using this
end Go.Proofs.Ytmmolicodlmlkaa.Rel
namespace Go.Proofs.Ytmmolicodlmlkaa.Rel
open Go.Conc (G)
set_option linter.unusedVariables false
variable {X : Cx} {B : Nat}

/-- The world behind what the goroutine is about to carry out. -/
def opW (P : Program) (fr : Frame) (v : World) : World :=
  match fr.mode with
  | .returning => match P.funcs[fr.fn]? with
    | some fn => resW ((results fn fr.tmps).runT P v #[]).1
    | none => v
  | .run => match fr.todo with
    | .code (.region _ _ true) :: _ => { v with drawn := v.drawn + 1 }
    | .inRegion ops (i :: _) :: _ => match ops[i]? with
      | some o => if Region.wanted o (yielded ops fr.tmps) then resW ((execOp fr.eval o).runT P v #[]).1 else v
      | none => v
    | _ => v
  | _ => v
section steps
variable {P : Program} {main : Bool} {fr : Frame} {cs : List Frame} {w w' : World} {k : List Item} {s : Sem Next} {es : Array Event}
theorem apply_value {u : Value} (hr : s.runT P w #[] = (.ok (.value u) w', es)) (hk : fr.kind = .normal) : stepG.apply P true fr cs none s w = .go (G (fr.finish u) cs) w' (seen P fr.fn es) := by
  have hk' : (fr.kind == CallKind.early) = false := by rw [hk]; rfl
  simp only [stepG.apply, if_true, hr, hk', Bool.false_eq_true, if_false, GStep.after, G, Array.append_empty]
theorem apply_skip (hr : s.runT P w #[] = (.ok .skip w', es)) (hk : fr.kind = .normal) : stepG.apply P true fr cs none s w = .go (G (fr.finish undef) cs) w' (seen P fr.fn es) := by
  have hk' : (fr.kind == CallKind.early) = false := by rw [hk]; rfl
  simp only [stepG.apply, if_true, hr, hk', Bool.false_eq_true, if_false, GStep.after, G, Array.append_empty]
theorem apply_enter {f : FuncId} {args : Array Value} {ops : Array Oper} {l : List Nat} (hr : s.runT P w #[] = (.ok (.enter f args) w', es)) (hk : fr.kind = .normal) (ht : fr.todo = .inRegion ops l :: k) :
    stepG.apply P true fr cs none s w = .go (G (Frame.enter P f args .normal) (fr :: cs)) w' (seen P fr.fn es) := by
  have hk' : (fr.kind == CallKind.early) = false := by rw [hk]; rfl
  simp only [stepG.apply, if_true, hr, hk', Bool.false_eq_true, if_false, GStep.after, G, Array.append_empty]
  simp only [ht]
theorem apply_dead {h : Halt} (hr : s.runT P w #[] = (.halt h w', es)) (hd : deadH h) : (∃ o w1 es1, stepG.apply P true fr cs none s w = .ended o w1 es1) ∨ ∃ ch w1 es1, stepG.apply P true fr cs none s w = .go (G (fr.raise ch) cs) w1 es1 := by
  cases h with
  | panic v => exact .inr ⟨[{ v, recovered := false }], w', (if fr.kind == CallKind.early then seen P fr.fn #[] else seen P fr.fn es), by
      simp only [stepG.apply, hr, if_true, GStep.after, G]
      split <;> simp⟩
  | stuck st => exact .inl ⟨_, _, _, by simp only [stepG.apply, hr, if_true, GStep.after]; rfl⟩
  | unsupported u => cases u <;> first | exact hd.elim | exact .inl ⟨_, _, _, by simp only [stepG.apply, hr, if_true, GStep.after]; rfl⟩
  | _ => exact hd.elim
theorem sg_oper {ops : Array Oper} {i : Nat} {rest : List Nat} {o : Oper} (hm : fr.mode = .run) (ht : fr.todo = .inRegion ops (i :: rest) :: k) (hr : fr.roundOf = none) (ho : ops[i]? = some o) (hw : Region.wanted o (yielded ops fr.tmps) = true) :
    stepG P main (G fr cs) w = stepG.apply P true fr cs none (execOp fr.eval o) w := by
  have : fr.oper? = some o := by unfold Frame.oper?; rw [ht]; exact ho
  simp [G, stepG, stepG.exec, stepG.oper, hm, ht, hr, ho, hw, this]
theorem sg_skipop {ops : Array Oper} {i : Nat} {rest : List Nat} (hm : fr.mode = .run) (ht : fr.todo = .inRegion ops (i :: rest) :: k) (hw : ((ops[i]?).map (Region.wanted · (yielded ops fr.tmps))).getD false = false) :
    stepG P main (G fr cs) w = .go (G (fr.finish undef) cs) w #[] := by
  simp [G, stepG, stepG.exec, hm, ht, hw]
theorem sg_nil (hm : fr.mode = .run) (ht : fr.todo = []) (hr : fr.roundOf = none) : stepG P main (G fr cs) w = .go (G { fr with mode := .returning } cs) w #[] := by
  simp [G, stepG, stepG.exec, hm, ht, hr]
theorem sg_ret (hm : fr.mode = .run) (ht : fr.todo = .code .ret :: k) (hr : fr.roundOf = none) : stepG P main (G fr cs) w = .go (G { fr with mode := .returning } cs) w #[] := by
  simp [G, stepG, stepG.exec, hm, ht, hr]
theorem sg_refuse {y : String} (hm : fr.mode = .run) (ht : fr.todo = .code (.refuse y) :: k) : ∃ o, stepG P main (G fr cs) w = .ended o w #[] := by simp [G, stepG, stepG.exec, hm, ht]
/-- The moves that look at nothing but the items. -/
def ctl : Item → List Item → Option (List Item)
  | .code .skip, k | .code (.label _), k | .inBlock _, k | .inScope _, k => some k
  | .code (.seq a b), k => some (.code a :: .code b :: k)
  | .code (.block id body), k => some (.code body :: .inBlock id :: k)
  | .code (.loop body), k | .inLoop body, k => some (.code body :: .inLoop body :: k)
  | .code (.scope body), k => some (.code body :: .inScope body :: k)
  | .code (.region _ ops false), k => some (.inRegion ops (List.range ops.size) :: k)
  | .inRegion _ [], k => some k
  | _, _ => none
theorem sg_ctl {it : Item} {k' : List Item} (hm : fr.mode = .run) (ht : fr.todo = it :: k) (hc : ctl it k = some k') : stepG P main (G fr cs) w = .go (G { fr with todo := k' } cs) w #[] := by
  unfold ctl at hc
  split at hc <;> first
    | (injection hc with hc; subst hc; simp [G, stepG, stepG.exec, hm, ht]; done)
    | cases hc
theorem sg_cond {c : Operand} {x y : Code} {b : Bool} (hm : fr.mode = .run) (ht : fr.todo = .code (.cond c x y) :: k) (hc : fr.eval c = .bool b) : stepG P main (G fr cs) w = .go (G { fr with todo := .code (if b then x else y) :: k } cs) w #[] := by
  simp [G, stepG, stepG.exec, hm, ht, hc]
theorem sg_cond_no {c : Operand} {x y : Code} (hm : fr.mode = .run) (ht : fr.todo = .code (.cond c x y) :: k) (hc : ∀ b, fr.eval c ≠ .bool b) : ∃ o, stepG P main (G fr cs) w = .ended o w #[] := by
  refine ⟨.stuck "cond: bool expected" (fr.pos P), ?_⟩
  simp only [G, stepG, stepG.exec, hm, ht]
theorem sg_exit {id : Nat} {k' : List Item} (hm : fr.mode = .run) (ht : fr.todo = .code (.exit id) :: k) (hc : exitTo id k = some k') : stepG P main (G fr cs) w = .go (G { fr with todo := k' } cs) w #[] := by
  simp [G, stepG, stepG.exec, hm, ht, hc]
theorem sg_exit_no {id : Nat} (hm : fr.mode = .run) (ht : fr.todo = .code (.exit id) :: k) (hr : fr.roundOf = none) (hc : exitTo id k = none) : ∃ o, stepG P main (G fr cs) w = .ended o w #[] :=
  ⟨.stuck "exit, goto: no such block or label" (fr.pos P), by simp [G, stepG, stepG.exec, hm, ht, hc, hr]⟩
theorem sg_goto {l : Nat} {k' : List Item} (hm : fr.mode = .run) (ht : fr.todo = .code (.goto l) :: k) (hc : gotoIn l k = some k') : stepG P main (G fr cs) w = .go (G { fr with todo := k' } cs) w #[] := by
  simp [G, stepG, stepG.exec, hm, ht, hc]
theorem sg_goto_no {l : Nat} (hm : fr.mode = .run) (ht : fr.todo = .code (.goto l) :: k) (hr : fr.roundOf = none) (hc : gotoIn l k = none) : ∃ o, stepG P main (G fr cs) w = .ended o w #[] :=
  ⟨.stuck "exit, goto: no such block or label" (fr.pos P), by simp [G, stepG, stepG.exec, hm, ht, hc, hr]⟩
theorem sg_draw {id : Nat} {ops : Array Oper} (hm : fr.mode = .run) (ht : fr.todo = .code (.region id ops true) :: k) :
    stepG P main (G fr cs) w = .go (G { fr with todo := .inRegion ops (Region.schedule (P.follows .mixedOrders) ops (w.tape w.drawn (.order fr.fn id))) :: k } cs) { w with drawn := w.drawn + 1 } #[] := by
  simp [G, stepG, stepG.exec, hm, ht, choose, Sem.run, Question.forced, Question.cut]
theorem sg_leave {c : Frame} {fn : Func} {u : Value} (hm : fr.mode = .returning) (hd : fr.defers = []) (hk : fr.kind = .normal) (hf : P.funcs[fr.fn]? = some fn) (hr : (results fn fr.tmps).runT P w #[] = (.ok u w', es)) :
    stepG P main (G fr (c :: cs)) w = .go (G (c.finish u) cs) w' (seen P fr.fn es) := by
  simp only [G, stepG, unwind, doReturn, hm, hd, hk, hf, hr, GStep.after, Array.append_empty]
theorem sg_leave_dead {c : Frame} {fn : Func} {h : Halt} (hm : fr.mode = .returning) (hd : fr.defers = []) (hf : P.funcs[fr.fn]? = some fn) (hr : (results fn fr.tmps).runT P w #[] = (.halt h w', es)) :
    ∃ o w1 es1, stepG P main (G fr (c :: cs)) w = .ended o w1 es1 := by
  cases h <;> exact ⟨_, _, _, by simp only [G, stepG, unwind, hm, hd, hf, hr, GStep.after]; rfl⟩
end steps
theorem exitTo_app (id : Nat) : ∀ (its k : List Item), exitTo id (its ++ k) = match exitTo id its with | some r => some (r ++ k) | none => exitTo id k
  | [], k => rfl
  | it :: its, k => by
    have ih := exitTo_app id its k
    cases it <;> first
      | exact ih
      | skip
    rename_i id'
    simp only [List.cons_append, exitTo]
    split
    · rfl
    · exact ih
theorem gotoIn_app (l : Nat) : ∀ (its k : List Item), gotoIn l (its ++ k) = match gotoIn l its with | some r => some (r ++ k) | none => gotoIn l k
  | [], k => rfl
  | it :: its, k => by
    have ih := gotoIn_app l its k
    cases it <;> first
      | exact ih
      | skip
    rename_i body
    simp only [List.cons_append, gotoIn]
    cases findLabel body l with
    | some r => rfl
    | none => exact ih
theorem exitTo_ok {P : Program} {Fs : Fns} (id : Nat) : ∀ (its r : List Item), exitTo id its = some r → (∀ it ∈ its, itemOk P Fs it = true) → ∀ it ∈ r, itemOk P Fs it = true
  | [], r, h, _ => by cases h
  | it :: its, r, h, ho => by
    have ih := exitTo_ok (P := P) (Fs := Fs) id its r
    have ho' : ∀ x ∈ its, itemOk P Fs x = true := fun x hx => ho x (List.mem_cons_of_mem _ hx)
    cases it <;> first
      | exact ih h ho'
      | skip
    rename_i id'
    simp only [exitTo] at h
    split at h
    · injection h with h; subst h; exact ho'
    · exact ih h ho'
theorem findLabel_ok {P : Program} {Fs : Fns} (l : Nat) : ∀ (c r : Code), findLabel c l = some r → codeOk P Fs c = true → codeOk P Fs r = true
  | .seq a b, r, h, hc => by
    simp only [codeOk, Bool.and_eq_true] at hc
    simp only [findLabel] at h
    cases ha : findLabel a l with
    | some x =>
      rw [ha] at h
      injection h with h
      subst h
      simp only [codeOk, Bool.and_eq_true]
      exact ⟨findLabel_ok l a x ha hc.1, hc.2⟩
    | none => rw [ha] at h; exact findLabel_ok l b r h hc.2
  | .label l', r, h, _ => by
    simp only [findLabel] at h
    split at h
    · injection h with h; subst h; rfl
    · cases h
  | .skip, r, h, _ | .region _ _ _, r, h, _ | .cond _ _ _, r, h, _ | .block _ _, r, h, _ | .loop _, r, h, _ | .rangeFunc _ _ _ _, r, h, _ | .exit _, r, h, _ | .scope _, r, h, _ | .goto _, r, h, _ | .ret, r, h, _ | .refuse _, r, h, _ => by cases h
theorem gotoIn_ok {P : Program} {Fs : Fns} (l : Nat) : ∀ (its r : List Item), gotoIn l its = some r → (∀ it ∈ its, itemOk P Fs it = true) → ∀ it ∈ r, itemOk P Fs it = true
  | [], r, h, _ => by cases h
  | it :: its, r, h, ho => by
    have ih := gotoIn_ok (P := P) (Fs := Fs) l its r
    have ho' : ∀ x ∈ its, itemOk P Fs x = true := fun x hx => ho x (List.mem_cons_of_mem _ hx)
    cases it <;> first
      | exact ih h ho'
      | skip
    rename_i body
    simp only [gotoIn] at h
    have hb : codeOk P Fs body = true := ho (.inScope body) List.mem_cons_self
    cases hl : findLabel body l with
    | some x =>
      rw [hl] at h
      injection h with h
      subst h
      intro it hit
      simp only [List.mem_cons] at hit
      rcases hit with e | e | e
      · rw [e]; exact findLabel_ok l body x hl hb
      · rw [e]; exact hb
      · exact ho' it e
    | none => rw [hl] at h; exact ih h ho'
theorem ctl_app {it : Item} {its k k' : List Item} (h : ctl it its = some k') : ctl it (its ++ k) = some (k' ++ k) := by
  unfold ctl at h ⊢
  split at h <;> first
    | (injection h with h; subst h; rfl)
    | cases h
theorem ctl_ok {P : Program} {Fs : Fns} {it : Item} {its k' : List Item} (h : ctl it its = some k') (h1 : itemOk P Fs it = true) (h2 : ∀ x ∈ its, itemOk P Fs x = true) : ∀ x ∈ k', itemOk P Fs x = true := by
  intro x hx
  unfold ctl at h
  split at h <;> first
    | cases h; done
    | skip
  all_goals
    injection h with h
    subst h
    simp only [itemOk, codeOk, Bool.and_eq_true] at h1
    first
      | exact h2 x hx
      | (simp only [List.mem_cons] at hx; rcases hx with e | e <;> first | (rw [e]; exact opsOk_all h1 _) | exact h2 x e)
      | (simp only [List.mem_cons] at hx; rcases hx with e | e | e <;> first | (rw [e]; exact h1.1) | (rw [e]; exact h1.2) | (rw [e]; exact h1) | (rw [e]; rfl) | exact h2 x e)
      | (simp only [List.mem_cons] at hx; rcases hx with e | e <;> first | (rw [e]; exact h1) | exact h2 x e)
end Go.Proofs.Ytmmolicodlmlkaa.Rel
