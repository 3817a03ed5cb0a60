/-
  Parts of the proof: A goroutine's walk does not hang on the numbers of blocks: comparisons. A goroutine's walk does not hang on the numbers of blocks: binary operations. A goroutine's walk does not hang on the numbers of blocks: binary operations. A goroutine's walk does not hang on the numbers of blocks: binary operations at the plain types. A goroutine's walk does not hang on the numbers of blocks: slices of slices, structs that are built, calls. A goroutine's walk does not hang on the numbers of blocks: whatever operation the check allows. A goroutine's walk does not hang on the numbers of blocks: frames, and  No condition.
-/
import Derived.Test.YtmmolicodlmlkaaZA
import Derived.Laws.Sem
import Derived.Conc.Own
set_option linter.unusedVariables false
set_option linter.unusedSimpArgs false
namespace Go.Proofs.Ytmmolicodlmlkaa.Rel
set_option linter.unusedVariables false
variable {X : Cx} {B : Nat}

/-- The renaming leaves the package-level variables' blocks as they are, and no other becomes one of them. -/
def Fix (X : Cx) : Prop := (∀ b, b < X.P.globals.size → X.ρ.f b = b) ∧ ∀ b, ¬ b < X.P.globals.size → ¬ X.ρ.f b < X.P.globals.size
theorem Fix.lt (h : Fix X) (b : Nat) : X.ρ.f b < X.P.globals.size ↔ b < X.P.globals.size := by
  constructor
  · intro h1
    apply Classical.byContradiction
    intro h2
    exact h.2 b h2 h1
  · intro h1; rw [h.1 b h1]; exact h1
theorem sr_boolQ {b : Bool} : SR X RQ B (pure b) (pure b) := SR.pure (R := RQ) rfl
theorem sr_equalSlice {t e : TypeId} {n : Nat} {x x' y y' : Value} (ht : X.P.underlying t = some (.slice e)) (hx : RV X B x x') (hy : RV X B y y') : SR X RQ B (Op.equalIn (n + 1) t x y) (Op.equalIn (n + 1) t x' y') := by
  obtain ⟨rfl, hx⟩ := hx
  obtain ⟨rfl, hy⟩ := hy
  clear hx hy
  unfold Op.equalIn
  refine under_bind ht ?_
  cases x
  case slice a l c =>
    rw [ren_slice]
    cases y
    case slice b m d =>
      rw [ren_slice]
      cases a <;> cases b <;> first | exact sr_boolQ | exact sr_stuck
    all_goals cases a <;> exact sr_stuck
  all_goals exact sr_stuck
theorem sr_equalBool {t : TypeId} {n : Nat} {x x' y y' : Value} (ht : X.P.underlying t = some .bool) (hx : RV X B x x') (hy : RV X B y y') : SR X RQ B (Op.equalIn (n + 1) t x y) (Op.equalIn (n + 1) t x' y') := by
  obtain ⟨rfl, hx⟩ := hx
  obtain ⟨rfl, hy⟩ := hy
  clear hx hy
  unfold Op.equalIn
  refine under_bind ht ?_
  cases x
  case bool a =>
    rw [ren_bool]
    cases y
    case bool b => rw [ren_bool]; exact sr_boolQ
    all_goals exact sr_stuck
  all_goals exact sr_stuck
theorem sr_noView {a a' : Addr} (h : RA X B a a') : SR X RQ B (noView a) (noView a') := by
  obtain ⟨rfl, h⟩ := h
  refine (sr_viewAt h).bind X ?_
  rintro B1 _ _ hB ⟨rfl, rfl⟩
  exact SR.pure (R := RQ) rfl
theorem sr_byteOf {a a' : Addr} (h : RA X B a a') : SR X RQ B (byteOf a) (byteOf a') := by
  have hs : a'.spot = a.spot := by rw [h.1]; rfl
  have hb : a'.block = X.ρ.f a.block := by rw [h.1]; rfl
  have ho : a'.off = a.off := by rw [h.1]; rfl
  unfold byteOf
  rw [hs]
  cases a.spot with
  | some s => exact SR.pure (R := RQ) rfl
  | none =>
    refine .program ?_
    refine (sr_noView h).bind X ?_
    intro B1 _ _ hB _
    rw [hb, ho]
    refine .shape (inB_mono hB h.2) (fun x => ?_) (fun e m => ?_)
    · cases x with
      | none => exact sr_stuck
      | some x =>
        dsimp only [Sem.bind]
        split
        · exact SR.pure (R := RQ) rfl
        · split
          · exact SR.pure (R := RQ) rfl
          · exact sr_stuck
    · dsimp only [Sem.bind]
      split
      · exact SR.pure (R := RQ) rfl
      · split
        · exact SR.pure (R := RQ) rfl
        · exact sr_stuck
theorem renA_beq (ρ : Rn) (a b : Addr) : (renA ρ a == renA ρ b) = (a == b) := by
  rw [Bool.eq_iff_iff, beq_iff_eq, beq_iff_eq]
  constructor
  · intro h
    obtain ⟨x1, x2, x3⟩ := a
    obtain ⟨y1, y2, y3⟩ := b
    unfold renA at h
    injection h with h1 h2 h3
    have h4 := ρ.inj _ _ h1
    simp only at h2 h3 h4
    rw [h2, h3, h4]
  · intro h; rw [h]
theorem block_beq (ρ : Rn) (a b : Addr) : ((renA ρ a).block == (renA ρ b).block) = (a.block == b.block) := by
  rw [Bool.eq_iff_iff, beq_iff_eq, beq_iff_eq]
  exact ⟨fun h => ρ.inj _ _ h, fun h => by show ρ.f a.block = ρ.f b.block; rw [h]⟩
theorem sr_equalPtrInt (hF : Fix X) {t : TypeId} {a a' b b' : Addr} (ha : RA X B a a') (hb : RA X B b b') :
    SR X RQ B (do
      let (a, b) := ((← behindNumber a).1, (← behindNumber b).1)
      if a.block == b.block && a.block < (← program).globals.size then return (← byteOf a) == (← byteOf b)
      let .named "sync.copyChecker" _ := (← typeInfo t).desc | unsupported .addressObserved
      if a == b then pure true else unsupported .addressObserved)
     (do
      let (a, b) := ((← behindNumber a').1, (← behindNumber b').1)
      if a.block == b.block && a.block < (← program).globals.size then return (← byteOf a) == (← byteOf b)
      let .named "sync.copyChecker" _ := (← typeInfo t).desc | unsupported .addressObserved
      if a == b then pure true else unsupported .addressObserved) := by
  refine (sr_behind ha).bind X ?_
  rintro B1 ⟨p, l⟩ ⟨p', l'⟩ hB ⟨hp, _⟩
  refine (sr_behind (hb.mono hB)).bind X ?_
  rintro B2 ⟨q, m⟩ ⟨q', m'⟩ hB2 ⟨hq, _⟩
  have hp2 : RA X B2 p p' := hp.mono hB2
  have hq : RA X B2 q q' := hq
  refine .program ?_
  simp only [Sem.bind]
  have e1 : (p'.block == q'.block && decide (p'.block < X.P.globals.size)) = (p.block == q.block && decide (p.block < X.P.globals.size)) := by
    rw [hp2.1, hq.1, block_beq]
    congr 1
    exact decide_eq_decide.2 (hF.lt p.block)
  have e2 : (p' == q') = (p == q) := by rw [hp2.1, hq.1, renA_beq]
  simp only [e1, e2]
  split
  · refine (sr_byteOf hp2).bind X ?_
    intro B3 u u' hB3 e
    obtain rfl : u = u' := e
    refine (sr_byteOf (hq.mono hB3)).bind X ?_
    intro B4 w w' hB4 e
    obtain rfl : w = w' := e
    exact sr_boolQ
  · refine sr_typeInfo.bind X ?_
    intro B3 i i' hB3 e
    obtain rfl : i = i' := e
    split
    · split
      · exact sr_boolQ
      · exact sr_unsup
    · exact sr_unsup
theorem sr_equalInt (hF : Fix X) {t : TypeId} {k : IntKind} {n : Nat} {x x' y y' : Value} (ht : X.P.underlying t = some (.int k)) (hx : RV X B x x') (hy : RV X B y y') : SR X RQ B (Op.equalIn (n + 1) t x y) (Op.equalIn (n + 1) t x' y') := by
  obtain ⟨rfl, hx⟩ := hx
  obtain ⟨rfl, hy⟩ := hy
  unfold Op.equalIn
  refine under_bind ht ?_
  cases x
  case int k1 a =>
    clear hx
    rw [ren_int]
    cases y
    case int k2 b =>
      clear hy
      rw [ren_int]
      simp only []
      split
      · exact sr_boolQ
      · exact sr_stuck
    case pointer b =>
      clear hy
      rw [ren_pointer]
      cases b with
      | none => exact sr_unsup
      | some b =>
        match a with
        | .ofNat 0 => exact sr_boolQ
        | .ofNat (m + 1) => exact sr_unsup
        | .negSucc m => exact sr_unsup
    all_goals exact sr_stuck
  case pointer a =>
    rw [ren_pointer]
    cases y
    case pointer b =>
      rw [ren_pointer]
      cases a with
      | none => cases b <;> exact sr_unsup
      | some a =>
        cases b with
        | none => exact sr_unsup
        | some b => exact sr_equalPtrInt hF (t := t) ⟨rfl, by simpa using hx⟩ ⟨rfl, by simpa using hy⟩
    case int k2 b =>
      rw [ren_int]
      cases a with
      | none => exact sr_unsup
      | some a =>
        match b with
        | .ofNat 0 => exact sr_boolQ
        | .ofNat (m + 1) => exact sr_unsup
        | .negSucc m => exact sr_unsup
    all_goals cases a <;> exact sr_unsup
  all_goals
    clear hx
    cases y
    case pointer b => exact sr_unsup
    all_goals exact sr_stuck
end Go.Proofs.Ytmmolicodlmlkaa.Rel
namespace Go.Proofs.Ytmmolicodlmlkaa.Rel
set_option linter.unusedVariables false
variable {X : Cx} {B : Nat}

theorem sr_twoPlaces (hF : Fix X) {a a' b b' : Addr} (ha : RA X B a a') (hb : RA X B b b') : SR X RQ B (Op.twoPlaces a b) (Op.twoPlaces a' b') := by
  unfold Op.twoPlaces
  have e1 : (a'.block != b'.block) = (a.block != b.block) := by
    rw [ha.1, hb.1, bne, bne, block_beq]
  by_cases h1 : (a.block != b.block) = true
  · simp only [e1, h1, Bool.true_or, if_true]
    exact .program sr_unsup
  · refine .program ?_
    have e2 : decide (a'.block ≥ X.P.globals.size) = decide (a.block ≥ X.P.globals.size) := by
      apply decide_eq_decide.2
      have h := hF.lt a.block
      have e : a'.block = X.ρ.f a.block := by rw [ha.1]; rfl
      rw [e]
      omega
    simp only [e1, e2, Sem.bind]
    split
    · exact sr_unsup
    · refine (sr_byteOf ha).bind X ?_
      intro B1 u u' hB e
      obtain rfl : u = u' := e
      refine (sr_byteOf (hb.mono hB)).bind X ?_
      intro B2 w w' hB2 e
      obtain rfl : w = w' := e
      exact SR.pure (R := RQ) rfl
/-- It looks at nothing: it only asks the tape. -/
inductive Calm {α : Type} (Q : α → Prop) : Sem α → Prop
  | pure {a : α} : Q a → Calm Q (.pure a)
  | halt {h : Halt} : deadH h → Calm Q (.halt h)
  | choose {q : Question} {k : Nat → Sem α} : (∀ n, Calm Q (k n)) → Calm Q (.choose q k)
theorem Calm.bind {α β : Type} {Q : α → Prop} {Q' : β → Prop} {s : Sem α} {f : α → Sem β} (h : Calm Q s) (hf : ∀ a, Q a → Calm Q' (f a)) : Calm Q' (s >>= f) := by
  show Calm Q' (s.bind f)
  induction h with
  | pure h => exact hf _ h
  | halt h => exact .halt h
  | choose _ ih => exact .choose ih
theorem Calm.sr {s : Sem Value} (h : Calm (fun v => noAddr v = true) s) : SR X (RV X) B s s := by
  induction h with
  | pure h =>
    obtain ⟨h1, h2⟩ := noAddr_ok X.ρ X.Fs B _ h
    exact .pure ⟨h1.symm, h2⟩
  | halt h => exact .dead (.halt h)
  | choose _ ih => exact .choose ih
theorem noAddr_float (k : FloatKind) (n : Nat) : noAddr (.float k n) = true := by rw [noAddr] <;> simp
theorem noAddr_bool (b : Bool) : noAddr (.bool b) = true := by rw [noAddr] <;> simp
theorem calm_floatArith {op : BinOp} {k : FloatKind} {x y : Nat} : Calm (fun v => noAddr v = true) (Op.floatArith op k x y) := by
  have tail : ∀ r : Option Nat, Calm (fun v => noAddr v = true) (match r with | some r => pure (.float k r) | none => do pure (.float k (← choose (.nanBits k x y))) : Sem Value) := by
    intro r
    cases r with
    | some r => exact .pure (noAddr_float _ _)
    | none => exact .choose fun n => .pure (noAddr_float _ _)
  cases op <;> first | exact tail _ | exact .halt trivial
theorem calm_floatCmp {op : BinOp} {k : FloatKind} {x y : Nat} : Calm (fun v => noAddr v = true) (Op.floatCmp op k x y) := by
  cases op <;> first | exact .pure (noAddr_bool _) | exact .halt trivial
theorem sr_addrSub (hF : Fix X) {k : IntKind} {a a' b b' : Addr} (ha : RA X B a a') (hb : RA X B b b') : SR X (RV X) B (Op.addrSub k a b) (Op.addrSub k a' b') := by
  refine (sr_twoPlaces hF ha hb).bind X ?_
  intro B1 p q hB e
  obtain rfl : p = q := e
  exact sr_int
theorem sr_addrCmp (hF : Fix X) {op : BinOp} {a a' b b' : Addr} (ha : RA X B a a') (hb : RA X B b b') : SR X (RV X) B (Op.addrCmp op a b) (Op.addrCmp op a' b') := by
  refine (sr_twoPlaces hF ha hb).bind X ?_
  intro B1 p q hB e
  obtain rfl : p = q := e
  cases op <;> first | exact sr_bool | exact sr_unsup
theorem sr_addrMod {k : IntKind} {n : Int} {a a' : Addr} (ha : RA X B a a') : SR X (RV X) B (Op.addrMod k a n) (Op.addrMod k a' n) := by
  have hb : a'.block = X.ρ.f a.block := by rw [ha.1]; rfl
  unfold Op.addrMod
  rw [hb]
  have tail : ∀ e : TypeId, SR X (RV X) B
      (do let i ← typeInfo e; if (decide (n < 1) || decide (n.toNat > i.align) || i.align % n.toNat != 0) = true then (do unsupported .addressObserved; pure (.int k (((← byteOf a) % n.toNat : Nat) : Int))) else pure (.int k (((← byteOf a) % n.toNat : Nat) : Int)))
      (do let i ← typeInfo e; if (decide (n < 1) || decide (n.toNat > i.align) || i.align % n.toNat != 0) = true then (do unsupported .addressObserved; pure (.int k (((← byteOf a') % n.toNat : Nat) : Int))) else pure (.int k (((← byteOf a') % n.toNat : Nat) : Int))) := by
    intro e
    refine sr_typeInfo.bind X ?_
    intro B1 i i' hB e
    obtain rfl : i = i' := e
    split
    · exact .dead (.halt trivial)
    · refine (sr_byteOf (ha.mono hB)).bind X ?_
      intro B2 u u' hB2 e
      obtain rfl : u = u' := e
      exact sr_int
  refine .shape ha.2 (fun x => ?_) (fun e m => tail e)
  cases x with
  | none => exact sr_unsup
  | some x => exact tail x.1
end Go.Proofs.Ytmmolicodlmlkaa.Rel
namespace Go.Proofs.Ytmmolicodlmlkaa.Rel
set_option linter.unusedVariables false
variable {X : Cx} {B : Nat}

theorem sr_binInt {op : BinOp} {t : TypeId} {k k' : IntKind} {a b : Int} : SR X (RV X) B (binOp op t (.int k a) (.int k' b)) (binOp op t (.int k a) (.int k' b)) := by
  by_cases h : op = .shl ∨ op = .shr
  · rcases h with rfl | rfl
    · exact sr_shift (op := .shl) (k := k) (k' := k') (x := a) (y := b)
    · exact sr_shift (op := .shr) (k := k) (k' := k') (x := a) (y := b)
  · have e : binOp op t (.int k a) (.int k' b) = if k ≠ k' then stuck "BinOp: operands of different kinds" else
        match op with
        | .add | .sub | .mul => Op.intArith op k a b
        | .quo | .rem => Op.intDiv op k a b
        | .and | .or | .xor | .andNot => Op.intBits op k a b
        | _ => Op.intCmp op a b := by
      cases op <;> first | rfl | exact absurd (by simp) h
    rw [e]
    split
    · exact sr_stuck
    · cases op <;> first | exact sr_intArith | exact sr_intDiv | exact sr_intBits | exact sr_intCmp
theorem sr_binFloat {op : BinOp} {t : TypeId} {k k' : FloatKind} {a b : Nat} : SR X (RV X) B (binOp op t (.float k a) (.float k' b)) (binOp op t (.float k a) (.float k' b)) := by
  have e : binOp op t (.float k a) (.float k' b) = if k ≠ k' then stuck "BinOp: operands of different kinds" else
      match op with
      | .add | .sub | .mul | .quo => Op.floatArith op k a b
      | _ => Op.floatCmp op k a b := by
    cases op <;> rfl
  rw [e]
  split
  · exact sr_stuck
  · cases op <;> first | exact calm_floatArith.sr | exact calm_floatCmp.sr
theorem sr_binString {op : BinOp} {t : TypeId} {a b : ByteArray} : SR X (RV X) B (binOp op t (.string a) (.string b)) (binOp op t (.string a) (.string b)) := by
  have e : binOp op t (.string a) (.string b) = Op.stringOp op a b := by cases op <;> rfl
  rw [e]
  exact sr_stringOp
end Go.Proofs.Ytmmolicodlmlkaa.Rel
namespace Go.Proofs.Ytmmolicodlmlkaa.Rel
set_option linter.unusedVariables false
variable {X : Cx} {B : Nat}

theorem sr_equalString {t : TypeId} {n : Nat} {x x' y y' : Value} (ht : X.P.underlying t = some .string) (hx : RV X B x x') (hy : RV X B y y') : SR X RQ B (Op.equalIn (n + 1) t x y) (Op.equalIn (n + 1) t x' y') := by
  obtain ⟨rfl, hx⟩ := hx
  obtain ⟨rfl, hy⟩ := hy
  clear hx hy
  unfold Op.equalIn
  refine under_bind ht ?_
  cases x
  case string a =>
    rw [ren_string]
    cases y
    case string b => rw [ren_string]; exact sr_boolQ
    all_goals exact sr_stuck
  all_goals exact sr_stuck
theorem sr_equalFloat {t : TypeId} {k : FloatKind} {n : Nat} {x x' y y' : Value} (ht : X.P.underlying t = some (.float k)) (hx : RV X B x x') (hy : RV X B y y') : SR X RQ B (Op.equalIn (n + 1) t x y) (Op.equalIn (n + 1) t x' y') := by
  obtain ⟨rfl, hx⟩ := hx
  obtain ⟨rfl, hy⟩ := hy
  clear hx hy
  unfold Op.equalIn
  refine under_bind ht ?_
  cases x
  case float k1 a =>
    rw [ren_float]
    cases y
    case float k2 b =>
      rw [ren_float]
      simp only []
      split
      · exact sr_boolQ
      · exact sr_stuck
    all_goals exact sr_stuck
  all_goals exact sr_stuck
theorem sr_equal (hF : Fix X) {t : TypeId} {d : TypeDesc} {x x' y y' : Value} (ht : X.P.underlying t = some d) (hd : plainD d = true) (hx : RV X B x x') (hy : RV X B y y') : SR X RQ B (Op.equal t x y) (Op.equal t x' y') := by
  show SR X RQ B (Op.equalIn (9999 + 1) t x y) (Op.equalIn (9999 + 1) t x' y')
  cases d <;> first
    | exact sr_equalInt hF ht hx hy
    | exact sr_equalBool ht hx hy
    | exact sr_equalString ht hx hy
    | exact sr_equalFloat ht hx hy
    | exact sr_equalSlice ht hx hy
    | exact absurd hd (by simp [plainD])
def pk : Value → Nat
  | .int _ _ => 0
  | .float _ _ => 1
  | .complex _ _ _ => 2
  | .string _ => 3
  | .pointer _ => 4
  | _ => 5
/-- No function but the program's own. -/
def noJunk : Value → Prop
  | .func (.func _) _ _ => True
  | .func _ _ _ => False
  | _ => True
theorem pk_ren (ρ : Rn) {v : Value} (h : noJunk v) : pk (ren ρ v) = pk v := by
  cases v
  case func fn a b => cases fn <;> first | exact h.elim | simp [pk]
  all_goals simp [pk]
/-- The lone goroutine alone looks at a type. -/
theorem left_under {α β : Type} {R : Nat → α → β → Prop} {t : TypeId} {d : TypeDesc} (ht : X.P.underlying t = some d) {f : TypeDesc → Sem α} {s' : Sem β} (h : SR X R B (f d) s') : SR X R B (underlying t >>= f) s' := by
  have e : (underlying t >>= f) = .program fun p => (match p.underlying t with | some d => pure d | none => stuck "no such type") >>= f := rfl
  rw [e]
  refine .programL ?_
  rw [ht]
  exact h
theorem left_under2 {α β γ : Type} {R : Nat → α → β → Prop} {t : TypeId} {d : TypeDesc} (ht : X.P.underlying t = some d) {f : TypeDesc → Sem γ} {g : γ → Sem α} {s' : Sem β} (h : SR X R B (f d >>= g) s') : SR X R B ((underlying t >>= f) >>= g) s' := by
  have e : ((underlying t >>= f) >>= g) = .program fun p => ((match p.underlying t with | some d => pure d | none => stuck "no such type") >>= f) >>= g := rfl
  rw [e]
  refine .programL ?_
  rw [ht]
  exact h
theorem junk_fn {x : Value} (h : ¬ noJunk x) : ∃ fn a b, x = .func fn a b ∧ ∀ f, fn ≠ .func f := by
  cases x
  case func fn a b => exact ⟨fn, a, b, rfl, by cases fn <;> first | exact absurd trivial h | (intro f h; cases h)⟩
  all_goals exact absurd trivial h
/-- What is hidden is compared with nothing. -/
theorem sr_equalJ {α β : Type} {R : Nat → α → β → Prop} {t : TypeId} {d : TypeDesc} {n : Nat} {x y : Value} {g : Bool → Sem α} {s' : Sem β} (ht : X.P.underlying t = some d) (hd : plainD d = true) (h : ¬ noJunk x ∨ ¬ noJunk y) : SR X R B (Op.equalIn (n + 1) t x y >>= g) s' := by
  unfold Op.equalIn
  refine left_under2 ht ?_
  rcases h with h | h
  · obtain ⟨fn, a, b, rfl, _⟩ := junk_fn h
    cases d <;> first
      | (simp [plainD] at hd; done)
      | skip
    all_goals cases y <;> (refine .dead (.halt ?_); trivial)
  · obtain ⟨fn, a, b, rfl, _⟩ := junk_fn h
    cases d <;> first
      | (simp [plainD] at hd; done)
      | skip
    all_goals
      cases x
      case slice a l c => cases a <;> (refine .dead (.halt ?_); trivial)
      case pointer a => cases a <;> (refine .dead (.halt ?_); trivial)
      all_goals (refine .dead (.halt ?_); trivial)
theorem pk_junk {x : Value} (h : ¬ noJunk x) : pk x = 5 := by
  obtain ⟨fn, a, b, rfl, _⟩ := junk_fn h
  rfl
/-- Operands that no arithmetic takes. -/
theorem bin_rest {op : BinOp} {t : TypeId} {x y : Value} (h1 : pk x ≠ 4) (h2 : pk y ≠ 4) (h3 : pk x = pk y → pk x = 5) :
    binOp op t x y = match op with
      | .eql => do pure (.bool (← Op.equal t x y))
      | .neq => do pure (.bool (!(← Op.equal t x y)))
      | _ => stuck "BinOp: no such operator on these operands" := by
  cases x <;> cases y <;> first
    | exact absurd rfl h1
    | exact absurd rfl h2
    | (simp [pk] at h3; done)
    | (cases op <;> rfl)
theorem sr_eqs (hF : Fix X) {t : TypeId} {d : TypeDesc} {x x' y y' : Value} (ht : X.P.underlying t = some d) (hd : plainD d = true) (hx : RV X B x x') (hy : RV X B y y') (n : Bool → Bool) : SR X (RV X) B (do pure (.bool (n (← Op.equal t x y)))) (do pure (.bool (n (← Op.equal t x' y')))) :=
  (sr_equal hF ht hd hx hy).bind X fun B1 a b _ e => by
    obtain rfl : a = b := e
    exact sr_bool
theorem sr_movedPtr (hF : Fix X) {t : TypeId} {d : TypeDesc} {k : IntKind} {n : Int} {p : Option Addr} (ht : X.P.underlying t = some d) (hd : plainD d = true) (hp : okJ X.Fs B (.pointer p) = true) : SR X (RV X) B (movedNumber t (.pointer p) (.int k n)) (movedNumber t (ren X.ρ (.pointer p)) (.int k n)) :=
  sr_movedNumber ht hd ⟨rfl, hp⟩ ⟨(ren_int _ _ _).symm, by simp⟩
theorem sr_behindA {p : Addr} (h : okJ X.Fs B (.pointer (some p)) = true) : SR X (fun B a b => RA X B a b) B (do pure (← behindNumber p).1) (do pure (← behindNumber (renA X.ρ p)).1) :=
  (sr_behind (⟨rfl, by simpa using h⟩ : RA X B p (renA X.ρ p))).bind X fun B1 a b _ h => .pure h.1
theorem binAdd_eq (t : TypeId) (k : IntKind) (n : Int) : ∃ f : Option Addr → TypeDesc → Sem Value, (∀ p, binOp .add t (.pointer p) (.int k n) = (underlying t >>= f p)) ∧ ∀ d p, plainD d = true → f p d = movedNumber t (.pointer p) (.int k n) :=
  ⟨_, fun _ => rfl, fun d p hd => by cases d <;> first | rfl | exact absurd hd (by simp [plainD])⟩
theorem sr_binPtrInt (hF : Fix X) {op : BinOp} {t : TypeId} {d : TypeDesc} {k : IntKind} {n : Int} {p : Option Addr} (ht : X.P.underlying t = some d) (hd : plainD d = true) (hp : okJ X.Fs B (.pointer p) = true) :
    SR X (RV X) B (binOp op t (.pointer p) (.int k n)) (binOp op t (.pointer (p.map (renA X.ρ))) (.int k n)) := by
  have hv : RV X B (.pointer p) (.pointer (p.map (renA X.ρ))) := ⟨(ren_pointer _ _).symm, hp⟩
  have hi : ∀ m : Int, RV X B (.int k m) (.int k m) := fun m => ⟨(ren_int _ _ _).symm, by simp⟩
  have he : ∀ m : Int, SR X (RV X) B (movedNumber t (.pointer p) (.int k m)) (movedNumber t (.pointer (p.map (renA X.ρ))) (.int k m)) := fun m => sr_movedNumber ht hd hv (hi m)
  have ha : ∀ {a : Addr}, p = some a → RA X B a (renA X.ρ a) := fun {a} h => ⟨rfl, by subst h; simpa using hp⟩
  cases op
  case eql => exact sr_eqs hF ht hd hv (hi n) id
  case neq => exact sr_eqs hF ht hd hv (hi n) (!·)
  case add =>
    obtain ⟨f, hf, hg⟩ := binAdd_eq t k n
    rw [hf, hf]
    refine under_bind ht ?_
    rw [hg d _ hd, hg d _ hd]
    exact he n
  case sub => exact he (-n)
  case rem =>
    cases p with
    | none => exact sr_unsup
    | some a =>
      refine (sr_behind (ha rfl)).bind X ?_
      rintro B1 ⟨b, l⟩ ⟨b', l'⟩ hB ⟨hb, _⟩
      exact sr_addrMod hb
  case and =>
    cases p with
    | none => exact sr_unsup
    | some a =>
      refine (sr_behind (ha rfl)).bind X ?_
      rintro B1 ⟨b, l⟩ ⟨b', l'⟩ hB ⟨hb, _⟩
      exact sr_addrMod hb
  all_goals cases p <;> exact sr_unsup
theorem sr_binIntPtr (hF : Fix X) {op : BinOp} {t : TypeId} {d : TypeDesc} {k : IntKind} {n : Int} {p : Option Addr} (ht : X.P.underlying t = some d) (hd : plainD d = true) (hp : okJ X.Fs B (.pointer p) = true) :
    SR X (RV X) B (binOp op t (.int k n) (.pointer p)) (binOp op t (.int k n) (.pointer (p.map (renA X.ρ)))) := by
  have hv : RV X B (.pointer p) (.pointer (p.map (renA X.ρ))) := ⟨(ren_pointer _ _).symm, hp⟩
  have hi : ∀ m : Int, RV X B (.int k m) (.int k m) := fun m => ⟨(ren_int _ _ _).symm, by simp⟩
  have ha : ∀ {a : Addr}, p = some a → RA X B a (renA X.ρ a) := fun {a} h => ⟨rfl, by subst h; simpa using hp⟩
  cases op
  case eql => exact sr_eqs hF ht hd (hi n) hv id
  case neq => exact sr_eqs hF ht hd (hi n) hv (!·)
  case add => exact sr_movedNumber ht hd hv (hi n)
  case and =>
    cases p with
    | none => exact sr_unsup
    | some a =>
      refine (sr_behind (ha rfl)).bind X ?_
      rintro B1 ⟨b, l⟩ ⟨b', l'⟩ hB ⟨hb, _⟩
      exact sr_addrMod hb
  all_goals cases p <;> exact sr_unsup
theorem sr_binPtrPtr (hF : Fix X) {op : BinOp} {t : TypeId} {d : TypeDesc} {p q : Option Addr} (ht : X.P.underlying t = some d) (hd : plainD d = true) (hp : okJ X.Fs B (.pointer p) = true) (hq : okJ X.Fs B (.pointer q) = true) :
    SR X (RV X) B (binOp op t (.pointer p) (.pointer q)) (binOp op t (.pointer (p.map (renA X.ρ))) (.pointer (q.map (renA X.ρ)))) := by
  have hv : RV X B (.pointer p) (.pointer (p.map (renA X.ρ))) := ⟨(ren_pointer _ _).symm, hp⟩
  have hw : RV X B (.pointer q) (.pointer (q.map (renA X.ρ))) := ⟨(ren_pointer _ _).symm, hq⟩
  have ha : ∀ {a : Addr}, p = some a → RA X B a (renA X.ρ a) := fun {a} h => ⟨rfl, by subst h; simpa using hp⟩
  have hb : ∀ {a : Addr}, q = some a → RA X B a (renA X.ρ a) := fun {a} h => ⟨rfl, by subst h; simpa using hq⟩
  have two : ∀ {f : Addr → Addr → Sem Value}, (∀ {B a a' b b'}, RA X B a a' → RA X B b b' → SR X (RV X) B (f a b) (f a' b')) → ∀ {a b : Addr}, RA X B a (renA X.ρ a) → RA X B b (renA X.ρ b) →
      SR X (RV X) B (do f (← behindNumber a).1 (← behindNumber b).1) (do f (← behindNumber (renA X.ρ a)).1 (← behindNumber (renA X.ρ b)).1) := by
    intro f hf a b h1 h2
    refine (sr_behind h1).bind X ?_
    rintro B1 ⟨u, l⟩ ⟨u', l'⟩ hB ⟨hu, _⟩
    refine (sr_behind (h2.mono hB)).bind X ?_
    rintro B2 ⟨w, m⟩ ⟨w', m'⟩ hB2 ⟨hw, _⟩
    have hu2 : RA X B2 u u' := RA.mono hB2 hu
    exact hf hu2 hw
  cases op
  case eql => exact sr_eqs hF ht hd hv hw id
  case neq => exact sr_eqs hF ht hd hv hw (!·)
  case sub =>
    cases p <;> cases q <;> first
      | exact sr_unsup
      | exact two (f := fun a b => Op.addrSub .u64 a b) (fun h1 h2 => sr_addrSub hF h1 h2) (ha rfl) (hb rfl)
  case lss =>
    cases p <;> cases q <;> first
      | exact sr_unsup
      | exact two (f := fun a b => Op.addrCmp .lss a b) (fun h1 h2 => sr_addrCmp hF h1 h2) (ha rfl) (hb rfl)
  case leq =>
    cases p <;> cases q <;> first
      | exact sr_unsup
      | exact two (f := fun a b => Op.addrCmp .leq a b) (fun h1 h2 => sr_addrCmp hF h1 h2) (ha rfl) (hb rfl)
  case gtr =>
    cases p <;> cases q <;> first
      | exact sr_unsup
      | exact two (f := fun a b => Op.addrCmp .gtr a b) (fun h1 h2 => sr_addrCmp hF h1 h2) (ha rfl) (hb rfl)
  case geq =>
    cases p <;> cases q <;> first
      | exact sr_unsup
      | exact two (f := fun a b => Op.addrCmp .geq a b) (fun h1 h2 => sr_addrCmp hF h1 h2) (ha rfl) (hb rfl)
  all_goals cases p <;> cases q <;> exact sr_unsup
/-- A pointer and something that is neither a pointer nor an int. -/
theorem bin_ptr1 {op : BinOp} {t : TypeId} {p : Option Addr} {y : Value} (h2 : pk y ≠ 4) (h3 : pk y ≠ 0) :
    binOp op t (.pointer p) y = match op with
      | .eql => do pure (.bool (← Op.equal t (.pointer p) y))
      | .neq => do pure (.bool (!(← Op.equal t (.pointer p) y)))
      | _ => unsupported .addressObserved := by
  cases p <;> cases y <;> first
    | exact absurd rfl h2
    | exact absurd rfl h3
    | (cases op <;> rfl)
theorem bin_ptr2 {op : BinOp} {t : TypeId} {p : Option Addr} {y : Value} (h2 : pk y ≠ 4) (h3 : pk y ≠ 0) :
    binOp op t y (.pointer p) = match op with
      | .eql => do pure (.bool (← Op.equal t y (.pointer p)))
      | .neq => do pure (.bool (!(← Op.equal t y (.pointer p))))
      | _ => unsupported .addressObserved := by
  cases p <;> cases y <;> first
    | exact absurd rfl h2
    | exact absurd rfl h3
    | (cases op <;> rfl)
theorem pk4 {v : Value} (h : pk v = 4) : ∃ p, v = .pointer p := by cases v <;> first | exact ⟨_, rfl⟩ | exact absurd h (by simp [pk])
theorem pk0 {v : Value} (h : pk v = 0) : ∃ k n, v = .int k n := by cases v <;> first | exact ⟨_, _, rfl⟩ | exact absurd h (by simp [pk])
theorem pk1 {v : Value} (h : pk v = 1) : ∃ k n, v = .float k n := by cases v <;> first | exact ⟨_, _, rfl⟩ | exact absurd h (by simp [pk])
theorem pk2 {v : Value} (h : pk v = 2) : ∃ k n m, v = .complex k n m := by cases v <;> first | exact ⟨_, _, _, rfl⟩ | exact absurd h (by simp [pk])
theorem pk3 {v : Value} (h : pk v = 3) : ∃ s, v = .string s := by cases v <;> first | exact ⟨_, rfl⟩ | exact absurd h (by simp [pk])
theorem pk_le (v : Value) : pk v ≤ 5 := by cases v <;> simp [pk]
theorem sr_binJunk {op : BinOp} {t : TypeId} {d : TypeDesc} {x y : Value} {s' : Sem Value} (ht : X.P.underlying t = some d) (hd : plainD d = true) (h : ¬ noJunk x ∨ ¬ noJunk y) : SR X (RV X) B (binOp op t x y) s' := by
  have he : ∀ n : Bool → Bool, SR X (RV X) B (do pure (.bool (n (← Op.equal t x y)))) s' := fun n => sr_equalJ (n := 9999) ht hd h
  by_cases px : pk x = 4
  · obtain ⟨p, rfl⟩ := pk4 px
    have hy : pk y = 5 := h.elim (fun h => absurd trivial h) pk_junk
    rw [bin_ptr1 (by omega) (by omega)]
    cases op
    case eql => exact he id
    case neq => exact he (!·)
    all_goals exact sr_unsup
  · by_cases py : pk y = 4
    · obtain ⟨q, rfl⟩ := pk4 py
      have hx : pk x = 5 := h.elim pk_junk fun h => absurd trivial h
      rw [bin_ptr2 (by omega) (by omega)]
      cases op
      case eql => exact he id
      case neq => exact he (!·)
      all_goals exact sr_unsup
    · have h5 : pk x = pk y → pk x = 5 := fun e => h.elim pk_junk fun h => e.trans (pk_junk h)
      rw [bin_rest px py h5]
      cases op
      case eql => exact he id
      case neq => exact he (!·)
      all_goals exact sr_stuck
theorem sr_binOp (hF : Fix X) {op : BinOp} {t : TypeId} {d : TypeDesc} {x x' y y' : Value} (ht : X.P.underlying t = some d) (hd : plainD d = true) (hx : RV X B x x') (hy : RV X B y y') : SR X (RV X) B (binOp op t x y) (binOp op t x' y') := by
  have hx0 := hx
  have hy0 := hy
  obtain ⟨rfl, hx⟩ := hx
  obtain ⟨rfl, hy⟩ := hy
  by_cases jx : noJunk x
  rotate_left
  · exact sr_binJunk ht hd (.inl jx)
  by_cases jy : noJunk y
  rotate_left
  · exact sr_binJunk ht hd (.inr jy)
  by_cases px : pk x = 4
  · obtain ⟨p, rfl⟩ := pk4 px
    by_cases py : pk y = 4
    · obtain ⟨q, rfl⟩ := pk4 py
      rw [ren_pointer, ren_pointer]
      exact sr_binPtrPtr hF ht hd hx hy
    · by_cases py0 : pk y = 0
      · obtain ⟨k, n, rfl⟩ := pk0 py0
        rw [ren_pointer, ren_int]
        exact sr_binPtrInt hF ht hd hx
      · rw [ren_pointer, bin_ptr1 py py0, bin_ptr1 (by rw [pk_ren _ jy]; exact py) (by rw [pk_ren _ jy]; exact py0)]
        rw [ren_pointer] at hx0
        cases op
        case eql => exact sr_eqs hF ht hd hx0 hy0 id
        case neq => exact sr_eqs hF ht hd hx0 hy0 (!·)
        all_goals exact sr_unsup
  · by_cases py : pk y = 4
    · obtain ⟨q, rfl⟩ := pk4 py
      by_cases px0 : pk x = 0
      · obtain ⟨k, n, rfl⟩ := pk0 px0
        rw [ren_pointer, ren_int]
        exact sr_binIntPtr hF ht hd hy
      · rw [ren_pointer, bin_ptr2 px px0, bin_ptr2 (by rw [pk_ren _ jx]; exact px) (by rw [pk_ren _ jx]; exact px0)]
        rw [ren_pointer] at hy0
        cases op
        case eql => exact sr_eqs hF ht hd hx0 hy0 id
        case neq => exact sr_eqs hF ht hd hx0 hy0 (!·)
        all_goals exact sr_unsup
    · by_cases hxy : pk x = pk y → pk x = 5
      · rw [bin_rest px py hxy, bin_rest (by rw [pk_ren _ jx]; exact px) (by rw [pk_ren _ jy]; exact py) (by rw [pk_ren _ jx, pk_ren _ jy]; exact hxy)]
        cases op
        case eql => exact sr_eqs hF ht hd hx0 hy0 id
        case neq => exact sr_eqs hF ht hd hx0 hy0 (!·)
        all_goals exact sr_stuck
      · have he : pk x = pk y := Classical.byContradiction fun h => hxy fun h' => absurd h' h
        have h5 : pk x ≠ 5 := fun h => hxy fun _ => h
        have hle := pk_le x
        rcases (by omega : pk x = 0 ∨ pk x = 1 ∨ pk x = 2 ∨ pk x = 3) with h | h | h | h
        · obtain ⟨k, n, rfl⟩ := pk0 h
          obtain ⟨k', n', rfl⟩ := pk0 (he.symm.trans h)
          rw [ren_int, ren_int]; exact sr_binInt
        · obtain ⟨k, n, rfl⟩ := pk1 h
          obtain ⟨k', n', rfl⟩ := pk1 (he.symm.trans h)
          rw [ren_float, ren_float]; exact sr_binFloat
        · obtain ⟨k, n, m, rfl⟩ := pk2 h
          exact (okJ_complex hx).elim
        · obtain ⟨s, rfl⟩ := pk3 h
          obtain ⟨s', rfl⟩ := pk3 (he.symm.trans h)
          rw [ren_string, ren_string]; exact sr_binString
end Go.Proofs.Ytmmolicodlmlkaa.Rel
namespace Go.Proofs.Ytmmolicodlmlkaa.Rel
set_option linter.unusedVariables false
variable {X : Cx} {B : Nat}

theorem sr_unit : SR X RQ B (pure () : Sem Unit) (pure ()) := SR.pure (R := RQ) rfl
theorem sr_eqGuardIn {t : TypeId} {d : TypeDesc} {n : Nat} {x y x' y' : Value} (ht : X.P.underlying t = some d) (hd : plainD d = true) : SR X (fun _ a b => a = false ∧ b = false) B (Op.eqGuardIn (n + 1) t x y) (Op.eqGuardIn (n + 1) t x' y') := by
  unfold Op.eqGuardIn
  refine under_bind ht ?_
  cases d <;> first
    | exact SR.pure ⟨rfl, rfl⟩
    | exact absurd hd (by simp [plainD])
theorem eqGuardType_plain {P : Program} {t : TypeId} {d : TypeDesc} {n : Nat} (ht : P.underlying t = some d) (hd : plainD d = true) : P.eqGuardType (n + 1) t = false := by
  unfold Program.eqGuardType
  rw [ht]
  cases d <;> first
    | rfl
    | exact absurd hd (by simp [plainD])
theorem sr_eqGuard {op : BinOp} {t : TypeId} {d : TypeDesc} {ox oy : Operand} {x x' y y' : Value} (ht : X.P.underlying t = some d) (hd : plainD d = true) (hx : RV X B x x') (hy : RV X B y y') : SR X RQ B (eqGuard op t ox oy x y) (eqGuard op t ox oy x' y') := by
  obtain ⟨rfl, hx⟩ := hx
  obtain ⟨rfl, hy⟩ := hy
  clear hx hy
  have main : SR X RQ B
      (match x, y with
        | .nilIface, .nilIface => do
          if (ox matches .const _) || (oy matches .const _) then return
          if ← Op.eqGuardIn Op.maxDepth t x y then unsupported (.noEntry "binop/eql: two nil values of an interface type with methods, neither of them the literal nil")
        | .agg _, .agg _ => do
          if !(← program).eqGuardType (← program).depth t then return
          if ← Op.eqGuardIn Op.maxDepth t x y then unsupported (.noEntry "binop/eql: two nil values of an interface type with methods, in a part of a struct or an array")
        | _, _ => (pure () : Sem Unit))
      (match ren X.ρ x, ren X.ρ y with
        | .nilIface, .nilIface => do
          if (ox matches .const _) || (oy matches .const _) then return
          if ← Op.eqGuardIn Op.maxDepth t (ren X.ρ x) (ren X.ρ y) then unsupported (.noEntry "binop/eql: two nil values of an interface type with methods, neither of them the literal nil")
        | .agg _, .agg _ => do
          if !(← program).eqGuardType (← program).depth t then return
          if ← Op.eqGuardIn Op.maxDepth t (ren X.ρ x) (ren X.ρ y) then unsupported (.noEntry "binop/eql: two nil values of an interface type with methods, in a part of a struct or an array")
        | _, _ => (pure () : Sem Unit)) := by
    have hin : SR X RQ B (do if ← Op.eqGuardIn Op.maxDepth t x y then unsupported (.noEntry "binop/eql: two nil values of an interface type with methods, neither of them the literal nil"))
        (do if ← Op.eqGuardIn Op.maxDepth t (ren X.ρ x) (ren X.ρ y) then unsupported (.noEntry "binop/eql: two nil values of an interface type with methods, neither of them the literal nil")) := by
      refine (sr_eqGuardIn (n := 9999) ht hd).bind X ?_
      rintro B1 a b hB ⟨rfl, rfl⟩
      exact sr_unit
    cases x
    case nilIface =>
      rw [ren_nilIface] at hin ⊢
      cases y
      case nilIface =>
        rw [ren_nilIface] at hin ⊢
        clear ht hd
        cases ox <;> cases oy <;> first | exact hin | exact sr_unit
      case func fn a b =>
        have hf := ren_fn X.ρ fn a b
        clear hin
        generalize ren X.ρ (.func fn a b) = u at hf ⊢
        clear ht hd
        cases u <;> first | exact sr_unit | simp [hidV] at hf
      all_goals
        simp only [ren_bool, ren_int, ren_float, ren_complex, ren_string, ren_pointer, ren_slice, ren_map, ren_chan, ren_nilFunc, ren_iface, ren_agg, ren_tuple, ren_func]
        exact sr_unit
    case agg cs =>
      rw [ren_agg]
      cases y
      case agg ds =>
        rw [ren_agg]
        simp only []
        refine .program ?_
        refine .program ?_
        have : X.P.eqGuardType X.P.depth t = false := eqGuardType_plain (n := 2 * (X.P.types.size + Made.depth) + 1) ht hd
        simp only [Sem.bind, this, Bool.not_false, if_true]
        exact sr_unit
      case func fn a b =>
        have hf := ren_fn X.ρ fn a b
        clear hin
        generalize ren X.ρ (.func fn a b) = u at hf ⊢
        clear ht hd
        cases u <;> first | exact sr_unit | simp [hidV] at hf
      all_goals
        simp only [ren_bool, ren_int, ren_float, ren_complex, ren_string, ren_pointer, ren_slice, ren_map, ren_chan, ren_nilFunc, ren_nilIface, ren_iface, ren_tuple, ren_func]
        exact sr_unit
    case func fn a b =>
      have hf := ren_fn X.ρ fn a b
      clear hin
      generalize ren X.ρ (.func fn a b) = u at hf ⊢
      clear ht hd
      cases u <;> first | exact sr_unit | simp [hidV] at hf
    all_goals
      simp only [ren_bool, ren_int, ren_float, ren_complex, ren_string, ren_pointer, ren_slice, ren_map, ren_chan, ren_nilFunc, ren_iface, ren_tuple]
      exact sr_unit
  unfold eqGuard
  cases op <;> first
    | exact sr_unit
    | exact main
/-- Bounds of a slice expression. -/
def RO (X : Cx) (B : Nat) : Option Value → Option Value → Prop
  | none, none => True
  | some a, some b => RV X B a b
  | _, _ => False
theorem RO.mono {B' : Nat} (hB : B ≤ B') {a b : Option Value} (h : RO X B a b) : RO X B' a b := by
  cases a <;> cases b <;> first | exact h | exact RV.mono hB h
theorem RO.same {a b : Option Value} (h : RO X B a b) : b.isSome = a.isSome := by
  cases a <;> cases b <;> first | rfl | exact h.elim
theorem sr_sliceBound {v v' : Value} {y : Nat} {c : BoundsCode} (h : RV X B v v') : SR X (fun _ a b => a = b ∧ a ≤ y) B (Instr.sliceBound v y c) (Instr.sliceBound v' y c) := by
  unfold Instr.sliceBound
  refine (sr_asIntOf h).bind X ?_
  rintro B1 ⟨k, i⟩ q hB e
  obtain rfl : (k, i) = q := e
  simp only []
  split
  · exact .pure ⟨rfl, by omega⟩
  · exact sr_boundsPanic
theorem sr_sliceBounds {b : Bool} {l c : Nat} {lo lo' hi hi' mx mx' : Option Value} (h1 : RO X B lo lo') (h2 : RO X B hi hi') (h3 : RO X B mx mx') : SR X (fun _ p q => p = q ∧ (l = 0 → c = 0 → p = (0, 0, 0))) B (Instr.sliceBounds b l c lo hi mx) (Instr.sliceBounds b l c lo' hi' mx') := by
  have step : ∀ {α : Type} {R : Nat → α → α → Prop} {B' : Nat} {v v' : Value} {y : Nat} {c : BoundsCode} {f f' : Nat → Sem α}, B ≤ B' → RV X B v v' → (∀ B2 n, B ≤ B2 → n ≤ y → SR X R B2 (f n) (f' n)) → SR X R B' (Instr.sliceBound v y c >>= f) (Instr.sliceBound v' y c >>= f') := by
    intro α R B' v v' y c f f' hB hv hf
    refine (sr_sliceBound (hv.mono hB)).bind X ?_
    rintro B2 m m' hB2 ⟨e, hm⟩
    obtain rfl : m = m' := e
    exact hf B2 m (by omega) hm
  have done : ∀ {B' : Nat} (p : Nat × Nat × Nat), (l = 0 → c = 0 → p = (0, 0, 0)) → SR X (fun _ p q => p = q ∧ (l = 0 → c = 0 → p = (0, 0, 0))) B' (pure p) (pure p) := fun p h => .pure ⟨rfl, h⟩
  unfold Instr.sliceBounds
  cases mx <;> cases mx' <;> try exact h3.elim
  · cases hi <;> cases hi' <;> try exact h2.elim
    · cases lo <;> cases lo' <;> try exact h1.elim
      · exact done _ (by rintro rfl rfl; rfl)
      · exact step (Nat.le_refl _) h1 fun B2 n hB hn => done _ (by rintro rfl rfl; simp; omega)
    · cases lo <;> cases lo' <;> try exact h1.elim
      · exact step (Nat.le_refl _) h2 fun B2 n hB hn => done _ (by rintro rfl rfl; simp; omega)
      · exact step (Nat.le_refl _) h2 fun B2 n hB hn => step hB h1 fun B3 m hB3 hm => done _ (by rintro rfl rfl; simp; omega)
  · cases hi <;> cases hi' <;> try exact h2.elim
    · exact step (Nat.le_refl _) h3 fun B2 n hB hn => sr_stuck
    · cases lo <;> cases lo' <;> try exact h1.elim
      · exact step (Nat.le_refl _) h3 fun B2 n hB hn => step hB h2 fun B3 m hB3 hm => done _ (by rintro rfl rfl; simp; omega)
      · exact step (Nat.le_refl _) h3 fun B2 n hB hn => step hB h2 fun B3 m hB3 hm => step hB3 h1 fun B4 k hB4 hk => done _ (by rintro rfl rfl; simp; omega)
theorem sr_slice {t e : TypeId} {x x' : Value} {lo lo' hi hi' mx mx' : Option Value} (ht : X.P.underlying t = some (.slice e)) (hx : RV X B x x') (h1 : RO X B lo lo') (h2 : RO X B hi hi') (h3 : RO X B mx mx') : SR X (RV X) B (Instr.slice t x lo hi mx) (Instr.slice t x' lo' hi' mx') := by
  unfold Instr.slice
  refine under_bind ht ?_
  cases x
  case slice a n c =>
    obtain ⟨rfl, hb⟩ := hx.slice
    simp only []
    refine (sr_sliceBounds h1 h2 h3).bind X ?_
    rintro B1 ⟨l, h, m⟩ q hB ⟨e, hz⟩
    obtain rfl : (l, h, m) = q := e
    simp only []
    refine sr_sizeOf.bind X ?_
    intro B2 s s' hB2 e
    obtain rfl : s = s' := e
    cases a with
    | none =>
      refine .pure ?_
      split <;> exact ⟨by simp, by simp⟩
    | some a =>
      have hs := inS_mono (B' := B2) (by omega) (hb a rfl)
      rcases inS_or hs with ⟨⟨e1, h4⟩, h5⟩ | ⟨rfl, rfl⟩
      · refine .pure ?_
        have key : ∀ (a' : Addr), a'.spot = none → inB X.Fs B2 a'.block = true → ∀ n c, okJ X.Fs B2 (.slice (some a') n c) = true := fun a' q1 q2 n c => by rw [okJ_slice]; exact inZ_S (by simp [inZ, q1, q2])
        split
        · exact ⟨(ren_slice _ _ _ _).symm, key a h5 h4 _ _⟩
        · have q1 : (a.add (l * s)).spot = none := by unfold Addr.add; split <;> first | exact h5 | rfl
          have q2 : (a.add (l * s)).block = a.block := by unfold Addr.add; split <;> rfl
          refine ⟨?_, key _ q1 (by rw [q2]; exact h4) _ _⟩
          rw [ren_slice]
          simp only [Option.map_some, e1, renS_none _ q1]
          rw [renA_add]
      · obtain ⟨rfl, rfl, rfl⟩ : l = 0 ∧ h = 0 ∧ m = 0 := by simpa using hz rfl rfl
        simp only [if_true]
        exact .pure ⟨(ren_slice _ _ _ _).symm, by rw [okJ_slice]; exact hs⟩
  case bool b => obtain ⟨rfl, _⟩ := hx; exact sr_stuck
  all_goals exact sr_stuck
theorem sr_sliceAt {t e : TypeId} {x x' : Value} {lo lo' hi hi' mx mx' : Option Value} (ht : X.P.underlying t = some (.slice e)) (hx : RV X B x x') (h1 : RO X B lo lo') (h2 : RO X B hi hi') (h3 : RO X B mx mx') : SR X (RV X) B (Instr.sliceAt t x lo hi mx) (Instr.sliceAt t x' lo' hi' mx') := by
  unfold Instr.sliceAt
  refine under_bind ht ?_
  exact sr_slice ht hx h1 h2 h3
theorem sr_fieldsPlaces {fs : Array Field} : SR X (fun _ (a b : Array (Nat × Nat)) => a = b) B (fs.mapM fun f => do pure (f.offset, ← sizeOf f.type)) (fs.mapM fun f => do pure (f.offset, ← sizeOf f.type)) := by
  rw [Array.mapM_eq_mapM_toList]
  have key : ∀ (l : List Field) (B : Nat), SR X (fun _ (a b : List (Nat × Nat)) => a = b) B (l.mapM fun f => do pure (f.offset, ← sizeOf f.type)) (l.mapM fun f => do pure (f.offset, ← sizeOf f.type)) := by
    intro l
    induction l with
    | nil => intro B; exact .pure rfl
    | cons f l ih =>
      intro B
      rw [List.mapM_cons]
      refine SR.bind X (R := RQ) ?_ ?_
      · refine sr_sizeOf.bind X ?_
        intro B1 s s' hB e
        obtain rfl : s = s' := e
        exact SR.pure (R := RQ) rfl
      · intro B1 p p' hB e
        obtain rfl : p = p' := e
        refine (ih B1).bind X ?_
        intro B2 q q' hB2 e
        obtain rfl : q = q' := e
        exact .pure rfl
  refine (key fs.toList B).bind X ?_
  intro B1 p p' hB e
  obtain rfl : p = p' := e
  exact .pure rfl
theorem sr_build (hz : ZeroOk X.P) {t : TypeId} {fs : Array Field} {p q : Array (Nat × Value)} (ht : X.P.underlying t = some (.struct fs)) (hp : RP X B p q) : SR X (RV X) B (Instr.build t p) (Instr.build t q) := by
  unfold Instr.build
  refine (sr_zeroValue hz).bind X ?_
  intro B1 z z' hB h
  have hc := h.cells
  refine under_bind ht ?_
  refine sr_fieldsPlaces.bind X ?_
  intro B2 pl pl' hB2 e
  obtain rfl : pl = pl' := e
  have hp2 : RP X B2 p q := hp.mono (by omega)
  have hc2 : RC X B2 z.cells z'.cells := hc.mono hB2
  have e1 : q.toList = p.toList.map fun x => (x.1, ren X.ρ x.2) := by rw [hp2.1]; simp
  have e2 := fill_ren X.ρ (pl[·]?) p.toList z.cells
  rw [e1, hc2.1, e2]
  cases hf : Instr.fill (pl[·]?) z.cells p.toList with
  | none => exact sr_stuck
  | some c =>
    have hok := fill_ok X.Fs B2 (pl[·]?) p.toList z.cells c hc2.2 (fun x hx => hp2.2 x (by simpa using hx)) hf
    exact .pure ⟨by rw [ren_agg], by rw [okJ_agg, Array.all_eq_true']; exact hok⟩
theorem sr_intToFloat {k : FloatKind} {n : Int} : SR X (RV X) B (Conv.intToFloat k n) (Conv.intToFloat k n) := sr_float
theorem sr_convertFloat {s d : TypeId} {k : IntKind} {k' : FloatKind} {x x' : Value} (hx : RV X B x x') (hs : X.P.underlying s = some (.int k)) (hd : X.P.underlying d = some (.float k')) : SR X (RV X) B (convert s d x) (convert s d x') := by
  unfold convert
  refine under_bind hs ?_
  refine under_bind hd ?_
  obtain ⟨rfl, hx⟩ := hx
  cases x
  case int k2 n => rw [ren_int]; exact sr_intToFloat
  case float fk b =>
    clear hx
    rw [ren_float]
    have : Calm (fun v => noAddr v = true) (Conv.floatToFloat fk b k') := by
      unfold Conv.floatToFloat
      split
      · exact .pure (noAddr_float _ _)
      · split
        · exact .choose fun n => .pure (noAddr_float _ _)
        · exact .pure (noAddr_float _ _)
        · simp only []
          split
          · exact .choose fun n => .pure (noAddr_float _ _)
          · exact .pure (noAddr_float _ _)
    exact this.sr
  case pointer a => cases a <;> exact sr_unsup
  all_goals exact sr_unsup
def nilOf : Value → Sem Value
  | .pointer none | .nilIface | .nilFunc => runtimePanic .nilDeref
  | x => pure x
theorem sr_nilOf {x x' : Value} (hj : noJunk x) (hx : RV X B x x') : SR X (RV X) B (nilOf x) (nilOf x') := by
  have hx0 := hx
  obtain ⟨rfl, hok⟩ := hx
  clear hok
  cases x
  case pointer a => cases a <;> first | exact sr_runtimePanic (e := .nilDeref) trivial | (rw [ren_pointer]; rw [ren_pointer] at hx0; exact .pure hx0)
  case nilIface => exact sr_runtimePanic (e := .nilDeref) trivial
  case nilFunc => exact sr_runtimePanic (e := .nilDeref) trivial
  case func fn a b =>
    cases fn
    case func f =>
      rw [ren_func] at hx0 ⊢
      exact .pure hx0
    all_goals exact hj.elim
  all_goals
    simp only [ren_bool, ren_int, ren_float, ren_complex, ren_string, ren_slice, ren_map, ren_chan, ren_iface, ren_agg, ren_tuple] at hx0 ⊢
    exact .pure hx0
theorem sr_makeInterface {t : TypeId} {x x' : Value} (hx : RV X B x x') : SR X (RV X) B (Instr.makeInterface t x) (Instr.makeInterface t x') := by
  unfold Instr.makeInterface
  refine sr_underlying.bind X ?_
  intro B1 d d' hB e
  obtain rfl : d = d' := e
  have h1 := hx.mono hB
  have : SR X (RV X) B1 (pure (.iface t x)) (pure (.iface t x')) := .pure ⟨by rw [ren_iface, h1.1], by rw [okJ_iface]; exact h1.2⟩
  cases d <;> first | exact sr_stuck | exact this
theorem sr_panic {x : Value} {s' : Sem Value} : SR X (RV X) B (Instr.panic x) s' := by
  refine .dead ?_
  unfold Instr.panic
  cases x <;> first
    | exact .halt trivial
    | skip
  unfold Instr.panicnil
  refine .sys fun r => ?_
  have pn : Doomed (runtimePanic .panicNil : Sem Value) := .program fun p => by
    show Doomed (elemOf p.rt.panicNilError >>= fun x => newVar x (.agg #[]) >>= fun r => goPanic (.iface p.rt.panicNilError (.pointer (some r))))
    have last : ∀ x, Doomed (newVar x (.agg #[]) >>= fun r => (goPanic (.iface p.rt.panicNilError (.pointer (some r))) : Sem Value)) := fun x => .new fun r => .halt trivial
    refine .program fun p2 => ?_
    dsimp only [Sem.bind]
    cases p2.underlying p.rt.panicNilError with
    | none => exact .halt trivial
    | some d => cases d <;> first | exact last _ | exact .halt trivial
  cases r <;> first
    | exact .halt trivial
    | skip
  refine .program fun p => ?_
  show Doomed (if _ then goPanic .nilIface else runtimePanic .panicNil : Sem Value)
  split
  · exact .halt trivial
  · exact pn
end Go.Proofs.Ytmmolicodlmlkaa.Rel
namespace Go.Proofs.Ytmmolicodlmlkaa.Rel
set_option linter.unusedVariables false
variable {X : Cx} {B : Nat}

/-- What the operation has the machine do. -/
inductive NR (X : Cx) (B : Nat) : Next → Next → Prop
  | value {a b : Value} : RV X B a b → NR X B (.value a) (.value b)
  | skip : NR X B .skip .skip
  | enter {f : FuncId} {a b : Array Value} : X.Fs.fs f = true → RC X B a b → NR X B (.enter f a) (.enter f b)
theorem sr_v {s s' : Sem Value} (h : SR X (RV X) B s s') : SR X (NR X) B (do pure (.value (← s))) (do pure (.value (← s'))) := h.bind X fun B1 a b _ h => .pure (.value h)
theorem sr_u {s s' : Sem Unit} (h : SR X RQ B s s') : SR X (NR X) B (do s; pure .skip) (do s'; pure .skip) := h.bind X fun B1 a b _ h => .pure .skip
/-- Every function that may be called stands in the program with a body. -/
def Bodied (X : Cx) : Prop := ∀ f, X.Fs.fs f = true → ∃ fn, X.P.funcs[f]? = some fn ∧ (fn.name == "runtime.NumGoroutine") = false ∧ fn.body.isNone = false
theorem sr_callFunc (hb : Bodied X) {f : FuncId} {a b : Array Value} (hf : X.Fs.fs f = true) (h : RC X B a b) : SR X (NR X) B (callFunc f a) (callFunc f b) := by
  obtain ⟨fn, h1, h2, h3⟩ := hb f hf
  unfold callFunc
  refine .program ?_
  simp only [Sem.bind, h1, h2, h3, Bool.false_eq_true, if_false]
  exact .pure (.enter hf h)
def opdOk (P : Program) (Fs : Fns) : Operand → Bool
  | .tmp _ => true
  | .const v => noAddr v
  | .global g => decide (g < P.globals.size) && Fs.al g
  | .func f => Fs.fs f
def tyIs (P : Program) (p : TypeDesc → Bool) (t : TypeId) : Bool := (P.underlying t).any p
def dSlice : TypeDesc → Bool
  | .slice _ => true
  | _ => false
def dStruct : TypeDesc → Bool
  | .struct _ => true
  | _ => false
def dInt : TypeDesc → Bool
  | .int _ => true
  | _ => false
def dFloat : TypeDesc → Bool
  | .float _ => true
  | _ => false
def fieldOk (P : Program) (t : TypeId) (i : Nat) : Bool :=
  match P.underlying t with
  | some (.struct fs) => (fs[i]?).all fun f => (P.info? f.type).all fun j => j.size != 0
  | _ => true
def callOk (P : Program) (Fs : Fns) (c : Call) : Bool :=
  c.args.all (opdOk P Fs) && match c.callee with
    | .value x => opdOk P Fs x
    | .builtin .append => match c.argTypes.toList, c.args.toList with
      | [t, t'], [_, _] => t == t' && tyIs P dSlice t
      | _, _ => false
    | .builtin .len => match c.argTypes.toList, c.args.toList with
      | t :: _, [_] => tyIs P dSlice t
      | _, _ => false
    | .builtin .max | .builtin .min => true
    | _ => false
def oOk (P : Program) (Fs : Fns) (o : Option Operand) : Bool := o.all (opdOk P Fs)
/-- The operations that may occur. -/
def opOk (P : Program) (Fs : Fns) (o : Oper) : Bool :=
  match o.op with
  | .move x | .assign x | .box _ x | .load _ x | .nilCheck x | .unOp _ _ x | .makeInterface _ x | .extract x _ => opdOk P Fs x
  | .pick c a b => opdOk P Fs c && opdOk P Fs a && opdOk P Fs b
  | .alloc _ | .panic _ => true
  | .build t ps => tyIs P dStruct t && ps.all fun p => opdOk P Fs p.2
  | .buildSlice _ _ ps => ps.all fun p => opdOk P Fs p.2
  | .store _ a v | .makeSlice _ a v | .indexAddr _ a v => opdOk P Fs a && opdOk P Fs v
  | .binOp _ t x y _ => tyIs P plainD t && opdOk P Fs x && opdOk P Fs y
  | .convert s d x => tyIs P dInt s && (tyIs P dInt d || tyIs P dFloat d) && opdOk P Fs x
  | .makeFunc (.func f) first captured => Fs.fs f && first.all (opdOk P Fs) && captured.all (opdOk P Fs)
  | .slice t x lo hi mx => tyIs P dSlice t && opdOk P Fs x && oOk P Fs lo && oOk P Fs hi && oOk P Fs mx
  | .fieldAddr t x i => fieldOk P t i && opdOk P Fs x
  | .call c => callOk P Fs c
  | _ => false
theorem tyIs_some {P : Program} {p : TypeDesc → Bool} {t : TypeId} (h : tyIs P p t = true) : ∃ d, P.underlying t = some d ∧ p d = true := by
  unfold tyIs at h
  cases hu : P.underlying t with
  | none => rw [hu] at h; cases h
  | some d => rw [hu] at h; exact ⟨d, rfl, h⟩
section
variable {ev ev' : Operand → Value} (hE : ∀ x, opdOk X.P X.Fs x = true → RV X B (ev x) (ev' x))
include hE
theorem rc_args {xs : Array Operand} (h : xs.all (opdOk X.P X.Fs) = true) : RC X B (xs.map ev) (xs.map ev') := by
  rw [Array.all_eq_true'] at h
  refine ⟨?_, ?_⟩
  · rw [Array.map_map]
    apply Array.map_congr_left
    intro x hx
    exact (hE x (h x hx)).1
  · intro v hv
    obtain ⟨x, hx, rfl⟩ := Array.mem_map.1 hv
    exact (hE x (h x hx)).2
theorem rp_args {ps : Array (Nat × Operand)} (h : (ps.all fun p => opdOk X.P X.Fs p.2) = true) : RP X B (ps.map fun (i, x) => (i, ev x)) (ps.map fun (i, x) => (i, ev' x)) := by
  rw [Array.all_eq_true'] at h
  refine ⟨?_, ?_⟩
  · rw [Array.map_map]
    apply Array.map_congr_left
    intro x hx
    show (x.1, ev' x.2) = (x.1, ren X.ρ (ev x.2))
    rw [(hE x.2 (h x hx)).1]
  · intro v hv
    obtain ⟨x, hx, rfl⟩ := Array.mem_map.1 hv
    exact (hE x.2 (h x hx)).2
theorem ro_arg {o : Option Operand} (h : oOk X.P X.Fs o = true) : RO X B (o.map ev) (o.map ev') := by
  cases o with
  | none => trivial
  | some x => exact hE x h
end
theorem RC.app {a b c d : Array Value} (h : RC X B a b) (k : RC X B c d) : RC X B (a ++ c) (b ++ d) := by
  refine ⟨by rw [h.1, k.1, Array.map_append], fun v hv => ?_⟩
  rcases Array.mem_append.1 hv with h1 | h1
  · exact h.2 v h1
  · exact k.2 v h1
theorem RC.get? {a b : Array Value} (h : RC X B a b) (i : Nat) : RO X B a[i]? b[i]? := by
  rw [h.1, Array.getElem?_map]
  cases hi : a[i]? with
  | none => trivial
  | some v => exact ⟨rfl, h.2 v (Array.mem_of_getElem? hi)⟩
theorem sr_max2 {x x' y y' : Value} (hx : RV X B x x') (hy : RV X B y y') : SR X (RV X) B (Builtin.max2 x y) (Builtin.max2 x' y') := by
  obtain ⟨rfl, hx⟩ := hx
  obtain ⟨rfl, hy⟩ := hy
  clear hx hy
  cases x
  case int k n =>
    rw [ren_int]
    cases y
    case int k' m => rw [ren_int]; exact sr_int
    case pointer p => cases p <;> first | exact sr_unsup | exact sr_stuck
    all_goals exact sr_stuck
  case float k n =>
    rw [ren_float]
    cases y
    case float k' m =>
      rw [ren_float]
      refine Calm.sr ?_
      show Calm _ (match k.format.order n m with
        | none => (do pure (Value.float k (← choose (.nanMinMax k true n m))) : Sem Value)
        | some .lt => pure (Value.float k m)
        | some .gt => pure (Value.float k n)
        | some .eq => pure (Value.float k (if (k.decode n).neg then m else n)))
      split
      · exact .choose fun n => .pure (noAddr_float _ _)
      · exact .pure (noAddr_float _ _)
      · exact .pure (noAddr_float _ _)
      · exact .pure (noAddr_float _ _)
    case pointer p => cases p <;> first | exact sr_unsup | exact sr_stuck
    all_goals exact sr_stuck
  case string s =>
    rw [ren_string]
    cases y
    case string s' => rw [ren_string]; exact sr_string
    case pointer p => cases p <;> first | exact sr_unsup | exact sr_stuck
    all_goals exact sr_stuck
  case pointer p => cases p <;> first | exact sr_unsup | (cases y <;> first | exact sr_stuck | (rename_i q; cases q <;> first | exact sr_unsup | exact sr_stuck))
  all_goals (cases y <;> first | exact sr_stuck | (rename_i q; cases q <;> first | exact sr_unsup | exact sr_stuck))
theorem sr_min2 {x x' y y' : Value} (hx : RV X B x x') (hy : RV X B y y') : SR X (RV X) B (Builtin.min2 x y) (Builtin.min2 x' y') := by
  obtain ⟨rfl, hx⟩ := hx
  obtain ⟨rfl, hy⟩ := hy
  clear hx hy
  cases x
  case int k n =>
    rw [ren_int]
    cases y
    case int k' m => rw [ren_int]; exact sr_int
    case pointer p => cases p <;> first | exact sr_unsup | exact sr_stuck
    all_goals exact sr_stuck
  case float k n =>
    rw [ren_float]
    cases y
    case float k' m =>
      rw [ren_float]
      refine Calm.sr ?_
      show Calm _ (match k.format.order n m with
        | none => (do pure (Value.float k (← choose (.nanMinMax k false n m))) : Sem Value)
        | some .lt => pure (Value.float k n)
        | some .gt => pure (Value.float k m)
        | some .eq => pure (Value.float k (if (k.decode n).neg then n else m)))
      split
      · exact .choose fun n => .pure (noAddr_float _ _)
      · exact .pure (noAddr_float _ _)
      · exact .pure (noAddr_float _ _)
      · exact .pure (noAddr_float _ _)
    case pointer p => cases p <;> first | exact sr_unsup | exact sr_stuck
    all_goals exact sr_stuck
  case string s =>
    rw [ren_string]
    cases y
    case string s' => rw [ren_string]; exact sr_string
    case pointer p => cases p <;> first | exact sr_unsup | exact sr_stuck
    all_goals exact sr_stuck
  case pointer p => cases p <;> first | exact sr_unsup | (cases y <;> first | exact sr_stuck | (rename_i q; cases q <;> first | exact sr_unsup | exact sr_stuck))
  all_goals (cases y <;> first | exact sr_stuck | (rename_i q; cases q <;> first | exact sr_unsup | exact sr_stuck))
theorem sr_fold2 {f : Value → Value → Sem Value} (hf : ∀ {B x x' y y'}, RV X B x x' → RV X B y y' → SR X (RV X) B (f x y) (f x' y')) : ∀ (l : List Value) (B : Nat) (x x' : Value), RV X B x x' → (∀ v ∈ l, okJ X.Fs B v = true) → SR X (RV X) B (l.foldlM f x) ((l.map (ren X.ρ)).foldlM f x')
  | [], B, x, x', hx, _ => .pure hx
  | v :: l, B, x, x', hx, hl => by
    rw [List.map_cons, List.foldlM_cons, List.foldlM_cons]
    refine (hf hx ⟨rfl, hl v List.mem_cons_self⟩).bind X ?_
    intro B1 a b hB h
    exact sr_fold2 hf l B1 a b h fun u hu => okJ_mono _ hB u (hl u (List.mem_cons_of_mem _ hu))
theorem sr_max {ts : Array TypeId} {t : TypeId} {a b : Array Value} (h : RC X B a b) : SR X (RV X) B (Builtin.max_ ts t a) (Builtin.max_ ts t b) := by
  obtain ⟨rfl, h⟩ := h
  unfold Builtin.max_
  rw [Array.toList_map]
  cases hl : a.toList with
  | nil => exact sr_stuck
  | cons x l =>
    have hm : ∀ v ∈ x :: l, okJ X.Fs B v = true := fun v hv => h v (by rw [← hl] at hv; simpa using hv)
    exact sr_fold2 (fun h1 h2 => sr_max2 h1 h2) l B x _ ⟨rfl, hm x List.mem_cons_self⟩ fun u hu => hm u (List.mem_cons_of_mem _ hu)
theorem sr_min {ts : Array TypeId} {t : TypeId} {a b : Array Value} (h : RC X B a b) : SR X (RV X) B (Builtin.min_ ts t a) (Builtin.min_ ts t b) := by
  obtain ⟨rfl, h⟩ := h
  unfold Builtin.min_
  rw [Array.toList_map]
  cases hl : a.toList with
  | nil => exact sr_stuck
  | cons x l =>
    have hm : ∀ v ∈ x :: l, okJ X.Fs B v = true := fun v hv => h v (by rw [← hl] at hv; simpa using hv)
    exact sr_fold2 (fun h1 h2 => sr_min2 h1 h2) l B x _ ⟨rfl, hm x List.mem_cons_self⟩ fun u hu => hm u (List.mem_cons_of_mem _ hu)
theorem arr1 {α : Type} {a : Array α} {x : α} (h : a.toList = [x]) : a = #[x] := by
  apply Array.ext'; simpa using h
theorem arr2 {α : Type} {a : Array α} {x y : α} (h : a.toList = [x, y]) : a = #[x, y] := by
  apply Array.ext'; simpa using h
theorem junk_first {Fs : Fns} {B : Nat} {s : String} {a b : Array Value} (h : okJ Fs B (.func (.method s) a b) = true) : ∃ w, a = #[.nilIface] ∧ b = #[w] := by
  rw [okJ] at h
  unfold isJunk at h
  split at h
  · rename_i v h1 h2
    exact ⟨v, by apply Array.ext'; simpa using h1, by apply Array.ext'; simpa using h2⟩
  · cases h
theorem doomed_junk {s : String} {b args : Array Value} : Doomed (do let d ← Deferred.ofValue (.func (.method s) #[.nilIface] b) args; invoke d.target d.args) := by
  have e : ((#[Value.nilIface] ++ args) : Array Value)[0]? = some .nilIface := by rw [Array.getElem?_append_left (by simp)]; rfl
  show Doomed (invoke (.fn (.method s) b) (#[.nilIface] ++ args))
  unfold invoke
  simp only [e]
  exact .program fun p => .halt trivial
/-- A call that the check allows. -/
theorem sr_call (hz : ZeroOk X.P) (hb : Bodied X) {ev ev' : Operand → Value} (hE : ∀ x, opdOk X.P X.Fs x = true → RV X B (ev x) (ev' x)) {c : Call} {t : TypeId} (hc : callOk X.P X.Fs c = true) :
    SR X (NR X) B (do let d ← resolve ev c t; invoke d.target d.args) (do let d ← resolve ev' c t; invoke d.target d.args) := by
  unfold callOk at hc
  rw [Bool.and_eq_true] at hc
  obtain ⟨ha, hc⟩ := hc
  have hA := rc_args hE ha
  unfold resolve
  cases hcc : c.callee with
  | value x =>
    rw [hcc] at hc
    have hv := hE x hc
    simp only []
    generalize ev x = u at hv
    generalize ev' x = u' at hv
    obtain ⟨rfl, hu⟩ := hv
    cases u
    case func fn a b =>
      cases fn
      case func f =>
        rw [ren_func]
        rw [okJ_func, Bool.and_eq_true, Bool.and_eq_true, Array.all_eq_true', Array.all_eq_true'] at hu
        have h1 : RC X B a (a.map (ren X.ρ)) := ⟨rfl, hu.1.2⟩
        have h2 : RC X B b (b.map (ren X.ρ)) := ⟨rfl, hu.2⟩
        exact sr_callFunc hb hu.1.1 ((h1.app hA).app h2)
      case method s =>
        obtain ⟨w, rfl, _⟩ := junk_first hu
        exact .dead doomed_junk
      all_goals exact absurd hu (by rw [okJ] <;> simp)
    case nilFunc =>
      rw [ren_nilFunc]
      exact sr_runtimePanic (e := .nilDeref) trivial
    all_goals exact sr_stuck
  | invoke r n => rw [hcc] at hc; cases hc
  | builtin b =>
    rw [hcc] at hc
    cases b <;> first
      | (cases hc; done)
      | skip
    case append =>
      simp only [] at hc
      split at hc
      · rename_i t1 t2 x y ht hx
        rw [Bool.and_eq_true] at hc
        obtain ⟨h1, h2⟩ := hc
        obtain rfl : t1 = t2 := by simpa using h1
        obtain ⟨d, hd, hs⟩ := tyIs_some h2
        have e1 := arr2 ht
        have e2 := arr2 hx
        rw [e2] at ha
        simp only [List.all_toArray, List.all_cons, List.all_nil, Bool.and_true, Bool.and_eq_true] at ha
        cases d <;> first | (simp [dSlice] at hs; done) | skip
        rw [e1, e2]
        show SR X (NR X) B (do pure (.value (← Builtin.append_ #[t1, t1] t (#[x, y].map ev)))) (do pure (.value (← Builtin.append_ #[t1, t1] t (#[x, y].map ev'))))
        have m1 : #[x, y].map ev = #[ev x, ev y] := by simp
        have m2 : #[x, y].map ev' = #[ev' x, ev' y] := by simp
        rw [m1, m2]
        exact sr_v (sr_append hz hd (hE x ha.1) (hE y ha.2))
      · cases hc
    case len =>
      simp only [] at hc
      split at hc
      · rename_i t1 rest x ht hx
        obtain ⟨d, hd, hs⟩ := tyIs_some hc
        have e2 := arr1 hx
        rw [e2] at ha
        simp only [List.all_toArray, List.all_cons, List.all_nil, Bool.and_true] at ha
        cases d <;> first | (simp [dSlice] at hs; done) | skip
        rw [e2]
        have h0 : c.argTypes[0]? = some t1 := by rw [← Array.getElem?_toList, ht]; rfl
        show SR X (NR X) B (do pure (.value (← Builtin.len_ c.argTypes t (#[x].map ev)))) (do pure (.value (← Builtin.len_ c.argTypes t (#[x].map ev'))))
        have m1 : #[x].map ev = #[ev x] := by simp
        have m2 : #[x].map ev' = #[ev' x] := by simp
        rw [m1, m2]
        exact sr_v (sr_len (hE x ha) h0 hd)
      · cases hc
    case max => exact sr_v (sr_max hA)
    case min => exact sr_v (sr_min hA)
theorem execOp_nilCheck {ev : Operand → Value} {B : Nat} {x : Operand} {o : Oper} (ho : o.op = .nilCheck x) (hj : noJunk (ev x)) (hx : okJ X.Fs B (ev x) = true) : execOp ev o = (do pure (.value (← nilOf (ev x)))) := by
  unfold execOp
  simp only [ho]
  generalize ev x = u at hx hj
  cases u <;> first
    | rfl
    | skip
  case pointer a => cases a <;> rfl
  case func fn a b =>
    cases fn <;> first
      | rfl
      | exact hj.elim
theorem sr_nilJunk {ev : Operand → Value} {x : Operand} {o : Oper} {s' : Sem Next} (ho : o.op = .nilCheck x) (hj : ¬ noJunk (ev x)) (hx : okJ X.Fs B (ev x) = true) : SR X (NR X) B (execOp ev o) s' := by
  unfold execOp
  simp only [ho]
  generalize ev x = u at hx hj
  obtain ⟨fn, a, b, rfl, hf⟩ := junk_fn hj
  cases fn
  case method s =>
    obtain ⟨w, rfl, _⟩ := junk_first hx
    exact .dead (.program fun p => .halt trivial)
  case func f => exact absurd rfl (hf f)
  all_goals exact absurd hx (by rw [okJ] <;> simp)
/-- ████ WHATEVER OPERATION THE CHECK ALLOWS. ████ -/
theorem sr_execOp (hz : ZeroOk X.P) (hF : Fix X) (hb : Bodied X) {ev ev' : Operand → Value} (hE : ∀ x, opdOk X.P X.Fs x = true → RV X B (ev x) (ev' x)) {o : Oper} (ho : opOk X.P X.Fs o = true) : SR X (NR X) B (execOp ev o) (execOp ev' o) := by
  unfold opOk at ho
  cases hop : o.op <;> rw [hop] at ho <;> (try (cases ho; done)) <;> (simp only [Bool.and_eq_true] at ho)
  case nilCheck x =>
    have h := hE x ho
    by_cases hj : noJunk (ev x)
    rotate_left
    · exact sr_nilJunk hop hj h.2
    rw [execOp_nilCheck hop hj h.2]
    have e : execOp ev' o = (do pure (.value (← nilOf (ev' x)))) := by
      unfold execOp
      simp only [hop]
      obtain ⟨h1, h2⟩ := h
      generalize ev x = u at h1 h2 hj
      rw [h1]
      cases u <;> first
        | (simp only [ren_bool, ren_int, ren_float, ren_complex, ren_string, ren_slice, ren_map, ren_chan, ren_iface, ren_agg, ren_tuple, ren_nilFunc, ren_nilIface]; rfl)
        | skip
      case pointer a => cases a <;> (rw [ren_pointer]; rfl)
      case func fn a b =>
        cases fn <;> first
          | (rw [ren_func]; rfl)
          | exact hj.elim
    rw [e]
    exact sr_v (sr_nilOf hj h)
  case move x => unfold execOp; simp only [hop]; exact .pure (.value (hE x ho))
  case assign x => unfold execOp; simp only [hop]; exact .pure (.value (hE x ho))
  case pick c a b =>
    unfold execOp; simp only [hop]
    refine (sr_asBool (hE c ho.1.1)).bind X ?_
    intro B1 u u' hB e
    obtain rfl : u = u' := e
    cases u
    · exact .pure (.value (RV.mono hB (hE b ho.2)))
    · exact .pure (.value (RV.mono hB (hE a ho.1.2)))
  case alloc e => unfold execOp; simp only [hop]; exact sr_v (sr_alloc hz)
  case box e x => unfold execOp; simp only [hop]; exact sr_v (sr_box (hE x ho))
  case build t ps =>
    unfold execOp; simp only [hop]
    obtain ⟨d, hd, hs⟩ := tyIs_some ho.1
    cases d <;> first | (simp [dStruct] at hs; done) | skip
    exact sr_v (sr_build hz hd (rp_args hE ho.2))
  case buildSlice t n ps => unfold execOp; simp only [hop]; exact sr_v (sr_buildSlice hz (rp_args hE ho))
  case load t a => unfold execOp; simp only [hop]; exact sr_v (sr_loadAt (hE a ho))
  case store t a v => unfold execOp; simp only [hop]; exact sr_u (sr_storeAt (hE a ho.1) (hE v ho.2))
  case binOp op t x y t2 =>
    unfold execOp; simp only [hop]
    obtain ⟨d, hd, hs⟩ := tyIs_some ho.1.1
    refine sr_v ?_
    refine (sr_eqGuard hd hs (hE x ho.1.2) (hE y ho.2)).bind X ?_
    intro B1 _ _ hB _
    exact sr_binOp hF hd hs (RV.mono hB (hE x ho.1.2)) (RV.mono hB (hE y ho.2))
  case unOp op t x => unfold execOp; simp only [hop]; exact sr_v (sr_unary (hE x ho))
  case convert s d x =>
    unfold execOp; simp only [hop]
    obtain ⟨ds, hds, hs⟩ := tyIs_some ho.1.1
    cases ds <;> first | (simp [dInt] at hs; done) | skip
    rcases Bool.or_eq_true_iff.1 ho.1.2 with h | h
    · obtain ⟨dd, hdd, hs2⟩ := tyIs_some h
      cases dd <;> first | (simp [dInt] at hs2; done) | skip
      exact sr_v (sr_convertInt (hE x ho.2) hds hdd)
    · obtain ⟨dd, hdd, hs2⟩ := tyIs_some h
      cases dd <;> first | (simp [dFloat] at hs2; done) | skip
      exact sr_v (sr_convertFloat (hE x ho.2) hds hdd)
  case makeInterface t x => unfold execOp; simp only [hop]; exact sr_v (sr_makeInterface (hE x ho))
  case makeFunc fn first captured =>
    cases fn <;> simp only [] at ho <;> (try (cases ho; done))
    rename_i f
    simp only [Bool.and_eq_true] at ho
    unfold execOp; simp only [hop]
    have h1 := rc_args hE ho.1.2
    have h2 := rc_args hE ho.2
    refine sr_v (.pure ⟨by rw [ren_func, h1.1, h2.1], ?_⟩)
    rw [okJ_func, Bool.and_eq_true, Bool.and_eq_true, Array.all_eq_true', Array.all_eq_true']
    exact ⟨⟨ho.1.1, h1.2⟩, h2.2⟩
  case makeSlice t l c => unfold execOp; simp only [hop]; exact sr_v (sr_makeSlice hz (hE l ho.1) (hE c ho.2))
  case slice t x lo hi mx =>
    unfold execOp; simp only [hop]
    obtain ⟨d, hd, hs⟩ := tyIs_some ho.1.1.1.1
    cases d <;> first | (simp [dSlice] at hs; done) | skip
    exact sr_v (sr_sliceAt hd (hE x ho.1.1.1.2) (ro_arg hE ho.1.1.2) (ro_arg hE ho.1.2) (ro_arg hE ho.2))
  case fieldAddr t x i =>
    unfold execOp; simp only [hop]
    refine sr_v (sr_fieldAt (hE x ho.2) fun fs f h1 h2 j h3 => ?_)
    have h := ho.1
    unfold fieldOk at h
    rw [h1] at h
    simp only [h2, h3, Option.all_some] at h
    simpa using h
  case indexAddr t x i => unfold execOp; simp only [hop]; exact sr_v (sr_indexAt (hE x ho.1) (hE i ho.2))
  case extract x i => unfold execOp; simp only [hop]; exact sr_v (sr_extract (hE x ho))
  case panic x => unfold execOp; simp only [hop]; exact sr_v sr_panic
  case call c => unfold execOp; simp only [hop]; exact sr_call hz hb hE ho
end Go.Proofs.Ytmmolicodlmlkaa.Rel
namespace Go.Proofs.Ytmmolicodlmlkaa.Rel
open Go.Conc (G)
set_option linter.unusedVariables false
variable {X : Cx} {B : Nat}

def codeOk (P : Program) (Fs : Fns) : Code → Bool
  | .skip | .exit _ | .label _ | .goto _ | .ret | .refuse _ => true
  | .region _ ops _ => ops.all (opOk P Fs)
  | .seq a b => codeOk P Fs a && codeOk P Fs b
  | .cond c a b => opdOk P Fs c && codeOk P Fs a && codeOk P Fs b
  | .block _ a | .loop a | .scope a => codeOk P Fs a
  | .rangeFunc .. => false
/-- The operations that are still to come. -/
def opsOk (P : Program) (Fs : Fns) (ops : Array Oper) (l : List Nat) : Bool := l.all fun i => (ops[i]?).all (opOk P Fs)
theorem opsOk_all {P : Program} {Fs : Fns} {ops : Array Oper} (h : ops.all (opOk P Fs) = true) (l : List Nat) : opsOk P Fs ops l = true := by
  rw [Array.all_eq_true'] at h
  unfold opsOk
  rw [List.all_eq_true]
  intro i _
  cases ho : ops[i]? with
  | none => rfl
  | some o => exact h o (Array.mem_of_getElem? ho)
theorem opsOk_cons {P : Program} {Fs : Fns} {ops : Array Oper} {i : Nat} {l : List Nat} (h : opsOk P Fs ops (i :: l) = true) : opsOk P Fs ops l = true ∧ ∀ o, ops[i]? = some o → opOk P Fs o = true := by
  unfold opsOk at h ⊢
  rw [List.all_cons, Bool.and_eq_true] at h
  exact ⟨h.2, fun o ho => by have := h.1; rw [ho] at this; exact this⟩
def itemOk (P : Program) (Fs : Fns) : Item → Bool
  | .code c | .inLoop c | .inScope c => codeOk P Fs c
  | .inBlock _ => true
  | .inRegion ops l => opsOk P Fs ops l
  | _ => false
def resOk : ResultVar → Bool
  | .tmp _ => true
  | .cell _ _ => true
/-- Every function that may be called is fit. -/
def FnsOk (X : Cx) : Prop := ∀ f, X.Fs.fs f = true → ∃ fn c, X.P.funcs[f]? = some fn ∧ (fn.name == "runtime.NumGoroutine") = false ∧ fn.body = some c ∧ codeOk X.P X.Fs c = true ∧ fn.results.all resOk = true
theorem FnsOk.bodied (h : FnsOk X) : Bodied X := fun f hf => by
  obtain ⟨fn, c, h1, h2, h3, _⟩ := h f hf
  exact ⟨fn, h1, h2, by rw [h3]; rfl⟩
/-- The items behind, or a sequence that ends in them: the lone one's is cut where the other goes on. -/
inductive TL (P : Program) (Fs : Fns) (kl kc : List Item) : List Item → List Item → Prop
  | here : TL P Fs kl kc kl kc
  | seq {a b b' : Code} {l r : List Item} : codeOk P Fs a = true → TL P Fs kl kc (.code b :: l) (.code b' :: r) → TL P Fs kl kc (.code (.seq a b) :: l) (.code (.seq a b') :: r)
/-- Two frames that are alike, the lone one's items followed by kl, the other's by kc. -/
structure FR (X : Cx) (B : Nat) (kl kc : List Item) (fl fc : Frame) : Prop where
  fn : fc.fn = fl.fn
  tmps : RC X B fl.tmps fc.tmps
  todo : ∃ its tl tc, fl.todo = its ++ tl ∧ fc.todo = its ++ tc ∧ (∀ it ∈ its, itemOk X.P X.Fs it = true) ∧ TL X.P X.Fs kl kc tl tc
  defl : fl.defers = []
  defc : fc.defers = []
  mode : (fl.mode = .run ∧ fc.mode = .run) ∨ (fl.mode = .returning ∧ fc.mode = .returning)
  kindl : fl.kind = .normal
  kindc : fc.kind = .normal
  rol : fl.roundOf = none
  roc : fc.roundOf = none
theorem FR.mono {B' : Nat} (hB : B ≤ B') {kl kc : List Item} {fl fc : Frame} (h : FR X B kl kc fl fc) : FR X B' kl kc fl fc := ⟨h.fn, h.tmps.mono hB, h.todo, h.defl, h.defc, h.mode, h.kindl, h.kindc, h.rol, h.roc⟩
/-- Two stacks that are alike down to a frame below which the lone one goes on with csl, the other with csc. -/
inductive ST (X : Cx) (B : Nat) (kl kc : List Item) (csl csc : List Frame) : List Frame → List Frame → Prop
  | last {fl fc : Frame} : FR X B kl kc fl fc → ST X B kl kc csl csc (fl :: csl) (fc :: csc)
  | cons {fl fc : Frame} {L L' : List Frame} : FR X B [] [] fl fc → X.Fs.fs fl.fn = true → (∃ ops i rest k, (L.head?).map (·.todo) = some (.inRegion ops (i :: rest) :: k)) → ST X B kl kc csl csc L L' → ST X B kl kc csl csc (fl :: L) (fc :: L')
theorem ST.mono {B' : Nat} (hB : B ≤ B') {kl kc : List Item} {csl csc L L' : List Frame} (h : ST X B kl kc csl csc L L') : ST X B' kl kc csl csc L L' := by
  induction h with
  | last h => exact .last (h.mono hB)
  | cons h hf ht _ ih => exact .cons (h.mono hB) hf ht ih

theorem ren_undef (ρ : Rn) : ren ρ undef = undef := by unfold undef; rw [ren_tuple]; simp
theorem okJ_undef (Fs : Fns) (B : Nat) : okJ Fs B undef = true := by unfold undef; rw [okJ_tuple]; simp
theorem RC.getD {a b : Array Value} (h : RC X B a b) (i : Nat) : RV X B (a.getD i undef) (b.getD i undef) := by
  have := h.get? i
  rw [Array.getD_eq_getD_getElem?, Array.getD_eq_getD_getElem?]
  cases h1 : a[i]? <;> cases h2 : b[i]? <;> rw [h1, h2] at this <;> first
    | exact this.elim
    | exact this
    | exact ⟨(ren_undef _).symm, okJ_undef _ _⟩
section
variable {kl kc : List Item} {fl fc : Frame} (hF : Fix X) (hG : X.P.globals.size ≤ B)
include hF hG
theorem FR.eval (h : FR X B kl kc fl fc) : ∀ x, opdOk X.P X.Fs x = true → RV X B (fl.eval x) (fc.eval x) := by
  intro x hx
  cases x with
  | tmp t => exact h.tmps.getD t
  | const v =>
    obtain ⟨h1, h2⟩ := noAddr_ok X.ρ X.Fs B v hx
    exact ⟨h1.symm, h2⟩
  | global g =>
    unfold opdOk at hx
    rw [Bool.and_eq_true, decide_eq_true_eq] at hx
    refine ⟨?_, ?_⟩
    · show Value.pointer _ = ren X.ρ (.pointer (some ⟨g, 0, none⟩))
      rw [ren_pointer]
      simp only [Option.map_some, renA, hF.1 g hx.1]
    · show okJ X.Fs B (.pointer (some ⟨g, 0, none⟩)) = true
      rw [okJ_pointer]
      unfold inB
      simp only [Bool.and_eq_true, decide_eq_true_eq]
      exact ⟨by omega, hx.2⟩
  | func f =>
    refine ⟨?_, ?_⟩
    · show Value.func (.func f) #[] #[] = ren X.ρ (.func (.func f) #[] #[])
      rw [ren_func]; simp
    · show okJ X.Fs B (.func (.func f) #[] #[]) = true
      rw [okJ_func]
      simpa [opdOk] using hx
end
theorem yielded_same {a b : Array Value} (h : RC X B a b) (ops : Array Oper) (j : Nat) : yielded ops b j = yielded ops a j := by
  unfold yielded
  cases hd : (ops[j]?).bind (·.dst) with
  | none => rfl
  | some d =>
    simp only [Option.bind_some]
    have := h.get? d
    cases h1 : a[d]? <;> cases h2 : b[d]? <;> rw [h1, h2] at this <;> first
      | exact this.elim
      | rfl
      | skip
    rename_i u u'
    obtain ⟨rfl, hok⟩ := this
    clear h1 h2 hok
    cases u
    case func fn x y =>
      have hf := ren_fn X.ρ fn x y
      generalize ren X.ρ (.func fn x y) = u at hf ⊢
      cases u <;> first | rfl | simp [hidV] at hf
    all_goals first
      | rfl
      | (simp only [ren_bool, ren_int, ren_float, ren_complex, ren_string, ren_pointer, ren_slice, ren_map, ren_chan, ren_iface, ren_agg, ren_tuple, ren_nilFunc, ren_nilIface])
theorem RC.set {a b : Array Value} {u u' : Value} (h : RC X B a b) (hu : RV X B u u') (d : Nat) : RC X B (a.setIfInBounds d u) (b.setIfInBounds d u') := by
  obtain ⟨rfl, h⟩ := h
  obtain ⟨rfl, hu⟩ := hu
  refine ⟨by apply Array.ext'; simp, fun v hv => ?_⟩
  rcases Array.mem_or_eq_of_mem_setIfInBounds hv with h1 | h1
  · exact h v h1
  · rw [h1]; exact hu
theorem RC.replicate (n : Nat) : RC X B (Array.replicate n undef) (Array.replicate n undef) := by
  refine ⟨by rw [Array.map_replicate, ren_undef], fun v hv => ?_⟩
  rw [(Array.mem_replicate.1 hv).2]
  exact okJ_undef _ _
theorem RC.size {a b : Array Value} (h : RC X B a b) : b.size = a.size := by rw [h.1]; simp
/-- An operation's value is laid down. -/
theorem FR.finish {kl kc : List Item} {fl fc : Frame} {u u' : Value} {ops : Array Oper} {i : Nat} {rest : List Nat} {its tl tc : List Item} (h : FR X B kl kc fl fc) (hT : TL X.P X.Fs kl kc tl tc) (hu : RV X B u u')
    (h1 : fl.todo = (.inRegion ops (i :: rest) :: its) ++ tl) (h2 : fc.todo = (.inRegion ops (i :: rest) :: its) ++ tc) (h3 : ∀ it ∈ its, itemOk X.P X.Fs it = true) (h4 : opsOk X.P X.Fs ops (i :: rest) = true) : FR X B kl kc (fl.finish u) (fc.finish u') := by
  unfold Frame.finish
  rw [h1, h2]
  simp only [List.cons_append]
  refine ⟨h.fn, ?_, ⟨.inRegion ops rest :: its, tl, tc, rfl, rfl, fun it hit => ?_, hT⟩, h.defl, h.defc, h.mode, h.kindl, h.kindc, h.rol, h.roc⟩
  · show RC X B (match (ops[i]?).bind (·.dst) with | some d => fl.tmps.setIfInBounds d u | none => fl.tmps) (match (ops[i]?).bind (·.dst) with | some d => fc.tmps.setIfInBounds d u' | none => fc.tmps)
    cases (ops[i]?).bind (·.dst) with
    | none => exact h.tmps
    | some d => exact h.tmps.set hu d
  · rcases List.mem_cons.1 hit with e | e
    · rw [e]; exact (opsOk_cons h4).1
    · exact h3 it e
/-- A frame that is entered. -/
theorem FR.enter (hO : FnsOk X) {f : FuncId} {a b : Array Value} (hf : X.Fs.fs f = true) (h : RC X B a b) : FR X B [] [] (Frame.enter X.P f a .normal) (Frame.enter X.P f b .normal) := by
  obtain ⟨fn, c, h1, _, h3, h4, _⟩ := hO f hf
  unfold Frame.enter
  simp only [h1, Option.map_some, Option.bind_some, h3, Option.getD_some, h.size]
  exact ⟨rfl, h.app (RC.replicate _), ⟨[.code c], [], [], rfl, rfl, fun it hit => by simp at hit; rw [hit]; exact h4, .here⟩, rfl, rfl, .inl ⟨rfl, rfl⟩, rfl, rfl, rfl, rfl⟩
/-! ### events -/
/-- The function of the library that a mark names, if it names one. -/
noncomputable def snM (m : Mark) : Option FuncId := Mark.casesOn (motive := fun _ => Option FuncId) m (fun _ => none) (fun _ => none) (fun _ => none) none none (fun _ => none) (fun _ => none) (fun f => some f) none
noncomputable def sn (P : Program) (x : Bool × Array Event) (e : Event) : Bool × Array Event :=
  match e.loc with
  | .mark m => match snM m with
    | some f => ((P.funcs[f]?).any (·.norace), x.2)
    | none => (x.1, if x.1 && !e.sync then x.2 else x.2.push e)
  | _ => (x.1, if x.1 && !e.sync then x.2 else x.2.push e)
theorem seen_sn (P : Program) (fn : FuncId) (es : Array Event) : seen P fn es = (es.toList.foldl (sn P) ((P.funcs[fn]?).any (·.norace), #[])).2 := by
  rw [Array.foldl_toList]
  unfold seen
  refine congrArg Prod.snd (congrArg (fun g => Array.foldl g ((P.funcs[fn]?).any (·.norace), (#[] : Array Event)) es) ?_)
  funext x e
  obtain ⟨loc, wr, sy⟩ := e
  cases loc with
  | mark m => cases m <;> rfl
  | _ => rfl
theorem sn_ren (P : Program) (q : Bool) (k : Array Event) (e : Event) : sn P (q, k.map (renE X)) (renE X e) = ((sn P (q, k) e).1, (sn P (q, k) e).2.map (renE X)) := by
  obtain ⟨loc, wr, sy⟩ := e
  have push : ∀ x : Event, (if q && !sy then k.map (renE X) else (k.map (renE X)).push (renE X x)) = (if q && !sy then k else k.push x).map (renE X) := by
    intro x
    split
    · rfl
    · rw [Array.map_push]
  cases loc with
  | mark m =>
    cases m <;> first
      | rfl
      | exact congrArg (Prod.mk q) (push _)
  | _ => exact congrArg (Prod.mk q) (push _)
theorem sn_fold (P : Program) : ∀ (l : List Event) (q : Bool) (k : Array Event), (l.map (renE X)).foldl (sn P) (q, k.map (renE X)) = ((l.foldl (sn P) (q, k)).1, (l.foldl (sn P) (q, k)).2.map (renE X))
  | [], q, k => rfl
  | e :: l, q, k => by
    rw [List.map_cons, List.foldl_cons, List.foldl_cons, sn_ren]
    exact sn_fold P l _ _
theorem seen_ren (P : Program) (fn : FuncId) (es : Array Event) : seen P fn (es.map (renE X)) = (seen P fn es).map (renE X) := by
  rw [seen_sn, seen_sn, Array.toList_map]
  have := sn_fold (X := X) P es.toList ((P.funcs[fn]?).any (·.norace)) #[]
  rw [show (#[] : Array Event).map (renE X) = #[] from by simp] at this
  rw [this]
theorem seen_sub {P : Program} {fn : FuncId} {es : Array Event} {e : Event} (h : e ∈ seen P fn es) : e ∈ es := by
  rw [seen_sn] at h
  have key : ∀ (l : List Event) (q : Bool) (k : Array Event), e ∈ (l.foldl (sn P) (q, k)).2 → e ∈ k ∨ e ∈ l := by
    intro l
    induction l with
    | nil => intro q k h; exact .inl h
    | cons x l ih =>
      intro q k h
      rw [List.foldl_cons] at h
      have push : e ∈ (sn P (q, k) x).2 → e ∈ k ∨ e = x := by
        intro h
        unfold sn at h
        split at h
        · split at h
          · exact .inl h
          · simp only at h
            split at h
            · exact .inl h
            · exact (Array.mem_push.1 h)
        · simp only at h
          split at h
          · exact .inl h
          · exact (Array.mem_push.1 h)
      rcases ih _ _ h with h1 | h1
      · exact (push h1).imp id fun h => by rw [h]; exact List.mem_cons_self
      · exact .inr (List.mem_cons_of_mem _ h1)
  have := key es.toList _ _ h
  simpa using this
end Go.Proofs.Ytmmolicodlmlkaa.Rel
namespace Go.Proofs.Ytmmolicodlmlkaa.Rel
open Go.Conc (G)
set_option linter.unusedVariables false
variable {X : Cx} {B : Nat}

/-- The world behind what the goroutine is about to carry out. -/
def opW (P : Program) (fr : Frame) (v : World) : World :=
  match fr.mode with
  | .returning => match P.funcs[fr.fn]? with
    | some fn => resW ((results fn fr.tmps).runT P v #[]).1
    | none => v
  | .run => match fr.todo with
    | .code (.region _ _ true) :: _ => { v with drawn := v.drawn + 1 }
    | .inRegion ops (i :: _) :: _ => match ops[i]? with
      | some o => if Region.wanted o (yielded ops fr.tmps) then resW ((execOp fr.eval o).runT P v #[]).1 else v
      | none => v
    | _ => v
  | _ => v
section steps
variable {P : Program} {main : Bool} {fr : Frame} {cs : List Frame} {w w' : World} {k : List Item} {s : Sem Next} {es : Array Event}
theorem apply_value {u : Value} (hr : s.runT P w #[] = (.ok (.value u) w', es)) (hk : fr.kind = .normal) : stepG.apply P true fr cs none s w = .go (G (fr.finish u) cs) w' (seen P fr.fn es) := by
  have hk' : (fr.kind == CallKind.early) = false := by rw [hk]; rfl
  simp only [stepG.apply, if_true, hr, hk', Bool.false_eq_true, if_false, GStep.after, G, Array.append_empty]
theorem apply_skip (hr : s.runT P w #[] = (.ok .skip w', es)) (hk : fr.kind = .normal) : stepG.apply P true fr cs none s w = .go (G (fr.finish undef) cs) w' (seen P fr.fn es) := by
  have hk' : (fr.kind == CallKind.early) = false := by rw [hk]; rfl
  simp only [stepG.apply, if_true, hr, hk', Bool.false_eq_true, if_false, GStep.after, G, Array.append_empty]
theorem apply_enter {f : FuncId} {args : Array Value} {ops : Array Oper} {l : List Nat} (hr : s.runT P w #[] = (.ok (.enter f args) w', es)) (hk : fr.kind = .normal) (ht : fr.todo = .inRegion ops l :: k) :
    stepG.apply P true fr cs none s w = .go (G (Frame.enter P f args .normal) (fr :: cs)) w' (seen P fr.fn es) := by
  have hk' : (fr.kind == CallKind.early) = false := by rw [hk]; rfl
  simp only [stepG.apply, if_true, hr, hk', Bool.false_eq_true, if_false, GStep.after, G, Array.append_empty]
  simp only [ht]
theorem apply_dead {h : Halt} (hr : s.runT P w #[] = (.halt h w', es)) (hd : deadH h) : (∃ o w1 es1, stepG.apply P true fr cs none s w = .ended o w1 es1) ∨ ∃ ch w1 es1, stepG.apply P true fr cs none s w = .go (G (fr.raise ch) cs) w1 es1 := by
  cases h with
  | panic v => exact .inr ⟨[{ v, recovered := false }], w', (if fr.kind == CallKind.early then seen P fr.fn #[] else seen P fr.fn es), by
      simp only [stepG.apply, hr, if_true, GStep.after, G]
      split <;> simp⟩
  | stuck st => exact .inl ⟨_, _, _, by simp only [stepG.apply, hr, if_true, GStep.after]; rfl⟩
  | unsupported u => cases u <;> first | exact hd.elim | exact .inl ⟨_, _, _, by simp only [stepG.apply, hr, if_true, GStep.after]; rfl⟩
  | _ => exact hd.elim
theorem sg_oper {ops : Array Oper} {i : Nat} {rest : List Nat} {o : Oper} (hm : fr.mode = .run) (ht : fr.todo = .inRegion ops (i :: rest) :: k) (hr : fr.roundOf = none) (ho : ops[i]? = some o) (hw : Region.wanted o (yielded ops fr.tmps) = true) :
    stepG P main (G fr cs) w = stepG.apply P true fr cs none (execOp fr.eval o) w := by
  have : fr.oper? = some o := by unfold Frame.oper?; rw [ht]; exact ho
  simp [G, stepG, stepG.exec, stepG.oper, hm, ht, hr, ho, hw, this]
theorem sg_skipop {ops : Array Oper} {i : Nat} {rest : List Nat} (hm : fr.mode = .run) (ht : fr.todo = .inRegion ops (i :: rest) :: k) (hw : ((ops[i]?).map (Region.wanted · (yielded ops fr.tmps))).getD false = false) :
    stepG P main (G fr cs) w = .go (G (fr.finish undef) cs) w #[] := by
  simp [G, stepG, stepG.exec, hm, ht, hw]
theorem sg_nil (hm : fr.mode = .run) (ht : fr.todo = []) (hr : fr.roundOf = none) : stepG P main (G fr cs) w = .go (G { fr with mode := .returning } cs) w #[] := by
  simp [G, stepG, stepG.exec, hm, ht, hr]
theorem sg_ret (hm : fr.mode = .run) (ht : fr.todo = .code .ret :: k) (hr : fr.roundOf = none) : stepG P main (G fr cs) w = .go (G { fr with mode := .returning } cs) w #[] := by
  simp [G, stepG, stepG.exec, hm, ht, hr]
theorem sg_refuse {y : String} (hm : fr.mode = .run) (ht : fr.todo = .code (.refuse y) :: k) : ∃ o, stepG P main (G fr cs) w = .ended o w #[] := by simp [G, stepG, stepG.exec, hm, ht]
/-- The moves that look at nothing but the items. -/
def ctl : Item → List Item → Option (List Item)
  | .code .skip, k | .code (.label _), k | .inBlock _, k | .inScope _, k => some k
  | .code (.seq a b), k => some (.code a :: .code b :: k)
  | .code (.block id body), k => some (.code body :: .inBlock id :: k)
  | .code (.loop body), k | .inLoop body, k => some (.code body :: .inLoop body :: k)
  | .code (.scope body), k => some (.code body :: .inScope body :: k)
  | .code (.region _ ops false), k => some (.inRegion ops (List.range ops.size) :: k)
  | .inRegion _ [], k => some k
  | _, _ => none
theorem sg_ctl {it : Item} {k' : List Item} (hm : fr.mode = .run) (ht : fr.todo = it :: k) (hc : ctl it k = some k') : stepG P main (G fr cs) w = .go (G { fr with todo := k' } cs) w #[] := by
  unfold ctl at hc
  split at hc <;> first
    | (injection hc with hc; subst hc; simp [G, stepG, stepG.exec, hm, ht]; done)
    | cases hc
theorem sg_cond {c : Operand} {x y : Code} {b : Bool} (hm : fr.mode = .run) (ht : fr.todo = .code (.cond c x y) :: k) (hc : fr.eval c = .bool b) : stepG P main (G fr cs) w = .go (G { fr with todo := .code (if b then x else y) :: k } cs) w #[] := by
  simp [G, stepG, stepG.exec, hm, ht, hc]
theorem sg_cond_no {c : Operand} {x y : Code} (hm : fr.mode = .run) (ht : fr.todo = .code (.cond c x y) :: k) (hc : ∀ b, fr.eval c ≠ .bool b) : ∃ o, stepG P main (G fr cs) w = .ended o w #[] := by
  refine ⟨.stuck "cond: bool expected" (fr.pos P), ?_⟩
  simp only [G, stepG, stepG.exec, hm, ht]
theorem sg_exit {id : Nat} {k' : List Item} (hm : fr.mode = .run) (ht : fr.todo = .code (.exit id) :: k) (hc : exitTo id k = some k') : stepG P main (G fr cs) w = .go (G { fr with todo := k' } cs) w #[] := by
  simp [G, stepG, stepG.exec, hm, ht, hc]
theorem sg_exit_no {id : Nat} (hm : fr.mode = .run) (ht : fr.todo = .code (.exit id) :: k) (hr : fr.roundOf = none) (hc : exitTo id k = none) : ∃ o, stepG P main (G fr cs) w = .ended o w #[] :=
  ⟨.stuck "exit, goto: no such block or label" (fr.pos P), by simp [G, stepG, stepG.exec, hm, ht, hc, hr]⟩
theorem sg_goto {l : Nat} {k' : List Item} (hm : fr.mode = .run) (ht : fr.todo = .code (.goto l) :: k) (hc : gotoIn l k = some k') : stepG P main (G fr cs) w = .go (G { fr with todo := k' } cs) w #[] := by
  simp [G, stepG, stepG.exec, hm, ht, hc]
theorem sg_goto_no {l : Nat} (hm : fr.mode = .run) (ht : fr.todo = .code (.goto l) :: k) (hr : fr.roundOf = none) (hc : gotoIn l k = none) : ∃ o, stepG P main (G fr cs) w = .ended o w #[] :=
  ⟨.stuck "exit, goto: no such block or label" (fr.pos P), by simp [G, stepG, stepG.exec, hm, ht, hc, hr]⟩
theorem sg_draw {id : Nat} {ops : Array Oper} (hm : fr.mode = .run) (ht : fr.todo = .code (.region id ops true) :: k) :
    stepG P main (G fr cs) w = .go (G { fr with todo := .inRegion ops (Region.schedule (P.follows .mixedOrders) ops (w.tape w.drawn (.order fr.fn id))) :: k } cs) { w with drawn := w.drawn + 1 } #[] := by
  simp [G, stepG, stepG.exec, hm, ht, choose, Sem.run, Question.forced, Question.cut]
theorem sg_leave {c : Frame} {fn : Func} {u : Value} (hm : fr.mode = .returning) (hd : fr.defers = []) (hk : fr.kind = .normal) (hf : P.funcs[fr.fn]? = some fn) (hr : (results fn fr.tmps).runT P w #[] = (.ok u w', es)) :
    stepG P main (G fr (c :: cs)) w = .go (G (c.finish u) cs) w' (seen P fr.fn es) := by
  simp only [G, stepG, unwind, doReturn, hm, hd, hk, hf, hr, GStep.after, Array.append_empty]
theorem sg_leave_dead {c : Frame} {fn : Func} {h : Halt} (hm : fr.mode = .returning) (hd : fr.defers = []) (hf : P.funcs[fr.fn]? = some fn) (hr : (results fn fr.tmps).runT P w #[] = (.halt h w', es)) :
    ∃ o w1 es1, stepG P main (G fr (c :: cs)) w = .ended o w1 es1 := by
  cases h <;> exact ⟨_, _, _, by simp only [G, stepG, unwind, hm, hd, hf, hr, GStep.after]; rfl⟩
end steps
theorem exitTo_app (id : Nat) : ∀ (its k : List Item), exitTo id (its ++ k) = match exitTo id its with | some r => some (r ++ k) | none => exitTo id k
  | [], k => rfl
  | it :: its, k => by
    have ih := exitTo_app id its k
    cases it <;> first
      | exact ih
      | skip
    rename_i id'
    simp only [List.cons_append, exitTo]
    split
    · rfl
    · exact ih
theorem gotoIn_app (l : Nat) : ∀ (its k : List Item), gotoIn l (its ++ k) = match gotoIn l its with | some r => some (r ++ k) | none => gotoIn l k
  | [], k => rfl
  | it :: its, k => by
    have ih := gotoIn_app l its k
    cases it <;> first
      | exact ih
      | skip
    rename_i body
    simp only [List.cons_append, gotoIn]
    cases findLabel body l with
    | some r => rfl
    | none => exact ih
theorem exitTo_ok {P : Program} {Fs : Fns} (id : Nat) : ∀ (its r : List Item), exitTo id its = some r → (∀ it ∈ its, itemOk P Fs it = true) → ∀ it ∈ r, itemOk P Fs it = true
  | [], r, h, _ => by cases h
  | it :: its, r, h, ho => by
    have ih := exitTo_ok (P := P) (Fs := Fs) id its r
    have ho' : ∀ x ∈ its, itemOk P Fs x = true := fun x hx => ho x (List.mem_cons_of_mem _ hx)
    cases it <;> first
      | exact ih h ho'
      | skip
    rename_i id'
    simp only [exitTo] at h
    split at h
    · injection h with h; subst h; exact ho'
    · exact ih h ho'
theorem findLabel_ok {P : Program} {Fs : Fns} (l : Nat) : ∀ (c r : Code), findLabel c l = some r → codeOk P Fs c = true → codeOk P Fs r = true
  | .seq a b, r, h, hc => by
    simp only [codeOk, Bool.and_eq_true] at hc
    simp only [findLabel] at h
    cases ha : findLabel a l with
    | some x =>
      rw [ha] at h
      injection h with h
      subst h
      simp only [codeOk, Bool.and_eq_true]
      exact ⟨findLabel_ok l a x ha hc.1, hc.2⟩
    | none => rw [ha] at h; exact findLabel_ok l b r h hc.2
  | .label l', r, h, _ => by
    simp only [findLabel] at h
    split at h
    · injection h with h; subst h; rfl
    · cases h
  | .skip, r, h, _ | .region _ _ _, r, h, _ | .cond _ _ _, r, h, _ | .block _ _, r, h, _ | .loop _, r, h, _ | .rangeFunc _ _ _ _, r, h, _ | .exit _, r, h, _ | .scope _, r, h, _ | .goto _, r, h, _ | .ret, r, h, _ | .refuse _, r, h, _ => by cases h
theorem gotoIn_ok {P : Program} {Fs : Fns} (l : Nat) : ∀ (its r : List Item), gotoIn l its = some r → (∀ it ∈ its, itemOk P Fs it = true) → ∀ it ∈ r, itemOk P Fs it = true
  | [], r, h, _ => by cases h
  | it :: its, r, h, ho => by
    have ih := gotoIn_ok (P := P) (Fs := Fs) l its r
    have ho' : ∀ x ∈ its, itemOk P Fs x = true := fun x hx => ho x (List.mem_cons_of_mem _ hx)
    cases it <;> first
      | exact ih h ho'
      | skip
    rename_i body
    simp only [gotoIn] at h
    have hb : codeOk P Fs body = true := ho (.inScope body) List.mem_cons_self
    cases hl : findLabel body l with
    | some x =>
      rw [hl] at h
      injection h with h
      subst h
      intro it hit
      simp only [List.mem_cons] at hit
      rcases hit with e | e | e
      · rw [e]; exact findLabel_ok l body x hl hb
      · rw [e]; exact hb
      · exact ho' it e
    | none => rw [hl] at h; exact ih h ho'
theorem ctl_app {it : Item} {its k k' : List Item} (h : ctl it its = some k') : ctl it (its ++ k) = some (k' ++ k) := by
  unfold ctl at h ⊢
  split at h <;> first
    | (injection h with h; subst h; rfl)
    | cases h
theorem ctl_ok {P : Program} {Fs : Fns} {it : Item} {its k' : List Item} (h : ctl it its = some k') (h1 : itemOk P Fs it = true) (h2 : ∀ x ∈ its, itemOk P Fs x = true) : ∀ x ∈ k', itemOk P Fs x = true := by
  intro x hx
  unfold ctl at h
  split at h <;> first
    | cases h; done
    | skip
  all_goals
    injection h with h
    subst h
    simp only [itemOk, codeOk, Bool.and_eq_true] at h1
    first
      | exact h2 x hx
      | (simp only [List.mem_cons] at hx; rcases hx with e | e <;> first | (rw [e]; exact opsOk_all h1 _) | exact h2 x e)
      | (simp only [List.mem_cons] at hx; rcases hx with e | e | e <;> first | (rw [e]; exact h1.1) | (rw [e]; exact h1.2) | (rw [e]; exact h1) | (rw [e]; rfl) | exact h2 x e)
      | (simp only [List.mem_cons] at hx; rcases hx with e | e <;> first | (rw [e]; exact h1) | exact h2 x e)
end Go.Proofs.Ytmmolicodlmlkaa.Rel
namespace Go.Proofs.Ytmmolicodlmlkaa.Rel
open Go.Conc (G)
set_option linter.unusedVariables false
variable {X : Cx} {B : Nat}

theorem sr_asAddr {v v' : Value} (h : RV X B v v') : SR X (RA X) B (asAddr v) (asAddr v') := by
  obtain ⟨rfl, h⟩ := h
  cases v
  case pointer a =>
    cases a with
    | none =>
      show SR X (RA X) B (runtimePanic .nilDeref) _
      exact sr_runtimePanic trivial
    | some a =>
      rw [ren_pointer]
      exact .pure ⟨rfl, by simpa using h⟩
  all_goals exact sr_stuck
theorem sr_results {fn : Func} {a b : Array Value} (h : RC X B a b) (hr : fn.results.all resOk = true) : SR X (RV X) B (results fn a) (results fn b) := by
  unfold results
  refine SR.bind X (R := RC X) ?_ ?_
  · rw [Array.mapM_eq_mapM_toList, Array.mapM_eq_mapM_toList]
    have key : ∀ (l : List ResultVar) (B : Nat), RC X B a b → SR X (fun B (x y : List Value) => y = x.map (ren X.ρ) ∧ ∀ v ∈ x, okJ X.Fs B v = true) B
        (l.mapM fun | .tmp t => pure (a.getD t undef) | .cell x t => do loadVar t (← asAddr (a.getD x undef)))
        (l.mapM fun | .tmp t => pure (b.getD t undef) | .cell x t => do loadVar t (← asAddr (b.getD x undef))) := by
      intro l
      induction l with
      | nil => intro B h; exact .pure ⟨rfl, by simp⟩
      | cons r l ih =>
        intro B h
        rw [List.mapM_cons, List.mapM_cons]
        cases r with
        | cell x t =>
          refine SR.bind X (R := RV X) ((sr_asAddr (h.getD x)).bind X fun B1 u u' _ hu => sr_loadVar hu) ?_
          rintro B1 u u' hB1 hu
          refine (ih B1 ⟨h.1, fun v hv => okJ_mono _ hB1 _ (h.2 v hv)⟩).bind X ?_
          rintro B2 x y hB ⟨rfl, hx⟩
          refine .pure ⟨by rw [List.map_cons, ← hu.1], fun v hv => ?_⟩
          rcases List.mem_cons.1 hv with e | e
          · rw [e]; exact okJ_mono _ hB _ hu.2
          · exact hx v e
        | tmp t =>
          have ht := h.getD t
          refine (ih B h).bind X ?_
          rintro B1 x y hB ⟨rfl, hx⟩
          refine .pure ⟨by rw [List.map_cons, ← ht.1], fun v hv => ?_⟩
          rcases List.mem_cons.1 hv with e | e
          · rw [e]; exact okJ_mono _ hB _ ht.2
          · exact hx v e
    refine (key fn.results.toList B h).bind X ?_
    rintro B1 x y hB ⟨rfl, hx⟩
    exact .pure ⟨by simp, fun v hv => hx v (by simpa using hv)⟩
  · rintro B1 x y hB hc
    refine .pure ?_
    by_cases hs : x.size = 1
    · have hs' : y.size = 1 := by rw [hc.size]; exact hs
      rw [dif_pos hs, dif_pos hs']
      have := hc.get? 0
      rw [Array.getElem?_eq_getElem (by omega), Array.getElem?_eq_getElem (by omega)] at this
      exact this
    · have hs' : ¬ y.size = 1 := by rw [hc.size]; exact hs
      rw [dif_neg hs, dif_neg hs']
      exact ⟨by rw [ren_tuple, hc.1], by rw [okJ_tuple, Array.all_eq_true']; exact hc.2⟩
/-- What one step comes to. -/
inductive Out (X : Cx) (main : Bool) (kl kc : List Item) (csl csc : List Frame) (fl fc : Frame) (cl cc : List Frame) (wl v : World) : Prop
  | dead : (∃ o w es, stepG X.P true (G fl cl) wl = .ended o w es) → Out X main kl kc csl csc fl fc cl cc wl v
  | pan : (∃ ch w es, stepG X.P true (G fl cl) wl = .go (G (fl.raise ch) cl) w es) → Out X main kl kc csl csc fl fc cl cc wl v
  | ok {gl gc : Frame} {L L' : List Frame} {wl' v' : World} {es : Array Event} : stepG X.P true (G fl cl) wl = .go (G gl L) wl' es → stepG X.P main (G fc cc) v = .go (G gc L') v' (es.map (renE X)) →
      ST X wl'.heap.size kl kc csl csc (gl :: L) (gc :: L') → WR X wl' v' → Step X wl wl' v v' → Mono wl wl' → v' = opW X.P fc v → (∀ e ∈ es, evOk X wl'.heap.size e) → Out X main kl kc csl csc fl fc cl cc wl v
theorem mapE0 : (#[] : Array Event).map (renE X) = #[] := by simp
section
variable {main : Bool} {kl kc : List Item} {csl csc : List Frame} {fl fc : Frame} {cl cc : List Frame} {wl v : World}
/-- A frame may be put in the place of the topmost one. -/
theorem ST.top {gl gc : Frame} {L L' : List Frame} (h : ST X B kl kc csl csc (fl :: L) (fc :: L')) (hf : gl.fn = fl.fn) (hn : ∀ kl kc, FR X B kl kc fl fc → FR X B kl kc gl gc) : ST X B kl kc csl csc (gl :: L) (gc :: L') := by
  cases h with
  | last h => exact .last (hn _ _ h)
  | cons h h1 h2 h3 => exact .cons (hn _ _ h) (by rw [hf]; exact h1) h2 h3
theorem ST.fr {L L' : List Frame} (h : ST X B kl kc csl csc (fl :: L) (fc :: L')) : (FR X B kl kc fl fc ∧ L = csl ∧ L' = csc) ∨ (FR X B [] [] fl fc ∧ X.Fs.fs fl.fn = true ∧ (∃ ops i rest k, (L.head?).map (·.todo) = some (.inRegion ops (i :: rest) :: k)) ∧ ST X B kl kc csl csc L L') := by
  cases h with
  | last h => exact .inl ⟨h, rfl, rfl⟩
  | cons h h1 h2 h3 => exact .inr ⟨h, h1, h2, h3⟩
/-- The result of an operation, laid into the frame. -/
theorem out_op (hz : ZeroOk X.P) (hF : Fix X) (hO : FnsOk X) (hG : X.P.globals.size ≤ wl.heap.size) {k1 k2 tl tc : List Item} {ops : Array Oper} {i : Nat} {rest : List Nat} {its : List Item} {o : Oper}
    (hST : ST X wl.heap.size kl kc csl csc (fl :: cl) (fc :: cc)) (hw : WR X wl v) (hfr : FR X wl.heap.size k1 k2 fl fc) (hrun : fl.mode = .run) (hrunc : fc.mode = .run)
    (t1 : fl.todo = (.inRegion ops (i :: rest) :: its) ++ tl) (t2 : fc.todo = (.inRegion ops (i :: rest) :: its) ++ tc) (hits : ∀ it ∈ its, itemOk X.P X.Fs it = true) (hops : opsOk X.P X.Fs ops (i :: rest) = true) (ho : ops[i]? = some o)
    (hwl : Region.wanted o (yielded ops fl.tmps) = true)
    (hfin : ∀ {B' : Nat} {u u' : Value}, wl.heap.size ≤ B' → RV X B' u u' → ST X B' kl kc csl csc (fl.finish u :: cl) (fc.finish u' :: cc))
    (ht : ∀ i q, v.drawn + i < (opW X.P fc v).drawn → wl.tape (wl.drawn + i) q = v.tape (v.drawn + i) q) (hs : ∀ i, v.heap.size + i < (opW X.P fc v).heap.size → X.ρ.f (wl.heap.size + i) = v.heap.size + i) :
    Out X main kl kc csl csc fl fc cl cc wl v := by
  have hwc : Region.wanted o (yielded ops fc.tmps) = true := by rw [show yielded ops fc.tmps = yielded ops fl.tmps from funext (yielded_same hfr.tmps ops)]; exact hwl
  have hoo : opOk X.P X.Fs o = true := (opsOk_cons hops).2 o ho
  have hE := hfr.eval hF hG
  have hsr := sr_execOp (X := X) hz hF hO.bodied hE hoo
  have hop : opW X.P fc v = resW ((execOp fc.eval o).runT X.P v #[]).1 := by
    unfold opW
    simp only [hrunc, t2, List.cons_append, ho, hwc, if_true]
  rw [hop] at ht hs
  obtain ⟨r1, r2⟩ := hsr.run X wl v #[] #[] rfl hw (by simp) ht hs
  have sl := sg_oper (P := X.P) (main := true) (cs := cl) (w := wl) hrun t1 hfr.rol ho hwl
  have sc := sg_oper (P := X.P) (main := main) (cs := cc) (w := v) hrunc t2 hfr.roc ho hwc
  have hm := runT_mono X.P (execOp fl.eval o) wl #[]
  generalize hrl : (execOp fl.eval o).runT X.P wl #[] = rl at r1 r2 hm
  generalize hrc : (execOp fc.eval o).runT X.P v #[] = rc at r1 r2 hop
  obtain ⟨rl, el⟩ := rl
  obtain ⟨rc, ec⟩ := rc
  simp only at r1 r2 hm hop
  have ev : ∀ {a : Next} {w1 : World}, rl = .ok a w1 → ec = el.map (renE X) ∧ ∀ e ∈ seen X.P fl.fn el, evOk X w1.heap.size e := by
    intro a w1 e
    rcases r2 with ⟨hh, ww, h1, _⟩ | h1
    · rw [h1] at e; cases e
    · refine ⟨h1.1, fun x hx => ?_⟩
      rcases h1.2 x (seen_sub hx) with h2 | h2
      · simp at h2
      · rw [e] at h2; exact h2
  cases r1 with
  | dead hd =>
    rcases apply_dead (fr := fl) (cs := cl) hrl hd with ⟨o1, w1, es1, h1⟩ | ⟨ch, w1, es1, h1⟩
    · exact .dead ⟨o1, w1, es1, sl.trans h1⟩
    · exact .pan ⟨ch, w1, es1, sl.trans h1⟩
  | ok hN hw' hstep =>
    obtain ⟨e1, e2⟩ := ev rfl
    subst e1
    have hse : seen X.P fc.fn (el.map (renE X)) = (seen X.P fl.fn el).map (renE X) := by rw [hfr.fn]; exact seen_ren _ _ _
    have hsz := hm.size
    simp only [resW] at hsz hop
    cases hN with
    | value hv =>
      refine .ok (sl.trans (apply_value hrl hfr.kindl)) ((sc.trans (apply_value hrc hfr.kindc)).trans (by rw [hse])) (hfin hsz hv) hw' hstep hm hop.symm e2
    | skip =>
      refine .ok (sl.trans (apply_skip hrl hfr.kindl)) ((sc.trans (apply_skip hrc hfr.kindc)).trans (by rw [hse])) (hfin hsz ⟨(ren_undef _).symm, okJ_undef _ _⟩) hw' hstep hm hop.symm e2
    | enter hf ha =>
      refine .ok (sl.trans (apply_enter hrl hfr.kindl t1)) ((sc.trans (apply_enter hrc hfr.kindc t2)).trans (by rw [hse])) (.cons (FR.enter hO hf ha) hf ⟨ops, i, rest, its ++ tl, by simp [t1]⟩ (hST.mono hsz)) hw' hstep hm hop.symm e2
end
end Go.Proofs.Ytmmolicodlmlkaa.Rel
namespace Go.Proofs.Ytmmolicodlmlkaa.Rel
open Go.Conc (G)
set_option linter.unusedVariables false
variable {X : Cx} {B : Nat}
section
variable {main : Bool} {kl kc : List Item} {csl csc : List Frame} {fl fc : Frame} {cl cc : List Frame} {wl v : World}
/-- The items behind: none, or one that refuses. -/
def Tail (kl kc : List Item) : Prop := (kl = [] ∧ kc = []) ∨ kl = [.code (.refuse "")]
/-- The moves that leave the world. -/
theorem out_move (hw : WR X wl v) (hop : opW X.P fc v = v) {gl gc : Frame} (sl : stepG X.P true (G fl cl) wl = .go (G gl cl) wl #[]) (sc : stepG X.P main (G fc cc) v = .go (G gc cc) v #[]) (hST : ST X wl.heap.size kl kc csl csc (gl :: cl) (gc :: cc)) :
    Out X main kl kc csl csc fl fc cl cc wl v := .ok sl (by rw [mapE0]; exact sc) hST hw (Step.refl X _ _) (Mono.refl _) hop.symm (by simp)
theorem FR.to {kl kc : List Item} {fl fc : Frame} (h : FR X B kl kc fl fc) {its tl tc : List Item} (hT : TL X.P X.Fs kl kc tl tc) (hi : ∀ it ∈ its, itemOk X.P X.Fs it = true) : FR X B kl kc { fl with todo := its ++ tl } { fc with todo := its ++ tc } :=
  ⟨h.fn, h.tmps, ⟨its, tl, tc, rfl, rfl, hi, hT⟩, h.defl, h.defc, h.mode, h.kindl, h.kindc, h.rol, h.roc⟩
theorem FR.back {kl kc : List Item} {fl fc : Frame} (h : FR X B kl kc fl fc) : FR X B kl kc { fl with mode := .returning } { fc with mode := .returning } :=
  ⟨h.fn, h.tmps, h.todo, h.defl, h.defc, .inr ⟨rfl, rfl⟩, h.kindl, h.kindc, h.rol, h.roc⟩
theorem bool_ren (ρ : Rn) {u : Value} {b : Bool} (h : ren ρ u = .bool b) : u = .bool b := by
  cases u
  case func fn a' b' =>
    have hf := ren_fn ρ fn a' b'
    rw [h] at hf
    simp [hidV] at hf
  all_goals first
    | (simp only [ren_bool] at h; exact h)
    | (simp only [ren_int, ren_float, ren_complex, ren_string, ren_pointer, ren_slice, ren_map, ren_chan, ren_iface, ren_agg, ren_tuple, ren_nilFunc, ren_nilIface] at h; cases h)
theorem TL.far {P : Program} {Fs : Fns} {kl kc tl tc : List Item} (hk : Tail kl kc) (h : TL P Fs kl kc tl tc) (n : Nat) : exitTo n tl = none ∧ gotoIn n tl = none := by
  have key : ∀ {x : Code} {l : List Item}, exitTo n (.code x :: l) = exitTo n l ∧ gotoIn n (.code x :: l) = gotoIn n l := ⟨rfl, rfl⟩
  induction h with
  | here => rcases hk with ⟨rfl, _⟩ | rfl <;> exact ⟨rfl, rfl⟩
  | seq _ _ ih => exact ih
/-- A frame that runs. -/
theorem out_run (hz : ZeroOk X.P) (hF : Fix X) (hO : FnsOk X) (hG : X.P.globals.size ≤ wl.heap.size) {k1 k2 : List Item} (hk : Tail k1 k2)
    (hST : ST X wl.heap.size kl kc csl csc (fl :: cl) (fc :: cc)) (hw : WR X wl v) (hfr : FR X wl.heap.size k1 k2 fl fc) (hrun : fl.mode = .run) (hrunc : fc.mode = .run)
    (hput : ∀ {B' : Nat} {gl gc : Frame}, wl.heap.size ≤ B' → gl.fn = fl.fn → FR X B' k1 k2 gl gc → ST X B' kl kc csl csc (gl :: cl) (gc :: cc))
    (ht : ∀ i q, v.drawn + i < (opW X.P fc v).drawn → wl.tape (wl.drawn + i) q = v.tape (v.drawn + i) q) (hs : ∀ i, v.heap.size + i < (opW X.P fc v).heap.size → X.ρ.f (wl.heap.size + i) = v.heap.size + i) :
    Out X main kl kc csl csc fl fc cl cc wl v := by
  obtain ⟨its, tl, tc, t1, t2, hits, hT⟩ := hfr.todo
  have dead : ∀ {o : Outcome}, stepG X.P true (G fl cl) wl = .ended o wl #[] → Out X main kl kc csl csc fl fc cl cc wl v := fun h => .dead ⟨_, _, _, h⟩
  have put := fun {gl gc : Frame} (h : FR X wl.heap.size k1 k2 gl gc) (e : gl.fn = fl.fn) => hput (Nat.le_refl _) e h
  have hmk : ∀ {md : FrameMode}, ({ fl with mode := md } : Frame).fn = fl.fn := rfl
  cases its with
  | nil =>
    cases hT with
    | seq ha hT =>
      refine out_move hw ?_ (sg_ctl (k' := [.code _] ++ (.code _ :: _)) hrun t1 rfl) (sg_ctl (k' := [.code _] ++ (.code _ :: _)) hrunc t2 rfl) (put (hfr.to hT fun it hit => by simp at hit; rw [hit]; exact ha) rfl)
      unfold opW; simp only [hrunc, t2, List.nil_append]
    | here =>
    rcases hk with ⟨rfl, rfl⟩ | rfl
    · refine out_move hw ?_ (sg_nil hrun t1 hfr.rol) (sg_nil hrunc t2 hfr.roc) (put hfr.back rfl)
      unfold opW; simp only [hrunc, t2, List.append_nil]
    · obtain ⟨o, h⟩ := sg_refuse (P := X.P) (main := true) (cs := cl) (w := wl) hrun t1
      exact dead h
  | cons it its =>
    have hit : itemOk X.P X.Fs it = true := hits it List.mem_cons_self
    have hits' : ∀ x ∈ its, itemOk X.P X.Fs x = true := fun x hx => hits x (List.mem_cons_of_mem _ hx)
    rw [List.cons_append] at t1 t2
    cases hc : ctl it its with
    | some k' =>
      refine out_move hw ?_ (sg_ctl hrun t1 (ctl_app hc)) (sg_ctl hrunc t2 (ctl_app hc)) (put (hfr.to hT (ctl_ok hc hit hits')) rfl)
      unfold opW; simp only [hrunc, t2]
      unfold ctl at hc
      split at hc <;> first
        | rfl
        | cases hc
    | none =>
      cases it with
      | code c =>
        cases c with
        | skip => cases hc
        | label l => cases hc
        | seq a b => cases hc
        | block id a => cases hc
        | loop a => cases hc
        | scope a => cases hc
        | rangeFunc f ps a b => cases hit
        | refuse y =>
          obtain ⟨o, h⟩ := sg_refuse (P := X.P) (main := true) (cs := cl) (w := wl) hrun t1
          exact dead h
        | ret =>
          refine out_move hw ?_ (sg_ret hrun t1 hfr.rol) (sg_ret hrunc t2 hfr.roc) (put hfr.back rfl)
          unfold opW; simp only [hrunc, t2]
        | cond c x y =>
          simp only [itemOk, codeOk, Bool.and_eq_true] at hit
          have hev := hfr.eval hF hG c hit.1.1
          by_cases hb : ∃ b, fl.eval c = .bool b
          · obtain ⟨b, hb⟩ := hb
            have hb2 : fc.eval c = .bool b := by rw [hev.1, hb, ren_bool]
            have hok : ∀ z ∈ (.code (if b then x else y) :: its : List Item), itemOk X.P X.Fs z = true := by
              intro z hz
              rcases List.mem_cons.1 hz with e | e
              · rw [e]; cases b
                · exact hit.2
                · exact hit.1.2
              · exact hits' z e
            refine out_move hw ?_ (sg_cond hrun t1 hb) (sg_cond hrunc t2 hb2) (put (hfr.to hT hok) rfl)
            unfold opW; simp only [hrunc, t2]
          · obtain ⟨o, h⟩ := sg_cond_no (P := X.P) (main := true) (cs := cl) (w := wl) hrun t1 (fun b e => hb ⟨b, e⟩)
            exact dead h
        | exit id =>
          have e1 := exitTo_app id its tl
          have e2 := exitTo_app id its tc
          cases he : exitTo id its with
          | some r =>
            rw [he] at e1 e2
            refine out_move hw ?_ (sg_exit hrun t1 e1) (sg_exit hrunc t2 e2) (put (hfr.to hT (exitTo_ok id its r he hits')) rfl)
            unfold opW; simp only [hrunc, t2]
          | none =>
            rw [he] at e1
            have : exitTo id tl = none := (hT.far hk id).1
            rw [this] at e1
            obtain ⟨o, h⟩ := sg_exit_no (P := X.P) (main := true) (cs := cl) (w := wl) hrun t1 hfr.rol e1
            exact dead h
        | goto l =>
          have e1 := gotoIn_app l its tl
          have e2 := gotoIn_app l its tc
          cases he : gotoIn l its with
          | some r =>
            rw [he] at e1 e2
            refine out_move hw ?_ (sg_goto hrun t1 e1) (sg_goto hrunc t2 e2) (put (hfr.to hT (gotoIn_ok l its r he hits')) rfl)
            unfold opW; simp only [hrunc, t2]
          | none =>
            rw [he] at e1
            have : gotoIn l tl = none := (hT.far hk l).2
            rw [this] at e1
            obtain ⟨o, h⟩ := sg_goto_no (P := X.P) (main := true) (cs := cl) (w := wl) hrun t1 hfr.rol e1
            exact dead h
        | region id ops draw =>
          cases draw with
          | false => cases hc
          | true =>
            have hop : opW X.P fc v = { v with drawn := v.drawn + 1 } := by unfold opW; simp only [hrunc, t2]
            rw [hop] at ht
            have h0 := ht 0 (.order fl.fn id) (by simp only; omega)
            rw [Nat.add_zero, Nat.add_zero] at h0
            have hok : ∀ l, ∀ z ∈ (.inRegion ops l :: its : List Item), itemOk X.P X.Fs z = true := by
              intro l z hz
              rcases List.mem_cons.1 hz with e | e
              · rw [e]; exact opsOk_all hit _
              · exact hits' z e
            refine .ok (wl' := { wl with drawn := wl.drawn + 1 }) (v' := { v with drawn := v.drawn + 1 }) (sg_draw hrun t1) (by rw [mapE0]; exact sg_draw hrunc t2) ?_ ⟨hw.blk, hw.off, hw.fresh, hw.nam⟩ ⟨by simp only; omega, Nat.add_comm _ _, rfl, rfl, rfl, rfl, rfl, rfl, fun _ _ _ => rfl⟩ ⟨Nat.le_succ _, Nat.le_refl _, rfl⟩ hop.symm (by simp)
            have e : v.tape v.drawn (.order fc.fn id) = wl.tape wl.drawn (.order fl.fn id) := by rw [hfr.fn, ← h0]
            rw [e]
            exact put (hfr.to hT (hok (Region.schedule (X.P.follows .mixedOrders) ops (wl.tape wl.drawn (.order fl.fn id))))) rfl
      | inBlock id => cases hc
      | inLoop a => cases hc
      | inScope a => cases hc
      | inRangeFunc l => cases hit
      | endRangeFunc l => cases hit
      | beginRound => cases hit
      | call d a b c => cases hit
      | inRegion ops l =>
        cases l with
        | nil => cases hc
        | cons i rest =>
          by_cases hwd : ((ops[i]?).map (Region.wanted · (yielded ops fl.tmps))).getD false = true
          · cases ho : ops[i]? with
            | none => rw [ho] at hwd; cases hwd
            | some o =>
              rw [ho] at hwd
              simp only [Option.map_some, Option.getD_some] at hwd
              exact out_op hz hF hO hG hST hw hfr hrun hrunc t1 t2 hits' hit ho hwd (fun hB hu => hput hB (by unfold Frame.finish; rw [t1]) (FR.finish (hfr.mono hB) hT hu t1 t2 hits' hit)) ht hs
          · have h1 : ((ops[i]?).map (Region.wanted · (yielded ops fl.tmps))).getD false = false := by simpa using hwd
            have h2 : ((ops[i]?).map (Region.wanted · (yielded ops fc.tmps))).getD false = false := by
              rw [show yielded ops fc.tmps = yielded ops fl.tmps from funext (yielded_same hfr.tmps ops)]; exact h1
            refine out_move hw ?_ (sg_skipop hrun t1 h1) (sg_skipop hrunc t2 h2) (hput (Nat.le_refl _) (by unfold Frame.finish; rw [t1]) (FR.finish hfr hT ⟨(ren_undef _).symm, okJ_undef _ _⟩ t1 t2 hits' hit))
            unfold opW; simp only [hrunc, t2]
            cases ho : ops[i]? with
            | none => rfl
            | some o =>
              rw [ho] at h2
              simp only [Option.map_some, Option.getD_some] at h2
              simp only [h2, Bool.false_eq_true, if_false]
      | _ => cases hit
/-- ████ ONE STEP. ████ -/
theorem out (hz : ZeroOk X.P) (hF : Fix X) (hO : FnsOk X) (hG : X.P.globals.size ≤ wl.heap.size) (hk : Tail kl kc)
    (hST : ST X wl.heap.size kl kc csl csc (fl :: cl) (fc :: cc)) (hw : WR X wl v) (hnl : fl.mode = .returning → cl ≠ csl ∨ cc ≠ csc)
    (ht : ∀ i q, v.drawn + i < (opW X.P fc v).drawn → wl.tape (wl.drawn + i) q = v.tape (v.drawn + i) q) (hs : ∀ i, v.heap.size + i < (opW X.P fc v).heap.size → X.ρ.f (wl.heap.size + i) = v.heap.size + i) :
    Out X main kl kc csl csc fl fc cl cc wl v := by
  rcases hST.fr with ⟨hfr, rfl, rfl⟩ | ⟨hfr, hfs, htop, hST'⟩
  · rcases hfr.mode with ⟨hrun, hrunc⟩ | ⟨hrun, hrunc⟩
    · exact out_run hz hF hO hG hk hST hw hfr hrun hrunc (fun _ _ h => .last h) ht hs
    · rcases hnl hrun with h | h <;> exact absurd rfl h
  · rcases hfr.mode with ⟨hrun, hrunc⟩ | ⟨hrun, hrunc⟩
    · exact out_run hz hF hO hG (.inl ⟨rfl, rfl⟩) hST hw hfr hrun hrunc (fun hB hf h => .cons h (by rw [hf]; exact hfs) htop (hST'.mono hB)) ht hs
    · -- the return
      obtain ⟨fn, c, h1, _, _, _, h5⟩ := hO fl.fn hfs
      have h1c : X.P.funcs[fc.fn]? = some fn := by rw [hfr.fn]; exact h1
      obtain ⟨dl, ll, hcl⟩ : ∃ dl ll, cl = dl :: ll := by cases hST' <;> exact ⟨_, _, rfl⟩
      obtain ⟨dc, lc, hcc⟩ : ∃ dc lc, cc = dc :: lc := by cases hST' <;> exact ⟨_, _, rfl⟩
      subst hcl; subst hcc
      obtain ⟨ops, i, rest, k, htd⟩ := htop
      simp only [List.head?_cons, Option.map_some, Option.some.injEq] at htd
      have hsr := sr_results (X := X) hfr.tmps h5
      have hop : opW X.P fc v = resW ((results fn fc.tmps).runT X.P v #[]).1 := by
        unfold opW; simp only [hrunc, h1c]
      rw [hop] at ht hs
      obtain ⟨r1, r2⟩ := hsr.run X wl v #[] #[] rfl hw (by simp) ht hs
      have hm := runT_mono X.P (results fn fl.tmps) wl #[]
      generalize hrl : (results fn fl.tmps).runT X.P wl #[] = rl at r1 r2 hm
      generalize hrc : (results fn fc.tmps).runT X.P v #[] = rc at r1 r2 hop
      obtain ⟨rl, el⟩ := rl
      obtain ⟨rc, ec⟩ := rc
      simp only at r1 r2 hm hop
      cases r1 with
      | dead hd =>
        obtain ⟨o1, w1, es1, hx⟩ := sg_leave_dead (main := true) (c := dl) (cs := ll) hrun hfr.defl h1 hrl
        exact .dead ⟨o1, w1, es1, hx⟩
      | @ok a b wl' v' hN hw' hstep =>
        have e1 : ec = el.map (renE X) ∧ ∀ e ∈ seen X.P fl.fn el, evOk X wl'.heap.size e := by
          rcases r2 with ⟨hh, ww, hx, _⟩ | hx
          · cases hx
          · refine ⟨hx.1, fun x hxx => ?_⟩
            rcases hx.2 x (seen_sub hxx) with h2 | h2
            · simp at h2
            · exact h2
        obtain ⟨e1, e2⟩ := e1
        subst e1
        have hse : seen X.P fc.fn (el.map (renE X)) = (seen X.P fl.fn el).map (renE X) := by rw [hfr.fn]; exact seen_ren _ _ _
        have hsz := hm.size
        simp only [resW] at hsz hop
        refine .ok (sg_leave hrun hfr.defl hfr.kindl h1 hrl) ((sg_leave hrunc hfr.defc hfr.kindc h1c hrc).trans (by rw [hse])) ?_ hw' hstep hm hop.symm e2
        have fin : ∀ {k1 k2 : List Item}, FR X wl.heap.size k1 k2 dl dc → Tail k1 k2 → FR X wl'.heap.size k1 k2 (dl.finish a) (dc.finish b) := by
          intro k1 k2 h hk
          obtain ⟨its, tl, tc, t1, t2, hits, hT⟩ := h.todo
          cases its with
          | nil =>
            rw [htd] at t1
            cases hT with
            | seq _ _ => cases t1
            | here => rcases hk with ⟨rfl, rfl⟩ | rfl <;> cases t1
          | cons it its =>
            rw [htd, List.cons_append] at t1
            injection t1 with q1 q2
            subst q1
            exact FR.finish (h.mono hsz) hT hN (by rw [htd, q2]; rfl) t2 (fun x hx => hits x (List.mem_cons_of_mem _ hx)) (hits _ List.mem_cons_self)
        rcases hST'.fr with ⟨hf, rfl, rfl⟩ | ⟨hf, hf2, hf3, hf4⟩
        · exact .last (fin hf hk)
        · exact .cons (fin hf (.inl ⟨rfl, rfl⟩)) (by unfold Frame.finish; rw [htd]; exact hf2) hf3 (hf4.mono hsz)
end
end Go.Proofs.Ytmmolicodlmlkaa.Rel
