/-
  Parts of the proof: A goroutine's walk does not hang on the numbers of blocks: values, worlds and operations whose blocks are renamed. A goroutine's walk does not hang on the numbers of blocks: what a run of an operation leaves: never fewer blocks, never fewer draws. A goroutine's walk does not hang on the numbers of blocks: operations that are alike but for the names of blocks; what they leave is alike. A goroutine's walk does not hang on the numbers of blocks: two worlds that are alike but for the names of blocks stay so. A goroutine's walk does not hang on the numbers of blocks: the model's small parts (types, No condition.
-/
import Derived.Calls
set_option linter.unusedVariables false
set_option linter.unusedSimpArgs false
namespace Go.Proofs.Ytmmolicodlmlkaa.Rel
set_option linter.unusedVariables false

/-- A renaming of blocks: no two become one. -/
structure Rn where
  f : Nat → Nat
  inj : ∀ a b, f a = f b → a = b
variable (ρ : Rn)

def renA (a : Addr) : Addr := { a with block := ρ.f a.block }
/-- The base of a slice: one that holds nothing may lie anywhere; its place is hidden in the spot. -/
def markA (a : Addr) : Addr := { a with spot := some (match a.spot with | none => 0 | some k => k + 1) }
def openA (a : Addr) (k : Nat) : Addr := { a with spot := match k with | 0 => none | k + 1 => some k }
def renS (a : Addr) : Addr := match a.spot with
  | none => { a with block := ρ.f a.block }
  | some k => openA a k
@[simp] theorem renS_mark (a : Addr) : renS ρ (markA a) = a := by
  obtain ⟨b, o, s⟩ := a
  cases s <;> rfl
theorem renS_none {a : Addr} (h : a.spot = none) : renS ρ a = renA ρ a := by
  obtain ⟨b, o, s⟩ := a
  simp only at h
  subst h
  rfl
/-- What may be hidden from the lone goroutine. -/
def hidV : Value → Bool
  | .pointer (some _) | .slice (some _) _ _ | .map (some _) | .chan (some _) | .func _ _ _ | .complex _ _ _ | .iface _ _ => true
  | _ => false
/-- .. and stands so in its world: a method of no receiver. -/
def junk (v : Value) : Value := .func (.method "") #[.nilIface] #[v]
def payload (captured : Array Value) : Value := match captured[0]? with
  | some v => if hidV v then v else .nilFunc
  | none => .nilFunc
def ren : Value → Value
  | .pointer a => .pointer (a.map (renA ρ))
  | .slice a n c => .slice (a.map (renS ρ)) n c
  | .map r => .map (r.map ρ.f)
  | .chan r => .chan (r.map ρ.f)
  | .func (.func f) first captured => .func (.func f) (first.attach.map fun ⟨v, _⟩ => ren v) (captured.attach.map fun ⟨v, _⟩ => ren v)
  | .func _ _ captured => payload captured
  | .iface t v => .iface t (ren v)
  | .agg cs => .agg (cs.attach.map fun ⟨v, _⟩ => ren v)
  | .tuple vs => .tuple (vs.attach.map fun ⟨v, _⟩ => ren v)
  | .bool b => .bool b
  | .int k n => .int k n
  | .float k b => .float k b
  | .complex k a b => .complex k a b
  | .string s => .string s
  | .nilFunc => .nilFunc
  | .nilIface => .nilIface
termination_by v => SizeOf.sizeOf v

@[simp] theorem ren_bool (b : Bool) : ren ρ (.bool b) = .bool b := by rw [ren]
@[simp] theorem ren_int (k : IntKind) (n : Int) : ren ρ (.int k n) = .int k n := by rw [ren]
@[simp] theorem ren_float (k : FloatKind) (n : Nat) : ren ρ (.float k n) = .float k n := by rw [ren]
@[simp] theorem ren_complex (k : FloatKind) (a b : Nat) : ren ρ (.complex k a b) = .complex k a b := by rw [ren]
@[simp] theorem ren_string (s : ByteArray) : ren ρ (.string s) = .string s := by rw [ren]
@[simp] theorem ren_pointer (a : Option Addr) : ren ρ (.pointer a) = .pointer (a.map (renA ρ)) := by rw [ren]
@[simp] theorem ren_slice (a : Option Addr) (n c : Nat) : ren ρ (.slice a n c) = .slice (a.map (renS ρ)) n c := by rw [ren]
@[simp] theorem ren_map (r : Option Nat) : ren ρ (.map r) = .map (r.map ρ.f) := by rw [ren]
@[simp] theorem ren_chan (r : Option Nat) : ren ρ (.chan r) = .chan (r.map ρ.f) := by rw [ren]
@[simp] theorem ren_nilFunc : ren ρ .nilFunc = .nilFunc := by rw [ren]
@[simp] theorem ren_nilIface : ren ρ .nilIface = .nilIface := by rw [ren]
@[simp] theorem ren_iface (t : TypeId) (v : Value) : ren ρ (.iface t v) = .iface t (ren ρ v) := by rw [ren]
theorem attach_map_ren (cs : Array Value) : (cs.attach.map fun ⟨v, _⟩ => ren ρ v) = cs.map (ren ρ) := by
  have : (cs.attach.map fun ⟨v, _⟩ => ren ρ v) = cs.attach.map fun x => ren ρ x.1 := rfl
  rw [this, Array.attach_map_val]
@[simp] theorem ren_agg (cs : Array Value) : ren ρ (.agg cs) = .agg (cs.map (ren ρ)) := by rw [ren, attach_map_ren]
@[simp] theorem ren_tuple (cs : Array Value) : ren ρ (.tuple cs) = .tuple (cs.map (ren ρ)) := by rw [ren, attach_map_ren]
@[simp] theorem ren_func (f : FuncId) (a b : Array Value) : ren ρ (.func (.func f) a b) = .func (.func f) (a.map (ren ρ)) (b.map (ren ρ)) := by rw [ren, attach_map_ren, attach_map_ren]
theorem ren_other {fn : Fn} (h : ∀ f, fn ≠ .func f) (a b : Array Value) : ren ρ (.func fn a b) = payload b := by
  cases fn <;> first | exact absurd rfl (h _) | (rw [ren]; intro f h; cases h)
theorem payload_or (b : Array Value) : hidV (payload b) = true ∨ payload b = .nilFunc := by
  unfold payload
  split
  · split
    · exact .inl ‹_›
    · exact .inr rfl
  · exact .inr rfl
theorem hid_cells {v : Value} (h : hidV v = true) : v.cells = #[v] := by
  cases v <;> first | rfl | cases h
theorem payload_cells (b : Array Value) : (payload b).cells = #[payload b] := by
  rcases payload_or b with h | h
  · exact hid_cells h
  · rw [h]; rfl
@[simp] theorem ren_junk {v : Value} (h : hidV v = true) : ren ρ (junk v) = v := by
  rw [junk, ren_other ρ (by intro f h; cases h)]
  simp [payload, h]
/-- A function's value is one of the program's own, or hidden. -/
theorem fn_cases (fn : Fn) : (∃ f, fn = .func f) ∨ ∀ f, fn ≠ .func f := by
  cases fn <;> first | exact .inl ⟨_, rfl⟩ | exact .inr (by intro f h; cases h)
theorem ren_fn (fn : Fn) (a b : Array Value) : hidV (ren ρ (.func fn a b)) = true ∨ ren ρ (.func fn a b) = .nilFunc := by
  rcases fn_cases fn with ⟨f, rfl⟩ | h
  · rw [ren_func]; exact .inl rfl
  · rw [ren_other ρ h]; exact payload_or b
theorem ren_cells (v : Value) : (ren ρ v).cells = v.cells.map (ren ρ) := by
  cases v
  case func fn a b =>
    rcases fn_cases fn with ⟨f, rfl⟩ | h
    · simp [Value.cells]
    · rw [ren_other ρ h, payload_cells, ← ren_other ρ h a]
      simp [Value.cells]
  all_goals simp [Value.cells]
@[simp] theorem renA_add (a : Addr) (n : Nat) : renA ρ (a.add n) = (renA ρ a).add n := by
  unfold Addr.add renA
  split <;> rfl
end Go.Proofs.Ytmmolicodlmlkaa.Rel
namespace Go.Proofs.Ytmmolicodlmlkaa.Rel
set_option linter.unusedVariables false

def resW {α : Type} : Result α → World
  | .ok _ w => w
  | .halt _ w => w
/-- No fewer blocks, no fewer draws; the tape is the same. -/
structure Mono (w w' : World) : Prop where
  drawn : w.drawn ≤ w'.drawn
  size : w.heap.size ≤ w'.heap.size
  tape : w'.tape = w.tape
theorem Mono.refl (w : World) : Mono w w := ⟨Nat.le_refl _, Nat.le_refl _, rfl⟩
theorem Mono.trans {a b c : World} (h : Mono a b) (k : Mono b c) : Mono a c := ⟨Nat.le_trans h.drawn k.drawn, Nat.le_trans h.size k.size, k.tape.trans h.tape⟩
theorem ask_mono {α : Type} : ∀ (x : Ask α) (w : World), Mono w (w.ask x).2
  | .done a, w => Mono.refl w
  | .ask what range k, w => by
    unfold World.ask
    simp only []
    split
    · exact ask_mono (k 0) w
    · exact Mono.trans (b := { w with drawn := w.drawn + 1 }) ⟨Nat.le_succ _, Nat.le_refl _, rfl⟩ (ask_mono (k _) _)
theorem sys_mono (w : World) (c : Sys) : Mono w (w.sys c).2 := by
  unfold World.sys
  have h := ask_mono (Kernel.perform c w.os) w
  generalize w.ask (Kernel.perform c w.os) = p at h
  obtain ⟨⟨r, os⟩, w'⟩ := p
  cases r <;> first | exact Mono.refl _ | exact ⟨h.drawn, h.size, h.tape⟩
theorem viewStore_mono {p : Program} {w w' : World} {at_ : Addr} {u : TypeId} {k : Addr} {v : Value} {b : Bool} {l : List Addr} (h : w.viewStore p at_ u k v b = .ok (w', l)) : Mono w w' := by
  unfold World.viewStore at h
  simp only [bind, Except.bind, pure, Except.pure] at h
  repeat (first | (split at h) | (injection h with h; injection h with h1 h2; subst h1; exact ⟨Nat.le_refl _, by simp, rfl⟩) | (cases h))
theorem farStore_mono {p : Program} {w w' : World} {a : Addr} {v : Value} {b : Bool} {l : List Addr} (h : w.farStore p a v b = .ok (w', l)) : Mono w w' := by
  unfold World.farStore at h
  split at h
  · split at h
    · rename_i r hr
      injection h with h
      subst h
      exact viewStore_mono hr
    · cases h
  · cases h
theorem runT_mono {α : Type} (P : Program) : ∀ (s : Sem α) (w : World) (es : Array Event), Mono w (resW (s.runT P w es).1) := by
  intro s
  induction s with
  | pure a => intro w es; exact Mono.refl w
  | load m a k ih =>
    intro w es
    unfold Sem.runT
    split
    · exact ih _ _ _
    · split
      · exact ih _ _ _
      · exact Mono.refl w
  | store m a v k ih =>
    intro w es
    cases v
    case agg => exact Mono.refl w
    case tuple => exact Mono.refl w
    all_goals
      simp only [Sem.runT]
      split
      · split
        · exact Mono.refl w
        · exact Mono.trans (b := w.setCell a _) ⟨Nat.le_refl _, by simp [World.setCell], rfl⟩ (ih _ _)
      · split
        · rename_i hf; exact Mono.trans (farStore_mono hf) (ih _ _)
        · exact Mono.refl w
  | new o k ih => intro w es; exact Mono.trans (b := { w with heap := w.heap.push o }) ⟨Nat.le_refl _, by simp, rfl⟩ (ih _ _ _)
  | shape r k ih => intro w es; exact ih _ _ _
  | freeze a n k ih =>
    intro w es
    refine Mono.trans (b := w.freeze a n) ?_ (ih _ _)
    unfold World.freeze
    split
    · exact Mono.refl w
    · exact ⟨Nat.le_refl _, by simp, rfl⟩
  | frozen a k ih => intro w es; exact ih _ _ _
  | getObj r k ih =>
    intro w es
    unfold Sem.runT
    split
    · exact Mono.refl w
    · exact ih _ _ _
    · exact Mono.refl w
  | setObj r o k ih =>
    intro w es
    unfold Sem.runT
    split
    · exact Mono.refl w
    · exact Mono.trans (b := { w with heap := w.heap.setIfInBounds r o }) ⟨Nat.le_refl _, by simp, rfl⟩ (ih _ _)
    · exact Mono.refl w
  | choose q k ih =>
    intro w es
    unfold Sem.runT
    split
    · exact ih _ _ _
    · exact Mono.trans (b := { w with drawn := w.drawn + 1 }) ⟨Nat.le_succ _, Nat.le_refl _, rfl⟩ (ih _ _ _)
  | sys c k ih => intro w es; exact Mono.trans (sys_mono w c) (ih _ _ _)
  | program k ih => intro w es; exact ih _ _ _
  | mark m k ih => intro w es; exact ih _ _
  | halt h => intro w es; exact Mono.refl w
end Go.Proofs.Ytmmolicodlmlkaa.Rel
namespace Go.Proofs.Ytmmolicodlmlkaa.Rel
set_option linter.unusedVariables false

/-- Which functions may be called, which of the old blocks' addresses may occur, which of the old blocks may be written; na: named alone, never looked into. -/
structure Fns where
  fs : FuncId → Bool
  al : Nat → Bool
  wr : Nat → Bool
  na : Nat → Bool
def inB (Fs : Fns) (B b : Nat) : Bool := decide (b < B) && Fs.al b
theorem inB_mono {Fs : Fns} {B B' b : Nat} (hB : B ≤ B') (h : inB Fs B b = true) : inB Fs B' b = true := by
  unfold inB at h ⊢
  simp only [Bool.and_eq_true, decide_eq_true_eq] at h ⊢
  exact ⟨by omega, h.2⟩
theorem inB_lt {Fs : Fns} {B b : Nat} (h : inB Fs B b = true) : b < B := by
  unfold inB at h
  simp only [Bool.and_eq_true, decide_eq_true_eq] at h
  exact h.1
theorem inB_al {Fs : Fns} {B b : Nat} (h : inB Fs B b = true) : Fs.al b = true := by
  unfold inB at h
  simp only [Bool.and_eq_true, decide_eq_true_eq] at h
  exact h.2
theorem inB_new {Fs : Fns} {B : Nat} (h : Fs.al B = true) : inB Fs (B + 1) B = true := by simp [inB, h]
/-- A slice's base: a place of its own, or hidden where it holds nothing. -/
def inS (Fs : Fns) (B : Nat) (a : Addr) (n c : Nat) : Bool := if a.spot.isNone then inB Fs B a.block else n == 0 && c == 0
def inZ (Fs : Fns) (B : Nat) (a : Addr) : Bool := a.spot.isNone && inB Fs B a.block
theorem inS_mono {Fs : Fns} {B B' : Nat} {a : Addr} {n c : Nat} (hB : B ≤ B') (h : inS Fs B a n c = true) : inS Fs B' a n c = true := by
  unfold inS at h ⊢
  split at h
  · rename_i h1; rw [if_pos h1]; exact inB_mono hB h
  · rename_i h1; rw [if_neg h1]; exact h
theorem inZ_S {Fs : Fns} {B : Nat} {a : Addr} {n c : Nat} (h : inZ Fs B a = true) : inS Fs B a n c = true := by
  unfold inZ at h
  unfold inS
  rw [Bool.and_eq_true] at h
  rw [if_pos h.1]; exact h.2
theorem inZ_none {Fs : Fns} {B : Nat} {a : Addr} (h : inZ Fs B a = true) : a.spot = none ∧ inB Fs B a.block = true := by
  unfold inZ at h
  rw [Bool.and_eq_true] at h
  exact ⟨by simpa using h.1, h.2⟩
def isJunk (first captured : Array Value) : Bool := match first.toList, captured.toList with
  | [.nilIface], [v] => hidV v
  | _, _ => false
/-- Function values are of these functions alone, or stand for what is hidden; addresses name such blocks below B. -/
def okJ (Fs : Fns) (B : Nat) : Value → Bool
  | .func (.func f) first captured => Fs.fs f && (first.attach.all fun ⟨v, _⟩ => okJ Fs B v) && (captured.attach.all fun ⟨v, _⟩ => okJ Fs B v)
  | .func (.method _) first captured => isJunk first captured
  | .func _ _ _ => false
  | .complex _ _ _ => false
  | .iface t v => okJ Fs B v
  | .agg cs => cs.attach.all fun ⟨v, _⟩ => okJ Fs B v
  | .pointer (some a) => inB Fs B a.block
  | .slice (some a) n c => inS Fs B a n c
  | .map (some r) => inB Fs B r
  | .chan (some r) => inB Fs B r
  | .tuple vs => vs.attach.all fun ⟨v, _⟩ => okJ Fs B v
  | _ => true
termination_by v => SizeOf.sizeOf v
theorem attach_all_okJ (Fs : Fns) (B : Nat) (cs : Array Value) : (cs.attach.all fun ⟨v, _⟩ => okJ Fs B v) = cs.all (okJ Fs B) := by
  rw [Bool.eq_iff_iff, Array.all_eq_true', Array.all_eq_true']
  exact ⟨fun h x hx => h ⟨x, hx⟩ (Array.mem_attach _ _), fun h x _ => h x.1 x.2⟩
@[simp] theorem okJ_agg (Fs : Fns) (B : Nat) (cs : Array Value) : okJ Fs B (.agg cs) = cs.all (okJ Fs B) := by rw [okJ, attach_all_okJ]
@[simp] theorem okJ_tuple (Fs : Fns) (B : Nat) (cs : Array Value) : okJ Fs B (.tuple cs) = cs.all (okJ Fs B) := by rw [okJ, attach_all_okJ]
@[simp] theorem okJ_func (Fs : Fns) (B : Nat) (f : FuncId) (a b : Array Value) : okJ Fs B (.func (.func f) a b) = (Fs.fs f && a.all (okJ Fs B) && b.all (okJ Fs B)) := by rw [okJ, attach_all_okJ, attach_all_okJ]
@[simp] theorem okJ_iface (Fs : Fns) (B : Nat) (t : TypeId) (v : Value) : okJ Fs B (.iface t v) = okJ Fs B v := by rw [okJ]
@[simp] theorem okJ_bool (Fs : Fns) (B : Nat) (b : Bool) : okJ Fs B (.bool b) = true := by rw [okJ] <;> simp
@[simp] theorem okJ_int (Fs : Fns) (B : Nat) (k : IntKind) (n : Int) : okJ Fs B (.int k n) = true := by rw [okJ] <;> simp
@[simp] theorem okJ_float (Fs : Fns) (B : Nat) (k : FloatKind) (n : Nat) : okJ Fs B (.float k n) = true := by rw [okJ] <;> simp
@[simp] theorem okJ_string (Fs : Fns) (B : Nat) (s : ByteArray) : okJ Fs B (.string s) = true := by rw [okJ] <;> simp
@[simp] theorem okJ_pointer (Fs : Fns) (B : Nat) (a : Addr) : okJ Fs B (.pointer (some a)) = inB Fs B a.block := by rw [okJ]
@[simp] theorem okJ_pointer0 (Fs : Fns) (B : Nat) : okJ Fs B (.pointer none) = true := by rw [okJ] <;> simp
@[simp] theorem okJ_slice (Fs : Fns) (B : Nat) (a : Addr) (n c : Nat) : okJ Fs B (.slice (some a) n c) = inS Fs B a n c := by rw [okJ]
@[simp] theorem okJ_slice0 (Fs : Fns) (B : Nat) (n c : Nat) : okJ Fs B (.slice none n c) = true := by rw [okJ] <;> simp
@[simp] theorem okJ_nilFunc (Fs : Fns) (B : Nat) : okJ Fs B .nilFunc = true := by rw [okJ] <;> simp
@[simp] theorem okJ_nilIface (Fs : Fns) (B : Nat) : okJ Fs B .nilIface = true := by rw [okJ] <;> simp
theorem okJ_cells {Fs : Fns} {B : Nat} {v : Value} (h : okJ Fs B v = true) : ∀ u ∈ v.cells, okJ Fs B u = true := by
  intro u hu
  cases v
  case agg cs =>
    rw [okJ_agg, Array.all_eq_true'] at h
    exact h u hu
  all_goals
    simp only [Value.cells, List.mem_toArray, List.mem_singleton] at hu
    subst hu
    exact h

theorem okJ_mono (Fs : Fns) {B B' : Nat} (hB : B ≤ B') : ∀ (v : Value), okJ Fs B v = true → okJ Fs B' v = true
  | .func (.func f) a b => by
    simp only [okJ_func, Bool.and_eq_true, Array.all_eq_true']
    exact fun ⟨⟨h1, h2⟩, h3⟩ => ⟨⟨h1, fun x hx => okJ_mono Fs hB x (h2 x hx)⟩, fun x hx => okJ_mono Fs hB x (h3 x hx)⟩
  | .func (.method _) _ _ => by rw [okJ, okJ]; exact id
  | .func (.methodOf _ _) _ _ | .func (.via _ _ _ _) _ _ | .func (.yield _) _ _ => by rw [okJ] <;> simp
  | .iface t v => by rw [okJ_iface, okJ_iface]; exact okJ_mono Fs hB v
  | .agg cs => by
    simp only [okJ_agg, Array.all_eq_true']
    exact fun h x hx => okJ_mono Fs hB x (h x hx)
  | .tuple cs => by
    simp only [okJ_tuple, Array.all_eq_true']
    exact fun h x hx => okJ_mono Fs hB x (h x hx)
  | .pointer (some a) => by rw [okJ_pointer, okJ_pointer]; exact inB_mono hB
  | .slice (some a) n c => by rw [okJ_slice, okJ_slice]; exact inS_mono hB
  | .map (some r) => by rw [okJ, okJ]; exact inB_mono hB
  | .chan (some r) => by rw [okJ, okJ]; exact inB_mono hB
  | .pointer none | .slice none _ _ | .map none | .chan none | .bool _ | .int _ _ | .float _ _ | .string _ | .nilFunc | .nilIface => by
    intro _; rw [okJ] <;> simp
  | .complex _ _ _ => by intro h; rw [okJ] at h; cases h
termination_by v => SizeOf.sizeOf v

/-- .. and nothing is hidden. -/
def okV (Fs : Fns) (B : Nat) : Value → Bool
  | .func (.func f) first captured => Fs.fs f && (first.attach.all fun ⟨v, _⟩ => okV Fs B v) && (captured.attach.all fun ⟨v, _⟩ => okV Fs B v)
  | .func _ _ _ => false
  | .complex _ _ _ => false
  | .iface t v => okV Fs B v
  | .agg cs => cs.attach.all fun ⟨v, _⟩ => okV Fs B v
  | .pointer (some a) => inB Fs B a.block
  | .slice (some a) _ _ => inZ Fs B a
  | .map (some r) => inB Fs B r
  | .chan (some r) => inB Fs B r
  | .tuple vs => vs.attach.all fun ⟨v, _⟩ => okV Fs B v
  | _ => true
termination_by v => SizeOf.sizeOf v
theorem attach_all_okV (Fs : Fns) (B : Nat) (cs : Array Value) : (cs.attach.all fun ⟨v, _⟩ => okV Fs B v) = cs.all (okV Fs B) := by
  rw [Bool.eq_iff_iff, Array.all_eq_true', Array.all_eq_true']
  exact ⟨fun h x hx => h ⟨x, hx⟩ (Array.mem_attach _ _), fun h x _ => h x.1 x.2⟩
@[simp] theorem okV_agg (Fs : Fns) (B : Nat) (cs : Array Value) : okV Fs B (.agg cs) = cs.all (okV Fs B) := by rw [okV, attach_all_okV]
@[simp] theorem okV_tuple (Fs : Fns) (B : Nat) (cs : Array Value) : okV Fs B (.tuple cs) = cs.all (okV Fs B) := by rw [okV, attach_all_okV]
@[simp] theorem okV_func (Fs : Fns) (B : Nat) (f : FuncId) (a b : Array Value) : okV Fs B (.func (.func f) a b) = (Fs.fs f && a.all (okV Fs B) && b.all (okV Fs B)) := by rw [okV, attach_all_okV, attach_all_okV]
@[simp] theorem okV_iface (Fs : Fns) (B : Nat) (t : TypeId) (v : Value) : okV Fs B (.iface t v) = okV Fs B v := by rw [okV]
@[simp] theorem okV_bool (Fs : Fns) (B : Nat) (b : Bool) : okV Fs B (.bool b) = true := by rw [okV] <;> simp
@[simp] theorem okV_int (Fs : Fns) (B : Nat) (k : IntKind) (n : Int) : okV Fs B (.int k n) = true := by rw [okV] <;> simp
@[simp] theorem okV_float (Fs : Fns) (B : Nat) (k : FloatKind) (n : Nat) : okV Fs B (.float k n) = true := by rw [okV] <;> simp
@[simp] theorem okV_string (Fs : Fns) (B : Nat) (s : ByteArray) : okV Fs B (.string s) = true := by rw [okV] <;> simp
@[simp] theorem okV_pointer (Fs : Fns) (B : Nat) (a : Addr) : okV Fs B (.pointer (some a)) = inB Fs B a.block := by rw [okV]
@[simp] theorem okV_pointer0 (Fs : Fns) (B : Nat) : okV Fs B (.pointer none) = true := by rw [okV] <;> simp
theorem okV_sliceZ (Fs : Fns) (B : Nat) (a : Addr) (n c : Nat) : okV Fs B (.slice (some a) n c) = inZ Fs B a := by rw [okV]
theorem okV_sliceA (Fs : Fns) (B : Nat) {a : Addr} (n c : Nat) (h : a.spot = none) : okV Fs B (.slice (some a) n c) = inB Fs B a.block := by rw [okV]; simp [inZ, h]
@[simp] theorem okV_slice (Fs : Fns) (B b o : Nat) (n c : Nat) : okV Fs B (.slice (some ⟨b, o, none⟩) n c) = inB Fs B b := okV_sliceA Fs B n c rfl
@[simp] theorem okV_slice0 (Fs : Fns) (B : Nat) (n c : Nat) : okV Fs B (.slice none n c) = true := by rw [okV] <;> simp
@[simp] theorem okV_nilFunc (Fs : Fns) (B : Nat) : okV Fs B .nilFunc = true := by rw [okV] <;> simp
@[simp] theorem okV_nilIface (Fs : Fns) (B : Nat) : okV Fs B .nilIface = true := by rw [okV] <;> simp
theorem okV_okJ (Fs : Fns) (B : Nat) : ∀ (v : Value), okV Fs B v = true → okJ Fs B v = true
  | .func (.func f) a b => by
    simp only [okV_func, okJ_func, Bool.and_eq_true, Array.all_eq_true']
    exact fun ⟨⟨h1, h2⟩, h3⟩ => ⟨⟨h1, fun x hx => okV_okJ Fs B x (h2 x hx)⟩, fun x hx => okV_okJ Fs B x (h3 x hx)⟩
  | .func (.method _) _ _ | .func (.methodOf _ _) _ _ | .func (.via _ _ _ _) _ _ | .func (.yield _) _ _ => by rw [okV] <;> simp
  | .iface t v => by rw [okV_iface, okJ_iface]; exact okV_okJ Fs B v
  | .agg cs => by
    simp only [okV_agg, okJ_agg, Array.all_eq_true']
    exact fun h x hx => okV_okJ Fs B x (h x hx)
  | .tuple cs => by
    simp only [okV_tuple, okJ_tuple, Array.all_eq_true']
    exact fun h x hx => okV_okJ Fs B x (h x hx)
  | .pointer (some a) => by rw [okV_pointer, okJ_pointer]; exact id
  | .slice (some a) n c => by rw [okV_sliceZ, okJ_slice]; exact inZ_S
  | .map (some r) => by rw [okV, okJ]; exact id
  | .chan (some r) => by rw [okV, okJ]; exact id
  | .pointer none | .slice none _ _ | .map none | .chan none | .bool _ | .int _ _ | .float _ _ | .string _ | .nilFunc | .nilIface => by
    intro _; rw [okJ] <;> simp
  | .complex _ _ _ => by intro h; rw [okV] at h; cases h
termination_by v => SizeOf.sizeOf v
/-- What stands for a value that is hidden. -/
def hideV : Value → Value
  | .slice (some a) 0 0 => .slice (some (markA a)) 0 0
  | v => junk v
/-- What stands for a value in the lone world. -/
def absV (Fs : Fns) (B : Nat) : Value → Value
  | .agg cs => .agg (cs.attach.map fun ⟨v, _⟩ => absV Fs B v)
  | .tuple cs => .tuple (cs.attach.map fun ⟨v, _⟩ => absV Fs B v)
  | v => if okV Fs B v then v else hideV v
termination_by v => SizeOf.sizeOf v
theorem attach_map_absV (Fs : Fns) (B : Nat) (cs : Array Value) : (cs.attach.map fun ⟨v, _⟩ => absV Fs B v) = cs.map (absV Fs B) := by
  have : (cs.attach.map fun ⟨v, _⟩ => absV Fs B v) = cs.attach.map fun x => absV Fs B x.1 := rfl
  rw [this, Array.attach_map_val]
theorem absV_leaf {Fs : Fns} {B : Nat} {v : Value} (h1 : ∀ cs, v ≠ .agg cs) (h2 : ∀ cs, v ≠ .tuple cs) : absV Fs B v = if okV Fs B v then v else hideV v := by
  cases v <;> first | exact absurd rfl (h1 _) | exact absurd rfl (h2 _) | (rw [absV] <;> simp)
theorem hid_of {Fs : Fns} {B : Nat} : ∀ {v : Value}, (∀ cs, v ≠ .agg cs) → (∀ cs, v ≠ .tuple cs) → ¬ okV Fs B v = true → hidV v = true
  | .agg cs, h, _, _ => absurd rfl (h cs)
  | .tuple cs, _, h, _ => absurd rfl (h cs)
  | .pointer none, _, _, h | .slice none _ _, _, _, h | .map none, _, _, h | .chan none, _, _, h | .bool _, _, _, h | .int _ _, _, _, h | .float _ _, _, _, h | .string _, _, _, h | .nilFunc, _, _, h | .nilIface, _, _, h => absurd (by rw [okV] <;> simp) h
  | .pointer (some _), _, _, _ | .slice (some _) _ _, _, _, _ | .map (some _), _, _, _ | .chan (some _), _, _, _ | .func _ _ _, _, _, _ | .complex _ _ _, _, _, _ | .iface _ _, _, _, _ => rfl
theorem okJ_junk {Fs : Fns} {B : Nat} {v : Value} (h : hidV v = true) : okJ Fs B (junk v) = true := by
  unfold junk
  rw [okJ]
  simpa [isJunk] using h
theorem okJ_hide {Fs : Fns} {B : Nat} {v : Value} (h : hidV v = true) : okJ Fs B (hideV v) = true := by
  unfold hideV
  split
  · rw [okJ_slice]; rfl
  · exact okJ_junk h
theorem absV_ok (Fs : Fns) (B : Nat) : ∀ (v : Value), okJ Fs B (absV Fs B v) = true
  | .agg cs => by
    rw [absV, attach_map_absV, okJ_agg, Array.all_eq_true']
    intro x hx
    obtain ⟨y, hy, rfl⟩ := Array.mem_map.1 hx
    exact absV_ok Fs B y
  | .tuple cs => by
    rw [absV, attach_map_absV, okJ_tuple, Array.all_eq_true']
    intro x hx
    obtain ⟨y, hy, rfl⟩ := Array.mem_map.1 hx
    exact absV_ok Fs B y
  | .bool _ | .int _ _ | .float _ _ | .complex _ _ _ | .string _ | .pointer _ | .slice _ _ _ | .map _ | .chan _ | .func _ _ _ | .nilFunc | .iface _ _ | .nilIface => by
    rw [absV_leaf (by intro _ h; cases h) (by intro _ h; cases h)]
    split
    · exact okV_okJ _ _ _ ‹_›
    · exact okJ_hide (hid_of (by intro _ h; cases h) (by intro _ h; cases h) ‹_›)
termination_by v => SizeOf.sizeOf v
theorem absV_same {Fs : Fns} {B : Nat} : ∀ (v : Value), okV Fs B v = true → absV Fs B v = v
  | .agg cs, h => by
    rw [okV_agg, Array.all_eq_true'] at h
    rw [absV, attach_map_absV]
    congr 1
    apply Array.ext (by simp)
    intro i h1 h2
    rw [Array.getElem_map]
    exact absV_same _ (h _ (Array.getElem_mem h2))
  | .tuple cs, h => by
    rw [okV_tuple, Array.all_eq_true'] at h
    rw [absV, attach_map_absV]
    congr 1
    apply Array.ext (by simp)
    intro i h1 h2
    rw [Array.getElem_map]
    exact absV_same _ (h _ (Array.getElem_mem h2))
  | .bool _, h | .int _ _, h | .float _ _, h | .complex _ _ _, h | .string _, h | .pointer _, h | .slice _ _ _, h | .map _, h | .chan _, h | .func _ _ _, h | .nilFunc, h | .iface _ _, h | .nilIface, h => by
    rw [absV_leaf (by intro _ h; cases h) (by intro _ h; cases h), if_pos h]
termination_by v => SizeOf.sizeOf v

structure Cx where
  P : Program
  ρ : Rn
  Fs : Fns
variable (X : Cx)

/-- A halt behind which the goroutine comes to no return. -/
def deadH : Halt → Prop
  | .panic _ | .stuck _ => True
  | .unsupported (.initOrder _) => False
  | .unsupported _ => True
  | _ => False
/-- An object that is neither a row of cells nor another's view. -/
def dull : Obj → Prop
  | .cells .. | .view .. | .number .. => False
  | _ => True
/-- What stands for such an object in the lone world. -/
def stand : Obj → Obj
  | .chan .. => .chan 0 #[] false 0 0 false
  | _ => .coro none
/-- A map's entries, with blocks renamed. -/
def renM (ρ : Rn) (es : Array MapEntry) : Array MapEntry := es.map fun e => { e with key := ren ρ e.key, val := ren ρ e.val }
def okM (Fs : Fns) (B : Nat) (es : Array MapEntry) : Prop := ∀ e ∈ es, okJ Fs B e.key = true ∧ okJ Fs B e.val = true
theorem okM_mono {Fs : Fns} {B B' : Nat} (hB : B ≤ B') {es : Array MapEntry} (h : okM Fs B es) : okM Fs B' es := fun e he => ⟨okJ_mono _ hB _ (h e he).1, okJ_mono _ hB _ (h e he).2⟩
/-- It halts, whatever it is told on the way. -/
inductive Doomed {α : Type} : Sem α → Prop
  | halt {h : Halt} : deadH h → Doomed (.halt h)
  | load {m : Mode} {a : Addr} {k : Value → Sem α} : (∀ v, Doomed (k v)) → Doomed (.load m a k)
  | shape {r : Nat} {k : Option (TypeId × Nat) → Sem α} : (∀ x, Doomed (k x)) → Doomed (.shape r k)
  | frozen {a : Addr} {k : Bool → Sem α} : (∀ b, Doomed (k b)) → Doomed (.frozen a k)
  | getObj {r : Nat} {k : Obj → Sem α} : (∀ o, Doomed (k o)) → Doomed (.getObj r k)
  | choose {q : Question} {k : Nat → Sem α} : (∀ n, Doomed (k n)) → Doomed (.choose q k)
  | program {k : Program → Sem α} : (∀ p, Doomed (k p)) → Doomed (.program k)
  | mark {m : Mark} {k : Sem α} : Doomed k → Doomed (.mark m k)
  | sys {c : Sys} {k : SysRet → Sem α} : (∀ r, Doomed (k r)) → Doomed (.sys c k)
  | new {c : Array Value} {e : TypeId} {k : Nat → Sem α} : (∀ r, Doomed (k r)) → Doomed (.new (.cells c e (0, 0)) k)
theorem Doomed.bind {α β : Type} {s : Sem α} (h : Doomed s) (f : α → Sem β) : Doomed (s >>= f) := by
  show Doomed (s.bind f)
  induction h with
  | halt h => exact .halt h
  | load _ ih => exact .load ih
  | shape _ ih => exact .shape ih
  | frozen _ ih => exact .frozen ih
  | getObj _ ih => exact .getObj ih
  | choose _ ih => exact .choose ih
  | program _ ih => exact .program ih
  | mark _ ih => exact .mark ih
  | sys _ ih => exact .sys ih
  | new _ ih => exact .new ih
/-- The same operation but for the names of blocks; B: how many blocks the lone heap has. -/
inductive SR {α β : Type} (R : Nat → α → β → Prop) : Nat → Sem α → Sem β → Prop
  | dead {B : Nat} {s : Sem α} {s' : Sem β} : Doomed s → SR R B s s'
  | pure {B : Nat} {a : α} {b : β} : R B a b → SR R B (.pure a) (.pure b)
  | load {B : Nat} {a : Addr} {k : Value → Sem α} {k' : Value → Sem β} : (∀ v, okJ X.Fs B v = true → SR R B (k v) (k' (ren X.ρ v))) → SR R B (.load .plain a k) (.load .plain (renA X.ρ a) k')
  | store {B : Nat} {a : Addr} {v : Value} {k : Sem α} {k' : Sem β} : okJ X.Fs B v = true → SR R B k k' → SR R B (.store .plain a v k) (.store .plain (renA X.ρ a) (ren X.ρ v) k')
  | new {B : Nat} {c : Array Value} {e : TypeId} {k : Nat → Sem α} {k' : Nat → Sem β} : (∀ v ∈ c, okJ X.Fs B v = true) → (X.Fs.al B = true → SR R (B + 1) (k B) (k' (X.ρ.f B))) → SR R B (.new (.cells c e (0, 0)) k) (.new (.cells (c.map (ren X.ρ)) e (0, 0)) k')
  | shape {B : Nat} {r : Nat} {k : Option (TypeId × Nat) → Sem α} {k' : Option (TypeId × Nat) → Sem β} : inB X.Fs B r = true → (∀ x, SR R B (k x) (k' x)) → (∀ e n, SR R B (k (some (e, 0))) (k' (some (e, n)))) → SR R B (.shape r k) (.shape (X.ρ.f r) k')
  | frozen {B : Nat} {a : Addr} {k : Bool → Sem α} {k' : Bool → Sem β} : (∀ b b', SR R B (k b) (k' b')) → SR R B (.frozen a k) (.frozen (renA X.ρ a) k')
  | newNum {B : Nat} {a : Addr} {l : Bool} {k : Nat → Sem α} {k' : Nat → Sem β} : inB X.Fs B a.block = true → (X.Fs.al B = true → SR R (B + 1) (k B) (k' (X.ρ.f B))) → SR R B (.new (.number a l) k) (.new (.number (renA X.ρ a) l) k')
  | getObj {B : Nat} {r : Nat} {k : Obj → Sem α} {k' : Obj → Sem β} : inB X.Fs B r = true → (∀ o, dull o → SR R B (k (stand o)) (k' o)) → (∀ (a : Addr) l, inB X.Fs B a.block = true → SR R B (k (.number a l)) (k' (.number (renA X.ρ a) l))) → (∀ es c, okM X.Fs B es → X.Fs.wr r = true → SR R B (k (.map es c)) (k' (.map (renM X.ρ es) c))) → SR R B (.getObj r k) (.getObj (X.ρ.f r) k')
  | newMap {B : Nat} {c : Nat} {k : Nat → Sem α} {k' : Nat → Sem β} : (X.Fs.al B = true → SR R (B + 1) (k B) (k' (X.ρ.f B))) → SR R B (.new (.map #[] c) k) (.new (.map #[] c) k')
  | setMap {B : Nat} {r : Nat} {es : Array MapEntry} {c : Nat} {k : Sem α} {k' : Sem β} : inB X.Fs B r = true → X.Fs.wr r = true → okM X.Fs B es → SR R B k k' → SR R B (.setObj r (.map es c) k) (.setObj (X.ρ.f r) (.map (renM X.ρ es) c) k')
  | choose {B : Nat} {q : Question} {k : Nat → Sem α} {k' : Nat → Sem β} : (∀ n, SR R B (k n) (k' n)) → SR R B (.choose q k) (.choose q k')
  | program {B : Nat} {k : Program → Sem α} {k' : Program → Sem β} : SR R B (k X.P) (k' X.P) → SR R B (.program k) (.program k')
  | programL {B : Nat} {k : Program → Sem α} {s' : Sem β} : SR R B (k X.P) s' → SR R B (.program k) s'
  | mark {B : Nat} {k : Sem α} {k' : Sem β} : SR R B k k' → SR R B (.mark .noRoom k) (.mark .noRoom k')
theorem SR.bind {α β γ δ : Type} {R : Nat → α → β → Prop} {R' : Nat → γ → δ → Prop} {B : Nat} {s : Sem α} {s' : Sem β} {f : α → Sem γ} {f' : β → Sem δ} (h : SR X R B s s') (hf : ∀ B' a b, B ≤ B' → R B' a b → SR X R' B' (f a) (f' b)) : SR X R' B (s >>= f) (s' >>= f') := by
  show SR X R' B (s.bind f) (s'.bind f')
  induction h with
  | dead h => exact .dead (h.bind f)
  | pure h => exact hf _ _ _ (Nat.le_refl _) h
  | load _ ih => exact .load fun v hv => ih v hv hf
  | store hv _ ih => exact .store hv (ih hf)
  | new hc _ ih => exact .new hc fun hal => ih hal fun B' a b hB => hf B' a b (by omega)
  | shape hr _ _ ih1 ih2 => exact .shape hr (fun x => ih1 x hf) (fun e n => ih2 e n hf)
  | frozen _ ih => exact .frozen fun b b' => ih b b' hf
  | newNum ha _ ih => exact .newNum ha fun hal => ih hal fun B' a b hB => hf B' a b (by omega)
  | getObj hr _ _ _ ih ih2 ih3 => exact .getObj hr (fun o ho => ih o ho hf) (fun a l ha => ih2 a l ha hf) (fun es c he hw => ih3 es c he hw hf)
  | newMap _ ih => exact .newMap fun hal => ih hal fun B' a b hB => hf B' a b (by omega)
  | setMap hr hw he _ ih => exact .setMap hr hw he (ih hf)
  | choose _ ih => exact .choose fun n => ih n hf
  | program _ ih => exact .program (ih hf)
  | programL _ ih => exact .programL (ih hf)
  | mark _ ih => exact .mark (ih hf)
theorem SR.mono {α β : Type} {R R' : Nat → α → β → Prop} {B : Nat} {s : Sem α} {s' : Sem β} (h : SR X R B s s') (hR : ∀ B' a b, B ≤ B' → R B' a b → R' B' a b) : SR X R' B s s' := by
  induction h with
  | dead h => exact .dead h
  | pure h => exact .pure (hR _ _ _ (Nat.le_refl _) h)
  | load _ ih => exact .load fun v hv => ih v hv hR
  | store hv _ ih => exact .store hv (ih hR)
  | new hc _ ih => exact .new hc fun hal => ih hal fun B' a b hB => hR B' a b (by omega)
  | shape hr _ _ ih1 ih2 => exact .shape hr (fun x => ih1 x hR) (fun e n => ih2 e n hR)
  | frozen _ ih => exact .frozen fun b b' => ih b b' hR
  | newNum ha _ ih => exact .newNum ha fun hal => ih hal fun B' a b hB => hR B' a b (by omega)
  | getObj hr _ _ _ ih ih2 ih3 => exact .getObj hr (fun o ho => ih o ho hR) (fun a l ha => ih2 a l ha hR) (fun es c he hw => ih3 es c he hw hR)
  | newMap _ ih => exact .newMap fun hal => ih hal fun B' a b hB => hR B' a b (by omega)
  | setMap hr hw he _ ih => exact .setMap hr hw he (ih hR)
  | choose _ ih => exact .choose fun n => ih n hR
  | program _ ih => exact .program (ih hR)
  | programL _ ih => exact .programL (ih hR)
  | mark _ ih => exact .mark (ih hR)
end Go.Proofs.Ytmmolicodlmlkaa.Rel
namespace Go.Proofs.Ytmmolicodlmlkaa.Rel
set_option linter.unusedVariables false
variable (X : Cx)

def renL : Loc → Loc
  | .cell a => .cell (renA X.ρ a)
  | .obj r => .obj (X.ρ.f r)
  | .output => .output
  | .goroutines => .goroutines
  | .mark m => .mark m
def renE (e : Event) : Event := ⟨renL X e.loc, e.write, e.sync⟩
/-- What an operation may list here: plain accesses of blocks that may be named, writes of such as may be written. -/
def evOk (B : Nat) (e : Event) : Prop :=
  (∃ a, e.loc = .cell a ∧ inB X.Fs B a.block = true ∧ (e.write = true → X.Fs.wr a.block = true) ∧ e.sync = false ∧ X.Fs.na a.block = false) ∨
  (∃ r, e.loc = .obj r ∧ inB X.Fs B r = true ∧ (e.write = true → X.Fs.wr r = true ∧ e.sync = false) ∧ X.Fs.na r = false) ∨ e = ⟨.mark .noRoom, false, true⟩
/-- A block of the lone world's and the one of the company's that it stands for; wr: it may be written. -/
inductive BR (B : Nat) (wr : Bool) : Obj → Obj → Prop
  | cells {c : Array Value} {e : TypeId} : wr = true → (∀ v ∈ c, okJ X.Fs B v = true) → BR B wr (.cells c e (0, 0)) (.cells (c.map (ren X.ρ)) e (0, 0))
  | ro {c : Array Value} {e : TypeId} {fr : Nat × Nat} : (∀ v ∈ c, okJ X.Fs B v = true) → (c.size = 0 → fr = (0, 0)) → BR B wr (.cells c e (0, c.size)) (.cells (c.map (ren X.ρ)) e fr)
  | bad {c : Array Value} {e : TypeId} {fr : Nat × Nat} : BR B wr (.cells #[] e (0, 1)) (.cells c e fr)
  | dull {o : Obj} : dull o → BR B wr (stand o) o
  | number {a : Addr} {l : Bool} : inB X.Fs B a.block = true → BR B wr (.number a l) (.number (renA X.ρ a) l)
  | map {es : Array MapEntry} {c : Nat} : wr = true → okM X.Fs B es → BR B wr (.map es c) (.map (renM X.ρ es) c)
theorem BR.mono {B B' : Nat} {wr : Bool} (hB : B ≤ B') {o o' : Obj} (h : BR X B wr o o') : BR X B' wr o o' := by
  cases h with
  | cells hw hc => exact .cells hw fun v hv => okJ_mono _ hB v (hc v hv)
  | ro hc h0 => exact .ro (fun v hv => okJ_mono _ hB v (hc v hv)) h0
  | bad => exact .bad
  | dull h => exact .dull h
  | number h => exact .number (inB_mono hB h)
  | map hw h => exact .map hw (okM_mono hB h)
theorem stand_or (o : Obj) : stand o = .chan 0 #[] false 0 0 false ∨ stand o = .coro none := by cases o <;> simp [stand]
/-- The worlds are alike on the lone one's blocks whose addresses may occur. -/
structure WR (wl v : World) : Prop where
  blk : ∀ b, b < wl.heap.size → X.Fs.al b = true → ∃ ol oc, wl.heap[b]? = some ol ∧ v.heap[X.ρ.f b]? = some oc ∧ BR X wl.heap.size (X.Fs.wr b) ol oc
  off : ∀ b, b < wl.heap.size → X.Fs.al b = false → wl.heap[b]? = some (.coro none)
  fresh : ∀ b, wl.heap.size ≤ b → X.Fs.al b = true ∧ X.Fs.wr b = true ∧ X.Fs.na b = false
  nam : ∀ b, X.Fs.na b = true → X.Fs.al b = true ∧ ∃ c e fr, wl.heap[b]? = some (.cells #[] e (0, 1)) ∧ v.heap[X.ρ.f b]? = some (.cells c e fr)
/-- What stands outside is as it was; what is drawn, made and put out goes in step. -/
structure Step (wl wl' v v' : World) : Prop where
  drawn : wl'.drawn + v.drawn = v'.drawn + wl.drawn
  size : wl'.heap.size + v.heap.size = v'.heap.size + wl.heap.size
  os : v'.os = v.os
  out : v'.output = v.output
  tape : wl'.tape = wl.tape
  tapev : v'.tape = v.tape
  osl : wl'.os = wl.os
  outl : wl'.output = wl.output
  far : ∀ b, b < v.heap.size → (∀ c, c < wl.heap.size → X.Fs.al c = true → X.Fs.wr c = true → X.ρ.f c ≠ b) → v'.heap[b]? = v.heap[b]?
theorem Step.refl (wl v : World) : Step X wl wl v v := ⟨Nat.add_comm _ _, Nat.add_comm _ _, rfl, rfl, rfl, rfl, rfl, rfl, fun _ _ _ => rfl⟩
theorem Step.trans {a b c u v w : World} (h : Step X a b u v) (k : Step X b c v w) (hm : Mono a b) (hu : Mono u v)
    (hf : ∀ i, u.heap.size + i < v.heap.size → X.ρ.f (a.heap.size + i) = u.heap.size + i) : Step X a c u w := by
  have h1 := h.drawn; have h2 := k.drawn; have h3 := h.size; have h4 := k.size
  refine ⟨by omega, by omega, k.os.trans h.os, k.out.trans h.out, k.tape.trans h.tape, k.tapev.trans h.tapev, k.osl.trans h.osl, k.outl.trans h.outl, fun x hx hn => ?_⟩
  have hs := hu.size
  refine (k.far x (by omega) fun y hy ha hw e => ?_).trans (h.far x hx hn)
  rcases Nat.lt_or_ge y a.heap.size with h5 | h5
  · exact hn y h5 ha hw e
  · have h6 := hf (y - a.heap.size) (by omega)
    rw [show a.heap.size + (y - a.heap.size) = y by omega, e] at h6
    omega
/-- The results go in step. -/
inductive RR {α β : Type} (R : Nat → α → β → Prop) (wl v : World) : Result α → Result β → Prop
  | dead {h : Halt} {w : World} {r : Result β} : deadH h → RR R wl v (.halt h w) r
  | ok {a : α} {b : β} {wl' v' : World} : R wl'.heap.size a b → WR X wl' v' → Step X wl wl' v v' → RR R wl v (.ok a wl') (.ok b v')

theorem WR.of {wl v : World} (h : WR X wl v) {b : Nat} {o : Obj} (hb : wl.heap[b]? = some o) : (X.Fs.al b = false ∧ o = .coro none) ∨ (inB X.Fs wl.heap.size b = true ∧ ∃ oc, v.heap[X.ρ.f b]? = some oc ∧ BR X wl.heap.size (X.Fs.wr b) o oc) := by
  have hlt : b < wl.heap.size := (Array.getElem?_eq_some_iff.1 hb).1
  cases ha : X.Fs.al b with
  | false =>
    have := h.off b hlt ha
    rw [hb] at this
    exact .inl ⟨rfl, Option.some.inj this⟩
  | true =>
    obtain ⟨ol, oc, h1, h2, h3⟩ := h.blk b hlt ha
    rw [hb] at h1
    obtain rfl := Option.some.inj h1
    exact .inr ⟨by simp [inB, hlt, ha], oc, h2, h3⟩
theorem WR.cell {wl v : World} (h : WR X wl v) {a : Addr} {u : Value} (hc : wl.cell? a = some u) : v.cell? (renA X.ρ a) = some (ren X.ρ u) ∧ okJ X.Fs wl.heap.size u = true ∧ inB X.Fs wl.heap.size a.block = true ∧
    (wl.frozen? a = true ∨ (wl.frozen? a = false ∧ v.frozen? (renA X.ρ a) = false ∧ X.Fs.wr a.block = true)) := by
  cases hb : wl.heap[a.block]? with
  | none => unfold World.cell? at hc; rw [hb] at hc; cases hc
  | some o =>
    have key : ∀ (c : Array Value) (e : TypeId) (fr fr' : Nat × Nat), wl.heap[a.block]? = some (.cells c e fr) → v.heap[X.ρ.f a.block]? = some (.cells (c.map (ren X.ρ)) e fr') → (∀ v ∈ c, okJ X.Fs wl.heap.size v = true) →
        v.cell? (renA X.ρ a) = some (ren X.ρ u) ∧ okJ X.Fs wl.heap.size u = true ∧ a.off < c.size := by
      intro c e fr fr' h1 h2 hok
      unfold World.cell? at hc
      rw [h1] at hc
      simp only at hc
      by_cases hs : a.spot.isSome = true
      · rw [if_pos hs] at hc; cases hc
      · rw [if_neg hs] at hc
        refine ⟨?_, hok u (Array.mem_of_getElem? hc), (Array.getElem?_eq_some_iff.1 hc).1⟩
        unfold World.cell? renA
        simp only [h2, hs, if_false, Bool.false_eq_true]
        rw [Array.getElem?_map, hc]; rfl
    rcases h.of X hb with ⟨_, rfl⟩ | ⟨hin, oc, h2, h3⟩
    · unfold World.cell? at hc; rw [hb] at hc; simp at hc
    · cases h3 with
      | cells hw hok =>
        obtain ⟨k1, k2, k3⟩ := key _ _ _ _ hb h2 hok
        refine ⟨k1, k2, hin, .inr ⟨?_, ?_, hw⟩⟩
        · unfold World.frozen?; rw [hb]; simp
        · unfold World.frozen? renA; simp only [h2]; simp
      | ro hok _ =>
        obtain ⟨k1, k2, k3⟩ := key _ _ _ _ hb h2 hok
        refine ⟨k1, k2, hin, .inl ?_⟩
        unfold World.frozen?; rw [hb]; simp [k3]
      | bad => unfold World.cell? at hc; rw [hb] at hc; simp at hc
      | dull _ =>
        unfold World.cell? at hc; rw [hb] at hc
        rcases stand_or oc with e | e <;> simp [e] at hc
      | number _ => unfold World.cell? at hc; rw [hb] at hc; simp at hc
      | map _ _ => unfold World.cell? at hc; rw [hb] at hc; simp at hc
theorem WR.na {wl v : World} (h : WR X wl v) {a : Addr} {u : Value} (hc : wl.cell? a = some u) : X.Fs.na a.block = false := by
  cases hn : X.Fs.na a.block with
  | false => rfl
  | true =>
    obtain ⟨_, c, e, fr, h1, _⟩ := h.nam _ hn
    unfold World.cell? at hc
    rw [h1] at hc
    simp at hc
theorem WR.naObj {wl v : World} (h : WR X wl v) {r : Nat} {o : Obj} (hc : wl.heap[r]? = some o) (ho : ∀ c e fr, o ≠ .cells c e fr) : X.Fs.na r = false := by
  cases hn : X.Fs.na r with
  | false => rfl
  | true =>
    obtain ⟨_, c, e, fr, h1, _⟩ := h.nam _ hn
    rw [h1] at hc
    exact absurd (Option.some.inj hc).symm (ho _ _ _)
/-- The lone world holds no block that is seen as another type, and none that is still to be made. -/
def Plain (wl : World) : Prop := ∀ (b : Nat) (o : Obj), wl.heap[b]? = some o → (∀ a t, o ≠ .view a t) ∧ ∀ c e, o ≠ .pending c e
theorem WR.plain {wl v : World} (h : WR X wl v) : Plain wl := by
  intro b o hb
  rcases h.of X hb with ⟨_, rfl⟩ | ⟨hin, oc, h2, h3⟩
  · exact ⟨fun _ _ e => (by cases e), fun _ _ e => (by cases e)⟩
  · cases h3 with
    | cells _ _ => exact ⟨fun _ _ e => (by cases e), fun _ _ e => (by cases e)⟩
    | ro _ _ => exact ⟨fun _ _ e => (by cases e), fun _ _ e => (by cases e)⟩
    | bad => exact ⟨fun _ _ e => (by cases e), fun _ _ e => (by cases e)⟩
    | dull _ => rcases stand_or oc with e | e <;> rw [e] <;> exact ⟨fun _ _ e => (by cases e), fun _ _ e => (by cases e)⟩
    | number _ => exact ⟨fun _ _ e => (by cases e), fun _ _ e => (by cases e)⟩
    | map _ _ => exact ⟨fun _ _ e => (by cases e), fun _ _ e => (by cases e)⟩
theorem Plain.noCell {wl : World} (h : Plain wl) {a : Addr} (hc : wl.cell? a = none) (P : Program) (at_ : Bool) : ∃ s, wl.farLoad P a at_ = .error (.stuck s) := by
  unfold World.farLoad World.noCell
  cases hb : wl.heap[a.block]? with
  | none => exact ⟨_, rfl⟩
  | some o =>
    obtain ⟨h1, h2⟩ := h _ _ hb
    cases o <;> first | exact ⟨_, rfl⟩ | exact absurd rfl (h1 _ _) | exact absurd rfl (h2 _ _)
theorem Plain.noStore {wl : World} (h : Plain wl) {a : Addr} (hc : wl.cell? a = none) (P : Program) (u : Value) (at_ : Bool) : ∃ s, wl.farStore P a u at_ = .error (.stuck s) := by
  unfold World.farStore World.noCell
  cases hb : wl.heap[a.block]? with
  | none => exact ⟨_, rfl⟩
  | some o =>
    obtain ⟨h1, h2⟩ := h _ _ hb
    cases o <;> first | exact ⟨_, rfl⟩ | exact absurd rfl (h1 _ _) | exact absurd rfl (h2 _ _)
theorem WR.set {wl v : World} (h : WR X wl v) {a : Addr} {u u0 : Value} (hc : wl.cell? a = some u0) (hf : wl.frozen? a = false) (hu : okJ X.Fs wl.heap.size u = true) : WR X (wl.setCell a u) (v.setCell (renA X.ρ a) (ren X.ρ u)) ∧ Step X wl (wl.setCell a u) v (v.setCell (renA X.ρ a) (ren X.ρ u)) := by
  obtain ⟨_, _, hin, hor⟩ := h.cell X hc
  have hwr : X.Fs.wr a.block = true := by
    rcases hor with h1 | ⟨_, _, h1⟩
    · rw [hf] at h1; cases h1
    · exact h1
  have hb := inB_lt hin
  have hsl : (wl.setCell a u).heap.size = wl.heap.size := by simp [World.setCell]
  have hsv : (v.setCell (renA X.ρ a) (ren X.ρ u)).heap.size = v.heap.size := by simp [World.setCell]
  have hna := h.na X hc
  refine ⟨⟨fun b hb' hal => ?_, fun b hb' hal => ?_, fun b hb' => h.fresh b (by rw [hsl] at hb'; exact hb'), fun b hb' => ?_⟩, ⟨Nat.add_comm _ _, by rw [hsl, hsv]; omega, rfl, rfl, rfl, rfl, rfl, rfl, fun b _ hn => ?_⟩⟩
  · rw [hsl] at hb' ⊢
    obtain ⟨ol, oc, h1, h2, h3⟩ := h.blk _ hb' hal
    by_cases e : a.block = b
    · subst e
      unfold World.setCell
      simp only [Array.getElem?_modify, h1, h2, renA, if_true, Option.map_some]
      refine ⟨_, _, rfl, rfl, ?_⟩
      cases h3 with
      | cells hw hok =>
        simp only
        by_cases hs : a.spot.isSome = true
        · simp only [hs, if_true]; exact .cells hw hok
        · simp only [hs, if_false, Bool.false_eq_true]
          rename_i c ty
          have hm : (c.map (ren X.ρ)).setIfInBounds a.off (ren X.ρ u) = (c.setIfInBounds a.off u).map (ren X.ρ) := by
            apply Array.ext'; simp
          rw [hm]
          refine .cells hw fun x hx => ?_
          rcases Array.mem_or_eq_of_mem_setIfInBounds hx with h5 | h5
          · exact hok x h5
          · rw [h5]; exact hu
      | ro hok _ =>
        exfalso
        rename_i c ty
        unfold World.frozen? at hf
        unfold World.cell? at hc
        rw [h1] at hf hc
        simp only at hf hc
        by_cases hs : a.spot.isSome = true
        · rw [if_pos hs] at hc; cases hc
        · rw [if_neg hs] at hc
          have := (Array.getElem?_eq_some_iff.1 hc).1
          simp at hf
          omega
      | bad =>
        exfalso
        unfold World.cell? at hc
        rw [h1] at hc
        simp at hc
      | dull hd =>
        exfalso
        unfold World.cell? at hc
        rw [h1] at hc
        rcases stand_or oc with e | e <;> simp [e] at hc
      | number hn =>
        exfalso
        unfold World.cell? at hc
        rw [h1] at hc
        simp at hc
      | map _ _ =>
        exfalso
        unfold World.cell? at hc
        rw [h1] at hc
        simp at hc
    · refine ⟨ol, oc, ?_, ?_, h3⟩
      · unfold World.setCell; rw [Array.getElem?_modify, if_neg e]; exact h1
      · unfold World.setCell
        rw [Array.getElem?_modify, if_neg (show ¬ (renA X.ρ a).block = X.ρ.f b from fun e2 => e (X.ρ.inj _ _ e2))]; exact h2
  · rw [hsl] at hb'
    have hne : ¬ a.block = b := by rintro rfl; rw [inB_al hin] at hal; cases hal
    unfold World.setCell; rw [Array.getElem?_modify, if_neg hne]; exact h.off b hb' hal
  · obtain ⟨k1, c, e, fr, k2, k3⟩ := h.nam b hb'
    have hne : ¬ a.block = b := by rintro rfl; rw [hna] at hb'; cases hb'
    refine ⟨k1, c, e, fr, ?_, ?_⟩
    · unfold World.setCell; rw [Array.getElem?_modify, if_neg hne]; exact k2
    · unfold World.setCell
      rw [Array.getElem?_modify, if_neg (show ¬ (renA X.ρ a).block = X.ρ.f b from fun e2 => hne (X.ρ.inj _ _ e2))]; exact k3
  · unfold World.setCell
    rw [Array.getElem?_modify, if_neg (show ¬ (renA X.ρ a).block = b from hn _ hb (inB_al hin) hwr)]
theorem WR.push {wl v : World} (h : WR X wl v) {o o' : Obj} (hc : BR X (wl.heap.size + 1) true o o') (hf : X.ρ.f wl.heap.size = v.heap.size) :
    WR X { wl with heap := wl.heap.push o } { v with heap := v.heap.push o' } ∧ Step X wl { wl with heap := wl.heap.push o } v { v with heap := v.heap.push o' } := by
  refine ⟨⟨fun b hb hal => ?_, fun b hb hal => ?_, fun b hb => h.fresh b (by simp only [Array.size_push] at hb; omega), fun b hb => ?_⟩, ⟨Nat.add_comm _ _, by simp; omega, rfl, rfl, rfl, rfl, rfl, rfl, fun b hb hn => ?_⟩⟩
  · simp only [Array.size_push] at hb ⊢
    rcases Nat.lt_or_ge b wl.heap.size with h1 | h1
    · obtain ⟨ol, oc, h2, h3, h4⟩ := h.blk b h1 hal
      have hlt : X.ρ.f b < v.heap.size := (Array.getElem?_eq_some_iff.1 h3).1
      refine ⟨ol, oc, ?_, ?_, h4.mono X (by omega)⟩
      · rw [Array.getElem?_push_lt h1, ← h2, Array.getElem?_eq_getElem h1]
      · rw [Array.getElem?_push_lt hlt, ← h3, Array.getElem?_eq_getElem hlt]
    · obtain rfl : b = wl.heap.size := by omega
      refine ⟨_, _, Array.getElem?_push_size, ?_, by rw [(h.fresh _ (Nat.le_refl _)).2.1]; exact hc⟩
      rw [hf]; exact Array.getElem?_push_size
  · simp only [Array.size_push] at hb ⊢
    rcases Nat.lt_or_ge b wl.heap.size with h1 | h1
    · rw [Array.getElem?_push_lt h1, ← h.off b h1 hal, Array.getElem?_eq_getElem h1]
    · rw [(h.fresh b h1).1] at hal; cases hal
  · obtain ⟨k1, c, e, fr, k2, k3⟩ := h.nam b hb
    have l2 : b < wl.heap.size := (Array.getElem?_eq_some_iff.1 k2).1
    have l3 : X.ρ.f b < v.heap.size := (Array.getElem?_eq_some_iff.1 k3).1
    refine ⟨k1, c, e, fr, ?_, ?_⟩
    · show (wl.heap.push _)[b]? = _
      rw [Array.getElem?_push_lt l2, ← k2, Array.getElem?_eq_getElem l2]
    · show (v.heap.push _)[X.ρ.f b]? = _
      rw [Array.getElem?_push_lt l3, ← k3, Array.getElem?_eq_getElem l3]
  · show (v.heap.push _)[b]? = _
    rw [Array.getElem?_push_lt hb, Array.getElem?_eq_getElem hb]
theorem WR.setMap {wl v : World} (h : WR X wl v) {r : Nat} {es : Array MapEntry} {c : Nat} {o : Obj} (hr : inB X.Fs wl.heap.size r = true) (hwr : X.Fs.wr r = true) (hok : okM X.Fs wl.heap.size es) (ho : wl.heap[r]? = some o) (hna : X.Fs.na r = false) :
    WR X { wl with heap := wl.heap.setIfInBounds r (.map es c) } { v with heap := v.heap.setIfInBounds (X.ρ.f r) (.map (renM X.ρ es) c) } ∧ Step X wl { wl with heap := wl.heap.setIfInBounds r (.map es c) } v { v with heap := v.heap.setIfInBounds (X.ρ.f r) (.map (renM X.ρ es) c) } := by
  have hb := inB_lt hr
  refine ⟨⟨fun b hb' hal => ?_, fun b hb' hal => ?_, fun b hb' => h.fresh b (by simpa using hb'), fun b hb' => ?_⟩, ⟨Nat.add_comm _ _, by simp; omega, rfl, rfl, rfl, rfl, rfl, rfl, fun b _ hn => ?_⟩⟩
  · simp only [Array.size_setIfInBounds] at hb' ⊢
    obtain ⟨ol, oc, h1, h2, h3⟩ := h.blk _ hb' hal
    have hlt : X.ρ.f b < v.heap.size := (Array.getElem?_eq_some_iff.1 h2).1
    by_cases e : r = b
    · subst e
      exact ⟨.map es c, .map (renM X.ρ es) c, by simp [hb], by simp [hlt], .map hwr hok⟩
    · refine ⟨ol, oc, ?_, ?_, h3⟩
      · rw [Array.getElem?_setIfInBounds_ne e]; exact h1
      · rw [Array.getElem?_setIfInBounds_ne (fun e2 => e (X.ρ.inj _ _ e2))]; exact h2
  · simp only [Array.size_setIfInBounds] at hb' ⊢
    have hne : ¬ r = b := by rintro rfl; rw [inB_al hr] at hal; cases hal
    rw [Array.getElem?_setIfInBounds_ne hne]; exact h.off b hb' hal
  · obtain ⟨k1, c', e, fr, k2, k3⟩ := h.nam b hb'
    have hne : ¬ r = b := by rintro rfl; rw [hna] at hb'; cases hb'
    refine ⟨k1, c', e, fr, ?_, ?_⟩
    · show (wl.heap.setIfInBounds r _)[b]? = _
      rw [Array.getElem?_setIfInBounds_ne hne]; exact k2
    · show (v.heap.setIfInBounds _ _)[X.ρ.f b]? = _
      rw [Array.getElem?_setIfInBounds_ne (fun e2 => hne (X.ρ.inj _ _ e2))]; exact k3
  · show (v.heap.setIfInBounds _ _)[b]? = _
    rw [Array.getElem?_setIfInBounds_ne (hn _ hb (inB_al hr) hwr)]
theorem RR.from_ {α β : Type} {R : Nat → α → β → Prop} {wl wl1 v v1 : World} {r : Result α} {r' : Result β} (h : RR X R wl1 v1 r r') (k : Step X wl wl1 v v1) (hm : Mono wl wl1) (hv : Mono v v1)
    (hf : ∀ i, v.heap.size + i < v1.heap.size → X.ρ.f (wl.heap.size + i) = v.heap.size + i) : RR X R wl v r r' := by
  cases h with
  | dead hd => exact .dead hd
  | ok hr hw hs => exact .ok hr hw (k.trans X hs hm hv hf)
def flatV : Value → Prop
  | .agg _ | .tuple _ => False
  | _ => True
theorem flat_hid {u : Value} (h : hidV u = true ∨ u = .nilFunc) : flatV u := by
  rcases h with h | rfl
  · cases u <;> first | trivial | cases h
  · trivial
theorem flat_ren {u : Value} (h : flatV u) : flatV (ren X.ρ u) := by
  cases u
  case func fn a b =>
    rcases fn_cases fn with ⟨f, rfl⟩ | hf
    · simp [flatV]
    · rw [ren_other _ hf]; exact flat_hid (payload_or b)
  all_goals first | exact h.elim | (simp [flatV]; done) | (rw [ren]; trivial)
theorem runT_store {α : Type} {P : Program} {m : Mode} {a : Addr} {u : Value} {k : Sem α} {w : World} {es : Array Event} (h : flatV u) (hc : w.cell? a ≠ none) (hf : w.frozen? a = false) :
    (Sem.store m a u k).runT P w es = k.runT P (w.setCell a u) (es.push ⟨.cell a, true, m == .atomic⟩) := by
  cases hw : w.cell? a with
  | none => exact absurd hw hc
  | some x => cases u <;> first | exact h.elim | simp only [Sem.runT, hw, hf, if_false, Bool.false_eq_true]
theorem runT_store_frozen {α : Type} {P : Program} {m : Mode} {a : Addr} {u : Value} {k : Sem α} {w : World} {es : Array Event} (h : flatV u) (hc : w.cell? a ≠ none) (hf : w.frozen? a = true) :
    ∃ o : Unsupported, deadH (.unsupported o) ∧ (Sem.store m a u k).runT P w es = (.halt (.unsupported o) w, es) := by
  cases hw : w.cell? a with
  | none => exact absurd hw hc
  | some x => cases u <;> first | exact h.elim | (simp only [Sem.runT, hw, hf, if_true]; exact ⟨_, by exact trivial, rfl⟩)
theorem runT_store_none {α : Type} {P : Program} {m : Mode} {a : Addr} {u : Value} {k : Sem α} {w : World} {es : Array Event} {st : String} (h : flatV u) (hc : w.cell? a = none) (hf : w.farStore P a u (m == .atomic) = .error (.stuck st)) :
    (Sem.store m a u k).runT P w es = (.halt (.stuck st) w, es) := by
  cases u <;> first | exact h.elim | simp only [Sem.runT, hc, hf]
theorem sys_heap (w : World) (c : Sys) : (w.sys c).2.heap = w.heap := by
  have key : ∀ {α : Type} (x : Ask α) (w : World), (w.ask x).2.heap = w.heap := by
    intro α x
    induction x with
    | done a => intro w; rfl
    | ask what range k ih =>
      intro w
      unfold World.ask
      simp only []
      split
      · exact ih 0 w
      · rw [ih]
  unfold World.sys
  have h := key (Kernel.perform c w.os) w
  generalize w.ask (Kernel.perform c w.os) = p at h
  obtain ⟨⟨r, os⟩, w'⟩ := p
  cases r <;> first | rfl | exact h
theorem Doomed.run {α : Type} {s : Sem α} (h : Doomed s) : ∀ (wl : World) (es : Array Event), Plain wl → ∃ hh ww, (s.runT X.P wl es).1 = .halt hh ww ∧ deadH hh := by
  induction h with
  | halt h => exact fun wl es _ => ⟨_, _, rfl, h⟩
  | @load m a k _ ih =>
    intro wl es hw
    cases hc : wl.cell? a with
    | none =>
      obtain ⟨st, hst⟩ := hw.noCell hc X.P (m == .atomic)
      exact ⟨.stuck st, wl, by simp only [Sem.runT, hc, hst], trivial⟩
    | some u =>
      obtain ⟨hh, ww, e, hx⟩ := ih u wl (es.push ⟨.cell a, false, m == .atomic⟩) hw
      exact ⟨hh, ww, by simp only [Sem.runT, hc]; exact e, hx⟩
  | shape _ ih => exact fun wl es hw => ih _ wl es hw
  | frozen _ ih => exact fun wl es hw => ih _ wl es hw
  | @getObj r k _ ih =>
    intro wl es hw
    cases hc : wl.heap[r]? with
    | none => exact ⟨.stuck "getObj: no such block", wl, by simp only [Sem.runT, hc], trivial⟩
    | some o =>
      by_cases hcl : ∃ c e fr, o = .cells c e fr
      · obtain ⟨c, e, fr, rfl⟩ := hcl
        exact ⟨.stuck "getObj: a row of cells", wl, by simp only [Sem.runT, hc], trivial⟩
      · obtain ⟨hh, ww, e, hx⟩ := ih o wl (es.push ⟨.obj r, false, o.isChan⟩) hw
        refine ⟨hh, ww, ?_, hx⟩
        rw [← e]
        cases o <;> first | exact absurd ⟨_, _, _, rfl⟩ hcl | (simp only [Sem.runT, hc])
  | @choose q k _ ih =>
    intro wl es hw
    by_cases hq : q.forced = true
    · obtain ⟨hh, ww, e, hx⟩ := ih 0 wl es hw
      exact ⟨hh, ww, by simp only [Sem.runT, hq, if_true]; exact e, hx⟩
    · obtain ⟨hh, ww, e, hx⟩ := ih (q.cut (wl.tape wl.drawn q)) { wl with drawn := wl.drawn + 1 } es hw
      exact ⟨hh, ww, by simp only [Sem.runT, hq]; exact e, hx⟩
  | program _ ih => exact fun wl es hw => ih _ wl es hw
  | mark _ ih => exact fun wl es hw => ih wl _ hw
  | @sys c k _ ih => exact fun wl es hw => ih _ _ _ (by unfold Plain; rw [sys_heap]; exact hw)
  | @new c e k _ ih =>
    exact fun wl es hw => ih _ _ es fun b o hb => by
      simp only [Array.getElem?_push] at hb
      split at hb
      · injection hb with hb; subst hb; exact ⟨fun _ _ e => (by cases e), fun _ _ e => (by cases e)⟩
      · exact hw b o hb
/-- What is said of the events. -/
def EvR (wl : World) (es es' r r' : Array Event) : Prop := r' = r.map (renE X) ∧ ∀ e ∈ r, e ∈ es ∨ evOk X wl.heap.size e
/-- ████ What an operation does to two worlds that are alike. ████ -/
theorem SR.run {α β : Type} {R : Nat → α → β → Prop} {B : Nat} {s : Sem α} {s' : Sem β} (h : SR X R B s s') : ∀ (wl v : World) (es es' : Array Event), B = wl.heap.size → WR X wl v → es' = es.map (renE X) →
    (∀ i q, v.drawn + i < (resW (s'.runT X.P v es').1).drawn → wl.tape (wl.drawn + i) q = v.tape (v.drawn + i) q) →
    (∀ i, v.heap.size + i < (resW (s'.runT X.P v es').1).heap.size → X.ρ.f (wl.heap.size + i) = v.heap.size + i) →
    RR X R wl v (s.runT X.P wl es).1 (s'.runT X.P v es').1 ∧ ((∃ hh ww, (s.runT X.P wl es).1 = .halt hh ww ∧ deadH hh) ∨ EvR X (resW (s.runT X.P wl es).1) es es' (s.runT X.P wl es).2 (s'.runT X.P v es').2) := by
  have evpush : ∀ {w : World} {es es' r r' : Array Event} {e : Event}, evOk X w.heap.size e → EvR X w (es.push e) (es'.push (renE X e)) r r' → EvR X w es es' r r' := by
    intro w es es' r r' e he hr
    refine ⟨hr.1, fun x hx => ?_⟩
    rcases hr.2 x hx with h1 | h1
    · rcases Array.mem_push.1 h1 with h2 | h2
      · exact .inl h2
      · rw [h2]; exact .inr he
    · exact .inr h1
  induction h with
  | dead hd =>
    intro wl v es es' _ hw _ _ _
    obtain ⟨hh, ww, e, hx⟩ := hd.run X wl es (hw.plain X)
    rw [e]
    exact ⟨.dead hx, .inl ⟨_, _, rfl, hx⟩⟩
  | pure hr =>
    intro wl v es es' hB hw he ht hs
    subst hB
    exact ⟨.ok hr hw (Step.refl X _ _), .inr ⟨he, fun e he => .inl he⟩⟩
  | program _ ih =>
    intro wl v es es' hB hw he ht hs
    exact ih wl v es es' hB hw he ht hs
  | programL _ ih =>
    intro wl v es es' hB hw he ht hs
    exact ih wl v es es' hB hw he ht hs
  | mark _ ih =>
    rename_i B k k' _
    intro wl v es es' hB hw he ht hs
    obtain ⟨r1, r2⟩ := ih wl v (es.push ⟨.mark .noRoom, false, true⟩) (es'.push ⟨.mark .noRoom, false, true⟩) hB hw (by subst he; simp [renE, renL]) ht hs
    exact ⟨r1, r2.imp id fun h => evpush (.inr (.inr rfl)) h⟩
  | load hk ih =>
    rename_i B a k k'
    intro wl v es es' hB hw he ht hs
    cases hc : wl.cell? a with
    | none =>
      obtain ⟨st, hst⟩ := (hw.plain X).noCell hc X.P (Mode.plain == .atomic)
      have e1 : (Sem.load .plain a k).runT X.P wl es = (.halt (.stuck st) wl, es) := by simp only [Sem.runT, hc, hst]
      rw [e1]
      exact ⟨.dead trivial, .inl ⟨_, _, rfl, trivial⟩⟩
    | some u =>
      obtain ⟨h1, h2, h3, _⟩ := hw.cell X hc
      have e1 : (Sem.load .plain a k).runT X.P wl es = (k u).runT X.P wl (es.push ⟨.cell a, false, false⟩) := by simp only [Sem.runT, hc]; rfl
      have e2 : (Sem.load .plain (renA X.ρ a) k').runT X.P v es' = (k' (ren X.ρ u)).runT X.P v (es'.push ⟨.cell (renA X.ρ a), false, false⟩) := by simp only [Sem.runT, h1]; rfl
      rw [e2] at ht hs
      rw [e1, e2]
      obtain ⟨r1, r2⟩ := ih u (by rw [hB]; exact h2) wl v (es.push ⟨.cell a, false, false⟩) (es'.push ⟨.cell (renA X.ρ a), false, false⟩) hB hw (by subst he; simp [renE, renL]) ht hs
      exact ⟨r1, r2.imp id fun h => evpush (.inl ⟨a, rfl, inB_mono (runT_mono X.P _ _ _).size h3, by simp, rfl, hw.na X hc⟩) h⟩
  | store hv _ ih =>
    rename_i B a u k k' _
    intro wl v es es' hB hw he ht hs
    by_cases hfl : flatV u
    · cases hc : wl.cell? a with
      | none =>
        obtain ⟨st, hst⟩ := (hw.plain X).noStore hc X.P u (Mode.plain == .atomic)
        rw [runT_store_none hfl hc hst]
        exact ⟨.dead trivial, .inl ⟨_, _, rfl, trivial⟩⟩
      | some u0 =>
        obtain ⟨h1, _, h3, h4⟩ := hw.cell X hc
        rcases h4 with h4 | ⟨h4, h5, h6⟩
        · obtain ⟨o, hdo, ho⟩ := runT_store_frozen (P := X.P) (m := .plain) (k := k) (w := wl) (es := es) hfl (by rw [hc]; simp) h4
          rw [ho]
          exact ⟨.dead hdo, .inl ⟨_, _, rfl, hdo⟩⟩
        obtain ⟨w1, w2⟩ := hw.set X hc h4 (by rw [← hB]; exact hv)
        have e1 := runT_store (P := X.P) (m := .plain) (k := k) (w := wl) (es := es) hfl (by rw [hc]; simp) h4
        have e2 := runT_store (P := X.P) (m := .plain) (k := k') (w := v) (es := es') (flat_ren X hfl) (by rw [h1]; simp) h5
        rw [e2] at ht hs
        rw [e1, e2]
        have s1 : (wl.setCell a u).heap.size = wl.heap.size := by simp [World.setCell]
        have s2 : (v.setCell (renA X.ρ a) (ren X.ρ u)).heap.size = v.heap.size := by simp [World.setCell]
        obtain ⟨r1, r2⟩ := ih (wl.setCell a u) (v.setCell (renA X.ρ a) (ren X.ρ u)) (es.push ⟨.cell a, true, Mode.plain == .atomic⟩) (es'.push ⟨.cell (renA X.ρ a), true, Mode.plain == .atomic⟩) (by rw [s1]; exact hB) w1 (by subst he; simp [renE, renL]) ht (fun i hi => by rw [s1, s2]; exact hs i (by rw [← s2]; exact hi))
        have hsz := (runT_mono X.P k (wl.setCell a u) (es.push ⟨.cell a, true, Mode.plain == .atomic⟩)).size
        rw [s1] at hsz
        exact ⟨r1.from_ X w2 ⟨Nat.le_refl _, by rw [s1]; exact Nat.le_refl _, rfl⟩ ⟨Nat.le_refl _, by rw [s2]; exact Nat.le_refl _, rfl⟩ (fun i hi => by rw [s2] at hi; omega), r2.imp id fun h => evpush (.inl ⟨a, rfl, inB_mono hsz h3, fun _ => h6, rfl, hw.na X hc⟩) h⟩
    · cases u
      case agg => exact ⟨.dead trivial, .inl ⟨_, _, rfl, trivial⟩⟩
      case tuple => exact ⟨.dead trivial, .inl ⟨_, _, rfl, trivial⟩⟩
      all_goals exact absurd trivial hfl
  | new hc _ ih =>
    rename_i B c e k k' _
    intro wl v es es' hB hw he ht hs
    have e2 : (Sem.new (.cells (c.map (ren X.ρ)) e (0, 0)) k').runT X.P v es' = (k' v.heap.size).runT X.P { v with heap := v.heap.push (.cells (c.map (ren X.ρ)) e (0, 0)) } es' := rfl
    have hm := runT_mono X.P (k' v.heap.size) { v with heap := v.heap.push (.cells (c.map (ren X.ρ)) e (0, 0)) } es'
    have hms := hm.size
    simp only [Array.size_push] at hms
    have hf : X.ρ.f wl.heap.size = v.heap.size := by
      have := hs 0 (by rw [e2]; omega)
      simpa using this
    subst hB
    obtain ⟨w1, w2⟩ := hw.push X (o := .cells c e (0, 0)) (o' := .cells (c.map (ren X.ρ)) e (0, 0)) (.cells rfl fun u hu => okJ_mono _ (by omega) u (hc u hu)) hf
    rw [e2] at ht hs ⊢
    have e1 : (Sem.new (.cells c e (0, 0)) k).runT X.P wl es = (k wl.heap.size).runT X.P { wl with heap := wl.heap.push (.cells c e (0, 0)) } es := rfl
    rw [e1]
    rw [hf] at ih
    obtain ⟨r1, r2⟩ := ih (hw.fresh _ (Nat.le_refl _)).1 _ _ es es' (by simp) w1 he ht (fun i hi => by
      have := hs (i + 1) (by simp only [Array.size_push] at hi; omega)
      simp only [Array.size_push]
      rw [show wl.heap.size + 1 + i = wl.heap.size + (i + 1) by omega, this]; omega)
    exact ⟨r1.from_ X w2 ⟨Nat.le_refl _, by simp, rfl⟩ ⟨Nat.le_refl _, by simp, rfl⟩ (fun i hi => by
      simp only [Array.size_push] at hi
      obtain rfl : i = 0 := by omega
      simpa using hf), r2⟩
  | newNum ha _ ih =>
    rename_i B a l k k' _
    intro wl v es es' hB hw he ht hs
    have e2 : (Sem.new (.number (renA X.ρ a) l) k').runT X.P v es' = (k' v.heap.size).runT X.P { v with heap := v.heap.push (.number (renA X.ρ a) l) } es' := rfl
    have hm := runT_mono X.P (k' v.heap.size) { v with heap := v.heap.push (.number (renA X.ρ a) l) } es'
    have hms := hm.size
    simp only [Array.size_push] at hms
    have hf : X.ρ.f wl.heap.size = v.heap.size := by
      have := hs 0 (by rw [e2]; omega)
      simpa using this
    subst hB
    obtain ⟨w1, w2⟩ := hw.push X (o := .number a l) (o' := .number (renA X.ρ a) l) (.number (inB_mono (by omega) ha)) hf
    rw [e2] at ht hs ⊢
    have e1 : (Sem.new (.number a l) k).runT X.P wl es = (k wl.heap.size).runT X.P { wl with heap := wl.heap.push (.number a l) } es := rfl
    rw [e1]
    rw [hf] at ih
    obtain ⟨r1, r2⟩ := ih (hw.fresh _ (Nat.le_refl _)).1 _ _ es es' (by simp) w1 he ht (fun i hi => by
      have := hs (i + 1) (by simp only [Array.size_push] at hi; omega)
      simp only [Array.size_push]
      rw [show wl.heap.size + 1 + i = wl.heap.size + (i + 1) by omega, this]; omega)
    exact ⟨r1.from_ X w2 ⟨Nat.le_refl _, by simp, rfl⟩ ⟨Nat.le_refl _, by simp, rfl⟩ (fun i hi => by
      simp only [Array.size_push] at hi
      obtain rfl : i = 0 := by omega
      simpa using hf), r2⟩
  | choose _ ih =>
    rename_i B q k k' _
    intro wl v es es' hB hw he ht hs
    by_cases hq : q.forced = true
    · have e1 : (Sem.choose q k).runT X.P wl es = (k 0).runT X.P wl es := by simp only [Sem.runT, hq, if_true]
      have e2 : (Sem.choose q k').runT X.P v es' = (k' 0).runT X.P v es' := by simp only [Sem.runT, hq, if_true]
      rw [e2] at ht hs
      rw [e1, e2]
      exact ih 0 wl v es es' hB hw he ht hs
    · have e1 : (Sem.choose q k).runT X.P wl es = (k (q.cut (wl.tape wl.drawn q))).runT X.P { wl with drawn := wl.drawn + 1 } es := by simp only [Sem.runT, hq]; rfl
      have e2 : (Sem.choose q k').runT X.P v es' = (k' (q.cut (v.tape v.drawn q))).runT X.P { v with drawn := v.drawn + 1 } es' := by simp only [Sem.runT, hq]; rfl
      have hm := (runT_mono X.P (k' (q.cut (v.tape v.drawn q))) { v with drawn := v.drawn + 1 } es').drawn
      simp only at hm
      rw [e2] at ht hs
      have h0 := ht 0 q (by omega)
      rw [Nat.add_zero, Nat.add_zero] at h0
      rw [e1, e2, h0]
      obtain ⟨r1, r2⟩ := ih (q.cut (v.tape v.drawn q)) { wl with drawn := wl.drawn + 1 } { v with drawn := v.drawn + 1 } es es' hB ⟨hw.blk, hw.off, hw.fresh, hw.nam⟩ he (fun i q' hi => by
        have := ht (i + 1) q' (by simp only at hi; omega)
        simp only
        rw [show wl.drawn + 1 + i = wl.drawn + (i + 1) by omega, show v.drawn + 1 + i = v.drawn + (i + 1) by omega]
        exact this) hs
      exact ⟨r1.from_ X ⟨by simp only; omega, Nat.add_comm _ _, rfl, rfl, rfl, rfl, rfl, rfl, fun _ _ _ => rfl⟩ ⟨Nat.le_succ _, Nat.le_refl _, rfl⟩ ⟨Nat.le_succ _, Nat.le_refl _, rfl⟩ (fun i hi => by simp only at hi; omega), r2⟩
  | shape hr hk hk2 ih ih2 =>
    rename_i B r k k'
    intro wl v es es' hB hw he ht hs
    subst hB
    obtain ⟨ol, oc, h1, h2, h3⟩ := hw.blk _ (inB_lt hr) (inB_al hr)
    have e1 : (Sem.shape r k).runT X.P wl es = (k (wl.shape? r)).runT X.P wl es := rfl
    have e2 : (Sem.shape (X.ρ.f r) k').runT X.P v es' = (k' (v.shape? (X.ρ.f r))).runT X.P v es' := rfl
    rw [e2] at ht hs
    rw [e1, e2]
    cases h3 with
    | cells hwr hok =>
      rename_i c e
      have q1 : wl.shape? r = some (e, c.size) := by simp only [World.shape?, h1]
      have q2 : v.shape? (X.ρ.f r) = some (e, c.size) := by simp only [World.shape?, h2, Array.size_map]
      rw [q2] at ht hs
      rw [q1, q2]
      exact ih _ wl v es es' rfl hw he ht hs
    | @ro c e fr hok _ =>
      have q1 : wl.shape? r = some (e, c.size) := by simp only [World.shape?, h1]
      have q2 : v.shape? (X.ρ.f r) = some (e, c.size) := by simp only [World.shape?, h2, Array.size_map]
      rw [q2] at ht hs
      rw [q1, q2]
      exact ih _ wl v es es' rfl hw he ht hs
    | bad =>
      rename_i c e fr
      have q1 : wl.shape? r = some (e, 0) := by simp only [World.shape?, h1]; rfl
      have q2 : v.shape? (X.ρ.f r) = some (e, c.size) := by simp only [World.shape?, h2]
      rw [q2] at ht hs
      rw [q1, q2]
      exact ih2 _ _ wl v es es' rfl hw he ht hs
    | dull hd =>
      have q1 : wl.shape? r = none := by
        rcases stand_or oc with e | e <;> simp only [World.shape?, h1, e]
      have q2 : v.shape? (X.ρ.f r) = none := by
        simp only [World.shape?, h2]
        cases oc <;> first | rfl | exact hd.elim
      rw [q2] at ht hs
      rw [q1, q2]
      exact ih _ wl v es es' rfl hw he ht hs
    | number hn =>
      have q1 : wl.shape? r = none := by simp only [World.shape?, h1]
      have q2 : v.shape? (X.ρ.f r) = none := by simp only [World.shape?, h2]
      rw [q2] at ht hs
      rw [q1, q2]
      exact ih _ wl v es es' rfl hw he ht hs
    | map _ _ =>
      have q1 : wl.shape? r = none := by simp only [World.shape?, h1]
      have q2 : v.shape? (X.ρ.f r) = none := by simp only [World.shape?, h2]
      rw [q2] at ht hs
      rw [q1, q2]
      exact ih _ wl v es es' rfl hw he ht hs
  | frozen hk ih =>
    rename_i B a k k'
    intro wl v es es' hB hw he ht hs
    have e1 : (Sem.frozen a k).runT X.P wl es = (k (wl.frozen? a)).runT X.P wl es := rfl
    have e2 : (Sem.frozen (renA X.ρ a) k').runT X.P v es' = (k' (v.frozen? (renA X.ρ a))).runT X.P v es' := rfl
    rw [e2] at ht hs
    rw [e1, e2]
    exact ih _ _ wl v es es' hB hw he ht hs
  | getObj hr hk hk2 hk3 ih ih2 ih3 =>
    rename_i B r k k'
    intro wl v es es' hB hw he ht hs
    subst hB
    obtain ⟨ol, oc, h1, h2, h3⟩ := hw.blk _ (inB_lt hr) (inB_al hr)
    cases h3 with
    | cells _ _ =>
      have e1 : (Sem.getObj r k).runT X.P wl es = (.halt (.stuck "getObj: a row of cells") wl, es) := by simp only [Sem.runT, h1]
      rw [e1]
      exact ⟨.dead trivial, .inl ⟨_, _, rfl, trivial⟩⟩
    | ro _ _ =>
      have e1 : (Sem.getObj r k).runT X.P wl es = (.halt (.stuck "getObj: a row of cells") wl, es) := by simp only [Sem.runT, h1]
      rw [e1]
      exact ⟨.dead trivial, .inl ⟨_, _, rfl, trivial⟩⟩
    | bad =>
      have e1 : (Sem.getObj r k).runT X.P wl es = (.halt (.stuck "getObj: a row of cells") wl, es) := by simp only [Sem.runT, h1]
      rw [e1]
      exact ⟨.dead trivial, .inl ⟨_, _, rfl, trivial⟩⟩
    | dull hd =>
      have e1 : (Sem.getObj r k).runT X.P wl es = (k (stand oc)).runT X.P wl (es.push ⟨.obj r, false, (stand oc).isChan⟩) := by
        cases oc <;> first | exact hd.elim | (simp only [Sem.runT, h1, stand])
      have e2 : (Sem.getObj (X.ρ.f r) k').runT X.P v es' = (k' oc).runT X.P v (es'.push ⟨.obj (X.ρ.f r), false, (stand oc).isChan⟩) := by
        cases oc <;> first | exact hd.elim | (simp only [Sem.runT, h2, stand]; rfl)
      rw [e2] at ht hs
      rw [e1, e2]
      obtain ⟨r1, r2⟩ := ih oc hd wl v (es.push ⟨.obj r, false, (stand oc).isChan⟩) (es'.push ⟨.obj (X.ρ.f r), false, (stand oc).isChan⟩) rfl hw (by subst he; simp [renE, renL]) ht hs
      exact ⟨r1, r2.imp id fun h => evpush (.inr (.inl ⟨r, rfl, inB_mono (runT_mono X.P _ _ _).size hr, by simp, hw.naObj X h1 (fun c e fr => by rcases stand_or oc with e' | e' <;> rw [e'] <;> exact fun h => by cases h)⟩)) h⟩
    | number hn =>
      rename_i a l
      have e1 : (Sem.getObj r k).runT X.P wl es = (k (.number a l)).runT X.P wl (es.push ⟨.obj r, false, false⟩) := by simp only [Sem.runT, h1]; rfl
      have e2 : (Sem.getObj (X.ρ.f r) k').runT X.P v es' = (k' (.number (renA X.ρ a) l)).runT X.P v (es'.push ⟨.obj (X.ρ.f r), false, false⟩) := by simp only [Sem.runT, h2]; rfl
      rw [e2] at ht hs
      rw [e1, e2]
      obtain ⟨r1, r2⟩ := ih2 a l hn wl v (es.push ⟨.obj r, false, false⟩) (es'.push ⟨.obj (X.ρ.f r), false, false⟩) rfl hw (by subst he; simp [renE, renL]) ht hs
      exact ⟨r1, r2.imp id fun h => evpush (.inr (.inl ⟨r, rfl, inB_mono (runT_mono X.P _ _ _).size hr, by simp, hw.naObj X h1 (fun c e fr h => by cases h)⟩)) h⟩
    | map hwr hn =>
      rename_i mes clk
      have e1 : (Sem.getObj r k).runT X.P wl es = (k (.map mes clk)).runT X.P wl (es.push ⟨.obj r, false, false⟩) := by simp only [Sem.runT, h1]; rfl
      have e2 : (Sem.getObj (X.ρ.f r) k').runT X.P v es' = (k' (.map (renM X.ρ mes) clk)).runT X.P v (es'.push ⟨.obj (X.ρ.f r), false, false⟩) := by simp only [Sem.runT, h2]; rfl
      rw [e2] at ht hs
      rw [e1, e2]
      obtain ⟨r1, r2⟩ := ih3 mes clk hn hwr wl v (es.push ⟨.obj r, false, false⟩) (es'.push ⟨.obj (X.ρ.f r), false, false⟩) rfl hw (by subst he; simp [renE, renL]) ht hs
      exact ⟨r1, r2.imp id fun h => evpush (.inr (.inl ⟨r, rfl, inB_mono (runT_mono X.P _ _ _).size hr, by simp, hw.naObj X h1 (fun c e fr h => by cases h)⟩)) h⟩
  | newMap _ ih =>
    rename_i B c k k' _
    intro wl v es es' hB hw he ht hs
    have e2 : (Sem.new (.map #[] c) k').runT X.P v es' = (k' v.heap.size).runT X.P { v with heap := v.heap.push (.map #[] c) } es' := rfl
    have hm := runT_mono X.P (k' v.heap.size) { v with heap := v.heap.push (.map #[] c) } es'
    have hms := hm.size
    simp only [Array.size_push] at hms
    have hf : X.ρ.f wl.heap.size = v.heap.size := by
      have := hs 0 (by rw [e2]; omega)
      simpa using this
    subst hB
    obtain ⟨w1, w2⟩ := hw.push X (o := .map #[] c) (o' := .map #[] c) (by have := BR.map (X := X) (B := wl.heap.size + 1) (wr := true) (es := #[]) (c := c) rfl (fun e he => by simp at he); simpa [renM] using this) hf
    rw [e2] at ht hs ⊢
    have e1 : (Sem.new (.map #[] c) k).runT X.P wl es = (k wl.heap.size).runT X.P { wl with heap := wl.heap.push (.map #[] c) } es := rfl
    rw [e1]
    rw [hf] at ih
    obtain ⟨r1, r2⟩ := ih (hw.fresh _ (Nat.le_refl _)).1 _ _ es es' (by simp) w1 he ht (fun i hi => by
      have := hs (i + 1) (by simp only [Array.size_push] at hi; omega)
      simp only [Array.size_push]
      rw [show wl.heap.size + 1 + i = wl.heap.size + (i + 1) by omega, this]; omega)
    exact ⟨r1.from_ X w2 ⟨Nat.le_refl _, by simp, rfl⟩ ⟨Nat.le_refl _, by simp, rfl⟩ (fun i hi => by
      simp only [Array.size_push] at hi
      obtain rfl : i = 0 := by omega
      simpa using hf), r2⟩
  | setMap hr hwr hok _ ih =>
    rename_i B r mes clk k k' _
    intro wl v es es' hB hw he ht hs
    subst hB
    obtain ⟨ol, oc, h1, h2, h3⟩ := hw.blk _ (inB_lt hr) (inB_al hr)
    by_cases hcl : ∃ c e fr, ol = .cells c e fr
    · obtain ⟨c, e, fr, rfl⟩ := hcl
      have e1 : (Sem.setObj r (.map mes clk) k).runT X.P wl es = (.halt (.stuck "setObj: a row of cells") wl, es) := by simp only [Sem.runT, h1]
      rw [e1]
      exact ⟨.dead trivial, .inl ⟨_, _, rfl, trivial⟩⟩
    · have hcl2 : ∀ c e fr, oc ≠ .cells c e fr := by
        intro c e fr hh
        subst hh
        cases h3 with
        | dull hd => exact hd.elim
        | _ => exact hcl ⟨_, _, _, rfl⟩
      have hcl1 : ∀ c e fr, ol ≠ .cells c e fr := fun c e fr hh => hcl ⟨c, e, fr, hh⟩
      have hna := hw.naObj X h1 hcl1
      obtain ⟨w1, w2⟩ := hw.setMap X hr hwr hok h1 hna
      have e1 : (Sem.setObj r (.map mes clk) k).runT X.P wl es = k.runT X.P { wl with heap := wl.heap.setIfInBounds r (.map mes clk) } (es.push ⟨.obj r, true, false⟩) := by
        cases ol <;> first | exact absurd rfl (hcl1 _ _ _) | (simp only [Sem.runT, h1]; rfl)
      have e2 : (Sem.setObj (X.ρ.f r) (.map (renM X.ρ mes) clk) k').runT X.P v es' = k'.runT X.P { v with heap := v.heap.setIfInBounds (X.ρ.f r) (.map (renM X.ρ mes) clk) } (es'.push ⟨.obj (X.ρ.f r), true, false⟩) := by
        cases oc <;> first | exact absurd rfl (hcl2 _ _ _) | (simp only [Sem.runT, h2]; rfl)
      rw [e2] at ht hs
      rw [e1, e2]
      have s1 : ({ wl with heap := wl.heap.setIfInBounds r (.map mes clk) } : World).heap.size = wl.heap.size := by simp
      have s2 : ({ v with heap := v.heap.setIfInBounds (X.ρ.f r) (.map (renM X.ρ mes) clk) } : World).heap.size = v.heap.size := by simp
      obtain ⟨r1, r2⟩ := ih _ _ (es.push ⟨.obj r, true, false⟩) (es'.push ⟨.obj (X.ρ.f r), true, false⟩) s1.symm w1 (by subst he; simp [renE, renL]) ht (fun i hi => by rw [s1, s2]; exact hs i (by rw [← s2]; exact hi))
      have hsz := (runT_mono X.P k { wl with heap := wl.heap.setIfInBounds r (.map mes clk) } (es.push ⟨.obj r, true, false⟩)).size
      rw [s1] at hsz
      exact ⟨r1.from_ X w2 ⟨Nat.le_refl _, by rw [s1]; exact Nat.le_refl _, rfl⟩ ⟨Nat.le_refl _, by rw [s2]; exact Nat.le_refl _, rfl⟩ (fun i hi => by rw [s2] at hi; omega), r2.imp id fun h => evpush (.inr (.inl ⟨r, rfl, inB_mono hsz hr, fun _ => ⟨hwr, rfl⟩, hna⟩)) h⟩
end Go.Proofs.Ytmmolicodlmlkaa.Rel
namespace Go.Proofs.Ytmmolicodlmlkaa.Rel
set_option linter.unusedVariables false

/-- No address and no function within. -/
def noAddr : Value → Bool
  | .pointer (some _) | .slice (some _) _ _ | .map (some _) | .chan (some _) | .func _ _ _ | .complex _ _ _ => false
  | .iface t v => noAddr v
  | .agg cs => cs.attach.all fun ⟨v, _⟩ => noAddr v
  | .tuple vs => vs.attach.all fun ⟨v, _⟩ => noAddr v
  | _ => true
termination_by v => SizeOf.sizeOf v
theorem attach_all_noAddr (cs : Array Value) : (cs.attach.all fun ⟨v, _⟩ => noAddr v) = cs.all noAddr := by
  rw [Bool.eq_iff_iff, Array.all_eq_true', Array.all_eq_true']
  exact ⟨fun h x hx => h ⟨x, hx⟩ (Array.mem_attach _ _), fun h x _ => h x.1 x.2⟩
theorem noAddr_ok (ρ : Rn) (Fs : Fns) (B : Nat) : ∀ (v : Value), noAddr v = true → ren ρ v = v ∧ okJ Fs B v = true
  | .agg cs, h => by
    rw [noAddr, attach_all_noAddr, Array.all_eq_true'] at h
    rw [ren_agg, okJ_agg, Array.all_eq_true']
    refine ⟨?_, fun x hx => (noAddr_ok ρ Fs B x (h x hx)).2⟩
    congr 1
    apply Array.ext (by simp)
    intro i h1 h2
    rw [Array.getElem_map]
    exact (noAddr_ok ρ Fs B _ (h _ (Array.getElem_mem h2))).1
  | .tuple cs, h => by
    rw [noAddr, attach_all_noAddr, Array.all_eq_true'] at h
    rw [ren_tuple, okJ_tuple, Array.all_eq_true']
    refine ⟨?_, fun x hx => (noAddr_ok ρ Fs B x (h x hx)).2⟩
    congr 1
    apply Array.ext (by simp)
    intro i h1 h2
    rw [Array.getElem_map]
    exact (noAddr_ok ρ Fs B _ (h _ (Array.getElem_mem h2))).1
  | .iface t v, h => by
    rw [noAddr] at h
    rw [ren_iface, okJ_iface, (noAddr_ok ρ Fs B v h).1]
    exact ⟨rfl, (noAddr_ok ρ Fs B v h).2⟩
  | .pointer (some a), h | .slice (some a) _ _, h | .map (some a), h | .chan (some a), h | .func _ _ _, h | .complex _ _ _, h => by rw [noAddr] at h; cases h
  | .pointer none, _ | .slice none _ _, _ | .map none, _ | .chan none, _ | .bool _, _ | .int _ _, _ | .float _ _, _ | .string _, _ | .nilFunc, _ | .nilIface, _ => by
    refine ⟨by rw [ren] <;> rfl, by rw [okJ] <;> simp⟩
termination_by v => SizeOf.sizeOf v

variable {X : Cx}
def RV (X : Cx) (B : Nat) (a b : Value) : Prop := b = ren X.ρ a ∧ okJ X.Fs B a = true
def RA (X : Cx) (B : Nat) (a b : Addr) : Prop := b = renA X.ρ a ∧ inB X.Fs B a.block = true
def RC (X : Cx) (B : Nat) (a b : Array Value) : Prop := b = a.map (ren X.ρ) ∧ ∀ v ∈ a, okJ X.Fs B v = true
def RQ {α : Type} (B : Nat) (a b : α) : Prop := a = b
theorem RV.mono {B B' : Nat} (hB : B ≤ B') {a b : Value} (h : RV X B a b) : RV X B' a b := ⟨h.1, okJ_mono _ hB _ h.2⟩
theorem RC.mono {B B' : Nat} (hB : B ≤ B') {a b : Array Value} (h : RC X B a b) : RC X B' a b := ⟨h.1, fun v hv => okJ_mono _ hB _ (h.2 v hv)⟩
/-- The types' zero values name no block. -/
def ZeroOk (P : Program) : Prop := ∀ t i z, P.info? t = some i → i.zero = some z → noAddr z = true

section
variable {B : Nat} {t : TypeId}
theorem sr_typeInfo : SR X RQ B (typeInfo t) (typeInfo t) := .program (by
  show SR X RQ B (match X.P.info? t with | some i => pure i | none => stuck "no such type") (match X.P.info? t with | some i => pure i | none => stuck "no such type")
  cases h : X.P.info? t with
  | some i => exact SR.pure (R := RQ) rfl
  | none => exact .dead (.halt trivial))
theorem sr_typeInfo' : SR X (fun _ a b => a = b ∧ X.P.info? t = some a) B (typeInfo t) (typeInfo t) := .program (by
  show SR X _ B (match X.P.info? t with | some i => pure i | none => stuck "no such type") (match X.P.info? t with | some i => pure i | none => stuck "no such type")
  cases h : X.P.info? t with
  | some i => exact .pure ⟨rfl, rfl⟩
  | none => exact .dead (.halt trivial))
theorem sr_underlying : SR X RQ B (underlying t) (underlying t) := .program (by
  show SR X RQ B (match X.P.underlying t with | some i => pure i | none => stuck "no such type") (match X.P.underlying t with | some i => pure i | none => stuck "no such type")
  cases h : X.P.underlying t with
  | some i => exact SR.pure (R := RQ) rfl
  | none => exact .dead (.halt trivial))
theorem sr_sizeOf : SR X RQ B (sizeOf t) (sizeOf t) := sr_typeInfo.bind X fun B' a b _ h => by subst h; exact .pure rfl
theorem sr_zeroValue (hz : ZeroOk X.P) : SR X (RV X) B (zeroValue t) (zeroValue t) := sr_typeInfo'.bind X fun B' a b _ h => by
  obtain ⟨rfl, hi⟩ := h
  cases hv : a.zero with
  | none => exact .dead (.halt trivial)
  | some v =>
    obtain ⟨h1, h2⟩ := noAddr_ok X.ρ X.Fs B' v (hz t a v hi hv)
    exact .pure ⟨h1.symm, h2⟩
theorem sr_isAgg : SR X RQ B (isAgg t) (isAgg t) := sr_underlying.bind X fun B' a b _ h => by
  subst h
  split <;> exact .pure rfl
theorem sr_load {a a' : Addr} (h : RA X B a a') : SR X (RV X) B (load a .plain) (load a' .plain) := by
  obtain ⟨rfl, _⟩ := h
  exact .load fun v hv => .pure ⟨rfl, hv⟩
theorem RA.add {a a' : Addr} (h : RA X B a a') (n : Nat) : RA X B (a.add n) (a'.add n) := by
  obtain ⟨rfl, h⟩ := h
  refine ⟨(renA_add _ _ _).symm, ?_⟩
  unfold Addr.add
  split <;> exact h
theorem sr_loadCellsFrom {a a' : Addr} (h : RA X B a a') : ∀ (n i : Nat) (acc acc' : Array Value), RC X B acc acc' → SR X (RC X) B (loadCellsFrom a i n acc) (loadCellsFrom a' i n acc')
  | 0, i, acc, acc', hc => .pure hc
  | n + 1, i, acc, acc', hc => by
    unfold loadCellsFrom
    have := (h.add i).1
    show SR X (RC X) B (load (a.add i) >>= fun v => loadCellsFrom a (i + 1) n (acc.push v)) (load (a'.add i) >>= fun v => loadCellsFrom a' (i + 1) n (acc'.push v))
    rw [this]
    refine .load fun v hv => ?_
    exact sr_loadCellsFrom h n (i + 1) _ _ ⟨by rw [hc.1]; simp, fun u hu => by
      rcases Array.mem_push.1 hu with h1 | h1
      · exact hc.2 u h1
      · rw [h1]; exact hv⟩
theorem sr_loadCells {a a' : Addr} (h : RA X B a a') (n : Nat) : SR X (RC X) B (loadCells a n) (loadCells a' n) := sr_loadCellsFrom h n 0 _ _ ⟨by simp, by simp⟩
theorem sr_storeCells {a a' : Addr} (h : RA X B a a') : ∀ (vs : List Value) (i : Nat), (∀ v ∈ vs, okJ X.Fs B v = true) → SR X RQ B (storeCells a vs i) (storeCells a' (vs.map (ren X.ρ)) i)
  | [], i, _ => .pure rfl
  | v :: vs, i, hv => by
    unfold storeCells
    have := (h.add i).1
    rw [List.map_cons]
    show SR X RQ B (store (a.add i) v >>= fun _ => storeCells a vs (i + 1)) (store (a'.add i) (ren X.ρ v) >>= fun _ => storeCells a' (vs.map (ren X.ρ)) (i + 1))
    rw [this]
    exact .store (hv v List.mem_cons_self) (sr_storeCells h vs (i + 1) fun u hu => hv u (List.mem_cons_of_mem _ hu))
/-- A block's first place. -/
def RN (X : Cx) (B : Nat) (a b : Addr) : Prop := RA X B a b ∧ a.spot = none
theorem sr_newRowN {c c' : Array Value} (h : RC X B c c') (e : TypeId) : SR X (RN X) B (newRow e c) (newRow e c') := by
  obtain ⟨rfl, hc⟩ := h
  exact .new hc fun hal => .pure ⟨⟨rfl, inB_new hal⟩, rfl⟩
theorem sr_newRow {c c' : Array Value} (h : RC X B c c') (e : TypeId) : SR X (RA X) B (newRow e c) (newRow e c') := (sr_newRowN h e).mono X fun _ _ _ _ h => h.1
theorem RN.slice {a a' : Addr} (h : RN X B a a') (n c : Nat) : RV X B (.slice (some a) n c) (.slice (some a') n c) := by
  obtain ⟨⟨rfl, h⟩, h2⟩ := h
  refine ⟨by rw [ren_slice, Option.map_some, renS_none _ h2], ?_⟩
  rw [okJ_slice]
  exact inZ_S (by simp [inZ, h2, h])
theorem RV.cells {v v' : Value} (h : RV X B v v') : RC X B v.cells v'.cells := by
  obtain ⟨rfl, h⟩ := h
  exact ⟨ren_cells _ _, okJ_cells h⟩
theorem sr_newVar {v v' : Value} (h : RV X B v v') (e : TypeId) : SR X (RA X) B (newVar e v) (newVar e v') := sr_newRow h.cells e
theorem RA.mono {B' : Nat} (hB : B ≤ B') {a b : Addr} (h : RA X B a b) : RA X B' a b := ⟨h.1, inB_mono hB h.2⟩
theorem sr_loadVar {a a' : Addr} (h : RA X B a a') : SR X (RV X) B (loadVar t a) (loadVar t a') := by
  refine sr_isAgg.bind X ?_
  intro B' x y hB e
  obtain rfl : x = y := e
  cases x with
  | true =>
    show SR X (RV X) B' (sizeOf t >>= fun n => loadCells a n >>= fun c => pure (.agg c)) (sizeOf t >>= fun n => loadCells a' n >>= fun c => pure (.agg c))
    refine sr_sizeOf.bind X ?_
    intro B2 x y hB2 e
    obtain rfl : x = y := e
    refine (sr_loadCells (h.mono (by omega)) x).bind X ?_
    intro B3 c c' _ hc
    exact .pure ⟨by rw [ren_agg, hc.1], by rw [okJ_agg, Array.all_eq_true']; exact hc.2⟩
  | false => exact sr_load (h.mono hB)
theorem sr_storeVar {a a' : Addr} {v v' : Value} (h : RA X B a a') (hv : RV X B v v') : SR X RQ B (storeVar t a v) (storeVar t a' v') := by
  refine sr_sizeOf.bind X ?_
  intro B' x y hB e
  obtain rfl : x = y := e
  have hc := (hv.mono hB).cells
  have hs : v'.cells.size = v.cells.size := by rw [hc.1]; simp
  have e2 : v'.cells.toList = v.cells.toList.map (ren X.ρ) := by rw [hc.1]; simp
  by_cases hn : v.cells.size ≠ x
  · have hn' : v'.cells.size ≠ x := by rw [hs]; exact hn
    simp only [hn, hn', ne_eq, not_false_eq_true, if_true]
    exact .dead (.halt trivial)
  · have hn' : ¬ v'.cells.size ≠ x := by rw [hs]; exact hn
    simp only [hn, hn', if_false]
    show SR X RQ B' (storeCells a v.cells.toList) (storeCells a' v'.cells.toList)
    rw [e2]
    exact sr_storeCells (h.mono hB) _ 0 fun u hu => hc.2 u (by simpa using hu)
end
end Go.Proofs.Ytmmolicodlmlkaa.Rel
namespace Go.Proofs.Ytmmolicodlmlkaa.Rel
set_option linter.unusedVariables false
variable {X : Cx} {B : Nat}

theorem sr_stuck {α β : Type} {R : Nat → α → β → Prop} {w : String} {s' : Sem β} : SR X R B (stuck w) s' := .dead (.halt trivial)
theorem sr_unsup {α β : Type} {R : Nat → α → β → Prop} {u : Unsupported} {s' : Sem β} (hu : deadH (.unsupported u) := by exact trivial) : SR X R B (unsupported u) s' := .dead (.halt hu)
/-- The panics of the runtime that ask nothing. -/
def plainE : RuntimeError → Prop
  | .bounds .. | .error _ | .plain _ | .nilDeref => True
  | _ => False
theorem sr_runtimePanic {α β : Type} {R : Nat → α → β → Prop} {e : RuntimeError} {s' : Sem β} (h : plainE e) : SR X R B (runtimePanic e : Sem α) s' := by
  cases e <;> first | exact h.elim | exact .dead (.program fun p => .halt trivial)
theorem sr_asIntOf {v v' : Value} (h : RV X B v v') : SR X RQ B (asIntOf v) (asIntOf v') := by
  obtain ⟨rfl, hv⟩ := h
  clear hv
  cases v
  case int k n => rw [ren_int]; exact SR.pure (R := RQ) rfl
  case pointer a => cases a <;> first | exact sr_unsup | exact sr_stuck
  all_goals exact sr_stuck
theorem sr_asInt {v v' : Value} (h : RV X B v v') : SR X RQ B (asInt v) (asInt v') := by
  refine (sr_asIntOf h).bind X ?_
  intro B' a b _ e
  obtain rfl : a = b := e
  exact SR.pure (R := RQ) rfl
theorem sr_asBool {v v' : Value} (h : RV X B v v') : SR X RQ B (asBool v) (asBool v') := by
  obtain ⟨rfl, hv⟩ := h
  clear hv
  cases v
  case bool b => rw [ren_bool]; exact SR.pure (R := RQ) rfl
  all_goals exact sr_stuck
theorem sr_sureAddr {v v' : Value} (h : RV X B v v') : SR X (RA X) B (Instr.sureAddr v) (Instr.sureAddr v') := by
  obtain ⟨rfl, h⟩ := h
  cases v
  case pointer a =>
    cases a with
    | none => exact sr_stuck
    | some a =>
      rw [ren_pointer]
      exact .pure ⟨rfl, by simpa using h⟩
  all_goals exact sr_stuck
theorem sr_boundsPanic {α β : Type} {R : Nat → α → β → Prop} {k : IntKind} {x y : Int} {c : BoundsCode} : SR X R B (boundsPanic k x y c : Sem α) (boundsPanic k x y c : Sem β) := by
  unfold boundsPanic
  simp only []
  split
  · exact .choose fun n => sr_runtimePanic (e := .bounds _ _ _ _) trivial
  · exact sr_runtimePanic (e := .bounds _ _ _ _) trivial
theorem RA.ptr {a a' : Addr} (h : RA X B a a') : RV X B (.pointer (some a)) (.pointer (some a')) := by
  obtain ⟨rfl, h⟩ := h
  exact ⟨by rw [ren_pointer]; rfl, by simpa using h⟩
theorem sr_alloc (hz : ZeroOk X.P) {e : TypeId} : SR X (RV X) B (Instr.alloc e true (.tuple #[])) (Instr.alloc e true (.tuple #[])) := by
  refine (sr_zeroValue hz).bind X ?_
  intro B' z z' _ h
  exact (sr_newVar h e).bind X fun B2 a a' _ ha => .pure ha.ptr
theorem sr_box {v v' : Value} (h : RV X B v v') {e : TypeId} : SR X (RV X) B (Instr.box e v) (Instr.box e v') :=
  (sr_newVar h e).bind X fun B2 a a' _ ha => .pure ha.ptr
theorem sr_loadAt {v v' : Value} (h : RV X B v v') {t : TypeId} : SR X (RV X) B (Instr.loadAt t v) (Instr.loadAt t v') :=
  (sr_sureAddr h).bind X fun B2 a a' _ ha => sr_loadVar ha
theorem sr_storeAt {v v' u u' : Value} (h : RV X B v v') (hu : RV X B u u') {t : TypeId} : SR X RQ B (Instr.storeAt t v u) (Instr.storeAt t v' u') :=
  (sr_sureAddr h).bind X fun B2 a a' hB ha => sr_storeVar ha (hu.mono hB)
theorem sr_extract {v v' : Value} (h : RV X B v v') {i : Nat} : SR X (RV X) B (Instr.extract v i) (Instr.extract v' i) := by
  obtain ⟨rfl, h⟩ := h
  cases v
  case tuple vs =>
    rw [ren_tuple]
    simp only [Instr.extract, Array.getElem?_map]
    cases hi : vs[i]? with
    | none => exact sr_stuck
    | some u =>
      rw [okJ_tuple, Array.all_eq_true'] at h
      exact .pure ⟨rfl, h u (Array.mem_of_getElem? hi)⟩
  all_goals exact sr_stuck
theorem sr_int {k : IntKind} {n : Int} : SR X (RV X) B (pure (.int k n)) (pure (.int k n)) := .pure ⟨(ren_int _ _ _).symm, by simp⟩
theorem sr_bool {b : Bool} : SR X (RV X) B (pure (.bool b)) (pure (.bool b)) := .pure ⟨(ren_bool _ _).symm, by simp⟩
theorem sr_float {k : FloatKind} {n : Nat} : SR X (RV X) B (pure (.float k n)) (pure (.float k n)) := .pure ⟨(ren_float _ _ _).symm, by simp⟩
theorem sr_string {s : ByteArray} : SR X (RV X) B (pure (.string s)) (pure (.string s)) := .pure ⟨(ren_string _ _).symm, by simp⟩
theorem sr_intArith {op : BinOp} {k : IntKind} {x y : Int} : SR X (RV X) B (Op.intArith op k x y) (Op.intArith op k x y) := by
  cases op <;> first | exact sr_int | exact sr_stuck
theorem sr_intDiv {op : BinOp} {k : IntKind} {x y : Int} : SR X (RV X) B (Op.intDiv op k x y) (Op.intDiv op k x y) := by
  unfold Op.intDiv
  split
  · exact sr_runtimePanic trivial
  · cases op <;> first | exact sr_int | exact sr_stuck
theorem sr_intBits {op : BinOp} {k : IntKind} {x y : Int} : SR X (RV X) B (Op.intBits op k x y) (Op.intBits op k x y) := by
  cases op <;> first | exact sr_int | exact sr_stuck
theorem sr_intCmp {op : BinOp} {x y : Int} : SR X (RV X) B (Op.intCmp op x y) (Op.intCmp op x y) := by
  cases op <;> first | exact sr_bool | exact sr_stuck
theorem sr_shift {op : BinOp} {k k' : IntKind} {x y : Int} : SR X (RV X) B (Op.shift op k x k' y) (Op.shift op k x k' y) := by
  unfold Op.shift
  split
  · exact sr_runtimePanic trivial
  · cases op <;> first | exact sr_int | exact sr_stuck
theorem sr_stringOp {op : BinOp} {x y : ByteArray} : SR X (RV X) B (Op.stringOp op x y) (Op.stringOp op x y) := by
  unfold Op.stringOp
  cases op <;> first | exact sr_bool | exact sr_stuck | (simp only []; split <;> first | exact sr_unsup | exact sr_string)
theorem okJ_complex {Fs : Fns} {B : Nat} {k : FloatKind} {a b : Nat} (h : okJ Fs B (.complex k a b) = true) : False := by rw [okJ] at h; cases h
theorem sr_unary {op : UnOp} {v v' : Value} (h : RV X B v v') : SR X (RV X) B (Op.unary op v) (Op.unary op v') := by
  obtain ⟨rfl, hv⟩ := h
  by_cases hcx : ∃ k a b, v = .complex k a b
  · obtain ⟨k, a, b, rfl⟩ := hcx
    exact (okJ_complex hv).elim
  clear hv
  cases v
  case int k n =>
    rw [ren_int]
    cases op
    case neg => exact sr_intArith (op := .sub) (k := k) (x := 0) (y := n)
    case xor => exact sr_intBits (op := .xor) (k := k) (x := if k.signed then -1 else k.max) (y := n)
    all_goals exact sr_stuck
  case bool b => rw [ren_bool]; cases op <;> first | exact sr_bool | exact sr_stuck
  case float k b => rw [ren_float]; cases op <;> first | exact sr_float | exact sr_stuck
  case complex k a b => exact absurd ⟨_, _, _, rfl⟩ hcx
  case pointer a => clear hcx; cases a <;> cases op <;> first | exact sr_stuck | exact sr_unsup
  all_goals cases op <;> exact sr_stuck
end Go.Proofs.Ytmmolicodlmlkaa.Rel
namespace Go.Proofs.Ytmmolicodlmlkaa.Rel
set_option linter.unusedVariables false
variable {X : Cx} {B : Nat}

/-- A place with what stands beside it; none is asked for where there is nothing. -/
def RB (X : Cx) (B : Nat) (p q : Option Addr × Nat × TypeId) : Prop := ((p.1 = none ∧ q.1 = none) ∨ ∃ a a', p.1 = some a ∧ q.1 = some a' ∧ (RA X B a a' ∨ p.2.1 = 0)) ∧ q.2 = p.2
theorem RV.slice {a : Option Addr} {n c : Nat} {v : Value} (h : RV X B (.slice a n c) v) : v = .slice (a.map (renS X.ρ)) n c ∧ ∀ b, a = some b → inS X.Fs B b n c = true := by
  obtain ⟨rfl, h⟩ := h
  refine ⟨ren_slice _ _ _ _, fun b hb => ?_⟩
  subst hb
  simpa using h
theorem inS_or {a : Addr} {n c : Nat} (h : inS X.Fs B a n c = true) : (RA X B a (renS X.ρ a) ∧ a.spot = none) ∨ (n = 0 ∧ c = 0) := by
  unfold inS at h
  split at h
  · rename_i h1
    have h2 : a.spot = none := by simpa using h1
    exact .inl ⟨⟨renS_none _ h2, h⟩, h2⟩
  · simp at h
    exact .inr h
def idxTail (t : TypeId) (k : IntKind) (i : Int) (p : Option Addr × Nat × TypeId) : Sem Value := do
  let d ← underlying t
  match p.1 with
  | some a =>
    if 0 ≤ i ∧ i < p.2.1 then do
      let s ← sizeOf p.2.2
      pure (.pointer (some (a.add (i.toNat * s))))
    else if (p.2.1 ≤ 1 && (match d with | .array .. => true | _ => false)) = true then unsupported (.noEntry "op/indexAddr.an index out of range at an array of length 0 or 1 (ledger 616)")
    else boundsPanic k i p.2.1 .index
  | none => boundsPanic k i 0 .index
theorem sr_idxTail {t : TypeId} {k : IntKind} {i : Int} {p q : Option Addr × Nat × TypeId} (h : RB X B p q) : SR X (RV X) B (idxTail t k i p) (idxTail t k i q) := by
  obtain ⟨pa, pl, pe⟩ := p
  obtain ⟨qa, ql⟩ := q
  obtain ⟨h1, h3⟩ := h
  simp only at h1 h3
  subst h3
  refine sr_underlying.bind X ?_
  intro B1 d d' hB e
  obtain rfl : d = d' := e
  rcases h1 with ⟨rfl, rfl⟩ | ⟨a, a', rfl, rfl, ha⟩
  · exact sr_boundsPanic
  · simp only []
    split
    · rename_i hin
      have ha : RA X B1 a a' := RA.mono hB (ha.elim id fun h => by omega)
      refine sr_sizeOf.bind X ?_
      intro B2 s s' hB2 e
      obtain rfl : s = s' := e
      exact .pure (((ha.mono hB2).add _).ptr)
    · split <;> split <;> first | exact sr_unsup | exact sr_boundsPanic
theorem sr_indexAt {t : TypeId} {x x' i i' : Value} (hx : RV X B x x') (hi : RV X B i i') : SR X (RV X) B (Instr.indexAt t x i) (Instr.indexAt t x' i') := by
  unfold Instr.indexAt
  refine (sr_asIntOf hi).bind X ?_
  rintro B1 ⟨k, n⟩ q hB e
  obtain rfl : (k, n) = q := e
  have hx1 := hx.mono hB
  simp only []
  refine sr_underlying.bind X ?_
  intro B2 d d' hB2 e
  obtain rfl : d = d' := e
  have hx2 := hx1.mono hB2
  cases d
  case array len elem =>
    simp only []
    refine (sr_sureAddr hx2).bind X ?_
    intro B3 a a' hB3 ha
    exact sr_idxTail (t := t) (k := k) (i := n) (p := (some a, len, elem)) (q := (some a', len, elem)) ⟨.inr ⟨a, a', rfl, rfl, .inl ha⟩, rfl⟩
  case slice elem =>
    cases x
    case slice a l c =>
      obtain ⟨rfl, h2⟩ := hx2.slice
      exact sr_idxTail (t := t) (k := k) (i := n) (p := (a, l, elem)) (q := (a.map (renS X.ρ), l, elem)) ⟨by
        cases a with
        | none => exact .inl ⟨rfl, rfl⟩
        | some a => exact .inr ⟨a, _, rfl, rfl, (inS_or (h2 a rfl)).imp (·.1) (·.1)⟩, rfl⟩
    all_goals exact sr_stuck
  all_goals exact sr_stuck
theorem sr_fieldPlace {a a' : Addr} {f : Field} (h : RA X B a a') (hf : ∀ i, X.P.info? f.type = some i → i.size ≠ 0) : SR X (RA X) B (fieldPlace a f) (fieldPlace a' f) := by
  refine (sr_typeInfo'.bind X ?_ : SR X (fun _ a b => a = b ∧ a ≠ 0) B (sizeOf f.type) (sizeOf f.type)).bind X ?_
  · rintro B1 i j hB ⟨rfl, hi⟩
    exact SR.pure (R := fun _ a b => a = b ∧ a ≠ 0) ⟨rfl, hf i hi⟩
  · rintro B1 n m hB ⟨rfl, hn⟩
    simp only [hn, if_false]
    exact .pure ((h.mono hB).add _)
theorem sr_fieldAt {t : TypeId} {x x' : Value} {i : Nat} (hx : RV X B x x') (hf : ∀ fs f, X.P.underlying t = some (.struct fs) → fs[i]? = some f → ∀ j, X.P.info? f.type = some j → j.size ≠ 0) : SR X (RV X) B (Instr.fieldAt t x i) (Instr.fieldAt t x' i) := by
  unfold Instr.fieldAt
  refine SR.bind X (R := fun _ a b => a = b ∧ X.P.underlying t = some a) ?_ ?_
  · refine .program ?_
    show SR X _ B (match X.P.underlying t with | some d => pure d | none => stuck "no such type") (match X.P.underlying t with | some d => pure d | none => stuck "no such type")
    cases h : X.P.underlying t with
    | some d => exact .pure ⟨rfl, rfl⟩
    | none => exact sr_stuck
  · rintro B1 d d' hB ⟨rfl, hd⟩
    cases d
    case struct fs =>
      simp only []
      cases hfi : fs[i]? with
      | none => exact sr_stuck
      | some f =>
        simp only []
        refine (sr_sureAddr (hx.mono hB)).bind X ?_
        intro B2 a a' hB2 ha
        refine (sr_fieldPlace ha (hf fs f hd hfi)).bind X ?_
        intro B3 b b' hB3 hb
        exact .pure hb.ptr
    all_goals exact sr_stuck
theorem sr_len {ts : Array TypeId} {t t0 e : TypeId} {x x' : Value} (hx : RV X B x x') (h0 : ts[0]? = some t0) (ht : X.P.underlying t0 = some (.slice e)) : SR X (RV X) B (Builtin.len_ ts t #[x]) (Builtin.len_ ts t #[x']) := by
  unfold Builtin.len_
  rw [h0]
  simp only [List.getElem?_toArray, List.getElem?_cons_zero]
  refine SR.bind X (R := fun _ a b => a = .slice e ∧ b = .slice e) ?_ ?_
  · refine .program ?_
    show SR X _ B (match X.P.underlying t0 with | some d => pure d | none => stuck "no such type") (match X.P.underlying t0 with | some d => pure d | none => stuck "no such type")
    rw [ht]
    exact .pure ⟨rfl, rfl⟩
  · rintro B1 a b hB ⟨rfl, rfl⟩
    have hx1 := hx.mono hB
    cases x
    case slice a l c =>
      obtain ⟨rfl, _⟩ := hx1.slice
      exact sr_int
    all_goals exact sr_stuck
end Go.Proofs.Ytmmolicodlmlkaa.Rel
namespace Go.Proofs.Ytmmolicodlmlkaa.Rel
set_option linter.unusedVariables false
variable {X : Cx} {B : Nat}

theorem fold_ren (ρ : Rn) (off : Nat) : ∀ (l : List (Value × Nat)) (cs : Array Value), (l.map fun p => (ren ρ p.1, p.2)).foldl (fun cs p => cs.setIfInBounds (off + p.2) p.1) (cs.map (ren ρ)) = (l.foldl (fun cs p => cs.setIfInBounds (off + p.2) p.1) cs).map (ren ρ)
  | [], cs => rfl
  | p :: l, cs => by
    rw [List.map_cons, List.foldl_cons, List.foldl_cons]
    have e : (cs.map (ren ρ)).setIfInBounds (off + p.2) (ren ρ p.1) = (cs.setIfInBounds (off + p.2) p.1).map (ren ρ) := by
      apply Array.ext'; simp
    simp only [e]
    exact fold_ren ρ off l _
theorem fold_ok (Fs : Fns) (B off : Nat) : ∀ (l : List (Value × Nat)) (cs : Array Value), (∀ v ∈ cs, okJ Fs B v = true) → (∀ p ∈ l, okJ Fs B p.1 = true) → ∀ v ∈ l.foldl (fun cs p => cs.setIfInBounds (off + p.2) p.1) cs, okJ Fs B v = true
  | [], cs, hc, _ => hc
  | p :: l, cs, hc, hl => by
    rw [List.foldl_cons]
    refine fold_ok Fs B off l _ (fun v hv => ?_) (fun q hq => hl q (List.mem_cons_of_mem _ hq))
    rcases Array.mem_or_eq_of_mem_setIfInBounds hv with h | h
    · exact hc v h
    · rw [h]; exact hl p List.mem_cons_self
theorem fill_ren (ρ : Rn) (place : Nat → Option (Nat × Nat)) : ∀ (parts : List (Nat × Value)) (cs : Array Value), Instr.fill place (cs.map (ren ρ)) (parts.map fun p => (p.1, ren ρ p.2)) = (Instr.fill place cs parts).map fun c => c.map (ren ρ)
  | [], cs => rfl
  | (i, v) :: rest, cs => by
    rw [List.map_cons]
    unfold Instr.fill
    cases hp : place i with
    | none => rfl
    | some q =>
      obtain ⟨off, size⟩ := q
      simp only [ren_cells, Array.size_map]
      split
      · rfl
      · rw [← fill_ren ρ place rest]
        congr 1
        have h1 := fold_ren ρ off (v.cells.zipIdx).toList cs
        rw [← Array.foldl_toList, ← Array.foldl_toList]
        rw [← h1]
        congr 1
        simp [Array.toList_zipIdx, List.zipIdx_map]
theorem fill_ok (Fs : Fns) (B : Nat) (place : Nat → Option (Nat × Nat)) : ∀ (parts : List (Nat × Value)) (cs c : Array Value), (∀ v ∈ cs, okJ Fs B v = true) → (∀ p ∈ parts, okJ Fs B p.2 = true) → Instr.fill place cs parts = some c → ∀ v ∈ c, okJ Fs B v = true
  | [], cs, c, hc, _, h => by
    unfold Instr.fill at h
    injection h with h
    rw [← h]; exact hc
  | (i, v) :: rest, cs, c, hc, hl, h => by
    unfold Instr.fill at h
    cases hp : place i with
    | none => rw [hp] at h; cases h
    | some q =>
      obtain ⟨off, size⟩ := q
      rw [hp] at h
      simp only at h
      split at h
      · cases h
      · refine fill_ok Fs B place rest _ c ?_ (fun p hp => hl p (List.mem_cons_of_mem _ hp)) h
        rw [← Array.foldl_toList]
        refine fold_ok Fs B off _ cs hc fun p hp => ?_
        have h1 : p.1 ∈ v.cells := by
          rw [Array.toList_zipIdx] at hp
          have := List.fst_mem_of_mem_zipIdx hp
          simpa using this
        exact okJ_cells (hl (i, v) List.mem_cons_self) _ h1
theorem ren_default (ρ : Rn) : ren ρ (default : Value) = default := ren_bool ρ _
theorem okJ_default (Fs : Fns) (B : Nat) : okJ Fs B (default : Value) = true := okJ_bool Fs B _
theorem get_ren (ρ : Rn) (zs : Array Value) (i : Nat) : (zs.map (ren ρ))[i]! = ren ρ (zs[i]!) := by
  rw [getElem!_def, getElem!_def, Array.getElem?_map]
  cases zs[i]? with
  | none => exact (ren_default ρ).symm
  | some v => rfl
theorem get_ok {Fs : Fns} {B : Nat} {zs : Array Value} (h : ∀ v ∈ zs, okJ Fs B v = true) (i : Nat) : okJ Fs B (zs[i]!) = true := by
  rw [getElem!_def]
  cases hz : zs[i]? with
  | none => exact okJ_default Fs B
  | some v => exact h v (Array.mem_of_getElem? hz)
theorem RC.spread {zs zs' : Array Value} (h : RC X B zs zs') (n : Nat) : RC X B ((Array.range n).map (zs[· % zs.size]!)) ((Array.range n).map (zs'[· % zs'.size]!)) := by
  obtain ⟨rfl, h⟩ := h
  refine ⟨?_, ?_⟩
  · rw [Array.map_map]
    congr 1
    funext i
    rw [Function.comp_apply, get_ren, Array.size_map]
  · intro v hv
    obtain ⟨i, _, rfl⟩ := Array.mem_map.1 hv
    exact get_ok h _
/-- Parts of a value that is built. -/
def RP (X : Cx) (B : Nat) (p q : Array (Nat × Value)) : Prop := q = p.map (fun x => (x.1, ren X.ρ x.2)) ∧ ∀ x ∈ p, okJ X.Fs B x.2 = true
theorem RP.mono {B' : Nat} (hB : B ≤ B') {p q : Array (Nat × Value)} (h : RP X B p q) : RP X B' p q := ⟨h.1, fun x hx => okJ_mono _ hB _ (h.2 x hx)⟩
theorem sr_buildSlice (hz : ZeroOk X.P) {t : TypeId} {n : Nat} {p q : Array (Nat × Value)} (hp : RP X B p q) : SR X (RV X) B (Instr.buildSlice t n p) (Instr.buildSlice t n q) := by
  unfold Instr.buildSlice
  refine sr_underlying.bind X ?_
  intro B1 d d' hB e
  obtain rfl : d = d' := e
  cases d
  case slice elem =>
    simp only []
    refine sr_sizeOf.bind X ?_
    intro B2 s s' hB2 e
    obtain rfl : s = s' := e
    split
    · exact sr_unsup
    · have tail : ∀ (B3 : Nat) (zs zs' : Array Value), B2 ≤ B3 → RC X B3 zs zs' → SR X (RV X) B3
          (match Instr.fill (fun i => some (i * s, s)) ((Array.range (n * s)).map (zs[· % zs.size]!)) p.toList with
            | some cells => do pure (.slice (some (← newRow elem cells)) n n)
            | _ => stuck "buildSlice: a part of the wrong size")
          (match Instr.fill (fun i => some (i * s, s)) ((Array.range (n * s)).map (zs'[· % zs'.size]!)) q.toList with
            | some cells => do pure (.slice (some (← newRow elem cells)) n n)
            | _ => stuck "buildSlice: a part of the wrong size") := by
        intro B3 zs zs' hB3 h
        have hs := h.spread (n * s)
        have hp3 : RP X B3 p q := hp.mono (by omega)
        have e1 : q.toList = p.toList.map fun x => (x.1, ren X.ρ x.2) := by rw [hp3.1]; simp
        have e2 := fill_ren X.ρ (fun i => some (i * s, s)) p.toList ((Array.range (n * s)).map (zs[· % zs.size]!))
        rw [hs.1, e1, e2]
        cases hf : Instr.fill (fun i => some (i * s, s)) ((Array.range (n * s)).map (zs[· % zs.size]!)) p.toList with
        | none => exact sr_stuck
        | some c =>
          have hc := fill_ok X.Fs B3 (fun i => some (i * s, s)) p.toList _ c hs.2 (fun x hx => hp3.2 x (by simpa using hx)) hf
          refine (sr_newRowN (⟨rfl, hc⟩ : RC X B3 c (c.map (ren X.ρ))) elem).bind X ?_
          intro B4 a a' hB4 ha
          exact .pure (ha.slice _ _)
      split
      · exact tail B2 #[] #[] (Nat.le_refl _) ⟨by simp, by simp⟩
      · refine (sr_zeroValue hz).bind X ?_
        intro B3 z z' hB3 h
        exact tail B3 _ _ hB3 h.cells
  all_goals exact sr_stuck
end Go.Proofs.Ytmmolicodlmlkaa.Rel
namespace Go.Proofs.Ytmmolicodlmlkaa.Rel
set_option linter.unusedVariables false
variable {X : Cx} {B : Nat}

theorem sr_under {t : TypeId} : SR X (fun _ a b => a = b ∧ X.P.underlying t = some a) B (underlying t) (underlying t) := .program (by
  show SR X _ B (match X.P.underlying t with | some d => pure d | none => stuck "no such type") (match X.P.underlying t with | some d => pure d | none => stuck "no such type")
  cases h : X.P.underlying t with
  | some d => exact .pure ⟨rfl, rfl⟩
  | none => exact sr_stuck)
theorem sr_lenOf {x x' : Value} (h : RV X B x x') : SR X (fun _ a b => a = b ∧ ∀ p l c, x = .slice p l c → a = l) B (Builtin.lenOf x) (Builtin.lenOf x') := by
  cases x
  case slice a n c =>
    obtain ⟨rfl, _⟩ := h.slice
    exact .pure ⟨rfl, fun p l c e => by injection e⟩
  case string s =>
    obtain ⟨rfl, _⟩ := h
    rw [ren_string]
    exact .pure ⟨rfl, fun p l c e => by cases e⟩
  all_goals exact sr_stuck
theorem loadCells_none (a : Addr) : loadCells a 0 = pure #[] := rfl
theorem sr_firstCells {size n : Nat} {x x' : Value} (h : RV X B x x') (hn : ∀ p l c, x = .slice p l c → n = l) : SR X (RC X) B (Builtin.firstCells size n x) (Builtin.firstCells size n x') := by
  cases x
  case slice a l c =>
    obtain ⟨rfl, h2⟩ := h.slice
    obtain rfl := hn _ _ _ rfl
    cases a with
    | none => exact .pure ⟨by simp, by simp⟩
    | some a =>
      rcases inS_or (h2 a rfl) with ⟨h3, _⟩ | ⟨rfl, rfl⟩
      · exact sr_loadCells h3 _
      · simp only [Builtin.firstCells, Option.map_some, Nat.zero_mul, loadCells_none]
        exact .pure ⟨by simp, by simp⟩
  case string s =>
    obtain ⟨rfl, _⟩ := h
    rw [ren_string]
    refine .pure ⟨?_, ?_⟩
    · rw [Array.map_map]; congr 1; funext b; exact (ren_int _ _ _).symm
    · intro v hv
      obtain ⟨b, _, rfl⟩ := Array.mem_map.1 hv
      simp
  all_goals exact sr_stuck
theorem sr_first0 {size : Nat} {x x' : Value} (h : RV X B x x') : SR X (fun _ c c' => c = #[] ∧ c' = #[]) B (Builtin.firstCells size 0 x) (Builtin.firstCells size 0 x') := by
  cases x
  case slice a l c =>
    obtain ⟨rfl, h2⟩ := h.slice
    cases a with
    | none => exact .pure ⟨rfl, rfl⟩
    | some a =>
      simp only [Builtin.firstCells, Option.map_some, Nat.zero_mul, loadCells_none]
      exact .pure ⟨rfl, rfl⟩
  case string s =>
    obtain ⟨rfl, _⟩ := h
    rw [ren_string]
    refine .pure ⟨?_, ?_⟩ <;> simp
  all_goals exact sr_stuck
theorem sr_askRoom {n : Nat} : SR X RQ B (askRoom n) (askRoom n) := by
  unfold askRoom
  split
  · exact .mark (SR.pure (R := RQ) rfl)
  · exact SR.pure (R := RQ) rfl
/-- It looks, and makes and writes nothing. -/
inductive Peek {α : Type} : Sem α → Prop
  | pure {a : α} : Peek (.pure a)
  | halt {h : Halt} : deadH h → Peek (.halt h)
  | shape {r : Nat} {k : Option (TypeId × Nat) → Sem α} : (∀ x, Peek (k x)) → Peek (.shape r k)
  | frozen {a : Addr} {k : Bool → Sem α} : (∀ b, Peek (k b)) → Peek (.frozen a k)
theorem Peek.bind {α β : Type} {s : Sem α} {f : α → Sem β} (h : Peek s) (hf : ∀ a, Peek (f a)) : Peek (s >>= f) := by
  show Peek (s.bind f)
  induction h with
  | pure => exact hf _
  | halt h => exact .halt h
  | shape _ ih => exact .shape ih
  | frozen _ ih => exact .frozen ih
theorem Peek.doomed {α β : Type} {s : Sem α} {f : α → Sem β} (h : Peek s) (hf : ∀ a, Doomed (f a)) : Doomed (s >>= f) := by
  show Doomed (s.bind f)
  induction h with
  | pure => exact hf _
  | halt h => exact .halt h
  | shape _ ih => exact .shape ih
  | frozen _ ih => exact .frozen ih
theorem peek_holds {a : Addr} {n : Nat} : Peek (Builtin.holdsCells a n) := .shape fun x => by
  cases x <;> exact .pure
theorem peek_mayShare {sz sl n : Nat} {base : Option Addr} {x : Value} : Peek (Builtin.mayShare sz sl n base x) := by
  have jp : ∀ there : Bool, Peek (if (!there) = true then pure true else match x with | .slice (some b) _ _ => do pure (!(← Builtin.holdsCells b (n * sz)) || base.any (·.block == b.block)) | _ => pure false : Sem Bool) := by
    intro there
    split
    · exact .pure
    · split
      · exact peek_holds.bind fun a => .pure
      · exact .pure
  unfold Builtin.mayShare
  cases base with
  | none => exact jp true
  | some a => exact peek_holds.bind fun h => .frozen fun f => jp _
theorem sr_append (hz : ZeroOk X.P) {t e : TypeId} {ty : TypeId} {s s' x x' : Value} (ht : X.P.underlying t = some (.slice e)) (hs : RV X B s s') (hx : RV X B x x') : SR X (RV X) B (Builtin.append_ #[t, t] ty #[s, x]) (Builtin.append_ #[t, t] ty #[s', x']) := by
  unfold Builtin.append_
  simp only [List.getElem?_toArray, List.getElem?_cons_zero, List.getElem?_cons_succ]
  refine sr_under.bind X ?_
  rintro B1 d d' hB ⟨rfl, hd⟩
  obtain rfl : d = .slice e := by rw [ht] at hd; exact (Option.some.inj hd).symm
  simp only []
  have hs1 := hs.mono hB
  cases s
  case slice base sl sc =>
    obtain ⟨rfl, hb⟩ := hs1.slice
    simp only []
    refine sr_sizeOf.bind X ?_
    intro B2 sz sz' hB2 e2
    obtain rfl : sz = sz' := e2
    refine sr_under.bind X ?_
    rintro B3 d d' hB3 ⟨rfl, hd3⟩
    obtain rfl : d = .slice e := by rw [ht] at hd3; exact (Option.some.inj hd3).symm
    have hx3 : RV X B3 x x' := hx.mono (by omega)
    refine SR.bind X (R := fun _ a b => a = false ∧ b = false) (.pure ⟨rfl, rfl⟩) ?_
    rintro B4 _ _ hB4 ⟨rfl, rfl⟩
    simp only [Bool.false_eq_true, if_false, Bool.not_false, if_true, false_or]
    refine (sr_lenOf (hx3.mono hB4)).bind X ?_
    intro B5 n n' hB5 e5
    obtain ⟨e5, hnx⟩ := e5
    obtain rfl : n = n' := e5
    have hx5 : RV X B5 x x' := hx3.mono (by omega)
    have hs5 := hs1.mono (B' := B5) (by omega)
    have hb5 : ∀ b, base = some b → inS X.Fs B5 b sl sc = true := fun b h => inS_mono (by omega) (hb b h)
    split
    · rename_i hle
      by_cases hz : (∃ a, base = some a) ∧ sl = 0 ∧ sc = 0
      · obtain ⟨⟨a, rfl⟩, rfl, rfl⟩ := hz
        obtain rfl : n = 0 := by omega
        simp only [Option.map_some]
        refine (sr_first0 hx5).bind X ?_
        rintro B6 _ _ hB6 ⟨rfl, rfl⟩
        exact .pure ⟨by rw [ren_slice]; rfl, by rw [okJ_slice]; exact inS_mono hB6 (hb5 a rfl)⟩
      refine (sr_firstCells hx5 hnx).bind X ?_
      intro B6 c c' hB6 hc
      cases base with
      | none => exact .pure ⟨(ren_slice _ _ _ _).symm, by simp⟩
      | some a =>
        simp only [Option.map_some]
        obtain ⟨ha, hsp⟩ : RA X B6 a (renS X.ρ a) ∧ a.spot = none := by
          rcases inS_or (inS_mono hB6 (hb5 a rfl)) with h | h
          · exact h
          · exact absurd ⟨⟨a, rfl⟩, h⟩ hz
        have e6 : c'.toList = c.toList.map (ren X.ρ) := by rw [hc.1]; simp
        rw [e6]
        refine (sr_storeCells (ha.add (sl * sz)) c.toList 0 (fun u hu => hc.2 u (by simpa using hu))).bind X ?_
        intro B7 _ _ hB7 _
        exact .pure ⟨by rw [ren_slice]; rfl, by rw [okJ_slice]; exact inZ_S (by simp [inZ, hsp, inB_mono hB7 ha.2])⟩
    · refine sr_typeInfo.bind X ?_
      intro B6 i i' hB6 e6
      obtain rfl : i = i' := e6
      have last : ∀ B7, B6 ≤ B7 → SR X (RV X) B7
          (do let newCap ← choose (.appendCap (sl + n) sc e); let i ← typeInfo e; askRoom (newCap * i.bytes); let old ← Builtin.firstCells sz sl (.slice base sl sc); let new ← Builtin.firstCells sz n x; let z ← zeroValue e; let a ← newRow e (old ++ new ++ Builtin.zeroCells z.cells (newCap - (sl + n))); pure (.slice (some a) (sl + n) newCap))
          (do let newCap ← choose (.appendCap (sl + n) sc e); let i ← typeInfo e; askRoom (newCap * i.bytes); let old ← Builtin.firstCells sz sl (.slice (base.map (renS X.ρ)) sl sc); let new ← Builtin.firstCells sz n x'; let z ← zeroValue e; let a ← newRow e (old ++ new ++ Builtin.zeroCells z.cells (newCap - (sl + n))); pure (.slice (some a) (sl + n) newCap)) := by
        intro B7 hB7
        refine .choose fun cap => ?_
        refine sr_typeInfo.bind X ?_
        intro B8 j j' hB8 e8
        obtain rfl : j = j' := e8
        refine sr_askRoom.bind X ?_
        intro B9 _ _ hB9 _
        refine (sr_firstCells (hs5.mono (B' := B9) (by omega)) (fun p l c e => by injection e)).bind X ?_
        intro B10 o o' hB10 ho
        refine (sr_firstCells (hx5.mono (B' := B10) (by omega)) hnx).bind X ?_
        intro B11 c c' hB11 hc
        refine (sr_zeroValue hz).bind X ?_
        intro B12 z z' hB12 hzz
        have hzs : RC X B12 (Builtin.zeroCells z.cells (cap - (sl + n))) (Builtin.zeroCells z'.cells (cap - (sl + n))) := by
          have h1 := hzz.cells
          have h2 := h1.spread ((cap - (sl + n)) * z.cells.size)
          have h3 : z'.cells.size = z.cells.size := by rw [h1.1]; simp
          unfold Builtin.zeroCells
          rw [h3] at h2 ⊢
          exact h2
        have hall : RC X B12 (o ++ c ++ Builtin.zeroCells z.cells (cap - (sl + n))) (o' ++ c' ++ Builtin.zeroCells z'.cells (cap - (sl + n))) := by
          have ho2 := ho.mono (B' := B12) (by omega)
          have hc2 := hc.mono (B' := B12) (by omega)
          refine ⟨by rw [ho2.1, hc2.1, hzs.1, Array.map_append, Array.map_append], fun v hv => ?_⟩
          rcases Array.mem_append.1 hv with h | h
          · rcases Array.mem_append.1 h with h | h
            · exact ho2.2 v h
            · exact hc2.2 v h
          · exact hzs.2 v h
        refine (sr_newRowN hall e).bind X ?_
        intro B13 a a' hB13 ha
        exact .pure (ha.slice _ _)
      split
      · exact SR.bind X (R := fun _ (_ _ : PUnit) => False) (sr_runtimePanic trivial) (fun _ _ _ _ h => h.elim)
      · refine sr_typeInfo.bind X ?_
        intro B7 j j' hB7 e7
        obtain rfl : j = j' := e7
        split
        · exact .dead (Doomed.bind (Peek.doomed peek_mayShare fun a => by
            split
            · exact .mark (.halt trivial)
            · exact .halt trivial) _)
        · exact last B7 hB7
  all_goals exact sr_stuck
end Go.Proofs.Ytmmolicodlmlkaa.Rel
namespace Go.Proofs.Ytmmolicodlmlkaa.Rel
set_option linter.unusedVariables false
variable {X : Cx} {B : Nat}

theorem sr_makeSlice (hz : ZeroOk X.P) {t : TypeId} {l l' c c' : Value} (hl : RV X B l l') (hc : RV X B c c') : SR X (RV X) B (Instr.makeSlice t l c) (Instr.makeSlice t l' c') := by
  unfold Instr.makeSlice
  refine sr_underlying.bind X ?_
  intro B1 d d' hB e
  obtain rfl : d = d' := e
  cases d
  case slice elem =>
    simp only []
    refine (sr_asInt (hl.mono hB)).bind X ?_
    intro B2 n n' hB2 e
    obtain rfl : n = n' := e
    refine (sr_asInt (hc.mono (B' := B2) (by omega))).bind X ?_
    intro B3 m m' hB3 e
    obtain rfl : m = m' := e
    refine sr_typeInfo.bind X ?_
    intro B4 i i' hB4 e
    obtain rfl : i = i' := e
    have last : ∀ B5, B4 ≤ B5 → SR X (RV X) B5
        (do
          askRoom ((IntKind.i64.wrap m).toNat * i.bytes)
          let n2 := (IntKind.i64.wrap m).toNat * (← sizeOf elem)
          let zero ← if n2 = 0 then pure #[] else do pure (← zeroValue elem).cells
          let a ← newRow elem ((Array.range n2).map (zero[· % zero.size]!))
          pure (.slice (some a) (IntKind.i64.wrap n).toNat (IntKind.i64.wrap m).toNat))
        (do
          askRoom ((IntKind.i64.wrap m).toNat * i.bytes)
          let n2 := (IntKind.i64.wrap m).toNat * (← sizeOf elem)
          let zero ← if n2 = 0 then pure #[] else do pure (← zeroValue elem).cells
          let a ← newRow elem ((Array.range n2).map (zero[· % zero.size]!))
          pure (.slice (some a) (IntKind.i64.wrap n).toNat (IntKind.i64.wrap m).toNat)) := by
      intro B5 hB5
      refine sr_askRoom.bind X ?_
      intro B6 _ _ hB6 _
      refine sr_sizeOf.bind X ?_
      intro B7 s s' hB7 e
      obtain rfl : s = s' := e
      have tail : ∀ (B8 : Nat) (zs zs' : Array Value), RC X B8 zs zs' → SR X (RV X) B8
          (do let a ← newRow elem ((Array.range ((IntKind.i64.wrap m).toNat * s)).map (zs[· % zs.size]!)); pure (.slice (some a) (IntKind.i64.wrap n).toNat (IntKind.i64.wrap m).toNat))
          (do let a ← newRow elem ((Array.range ((IntKind.i64.wrap m).toNat * s)).map (zs'[· % zs'.size]!)); pure (.slice (some a) (IntKind.i64.wrap n).toNat (IntKind.i64.wrap m).toNat)) := by
        intro B8 zs zs' h
        refine (sr_newRowN (h.spread _) elem).bind X ?_
        intro B9 a a' _ ha
        exact .pure (ha.slice _ _)
      simp only []
      split
      · exact tail B7 #[] #[] ⟨by simp, by simp⟩
      · refine (sr_zeroValue hz).bind X ?_
        intro B8 z z' hB8 h
        exact tail B8 _ _ h.cells
    have pan : ∀ {B5 : Nat} {msg : String} {s s' : PUnit → Sem Value}, SR X (RV X) B5 ((runtimePanic (.error msg) : Sem PUnit) >>= s) ((runtimePanic (.error msg) : Sem PUnit) >>= s') := fun {B5 msg s s'} => SR.bind X (R := fun _ (_ _ : PUnit) => False) (sr_runtimePanic trivial) (fun _ _ _ _ h => h.elim)
    split
    · split
      · exact pan
      · split
        · exact pan
        · refine SR.bind X (R := fun _ (_ _ : PUnit) => False) (.choose fun q => sr_runtimePanic (e := .error _) trivial) (fun _ _ _ _ h => h.elim)
    · exact last B4 (Nat.le_refl _)
  all_goals exact sr_stuck
theorem under_bind {α β : Type} {R : Nat → α → β → Prop} {t : TypeId} {d : TypeDesc} (ht : X.P.underlying t = some d) {f : TypeDesc → Sem α} {g : TypeDesc → Sem β} (h : SR X R B (f d) (g d)) : SR X R B (underlying t >>= f) (underlying t >>= g) := by
  have e : ∀ {γ : Type} (k : TypeDesc → Sem γ), (underlying t >>= k) = .program fun p => (match p.underlying t with | some d => pure d | none => stuck "no such type") >>= k := fun k => rfl
  rw [e f, e g]
  refine .program ?_
  rw [ht]
  exact h
theorem sr_floatToInt {s : FloatKind} {b : Nat} {k : IntKind} : SR X (RV X) B (Conv.floatToInt s b k) (Conv.floatToInt s b k) := by
  have any : SR X (RV X) B (do pure (.int k (k.wrap (← choose (.floatToInt s b k))))) (do pure (.int k (k.wrap (← choose (.floatToInt s b k))))) := .choose fun n => sr_int
  unfold Conv.floatToInt
  simp only []
  split
  · split
    · exact sr_int
    · exact any
  · exact any
theorem sr_convertInt {s d : TypeId} {k k' : IntKind} {x x' : Value} (hx : RV X B x x') (hs : X.P.underlying s = some (.int k)) (hd : X.P.underlying d = some (.int k')) : SR X (RV X) B (convert s d x) (convert s d x') := by
  unfold convert
  refine under_bind hs ?_
  refine under_bind hd ?_
  cases x
  case int k2 n =>
    obtain ⟨rfl, _⟩ := hx
    rw [ren_int]
    exact sr_int
  case float fk b =>
    obtain ⟨rfl, _⟩ := hx
    rw [ren_float]
    exact sr_floatToInt
  case pointer a => cases a <;> exact sr_unsup
  all_goals exact sr_unsup
end Go.Proofs.Ytmmolicodlmlkaa.Rel
