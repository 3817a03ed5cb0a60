/-
  Parts of the proof: A law beside leavers: what is known of its slices; calls that it makes. A law beside leavers: what is its own, and what it reads. A law beside leavers: marks are laid. toInt64S beside leavers, step by step: whatever else lies in the block that it reads. An own row takes an element: what is spare stays zero. The reference's rows of hashes, by contracts. The reference's rows, called beside leavers. impl.RowsShared, called by a law; the law's beginning and its end. Pieces of a walk in company, from any frame: what its slots hold may be hidden. Any law beside leavers: its end; the pieces of a run, No condition.
-/
import Derived.Test.YtmmolicodlmlkaaPK
import Derived.Test.YtmmolicodlmlkaaPG
import Derived.Conc.LeavingOf
import Derived.Test.YtmmolicodlmlkaaPJ
set_option linter.unusedVariables false
set_option linter.unusedSimpArgs false
namespace Go.Proofs.Ytmmolicodlmlkaa.Ph
open Go.Conc Go.ConcN Go.RowKit Go.Conc.Lib Go.ConcR.Gen Go.ConcN.Gen
open Go.ConcR (KK wgBlock WgAt stA smA rd wr mk DC0 Payload)
open Go.Proofs.Ytmmolicodlmlkaa.Rel
set_option linter.unusedVariables false
set_option linter.unusedSimpArgs false

/-- A row of slices of numbers that may be read, each of them too. -/
def SSr (F : Nat → Prop) (w : World) (A : Option Addr) (xss : List (List Int)) : Prop :=
  ArgP F w A ∧ ∀ o (h : o < xss.length), ∃ C k R cc, A = some ⟨C, k, none⟩ ∧ w.cell? ⟨C, k + o, none⟩ = some (.slice R xss[o].length cc) ∧ RdL (Value.int .i64) w R xss[o] ∧ (ArgP F w R ∨ (xss[o] = [] ∧ cc = 0))
/-- .. each in a block of its own. -/
def SSo (F : Nat → Prop) (w : World) (A : Option Addr) (xss : List (List Int)) : Prop :=
  ∃ (R : Nat → Option Addr) (cc : Nat → Nat), (∀ o (h : o < xss.length), ∃ C, A = some ⟨C, 0, none⟩ ∧ w.cell? ⟨C, o, none⟩ = some (.slice (R o) xss[o].length (cc o)) ∧ OwnS (Value.int .i64) w 0 2 (R o) xss[o] ∧ ArgB F w (R o)) ∧
    (∀ o o' a a', o < xss.length → o' < xss.length → R o = some a → R o' = some a' → a.block = a'.block → o = o') ∧ ∀ o a c, o < xss.length → R o = some a → A = some c → a.block ≠ c.block
/-- What a law knows of a slice. -/
inductive Fc where
  | arg (A : Option Addr) (x : List Int)
  | ints (A : Option Addr) (x : List Int)
  | own (A : Option Addr) (x : List Int)
  | ss (A : Option Addr) (xss : List (List Int))
  | sso (A : Option Addr) (xss : List (List Int))
  | box (b : Nat) (vs : Array Value) (t : TypeId)
def Fc.holds (F : Nat → Prop) (w : World) : Fc → Prop
  | .arg A x => RdL (Value.int .i64) w A x ∧ ArgP F w A
  | .ints A x => RdL (Value.int .i64) w A x ∧ ArgB F w A
  | .own A x => OwnS (Value.int .i64) w 0 2 A x ∧ ArgB F w A
  | .ss A xss => SSr F w A xss
  | .sso A xss => SSr F w A xss ∧ SSo F w A xss
  | .box b vs t => F b ∧ w.heap[b]? = some (.cells vs t (0, 0))
/-- What is free stands. -/
def Stays (F : Nat → Prop) (w : World) (F' : Nat → Prop) (w' : World) : Prop := ∀ y, F y → F' y ∧ w'.heap[y]? = w.heap[y]?
section
variable {F F' : Nat → Prop} {w w' : World} {A : Option Addr} {x : List Int} {xss : List (List Int)}
theorem own_stay (h : OwnS (Value.int .i64) w 0 2 A x) (hs : ∀ a, A = some a → w'.heap[a.block]? = w.heap[a.block]?) : OwnS (Value.int .i64) w' 0 2 A x := fun hne => by
  obtain ⟨g, ex, e1, e2, e3⟩ := h hne
  exact ⟨g, ex, e1, e2, (hs _ e1).trans e3⟩
theorem SSr.stay (h : SSr F w A xss) (hs : Stays F w F' w') : SSr F' w' A xss := by
  obtain ⟨h1, h2⟩ := h
  refine ⟨argp_stay h1 hs, fun o ho => ?_⟩
  obtain ⟨C, k, R, cc, e1, e2, e3, e4⟩ := h2 o ho
  exact ⟨C, k, R, cc, e1, (cell_stay (a := ⟨C, k + o, none⟩) (hs _ (h1 _ e1).1).2).trans e2, (e4.elim (fun e4 => rdl_stay e3 fun r hr => (hs _ (e4 r hr).1).2) fun e5 => by rw [e5.1]; intro i hi; simp at hi), e4.imp_left fun e4 => argp_stay e4 hs⟩
theorem SSr.row (h : SSr F w A xss) {o : Nat} (ho : o < xss.length) {C k : Nat} {R : Option Addr} {n cc : Nat} (hA : A = some ⟨C, k, none⟩) (hc : w.cell? ⟨C, k + o, none⟩ = some (.slice R n cc)) : ArgP F w R ∨ (xss[o] = [] ∧ cc = 0) := by
  obtain ⟨C', k', R', cc', e1, e2, e3, e4⟩ := h.2 o ho
  rw [hA] at e1
  injection e1 with e1
  injection e1 with e1 e5
  subst e1; subst e5
  rw [hc] at e2
  injection e2 with e2
  injection e2 with e2 _ e6
  subst e2
  subst e6
  exact e4
theorem SSo.stay (h : SSo F w A xss) (hr : SSr F w A xss) (hs : Stays F w F' w') : SSo F' w' A xss := by
  obtain ⟨R, cc, h1, h2, h3⟩ := h
  refine ⟨R, cc, fun o ho => ?_, h2, h3⟩
  obtain ⟨C, e1, e2, e3, e4⟩ := h1 o ho
  exact ⟨C, e1, (cell_stay (a := ⟨C, o, none⟩) (hs _ (hr.1 _ e1).1).2).trans e2, own_stay e3 fun a ha => (hs _ (e4 a ha).1).2, argb_stay e4 hs⟩
theorem fc_stay {f : Fc} (h : f.holds F w) (hs : Stays F w F' w') : f.holds F' w' := by
  cases f with
  | arg A x => exact ⟨rdl_stay h.1 fun a ha => (hs _ (h.2 a ha).1).2, argp_stay h.2 hs⟩
  | ints A x => exact ⟨rdl_stay h.1 fun a ha => (hs _ (h.2 a ha).1).2, argb_stay h.2 hs⟩
  | own A x => exact ⟨own_stay h.1 fun a ha => (hs _ (h.2 a ha).1).2, argb_stay h.2 hs⟩
  | ss A xss => exact SSr.stay h hs
  | sso A xss => exact ⟨h.1.stay hs, h.2.stay h.1 hs⟩
  | box b vs t => exact ⟨(hs _ h.1).1, (hs _ h.1).2.trans h.2⟩
end
/-- What a law knows. -/
structure LF (l : List Fc) (F : Nat → Prop) (w : World) : Prop where
  low : ∀ y, F y → y < w.heap.size
  glob : Try.prog.globals.size ≤ w.heap.size
  fc : ∀ f ∈ l, f.holds F w
section
variable {l : List Fc} {F F' : Nat → Prop} {w w' : World}
theorem LF.rely (h : LF l F w) (r : RS No F w w') : LF l F w' :=
  ⟨fun y hy => Nat.lt_of_lt_of_le (h.low y hy) r.size, Nat.le_trans h.glob r.size, fun f hf => fc_stay (h.fc f hf) fun y hy => ⟨hy, r.own y hy⟩⟩
theorem LF.lk {own : List (Nat × Array Value × TypeId)} (h : LF l F w) (k : LK own F w F' w') : LF l F' w' :=
  ⟨k.low, Nat.le_trans h.glob k.size, fun f hf => fc_stay (h.fc f hf) fun y hy => ⟨k.sub y hy, k.old y hy⟩⟩
theorem LF.add {f : Fc} (h : LF l F w) (hf : f.holds F w) : LF (f :: l) F w := ⟨h.low, h.glob, fun x hx => by
  rcases List.mem_cons.1 hx with rfl | hx
  · exact hf
  · exact h.fc x hx⟩
theorem LF.sub {l' : List Fc} (h : LF l F w) (hs : ∀ f ∈ l', f ∈ l) : LF l' F w := ⟨h.low, h.glob, fun f hf => h.fc f (hs f hf)⟩
theorem LF.at {d : Nat} (h : LF l F (w.at d)) : LF l F w := ⟨h.low, h.glob, fun f hf => by
  have := h.fc f hf
  exact fc_stay (w := w.at d) (w' := w) this fun y hy => ⟨hy, rfl⟩⟩
end
/-! ### calls -/
section
variable {l : List Fc} {F : Nat → Prop} {w : World} {fs : FuncId → Bool} {cs : List Frame} {f : FuncId} {b₀ : Frame} {a₀ : Act} {ops₀ : Array Oper} {i₀ : Nat} {rest₀ : List Nat} {k₀ : List Item} {args : Array Value}
theorem okV_arg {A : Option Addr} {n c : Nat} (h : LF l F w) (hA : ArgP F w A) : okV (fnsQ fs w F No) w.heap.size (.slice A n c) = true := by
  cases A with
  | none => simp
  | some a =>
    rw [okV_sliceA _ _ _ _ (hA a rfl).2.2]
    exact fnsQ_ok h.low (hA a rfl).1 (hA a rfl).2.1
theorem lone_rdl {A : Option Addr} {x : List Int} (h : LF l F w) (hx : RdL (Value.int .i64) w A x) (hA : ArgP F w A) : RdL (Value.int .i64) (loneW (fnsQ fs w F No) w) A x :=
  rdl_look hx (fun _ => by simp) fun b o _ e => ⟨rfl, fnsQ_old (h.low _ (hA _ e).1) (hA _ e).1 (hA _ e).2.1, fnsQ_no (h.low _ (hA _ e).1)⟩
theorem absV_empty {Fs : Fns} {B : Nat} (R : Option Addr) : ∃ R', absV Fs B (.slice R 0 0) = .slice R' 0 0 := by
  rw [absV_leaf (by intro cs h; cases h) (by intro cs h; cases h)]
  by_cases h : okV Fs B (.slice R 0 0) = true
  · exact ⟨R, by rw [if_pos h]⟩
  · rw [if_neg h]
    cases R with
    | none => exact absurd (by simp) h
    | some a => exact ⟨some (markA a), by simp [hideV]⟩
theorem loneW_any {Fs : Fns} {v : World} {a : Addr} {u : Value} (h : v.cell? a = some u) (hn : Fs.na a.block = false) (ha : Fs.al a.block = true) (hw : Fs.wr a.block = false) : (loneW Fs v).cell? a = some (absV Fs v.heap.size u) := by
  unfold World.cell? at h ⊢
  rw [loneW_get]
  cases hb : v.heap[a.block]? with
  | none => rw [hb] at h; cases h
  | some o =>
    rw [hb] at h
    cases o <;> first | (simp at h; done) | skip
    rename_i c e fr
    simp only at h
    by_cases hs : a.spot.isSome = true
    · rw [if_pos hs] at h; cases h
    · rw [if_neg hs] at h
      have : ¬ (c.size = 0 ∧ fr ≠ (0, 0)) := fun h' => by
        have := (Array.getElem?_eq_some_iff.1 h).1
        omega
      simp only [Option.map_some, hn, ha, if_true, if_false, Bool.false_eq_true, loneO, hw]
      rw [if_neg this]
      simp only [hs, if_false, Bool.false_eq_true]
      rw [Array.getElem?_map, h, Option.map_some]
theorem lone_ss {A : Option Addr} {xss : List (List Int)} (h : LF l F w) (hA : SSr F w A xss) : RdLL (loneW (fnsQ fs w F No) w) A xss := by
  intro o ho
  obtain ⟨C, k, R, cc, e1, e2, e3, e4⟩ := hA.2 o ho
  have hc := loneW_any (Fs := fnsQ fs w F No) (a := ⟨C, k + o, none⟩) e2 rfl (fnsQ_old (h.low _ (hA.1 _ e1).1) (hA.1 _ e1).1 (hA.1 _ e1).2.1) (fnsQ_no (h.low _ (hA.1 _ e1).1))
  rcases e4 with e4 | ⟨e4, rfl⟩
  · exact ⟨C, k, R, cc, e1, hc.trans (by rw [absV_same _ (okV_arg h e4)]), lone_rdl h e3 e4⟩
  · rw [e4] at hc
    obtain ⟨R', h'⟩ := absV_empty (Fs := fnsQ fs w F No) (B := w.heap.size) R
    exact ⟨C, k, R', 0, e1, by rw [e4]; exact hc.trans (congrArg some h'), by rw [e4]; intro i hi; simp at hi⟩
end
end Go.Proofs.Ytmmolicodlmlkaa.Ph
namespace Go.Proofs.Ytmmolicodlmlkaa.Ph
open Go.Conc Go.ConcN Go.RowKit Go.Conc.Lib Go.ConcR.Gen Go.ConcN.Gen
open Go.ConcR (KK wgBlock WgAt stA smA rd wr mk DC0 Payload)
open Go.Proofs.Ytmmolicodlmlkaa.Rel
set_option linter.unusedVariables false
set_option linter.unusedSimpArgs false

/-- The same but for the memory. -/
def TW (W w : World) : Prop := w.tape = W.tape ∧ w.os = W.os ∧ w.output = W.output
theorem TW.trans {a b c : World} (h : TW a b) (k : TW b c) : TW a c := ⟨k.1.trans h.1, k.2.1.trans h.2.1, k.2.2.trans h.2.2⟩
/-- What a law knows: what it reads lies in F, all that there was at its start too; what is its own lies in blocks apart; all of it is free. -/
structure LH (W₀ : World) (l : List Fc) (F : Nat → Prop) (own : List ((Nat → Prop) × Fc)) (S : Nat → Prop) (w : World) : Prop where
  tw : TW W₀ w
  old : ∀ y, y < W₀.heap.size → F y ∧ w.heap[y]? = W₀.heap[y]?
  low : ∀ y, S y → y < w.heap.size
  glob : Try.prog.globals.size ≤ w.heap.size
  fc : ∀ f ∈ l, f.holds F w
  sub : ∀ y, F y → S y
  ow : ∀ p ∈ own, p.2.holds p.1 w ∧ (∀ y, p.1 y → S y) ∧ ∀ y, F y → ¬ p.1 y
  dis : own.Pairwise fun p q => ∀ y, p.1 y → ¬ q.1 y
section
variable {W₀ : World} {l : List Fc} {F S S' : Nat → Prop} {own : List ((Nat → Prop) × Fc)} {w w' : World}
theorem LH.stay (h : LH W₀ l F own S w) (hs : Stays S w S' w') (hl : ∀ y, S' y → y < w'.heap.size) (hz : w.heap.size ≤ w'.heap.size) (ht : TW w w') : LH W₀ l F own S' w' :=
  ⟨h.tw.trans ht, fun y hy => ⟨(h.old y hy).1, (hs y (h.sub y (h.old y hy).1)).2.trans (h.old y hy).2⟩, hl, Nat.le_trans h.glob hz, fun f hf => fc_stay (h.fc f hf) fun y hy => ⟨hy, (hs y (h.sub y hy)).2⟩, fun y hy => (hs y (h.sub y hy)).1,
    fun p hp => ⟨fc_stay (h.ow p hp).1 fun y hy => ⟨hy, (hs y ((h.ow p hp).2.1 y hy)).2⟩, fun y hy => (hs y ((h.ow p hp).2.1 y hy)).1, (h.ow p hp).2.2⟩, h.dis⟩
theorem LH.rely (h : LH W₀ l F own S w) (r : RS No S w w') : LH W₀ l F own S w' := h.stay (fun y hy => ⟨hy, r.own y hy⟩) (fun y hy => Nat.lt_of_lt_of_le (h.low y hy) r.size) r.size ⟨r.tape, r.os, r.output⟩
theorem LH.lk {o : List (Nat × Array Value × TypeId)} (h : LH W₀ l F own S w) (k : LK o S w S' w') : LH W₀ l F own S' w' := h.stay (fun y hy => ⟨k.sub y hy, k.old y hy⟩) k.low k.size ⟨k.tape, k.os, k.output⟩
theorem LH.at {d : Nat} (h : LH W₀ l F own S (w.at d)) : LH W₀ l F own S w := h.stay (fun y hy => ⟨hy, rfl⟩) h.low (Nat.le_refl _) ⟨rfl, rfl, rfl⟩
theorem LH.grow {s s' : Loc → Prop} (h : LH W₀ l F own (FreeB s w) w) (g : Grow s w s' w') : LH W₀ l F own (FreeB s' w') w' := h.stay (fun y hy => g.old y hy) (fun y hy => hy.1) g.size ⟨g.tape, g.os, g.output⟩
theorem LH.lf (h : LH W₀ l F own S w) : LF [] S w := ⟨h.low, h.glob, by simp⟩
theorem LH.base {f : Fc} (h : LH W₀ l F own S w) (hf : f ∈ l) : f.holds S w := fc_stay (h.fc f hf) fun y hy => ⟨h.sub y hy, rfl⟩
theorem LH.mine {p : (Nat → Prop) × Fc} (h : LH W₀ l F own S w) (hp : p ∈ own) : p.2.holds S w := fc_stay (h.ow p hp).1 fun y hy => ⟨(h.ow p hp).2.1 y hy, rfl⟩
/-- All that is free may be more. -/
theorem LH.wide (h : LH W₀ l F own S w) (hs : ∀ y, S y → S' y) (hl : ∀ y, S' y → y < w.heap.size) : LH W₀ l F own S' w := h.stay (fun y hy => ⟨hs y hy, rfl⟩) hl (Nat.le_refl _) ⟨rfl, rfl, rfl⟩
/-- Something new that is its own. -/
theorem LH.addOwn {p : (Nat → Prop) × Fc} (h : LH W₀ l F own S w) (hp : p.2.holds p.1 w) (hS : ∀ y, p.1 y → S y) (hn : ∀ y, F y → ¬ p.1 y) (hd : ∀ q ∈ own, ∀ y, q.1 y → ¬ p.1 y) : LH W₀ l F (p :: own) S w :=
  ⟨h.tw, h.old, h.low, h.glob, h.fc, h.sub, fun q hq => by
    rcases List.mem_cons.1 hq with rfl | hq
    · exact ⟨hp, hS, hn⟩
    · exact h.ow q hq, List.Pairwise.cons (fun q hq y hy hq' => hd q hq y hq' hy) h.dis⟩
/-- The first is given up or has been turned. -/
theorem LH.turn {p : (Nat → Prop) × Fc} (h : LH W₀ l F (p :: own) S w) (hs : ∀ y, S y → ¬ p.1 y → S' y ∧ w'.heap[y]? = w.heap[y]?) (hl : ∀ y, S' y → y < w'.heap.size) (hz : w.heap.size ≤ w'.heap.size) (ht : TW w w') : LH W₀ l F own S' w' := by
  have hp := h.ow p (by simp)
  have hd := h.dis
  rw [List.pairwise_cons] at hd
  have key : ∀ q ∈ own, ∀ y, q.1 y → ¬ p.1 y := fun q hq y hy hy' => hd.1 q hq y hy' hy
  exact ⟨h.tw.trans ht, fun y hy => ⟨(h.old y hy).1, (hs y (h.sub y (h.old y hy).1) (hp.2.2 y (h.old y hy).1)).2.trans (h.old y hy).2⟩, hl, Nat.le_trans h.glob hz, fun f hf => fc_stay (h.fc f hf) fun y hy => ⟨hy, (hs y (h.sub y hy) (hp.2.2 y hy)).2⟩, fun y hy => (hs y (h.sub y hy) (hp.2.2 y hy)).1,
    fun q hq => ⟨fc_stay (h.ow q (by simp [hq])).1 fun y hy => ⟨hy, (hs y ((h.ow q (by simp [hq])).2.1 y hy) (key q hq y hy)).2⟩, fun y hy => (hs y ((h.ow q (by simp [hq])).2.1 y hy) (key q hq y hy)).1, (h.ow q (by simp [hq])).2.2⟩, hd.2⟩
theorem LH.drop {p : (Nat → Prop) × Fc} (h : LH W₀ l F (p :: own) S w) : LH W₀ l F own S w := h.turn (fun y hy _ => ⟨hy, rfl⟩) h.low (Nat.le_refl _) ⟨rfl, rfl, rfl⟩
theorem LH.below (h : LH W₀ l F own S w) : Below W₀.heap.size W₀ w :=
  ⟨h.tw.2.1, h.tw.1, h.tw.2.2, by
    rcases Nat.eq_zero_or_pos W₀.heap.size with h0 | h0
    · omega
    · have := h.low _ (h.sub _ (h.old (W₀.heap.size - 1) (by omega)).1); omega, fun y hy => (h.old y hy).2⟩
end
section
variable {W₀ : World} {l : List Fc} {F S : Nat → Prop} {own : List ((Nat → Prop) × Fc)} {w : World} {cs : List Frame} {b₀ : Frame} {a₀ : Act} {ops₀ : Array Oper} {i₀ : Nat} {rest₀ : List Nat} {k₀ : List Item}
end
end Go.Proofs.Ytmmolicodlmlkaa.Ph
namespace Go.Proofs.Ytmmolicodlmlkaa.Ph
open Go.Conc Go.ConcN Go.RowKit Go.Conc.Lib Go.ConcR.Gen Go.ConcN.Gen
open Go.ConcR (KK wgBlock WgAt stA smA rd wr mk DC0 Payload)
open Go.Proofs.Ytmmolicodlmlkaa.Rel
set_option linter.unusedVariables false
set_option linter.unusedSimpArgs false

section
variable {W₀ : World} {l : List Fc} {F S G' W : Nat → Prop} {own : List ((Nat → Prop) × Fc)} {w wl w' : World} {cs : List Frame} {b₀ : Frame} {a₀ : Act} {ops₀ : Array Oper} {i₀ : Nat} {rest₀ : List Nat} {k₀ : List Item} {A : Option Addr} {c : Nat} {x : List Int} {q : Int} {xss : List (List Int)}
end
end Go.Proofs.Ytmmolicodlmlkaa.Ph
namespace Go.Proofs.Ytmmolicodlmlkaa.Ph
open Go.Conc Go.ConcN Go.RowKit Go.Conc.Lib Go.ConcR.Gen Go.ConcN.Gen
open Go.ConcR (KK wgBlock WgAt stA smA rd wr mk DC0 Payload)
open Go.Proofs.Ytmmolicodlmlkaa.Rel
set_option linter.unusedVariables false
set_option linter.unusedSimpArgs false

noncomputable def lt1 : Code := match Try.f13.body with | some (.seq _ (.seq _ (.seq (.seq _ (.block _ (.loop c))) _))) => c | _ => .skip
section
variable {F : Nat → Prop} {w : World} {A : Option Addr} {c : Nat} {x : List Int} {cs : List Frame} {b₀ : Frame} {a₀ : Act} {ops₀ : Array Oper} {i₀ : Nat} {rest₀ : List Nat} {k₀ : List Item}
end
end Go.Proofs.Ytmmolicodlmlkaa.Ph
namespace Go.Proofs.Ytmmolicodlmlkaa
open Go.RowKit
set_option linter.unusedVariables false

/-- The cells of an own slice's block from number n on are zero. -/
def SpareZ (z : Value) (w : World) (v : Value) (n : Nat) : Prop := ∀ g, v.ownBlock = some g → ∃ c e, w.heap[g]? = some (.cells c e (0, 0)) ∧ ∀ x ∈ c.toList.drop n, x = z
theorem SpareZ.made {z : Value} {w : World} {e : TypeId} : SpareZ z (w.alloc (.cells #[] e)) (.slice (some ⟨w.heap.size, 0, none⟩) 0 0) 0 := fun g hg => by
  obtain rfl : w.heap.size = g := by injection hg
  exact ⟨#[], e, heap_alloc_new w _, by simp⟩
theorem SpareZ.alloc {z : Value} {w : World} {v : Value} {n : Nat} (h : SpareZ z w v n) (o : Obj) : SpareZ z (w.alloc o) v n := fun g hg => by
  obtain ⟨c, e, h1, h2⟩ := h g hg
  exact ⟨c, e, (heap_alloc_old w o (Array.getElem?_eq_some_iff.1 h1).1).trans h1, h2⟩
theorem SpareZ.stay {z : Value} {w w' : World} {v : Value} {n : Nat} (h : SpareZ z w v n) (hs : ∀ g, v.ownBlock = some g → w'.heap[g]? = w.heap[g]?) : SpareZ z w' v n := fun g hg => by
  obtain ⟨c, e, h1, h2⟩ := h g hg
  exact ⟨c, e, (hs g hg).trans h1, h2⟩
end Go.Proofs.Ytmmolicodlmlkaa
namespace Go.Proofs.Ytmmolicodlmlkaa
open Go.RowKit
open Go.Proofs.Ytmmolicodlmlkaa.Rel (Ints IntsA)
set_option linter.unusedVariables false
set_option linter.unusedSimpArgs false

/-- Rows that are being made: those of the first k numbers. -/
structure Rws (w0 : World) (x sl : List Int) (v : Value) (k : Nat) (R : Nat → Option Addr) (cc : Nat → Nat) (w : World) : Prop where
  own : w.ownsRow w0.heap.size 22 1 v k ((List.range k).map fun o => .slice (R o) x.length (cc o))
  spare : SpareZ (.slice none 0 0) w v k
  row : ∀ o, o < k → OwnS (Value.int .i64) w w0.heap.size 2 (R o) (rowH x (sl.getD o 0).toNat x.length) ∧ ∀ a, R o = some a → w0.heap.size ≤ a.block ∧ IntsA w a ∧ v.ownBlock ≠ some a.block
  below : Below w0.heap.size w0 w
theorem Rws.grown {w0 w w' : World} {x sl : List Int} {v v' : Value} {k : Nat} {R : Nat → Option Addr} {cc : Nat → Nat} (h : Rws w0 x sl v k R cc w) {a : Option Addr} {c : Nat} (hown : w'.ownsRow w0.heap.size 22 1 v' (k + 1) (((List.range k).map fun o => .slice (R o) x.length (cc o)) ++ [.slice a x.length c])) (hg : w.grownBy w' v.ownBlock) (hs : SpareZ (.slice none 0 0) w' v' (k + 1)) (hv : ∀ g, v'.ownBlock = some g → v.ownBlock = some g ∨ w.heap.size ≤ g)
    (ha : OwnS (Value.int .i64) w w0.heap.size 2 a (rowH x (sl.getD k 0).toNat x.length) ∧ ∀ b, a = some b → w0.heap.size ≤ b.block ∧ IntsA w b ∧ v.ownBlock ≠ some b.block) :
    Rws w0 x sl v' (k + 1) (fun o => if o = k then a else R o) (fun o => if o = k then c else cc o) w' := by
  have lt : ∀ b, Ints w b → b < w.heap.size := fun b ⟨_, _, h, _⟩ => (Array.getElem?_eq_some_iff.1 h).1
  have keep : ∀ (B : Option Addr) (y : List Int), (OwnS (Value.int .i64) w w0.heap.size 2 B y ∧ ∀ b, B = some b → w0.heap.size ≤ b.block ∧ IntsA w b ∧ v.ownBlock ≠ some b.block) →
      (OwnS (Value.int .i64) w' w0.heap.size 2 B y ∧ ∀ b, B = some b → w0.heap.size ≤ b.block ∧ IntsA w' b ∧ v'.ownBlock ≠ some b.block) := by
    rintro B y ⟨q1, q2⟩
    have hb : ∀ b, B = some b → w'.heap[b.block]? = w.heap[b.block]? := fun b e => hg.block _ (lt _ (q2 b e).2.1.1) fun e' => (q2 b e).2.2 e'.symm
    refine ⟨fun hne => ?_, fun b e => ⟨(q2 b e).1, (q2 b e).2.1.stay (hb b e), fun e' => ?_⟩⟩
    · obtain ⟨g, ex, e1, e2, e3⟩ := q1 hne
      exact ⟨g, ex, e1, e2, (hb _ e1).trans e3⟩
    · rcases hv _ e' with h1 | h1
      · exact (q2 b e).2.2 h1
      · have := lt _ (q2 b e).2.1.1; omega
  refine ⟨?_, hs, fun o ho => ?_, h.below.grown hg h.below.size fun g hg' => (h.own.lt g hg').1⟩
  · rw [List.range_succ, List.map_append]
    have e : ((List.range k).map fun o => Value.slice (if o = k then a else R o) x.length (if o = k then c else cc o)) = (List.range k).map fun o => .slice (R o) x.length (cc o) := List.map_congr_left fun o ho => by
      have : o ≠ k := by have := List.mem_range.1 ho; omega
      simp [this]
    rw [e]
    simpa using hown
  · by_cases he : o = k
    · subst he
      simpa using keep _ _ ha
    · simp only [he, if_false]
      exact keep _ _ (h.row o (by omega))
theorem Rws.moved {w0 w w' : World} {x sl : List Int} {v : Value} {k : Nat} {R : Nat → Option Addr} {cc : Nat → Nat} (h : Rws w0 x sl v k R cc w) (hb : Below w.heap.size w w') : Rws w0 x sl v k R cc w' := by
  have hbl : ∀ b, b < w.heap.size → w'.heap[b]? = w.heap[b]? := fun b hb' => hb.block b hb'
  have lt : ∀ b, Ints w b → b < w.heap.size := fun b ⟨_, _, h, _⟩ => (Array.getElem?_eq_some_iff.1 h).1
  refine ⟨h.own.kept ⟨hb.os, hb.tape, hb.output, hb.size, fun k hk _ => hb.block k hk⟩ (row := none) ?_, h.spare.stay fun g hg => hbl g (h.own.lt g hg).2, fun o ho => ⟨fun hne => ?_, fun a ha => ?_⟩, h.below.trans (hb.mono h.below.size)⟩
  · cases v.ownBlock with
    | none => exact .inl rfl
    | some g => exact .inr (by simp)
  · obtain ⟨g, ex, e1, e2, e3⟩ := (h.row o ho).1 hne
    exact ⟨g, ex, e1, e2, (hbl g (lt _ ((h.row o ho).2 _ e1).2.1.1)).trans e3⟩
  · obtain ⟨q1, q2, q3⟩ := (h.row o ho).2 a ha
    exact ⟨q1, q2.stay (hbl _ (lt _ q2.1)), q3⟩
theorem Rws.alloc {w0 w : World} {x sl : List Int} {v : Value} {k : Nat} {R : Nat → Option Addr} {cc : Nat → Nat} (h : Rws w0 x sl v k R cc w) (o : Obj) : Rws w0 x sl v k R cc (w.alloc o) := h.moved (below_a1 w o)
end Go.Proofs.Ytmmolicodlmlkaa
namespace Go.Proofs.Ytmmolicodlmlkaa.Ph
open Go.Conc Go.ConcN Go.RowKit Go.Conc.Lib Go.ConcR.Gen Go.ConcN.Gen
open Go.ConcR (KK wgBlock WgAt stA smA rd wr mk DC0 Payload)
open Go.Proofs.Ytmmolicodlmlkaa.Rel
set_option linter.unusedVariables false
set_option linter.unusedSimpArgs false

/-- The rows. -/
def rowsOf (x sl : List Int) : List (List Int) := sl.map fun s => rowH x s.toNat x.length
theorem rowsOf_length (x sl : List Int) : (rowsOf x sl).length = sl.length := by simp [rowsOf]
theorem rowsOf_at (x sl : List Int) (o : Nat) (h : o < (rowsOf x sl).length) : (rowsOf x sl)[o] = rowH x (sl.getD o 0).toNat x.length := by
  have h' : o < sl.length := by rw [rowsOf_length] at h; exact h
  simp [rowsOf, List.getD_eq_getElem?_getD, h']
def resOf (g : Bool) (x sl : List Int) : List (List Int) := if g then rowsOf x sl else []
section
variable {W₀ : World} {l : List Fc} {F S : Nat → Prop} {own : List ((Nat → Prop) × Fc)} {w w' wl : World} {cs : List Frame} {b₀ : Frame} {a₀ : Act} {ops₀ : Array Oper} {i₀ : Nat} {rest₀ : List Nat} {k₀ : List Item} {A A2 : Option Addr} {c c2 : Nat} {x sl : List Int} {kw : Int}
end
end Go.Proofs.Ytmmolicodlmlkaa.Ph
namespace Go.Proofs.Ytmmolicodlmlkaa.Ph
open Go.Conc Go.ConcN Go.RowKit Go.Conc.Lib Go.ConcR.Gen Go.ConcN.Gen
open Go.ConcR (KK wgBlock WgAt stA smA rd wr mk DC0 Payload)
open Go.Proofs.Ytmmolicodlmlkaa.Rel
set_option linter.unusedVariables false
set_option linter.unusedSimpArgs false

section
variable {W₀ : World} {l : List Fc} {F S : Nat → Prop} {own : List ((Nat → Prop) × Fc)} {Shun : Loc → Prop} {w : World} {m : Machine} {t : Trace} {A A2 : Option Addr} {c c2 : Nat} {x sl : List Int} {kw : Int} {cs : List Frame} {b₀ : Frame} {a₀ : Act} {ops₀ : Array Oper} {i₀ : Nat} {rest₀ : List Nat} {k₀ : List Item}
theorem argp_sub {F F' : Nat → Prop} (h : ArgP F w A) (hs : ∀ y, F y → F' y) : ArgP F' w A := fun a ha => ⟨hs _ (h a ha).1, (h a ha).2⟩
theorem res_length (g : Bool) (x sl : List Int) (h : g = true) : (resOf g x sl).length = sl.length := by simp [resOf, h, rowsOf_length]
/-- Rows that the program has made are its caller's own. -/
theorem sso_of {G' : Nat → Prop} {C lo : Nat} {cells : Array Value} {w' : World} (hC : G' C) (hc : w'.heap[C]? = some (.cells cells 22 (0, 0))) (hn : cells.size = sl.length) (hR : RowsIn lo C x sl (fun o => o < sl.length) (fun b => G' b ∧ b ≠ C) w') :
    (Fc.sso (some ⟨C, 0, none⟩) (rowsOf x sl)).holds G' w' := by
  obtain ⟨R, cc, h1, h2⟩ := hR
  have hlen := rowsOf_length x sl
  have hcell : ∀ o (ho : o < (rowsOf x sl).length), w'.cell? ⟨C, o, none⟩ = some (.slice (R o) (rowsOf x sl)[o].length (cc o)) ∧ OwnS (Value.int .i64) w' 0 2 (R o) (rowsOf x sl)[o] := fun o ho => by
    obtain ⟨q1, q2, _⟩ := h1 o (by rw [hlen] at ho; exact ho)
    rw [rowsOf_at x sl o ho, rowH_length]
    exact ⟨q1, q2.mono (Nat.zero_le _)⟩
  have hfree : ∀ o, o < sl.length → ∀ r, R o = some r → (G' r.block ∧ r.block ≠ C) ∧ IntsA w' r := fun o ho r hr => (h1 o ho).2.2 r hr
  refine ⟨⟨fun a ha => ?_, fun o ho => ⟨C, 0, R o, cc o, rfl, by rw [Nat.zero_add]; exact (hcell o ho).1, (hcell o ho).2.rd, .inl fun r hr => ?_⟩⟩, R, cc, fun o ho => ⟨C, rfl, (hcell o ho).1, (hcell o ho).2, fun r hr => ⟨(hfree o (by rw [hlen] at ho; exact ho) r hr).1.1, (hfree o (by rw [hlen] at ho; exact ho) r hr).2⟩⟩, fun o o' a a' ho ho' => h2 o o' a a' (by rw [hlen] at ho; exact ho) (by rw [hlen] at ho'; exact ho'), fun o a c ho ha hc' => ?_⟩
  · obtain rfl := Option.some.inj ha
    exact ⟨hC, by simp only; rw [hc]; rfl, rfl⟩
  · obtain ⟨q1, q2⟩ := hfree o (by rw [hlen] at ho; exact ho) r hr
    exact ⟨q1.1, q2.plz⟩
  · obtain rfl := Option.some.inj hc'
    exact (hfree o (by rw [hlen] at ho; exact ho) a ha).1.2
/-- ████ impl.RowsShared, CALLED BY A LAW. ████ -/
theorem rows_at (h : At Try.prog Shun (G (Frame.enter Try.prog 24 #[.slice A x.length c, .slice A2 sl.length c2, .int .i64 kw] .normal) (b₀.at a₀ (.inRegion ops₀ (i₀ :: rest₀) :: k₀) :: cs)) w m t) (hH : LH W₀ l F own S w) (hS : ∀ y, S y → FreeB Shun w y)
    (hx : RdL (Value.int .i64) w A x) (hs : RdL (Value.int .i64) w A2 sl) (hxn : x.length ≤ 1048576) (hsn : sl.length ≤ 1048576) (hA : ArgP S w A) (hA2 : ArgP S w A2) :
    ∃ K m' t' w' Shun' A' c' G', runNT Try.prog K m t = (.next m', t') ∧ At Try.prog Shun' (G (b₀.at (a₀.put ((ops₀[i₀]?).bind (·.dst)) (.tuple #[.slice A' (resOf (gateRS x sl kw) x sl).length c', .bool (gateRS x sl kw)])) (.inRegion ops₀ rest₀ :: k₀)) cs) w' m' t' ∧
      LH W₀ l F ((G', .sso A' (resOf (gateRS x sl kw) x sl)) :: own) (FreeB Shun' w') w' := by
  obtain ⟨K, m', t', w', Shun', v, hr, hAt, hg, hR⟩ := rows_machine h hH.glob hx hs hxn hsn (argp_sub hA hS) (argp_sub hA2 hS)
  have hH1 := (hH.wide hS fun y hy => hy.1).grow hg
  rcases hR with ⟨e, rfl⟩ | ⟨e, C, cells, rfl, hC1, hC2, hC3, hC4, hR⟩
  · refine ⟨K, m', t', w', Shun', none, 0, fun _ => False, hr, ?_, ?_⟩
    · rw [e]; exact hAt
    · rw [e]
      exact hH1.addOwn ⟨⟨fun a ha => (by cases ha), fun o ho => absurd ho (by simp [resOf])⟩, fun _ => none, fun _ => 0, fun o ho => absurd ho (by simp [resOf]), fun _ _ _ _ ho => absurd ho (by simp [resOf]), fun _ _ _ ho => absurd ho (by simp [resOf])⟩ (fun y hy => hy.elim) (fun y _ hy => hy) fun q hq y _ hy => hy
  · refine ⟨K, m', t', w', Shun', some ⟨C, 0, none⟩, sl.length, fun y => w.heap.size ≤ y ∧ FreeB Shun' w' y, hr, ?_, ?_⟩
    · rw [e, res_length true x sl rfl]; exact hAt
    · rw [e]
      refine hH1.addOwn (sso_of ⟨hC1, hC2⟩ hC3 hC4 (hR.stay (mine := fun _ => True) (fun _ _ => rfl) (.refl _ _ _) (fun _ _ => trivial) fun b hb => ⟨⟨hb.1, hb.2.2⟩, hb.2.1⟩)) (fun y hy => hy.2) (fun y hy hn => ?_) fun q hq y hy hn => ?_
      · have := hH.low y (hH.sub y hy)
        omega
      · have := hH.low y ((hH.ow q hq).2.1 y hy)
        omega
end
/-- Alone, at the beginning. -/
theorem at_start {P : Program} {g : Goroutine} {w : World} : At P (fun _ => False) g w (solo g w) #[] := by
  refine ⟨⟨#[g], none, fun _ => 0, by rw [solo_eq_crowd], rfl, ⟨leavers_one _ _, past_nil.mono (Nat.zero_le _), by simp⟩⟩, fun l h => h.elim⟩
end Go.Proofs.Ytmmolicodlmlkaa.Ph
namespace Go.Proofs.Ytmmolicodlmlkaa.Ph
open Go.Conc Go.RowKit
open Go.Proofs.Ytmmolicodlmlkaa.Rel
set_option linter.unusedVariables false

/-- The lone walk's slots. -/
def absA (Fs : Fns) (B : Nat) (a : Act) : Act := ⟨a.tmps.map (absV Fs B), []⟩
section
variable {P : Program} {fs : FuncId → Bool} {v : World} {Rd S : Nat → Prop} {cs : List Frame} {main : Bool}
end
section
variable {P : Program} {fs : FuncId → Bool} {v : World} {F W : Nat → Prop} {cs : List Frame}
end
end Go.Proofs.Ytmmolicodlmlkaa.Ph
namespace Go.Proofs.Ytmmolicodlmlkaa.Ph
open Go.Conc Go.ConcN Go.RowKit Go.Conc.Lib Go.ConcR.Gen Go.ConcN.Gen
open Go.ConcR (KK wgBlock WgAt stA smA rd wr mk DC0 Payload)
open Go.Proofs.Ytmmolicodlmlkaa.Rel
set_option linter.unusedVariables false
set_option linter.unusedSimpArgs false

theorem nm_iRows : (Try.f24.name == "runtime.NumGoroutine") = false := by kernel_rfl
theorem LH.perm {W₀ : World} {l : List Fc} {F S : Nat → Prop} {own own' : List ((Nat → Prop) × Fc)} {w : World} (h : LH W₀ l F own S w) (hp : own.Perm own') : LH W₀ l F own' S w :=
  ⟨h.tw, h.old, h.low, h.glob, h.fc, h.sub, fun p hp' => h.ow p (hp.mem_iff.2 hp'), (hp.pairwise_iff fun {a b} hab y hb ha => hab y ha hb).1 h.dis⟩
/-- The law's end. -/
def LawEnd (W₀ : World) (S : Nat → Prop) (g : Goroutine) (w : World) : Prop := g.status = .running ∧ ∀ w₁, RS No S w w₁ → ∃ v, stepG Try.prog true g w₁ = .ended (.done v) w₁ #[] ∧ v = .bool true ∧ Below W₀.heap.size W₀ w₁
/-- The run's pieces, put together. -/
theorem ends_at {W₀ : World} {Shun : Loc → Prop} {S : Nat → Prop} {g : Goroutine} {w : World} {m m0 : Machine} {t t0 : Trace} {K : Nat} (hr : runNT Try.prog K m0 t0 = (.next m, t)) (h : At Try.prog Shun g w m t) (hS : ∀ y, S y → FreeB Shun w y) (hG : GL Try.prog (LawEnd W₀) S g w) :
    ∃ M last o w' t', runNT Try.prog (M + 1) m0 t0 = (.ended o w', t') ∧ runN Try.prog M m0 = .next last ∧ step Try.prog last = .ended o w' ∧ Go.Conc.Good Try.prog (fun v W' => v = .bool true ∧ Below W₀.heap.size W₀ W') last o w' t' := by
  obtain ⟨⟨gs, sl, q, rfl, h0, hL⟩, hs⟩ := h
  have hfr := FreeB.free (w := w) hs
  obtain ⟨N, last, o, w', t', e1, e2, e3, e4⟩ := ends (Post := fun v W' => v = .bool true ∧ Below W₀.heap.size W₀ W') (sl := sl) h0 hL (S := S) ⟨fun l hl => hfr.free l (by
    cases l with
    | cell a => exact hS _ hl
    | obj r => exact hS _ hl
    | output => exact hl
    | goroutines => exact hl
    | mark m => exact hl), fun b hb => (hS b hb).1, hfr.shun⟩ hG
  refine ⟨K + N, last, o, w', t', ?_, ?_, e3, e4⟩
  · rw [Nat.add_assoc, runNT_add, hr]; exact e1
  · rw [runN_add, ← runNT_fst Try.prog _ _ t0, hr]; exact e2
/-! ### any law: from a lone end to its own -/
theorem stepG_done' {P : Program} {fc : Frame} {w : World} {fn : Func} {t : Tmp} (hm : fc.mode = .returning) (hn : fc.kind = .normal) (hd : fc.defers = []) (hf : P.funcs[fc.fn]? = some fn) (hr : fn.results = #[.tmp t]) (hi : P.inits.idxOf? fc.fn = none) :
    stepG P true (G fc []) w = .ended (.done (fc.tmps.getD t undef)) w #[] := by
  have h1 := results_tmp hr fc.tmps P w
  have h2 := events_results_tmp (P := P) (w := w) hr fc.tmps #[]
  simp [G, stepG, unwind, doReturn, hm, hn, hd, hf, h1, h2, hi, seen, GStep.after]
theorem law_ret {W₀ : World} {l : List Fc} {F0 S : Nat → Prop} {own : List ((Nat → Prop) × Fc)} {v : World} {fs : FuncId → Bool} {f : FuncId} {fn : Func} {t0 : Tmp} {g : Goroutine} (hH : LH W₀ l F0 own S v) (hf : Try.prog.funcs[f]? = some fn) (hr : fn.results = #[.tmp t0]) (hi : Try.prog.inits.idxOf? f = none)
    (h : GL Try.prog (fun t g w => ∃ s, t = (fun b => (S b ∧ ¬ No b) ∨ s b) ∧ RetC Try.prog (fnsQ fs v S No) v (fun b => S b ∧ ¬ No b) No f [] (fun u w' => u = .bool true) s g w) S g v) : GL Try.prog (LawEnd W₀) S g v := by
  refine Go1.widen h ?_
  rintro t g w ⟨s, rfl, hC⟩
  obtain ⟨ρ, fc, u, wl, rfl, hfn, hm, hd, hk, ⟨fn', hfn', hres⟩, rfl, hok, hid, hnew, hwr, hlow, hmine⟩ := hC.out
  have hL : Rel.Left Try.prog (fnsQ fs v S No) v (fun b => S b ∧ ¬ No b) No ρ wl s w := ⟨hid, hnew, hwr, hlow, hmine, hC.tape, hC.os, hC.output, hC.size, hC.rd⟩
  have hK := lk_left hH.low hL
  have hH1 := hH.lk hK
  rw [hf] at hfn'
  obtain rfl := Option.some.inj hfn'
  refine ⟨rfl, fun w₁ h₁ => ⟨_, stepG_done' hm hk hd (by rw [hfn]; exact hf) hr (by rw [hfn]; exact hi), ?_, (hH1.rely h₁).below⟩⟩
  obtain ⟨es, hrun, _⟩ := hres w₁ (fun b hb => h₁.own b (hb.elim .inr .inl))
  have h1 := results_tmp hr fc.tmps Try.prog w₁
  have h2 : ((results fn fc.tmps).runT Try.prog w₁ #[]).1 = .ok (fc.tmps.getD t0 undef) w₁ := by rw [Sem.runT_eq]; exact h1
  rw [hrun] at h2
  have h3 : Result.ok (ren ρ (.bool true)) w₁ = Result.ok (fc.tmps.getD t0 undef) w₁ := h2
  rw [← (Result.ok.inj h3).1]; simp
end Go.Proofs.Ytmmolicodlmlkaa.Ph
namespace Go.Proofs.Ytmmolicodlmlkaa.Ph
open Go.Conc Go.RowKit
open Go.Proofs.Ytmmolicodlmlkaa.Rel
set_option linter.unusedVariables false

/-- .. to the function's return. -/
def EndsM (P : Program) (ops : Array Oper) (rest : List Nat) (f : FuncId) (c : Code) (Post : Value → World → Prop) (a : Act) (w : World) : Prop :=
  ∀ (b : Frame) (cs : List Frame), ∃ a' w' todo, (a'.defers = [] ∧ ∃ fn v, P.funcs[f]? = some fn ∧ (results fn a'.tmps).run P w' = .ok v w' ∧ Post v w') ∧ Steps P (lone (b.at a [.inRegion ops rest, .code c]) cs w) (lone { b.at a' todo with mode := .returning } cs w')
theorem endsM_of {P : Program} {ops : Array Oper} {rest : List Nat} {f : FuncId} {c : Code} {Post : Value → World → Prop} {a : Act} {w : World} (h : wpOps P ops (Exit.then (fun a w => Rel.Ends P f c Post a w) Rel.NoExit) rest a w) : EndsM P ops rest f c Post a w := by
  intro b cs
  obtain ⟨e, a', w', q, r⟩ := wp_ops rest a w h b [.code c] cs
  cases e with
  | normal =>
    obtain ⟨e2, a2, w2, ⟨he, hq⟩, hs⟩ := q b [] cs
    rcases he with rfl | rfl
    · exact ⟨a2, w2, [], hq, Steps.trans (Steps.trans r hs) (.one step_end)⟩
    · obtain ⟨todo, hs⟩ := hs
      exact ⟨a2, w2, todo, hq, Steps.trans r hs⟩
  | exit id => exact q.elim
  | goto l => exact q.elim
  | ret => exact q.elim
  | panic ch => exact q.elim
  | outgrown => exact q.elim
/-- The operations behind a call, as the walk's tactics want them. -/
theorem wpOps_from {P : Program} {ops : Array Oper} {Q : Exit → Act → World → Prop} {l : List Oper} {a : Act} {w : World} (k n : Nat) (hn : l.length = n) (h0 : ∀ j, l[j]? = ops[k + j]?) (h : wpList P ops Q l a w) : wpOps P ops Q (List.range' k n) a w := by
  subst hn
  rw [wpOps_eq_wpList l k h0]
  exact h
theorem opsOk_mono {P : Program} {fs : FuncId → Bool} {al wr na : Nat → Bool} {ops : Array Oper} {l : List Nat} (h : opsOk P ⟨fs, fun _ => false, fun _ => false, fun _ => false⟩ ops l = true) : opsOk P ⟨fs, al, wr, na⟩ ops l = true := by
  unfold opsOk at h ⊢
  rw [List.all_eq_true] at h ⊢
  intro i hi
  have := h i hi
  cases ho : ops[i]? with
  | none => rfl
  | some o =>
    rw [ho] at this
    exact op_mono _ this
section
variable {P : Program} {fs : FuncId → Bool} {v : World} {Rd S : Nat → Prop} {cs : List Frame} {main : Bool}
/-- ████ TO THE RETURN, IN COMPANY. ████ -/
theorem end_companyM {f : FuncId} {fn0 : Func} {c : Code} {ops : Array Oper} {rest : List Nat} {a : Act} {Q : Value → World → Prop} (hz : ZeroOk P) (hG : P.globals.size ≤ v.heap.size) (hO : ∀ ρ, FnsOk ⟨P, ρ, fnsOf fs v (fun b => S b ∨ Rd b) S⟩) (hS : ∀ b, S b → b < v.heap.size) (hR : ∀ b, Rd b → b < v.heap.size ∧ ¬ S b)
    (hf0 : P.funcs[f]? = some fn0) (hres0 : fn0.results.all resOk = true) (hc : codeOk P (fnsOf fs v (fun b => S b ∨ Rd b) S) c = true) (hop : opsOk P (fnsOf fs v (fun b => S b ∨ Rd b) S) ops rest = true) (hd : a.defers = [])
    (hl : ∀ τ, EndsM P ops rest f c Q (absA (fnsOf fs v (fun b => S b ∨ Rd b) S) v.heap.size a) { loneW (fnsOf fs v (fun b => S b ∨ Rd b) S) v with tape := τ, drawn := 0 }) :
    Go1 P main (RS Rd) (DS Rd) (RetC P (fnsOf fs v (fun b => S b ∨ Rd b) S) v Rd S f cs Q) S (G ((base f).at a [.inRegion ops rest, .code c]) cs) v := by
  classical
  have hal : ∀ b, b < v.heap.size → (fnsOf fs v (fun b => S b ∨ Rd b) S).al b = true → (S b ∨ Rd b) ∧ plainO v.heap[b]? = true := by
    intro b hb h
    simp only [fnsOf, hb, if_true, Bool.and_eq_true, decide_eq_true_eq] at h
    exact h
  have hwrs : ∀ b, b < v.heap.size → (fnsOf fs v (fun b => S b ∨ Rd b) S).wr b = true → S b := by
    intro b hb h
    simpa only [fnsOf, hb, if_true, decide_eq_true_eq] using h
  generalize hFs : fnsOf fs v (fun b => S b ∨ Rd b) S = Fs at *
  let StopL : Frame → List Frame → World → Prop := fun fl cl w => ∃ u, Q u w ∧ cl = [badF] ∧ fl.fn = f ∧ fl.leaving P w (.returned u)
  have U := setup_lone (P := P) (fs := fs) (v := v) (Rd := Rd) (S := S) (cs := cs) (kl := []) (kc := []) (fl0 := (base f).at (absA (fnsOf fs v (fun b => S b ∨ Rd b) S) v.heap.size a) [.inRegion ops rest, .code c]) (fc0 := (base f).at a [.inRegion ops rest, .code c]) (StopL := StopL) hz hG (by rw [hFs]; exact hO) hS hR (.inl ⟨rfl, rfl⟩)
    (by
      rw [hFs]
      intro ρ hρ
      refine ⟨rfl, ⟨?_, fun x hx => by obtain ⟨y, _, rfl⟩ := Array.mem_map.1 hx; exact absV_ok _ _ y⟩, ⟨[.inRegion ops rest, .code c], [], [], rfl, rfl, fun it hit => by simp at hit; rcases hit with rfl | rfl; exact hop; exact hc, .here⟩, rfl, hd, .inl ⟨rfl, rfl⟩, rfl, rfl, rfl, rfl⟩
      apply Array.ext (by simp [Frame.at, absA])
      intro i h1 h2
      simp only [Frame.at, absA, Array.getElem_map]
      exact (absV_ren hρ _).symm)
    (by
      rw [hFs]
      intro τ
      obtain ⟨a', w', todo, ⟨hdf, fn, u, hfn, hr, hq⟩, M, hM⟩ := hl τ (base f) [badF]
      exact ⟨M, _, _, w', hM, u, hq, rfl, rfl, rfl, hdf, rfl, fn, hfn, hr⟩)
    (fun fl cl w ⟨u, _, h1, _, h2⟩ => ⟨fun ch h => (by rw [h2.1] at h; cases h), (by rw [h1]; simp)⟩)
  rw [hFs] at U
  refine (Go1.bind (fun s a => RS.refl a) (transfer (main := main) U) fun s g w ⟨ρ, fl, cl, wl, hA, u, hq, hcl, hfn, hlv⟩ => Go1.stop fun w₁ h₁ => ?_)
  subst hcl
  obtain ⟨fc, cc, rfl, hst⟩ := hA.st
  have hfr : FR ⟨P, ρ, Fs⟩ wl.heap.size [] [] fl fc ∧ cc = cs := by
    rcases hst.fr with ⟨h, _, h2⟩ | ⟨_, _, _, h⟩
    · exact ⟨h, h2⟩
    · exfalso
      cases h with
      | cons _ _ _ h => cases h
  obtain ⟨hfr, rfl⟩ := hfr
  obtain ⟨hm, hd, hk, fn, hfn1, hres⟩ := hlv
  have hmode : fc.mode = .returning := by
    rcases hfr.mode with ⟨h1, _⟩ | ⟨_, h2⟩
    · rw [hm] at h1; cases h1
    · exact h2
  have g1 := hf0
  have g5 := hres0
  have g1' : P.funcs[f]? = some fn0 := g1
  rw [hfn] at hfn1
  rw [g1'] at hfn1
  obtain rfl := Option.some.inj hfn1
  obtain ⟨e2, hout⟩ := ret_out (fun b hb h => (hal b hb h).1) hwrs hA hfr g5 hres h₁
  have hwr1 : WR ⟨P, ρ, Fs⟩ wl w₁ := hA.wr.rely fun c hc hca => by
    show w₁.heap[ρ.f c]? = w.heap[ρ.f c]?
    rcases Nat.lt_or_ge c v.heap.size with hb | hb
    · rw [hA.id c hb]
      rcases (hal c hb hca).1 with h | h
      · exact h₁.own c ((hA.mine c).2 (.inl h))
      · exact h₁.rd c h
    · exact h₁.own _ (hA.cover c hb hc)
  exact ⟨⟨ρ, fc, u, wl, rfl, hfr.fn.trans hfn, hmode, hfr.defc, hfr.kindc, ⟨fn0, g1', hout⟩, hq, e2, hA.id, hA.new, hwr1, hA.low, hA.mine⟩, h₁.tape.trans hA.tape, h₁.os.trans hA.os, h₁.output.trans hA.output, Nat.le_trans hA.size h₁.size, fun b hb => (h₁.rd b hb).trans (hA.rd b hb)⟩
end
section
variable {P : Program} {fs : FuncId → Bool} {v : World} {F W : Nat → Prop} {cs : List Frame}
theorem gl_endM {f : FuncId} {fn0 : Func} {c : Code} {ops : Array Oper} {rest : List Nat} {a : Act} {Q : Value → World → Prop} (hsub : ∀ b, W b → F b) (hF : ∀ b, F b → b < v.heap.size) (hz : ZeroOk P) (hG : P.globals.size ≤ v.heap.size) (hO : ∀ f, fs f = true → ∃ fn, P.funcs[f]? = some fn ∧ fnOk P fs fn = true)
    (hf0 : P.funcs[f]? = some fn0) (hres0 : fn0.results.all resOk = true) (hc : codeOk P ⟨fs, fun _ => false, fun _ => false, fun _ => false⟩ c = true) (hop : opsOk P ⟨fs, fun _ => false, fun _ => false, fun _ => false⟩ ops rest = true) (hd : a.defers = []) (hl : ∀ τ, EndsM P ops rest f c Q (absA (fnsQ fs v F W) v.heap.size a) { loneW (fnsQ fs v F W) v with tape := τ, drawn := 0 }) :
    GL P (fun t g w => ∃ s, t = (fun b => (F b ∧ ¬ W b) ∨ s b) ∧ RetC P (fnsQ fs v F W) v (fun b => F b ∧ ¬ W b) W f cs Q s g w) F (G ((base f).at a [.inRegion ops rest, .code c]) cs) v :=
  gl_of hsub (end_companyM hz hG (fun ρ => by unfold fnsOf; exact fnsOk_of hO) (fun b hb => hF b (hsub b hb)) (fun b hb => ⟨hF b hb.1, hb.2⟩) hf0 hres0 (by unfold fnsOf; exact code_mono c hc) (by unfold fnsOf; exact opsOk_mono hop) hd hl)
end
end Go.Proofs.Ytmmolicodlmlkaa.Ph
namespace Go.Proofs.Ytmmolicodlmlkaa.Ph
open Go.Conc Go.ConcN Go.RowKit
open Go.Proofs.Ytmmolicodlmlkaa.Rel
set_option linter.unusedVariables false
set_option linter.unusedSimpArgs false

abbrev arrH1 (T : Nat → Value) (v0 v1 v5 v6 v7 v8 v9 v69 : Value) : Array Value := #[v0, v1, T 2, T 3, T 4, v5, v6, v7, v8, v9, T 10, T 11, T 12, T 13, T 14, T 15, T 16, T 17, T 18, T 19, T 20, T 21, T 22, T 23, T 24, T 25, T 26, T 27, T 28, T 29, T 30, T 31, T 32, T 33, T 34, T 35, T 36, T 37, T 38, T 39, T 40, T 41, T 42, T 43, T 44, T 45, T 46, T 47, T 48, T 49, T 50, T 51, T 52, T 53, T 54, T 55, T 56, T 57, T 58, T 59, T 60, T 61, T 62, T 63, T 64, T 65, T 66, T 67, T 68, v69, T 70, T 71, T 72, T 73, T 74, T 75, T 76, T 77, T 78, T 79, T 80, T 81, T 82, T 83, T 84, T 85, T 86, T 87, T 88, T 89, T 90, T 91, T 92, T 93, T 94, T 95, T 96, T 97, T 98, T 99, T 100, T 101, T 102, T 103, T 104, T 105, T 106, T 107, T 108, T 109, T 110, T 111, T 112, T 113, T 114, T 115, T 116, T 117, T 118, T 119, T 120, T 121, T 122, T 123, T 124, T 125, T 126, T 127, T 128, T 129, T 130, T 131, T 132, T 133, T 134, T 135, T 136, T 137, T 138, T 139, T 140, T 141, T 142, T 143, T 144, T 145, T 146, T 147, T 148, T 149, T 150, T 151, T 152, T 153, T 154, T 155, T 156, T 157, T 158, T 159, T 160, T 161, T 162, T 163, T 164, T 165, T 166, T 167, T 168, T 169, T 170, T 171, T 172, T 173, T 174, T 175, T 176, T 177, T 178, T 179, T 180, T 181, T 182, T 183, T 184, T 185, T 186, T 187, T 188, T 189, T 190, T 191, T 192, T 193, T 194, T 195, T 196, T 197, T 198, T 199, T 200, T 201, T 202, T 203, T 204, T 205, T 206, T 207, T 208, T 209, T 210, T 211, T 212, T 213, T 214, T 215, T 216, T 217, T 218, T 219, T 220, T 221, T 222, T 223, T 224, T 225, T 226, T 227, T 228, T 229, T 230, T 231, T 232, T 233, T 234, T 235, T 236, T 237, T 238, T 239, T 240, T 241, T 242, T 243, T 244, T 245, T 246, T 247, T 248, T 249, T 250, T 251, T 252, T 253, T 254, T 255, T 256, T 257, T 258, T 259, T 260, T 261, T 262, T 263, T 264, T 265, T 266, T 267, T 268, T 269, T 270, T 271, T 272, T 273, T 274, T 275, T 276, T 277, T 278, T 279, T 280, T 281, T 282, T 283, T 284, T 285, T 286, T 287, T 288, T 289, T 290, T 291, T 292, T 293, T 294, T 295, T 296, T 297, T 298, T 299, T 300, T 301, T 302, T 303, T 304, T 305, T 306, T 307, T 308, T 309, T 310, T 311, T 312, T 313, T 314, T 315, T 316, T 317, T 318, T 319, T 320, T 321, T 322, T 323, T 324, T 325, T 326, T 327, T 328, T 329, T 330, T 331, T 332, T 333, T 334, T 335, T 336, T 337, T 338, T 339, T 340, T 341, T 342, T 343, T 344, T 345, T 346, T 347, T 348, T 349, T 350, T 351, T 352, T 353, T 354, T 355, T 356, T 357, T 358, T 359, T 360, T 361, T 362, T 363, T 364, T 365, T 366, T 367, T 368, T 369, T 370, T 371, T 372, T 373, T 374, T 375, T 376, T 377, T 378, T 379, T 380, T 381, T 382, T 383, T 384, T 385, T 386, T 387, T 388, T 389, T 390, T 391, T 392, T 393, T 394, T 395, T 396, T 397, T 398, T 399, T 400, T 401, T 402, T 403, T 404, T 405, T 406, T 407, T 408, T 409, T 410, T 411, T 412, T 413, T 414, T 415, T 416, T 417, T 418, T 419, T 420, T 421, T 422, T 423, T 424, T 425, T 426, T 427, T 428, T 429, T 430, T 431, T 432, T 433, T 434, T 435, T 436, T 437, T 438, T 439, T 440, T 441, T 442, T 443, T 444, T 445, T 446, T 447, T 448, T 449, T 450, T 451, T 452, T 453, T 454, T 455, T 456, T 457, T 458, T 459, T 460, T 461, T 462, T 463, T 464, T 465, T 466, T 467, T 468, T 469, T 470, T 471, T 472, T 473, T 474, T 475, T 476, T 477, T 478, T 479, T 480, T 481, T 482, T 483, T 484, T 485, T 486, T 487, T 488, T 489, T 490, T 491, T 492, T 493, T 494, T 495, T 496, T 497, T 498, T 499, T 500, T 501, T 502, T 503, T 504, T 505, T 506, T 507, T 508, T 509, T 510, T 511, T 512]
set_option maxRecDepth 100000 in
theorem abs_arrH1 (Fs : Fns) (B : Nat) (T : Nat → Value) (v0 v1 v5 v6 v7 v8 v9 v69 : Value) : absA Fs B ⟨arrH1 T v0 v1 v5 v6 v7 v8 v9 v69, []⟩ = ⟨arrH1 (fun i => absV Fs B (T i)) (absV Fs B v0) (absV Fs B v1) (absV Fs B v5) (absV Fs B v6) (absV Fs B v7) (absV Fs B v8) (absV Fs B v9) (absV Fs B v69), []⟩ := by
  unfold absA arrH1
  simp only [List.map_toArray, List.map_cons, List.map_nil]
noncomputable def hbody : Code := match Try.f10.body with | some c => c | _ => .skip
theorem hbody_is : Try.f10.body = some hbody := rfl
noncomputable def fy6h : Array Oper := match Try.f10.body with | some (.seq _ (.seq _ (.seq _ (.seq _ (.seq _ (.seq (.region _ ops _) _)))))) => ops | _ => #[]
noncomputable def fy7h : Array Oper := match Try.f10.body with | some (.seq _ (.seq _ (.seq _ (.seq _ (.seq _ (.seq _ (.seq (.region _ ops _) _))))))) => ops | _ => #[]
noncomputable def fc7h : Code := match Try.f10.body with | some (.seq _ (.seq _ (.seq _ (.seq _ (.seq _ (.seq _ (c))))))) => c | _ => .skip
noncomputable def fc8h : Code := match Try.f10.body with | some (.seq _ (.seq _ (.seq _ (.seq _ (.seq _ (.seq _ (.seq _ (c)))))))) => c | _ => .skip
theorem arr_range (X : Array Value) (h : X.size = 513) : X = (Array.range 513).map fun i => X.getD i undef := by
  apply Array.ext
  · simp [h]
  · intro i h1 h2
    simp [h1]
abbrev arrL (T : Nat → Value) (v0 v1 v5 v6 v7 v8 v10 v12 v13 : Value) : Array Value := #[v0, v1, T 2, T 3, T 4, v5, v6, v7, v8, T 9, v10, T 11, v12, v13, T 14, T 15, T 16, T 17, T 18, T 19, T 20, T 21, T 22, T 23, T 24, T 25, T 26, T 27, T 28, T 29, T 30, T 31, T 32, T 33, T 34, T 35, T 36, T 37, T 38, T 39, T 40, T 41, T 42, T 43, T 44, T 45, T 46, T 47, T 48, T 49, T 50, T 51, T 52, T 53, T 54, T 55, T 56, T 57, T 58, T 59, T 60, T 61, T 62, T 63, T 64, T 65, T 66, T 67, T 68, T 69, T 70, T 71, T 72, T 73, T 74, T 75, T 76, T 77, T 78, T 79, T 80, T 81, T 82, T 83, T 84, T 85, T 86, T 87, T 88, T 89, T 90, T 91, T 92, T 93, T 94, T 95, T 96, T 97, T 98, T 99, T 100, T 101, T 102, T 103, T 104, T 105, T 106, T 107, T 108, T 109, T 110, T 111, T 112, T 113, T 114, T 115, T 116, T 117, T 118, T 119, T 120, T 121, T 122, T 123, T 124, T 125, T 126, T 127, T 128, T 129, T 130, T 131, T 132, T 133, T 134, T 135, T 136, T 137, T 138, T 139, T 140, T 141, T 142, T 143, T 144, T 145, T 146, T 147, T 148, T 149, T 150, T 151, T 152, T 153, T 154, T 155, T 156, T 157, T 158, T 159, T 160, T 161, T 162, T 163, T 164, T 165, T 166, T 167, T 168, T 169, T 170, T 171, T 172, T 173, T 174, T 175, T 176, T 177, T 178, T 179, T 180, T 181, T 182, T 183, T 184, T 185, T 186, T 187, T 188, T 189, T 190, T 191, T 192, T 193, T 194, T 195, T 196, T 197, T 198, T 199, T 200, T 201, T 202, T 203, T 204, T 205, T 206, T 207, T 208, T 209, T 210, T 211, T 212, T 213, T 214, T 215, T 216, T 217, T 218, T 219, T 220, T 221, T 222, T 223, T 224, T 225, T 226, T 227, T 228, T 229, T 230, T 231, T 232, T 233, T 234, T 235, T 236, T 237, T 238, T 239, T 240, T 241, T 242, T 243, T 244, T 245, T 246, T 247, T 248, T 249, T 250, T 251, T 252, T 253, T 254, T 255, T 256, T 257, T 258, T 259, T 260, T 261, T 262, T 263, T 264, T 265, T 266, T 267, T 268, T 269, T 270, T 271, T 272, T 273, T 274, T 275, T 276, T 277, T 278, T 279, T 280, T 281, T 282, T 283, T 284, T 285, T 286, T 287, T 288, T 289, T 290, T 291, T 292, T 293, T 294, T 295, T 296, T 297, T 298, T 299, T 300, T 301, T 302, T 303, T 304, T 305, T 306, T 307, T 308, T 309, T 310, T 311, T 312, T 313, T 314, T 315, T 316, T 317, T 318, T 319, T 320, T 321, T 322, T 323, T 324, T 325, T 326, T 327, T 328, T 329, T 330, T 331, T 332, T 333, T 334, T 335, T 336, T 337, T 338, T 339, T 340, T 341, T 342, T 343, T 344, T 345, T 346, T 347, T 348, T 349, T 350, T 351, T 352, T 353, T 354, T 355, T 356, T 357, T 358, T 359, T 360, T 361, T 362, T 363, T 364, T 365, T 366, T 367, T 368, T 369, T 370, T 371, T 372, T 373, T 374, T 375, T 376, T 377, T 378, T 379, T 380, T 381, T 382, T 383, T 384, T 385, T 386, T 387, T 388, T 389, T 390, T 391, T 392, T 393, T 394, T 395, T 396, T 397, T 398, T 399, T 400, T 401, T 402, T 403, T 404, T 405, T 406, T 407, T 408, T 409, T 410, T 411, T 412, T 413, T 414, T 415, T 416, T 417, T 418, T 419, T 420, T 421, T 422, T 423, T 424, T 425, T 426, T 427, T 428, T 429, T 430, T 431, T 432, T 433, T 434, T 435, T 436, T 437, T 438, T 439, T 440, T 441, T 442, T 443, T 444, T 445, T 446, T 447, T 448, T 449, T 450, T 451, T 452, T 453, T 454, T 455, T 456, T 457, T 458, T 459, T 460, T 461, T 462, T 463, T 464, T 465, T 466, T 467, T 468, T 469, T 470, T 471, T 472, T 473, T 474, T 475, T 476, T 477, T 478, T 479, T 480, T 481, T 482, T 483, T 484, T 485, T 486, T 487, T 488, T 489, T 490, T 491, T 492, T 493, T 494, T 495, T 496, T 497, T 498, T 499, T 500, T 501, T 502, T 503, T 504, T 505, T 506, T 507, T 508, T 509, T 510, T 511, T 512]
set_option maxRecDepth 100000 in
theorem arrL_e (f : Nat → Value) : arrL f (f 0) (f 1) (f 5) (f 6) (f 7) (f 8) (f 10) (f 12) (f 13) = (Array.range 513).map f := by kernel_rfl
theorem arrL_mk {X : Array Value} {v0 v1 v5 v6 v7 v8 v10 v12 v13 : Value} (h : X.size = 513) (h0 : X.getD 0 undef = v0) (h1 : X.getD 1 undef = v1) (h5 : X.getD 5 undef = v5) (h6 : X.getD 6 undef = v6) (h7 : X.getD 7 undef = v7) (h8 : X.getD 8 undef = v8) (h10 : X.getD 10 undef = v10) (h12 : X.getD 12 undef = v12) (h13 : X.getD 13 undef = v13) : ∃ T, X = arrL T v0 v1 v5 v6 v7 v8 v10 v12 v13 := by
  subst h0; subst h1; subst h5; subst h6; subst h7; subst h8; subst h10; subst h12; subst h13
  exact ⟨fun i => X.getD i undef, (arr_range X h).trans (arrL_e fun i => X.getD i undef).symm⟩
abbrev arrM (T : Nat → Value) (v0 v1 v5 v6 v7 v8 v10 v12 v13 v14 v16 v17 v19 v21 v23 v25 v27 v28 : Value) : Array Value := #[v0, v1, T 2, T 3, T 4, v5, v6, v7, v8, T 9, v10, T 11, v12, v13, v14, T 15, v16, v17, T 18, v19, T 20, v21, T 22, v23, T 24, v25, T 26, v27, v28, T 29, T 30, T 31, T 32, T 33, T 34, T 35, T 36, T 37, T 38, T 39, T 40, T 41, T 42, T 43, T 44, T 45, T 46, T 47, T 48, T 49, T 50, T 51, T 52, T 53, T 54, T 55, T 56, T 57, T 58, T 59, T 60, T 61, T 62, T 63, T 64, T 65, T 66, T 67, T 68, T 69, T 70, T 71, T 72, T 73, T 74, T 75, T 76, T 77, T 78, T 79, T 80, T 81, T 82, T 83, T 84, T 85, T 86, T 87, T 88, T 89, T 90, T 91, T 92, T 93, T 94, T 95, T 96, T 97, T 98, T 99, T 100, T 101, T 102, T 103, T 104, T 105, T 106, T 107, T 108, T 109, T 110, T 111, T 112, T 113, T 114, T 115, T 116, T 117, T 118, T 119, T 120, T 121, T 122, T 123, T 124, T 125, T 126, T 127, T 128, T 129, T 130, T 131, T 132, T 133, T 134, T 135, T 136, T 137, T 138, T 139, T 140, T 141, T 142, T 143, T 144, T 145, T 146, T 147, T 148, T 149, T 150, T 151, T 152, T 153, T 154, T 155, T 156, T 157, T 158, T 159, T 160, T 161, T 162, T 163, T 164, T 165, T 166, T 167, T 168, T 169, T 170, T 171, T 172, T 173, T 174, T 175, T 176, T 177, T 178, T 179, T 180, T 181, T 182, T 183, T 184, T 185, T 186, T 187, T 188, T 189, T 190, T 191, T 192, T 193, T 194, T 195, T 196, T 197, T 198, T 199, T 200, T 201, T 202, T 203, T 204, T 205, T 206, T 207, T 208, T 209, T 210, T 211, T 212, T 213, T 214, T 215, T 216, T 217, T 218, T 219, T 220, T 221, T 222, T 223, T 224, T 225, T 226, T 227, T 228, T 229, T 230, T 231, T 232, T 233, T 234, T 235, T 236, T 237, T 238, T 239, T 240, T 241, T 242, T 243, T 244, T 245, T 246, T 247, T 248, T 249, T 250, T 251, T 252, T 253, T 254, T 255, T 256, T 257, T 258, T 259, T 260, T 261, T 262, T 263, T 264, T 265, T 266, T 267, T 268, T 269, T 270, T 271, T 272, T 273, T 274, T 275, T 276, T 277, T 278, T 279, T 280, T 281, T 282, T 283, T 284, T 285, T 286, T 287, T 288, T 289, T 290, T 291, T 292, T 293, T 294, T 295, T 296, T 297, T 298, T 299, T 300, T 301, T 302, T 303, T 304, T 305, T 306, T 307, T 308, T 309, T 310, T 311, T 312, T 313, T 314, T 315, T 316, T 317, T 318, T 319, T 320, T 321, T 322, T 323, T 324, T 325, T 326, T 327, T 328, T 329, T 330, T 331, T 332, T 333, T 334, T 335, T 336, T 337, T 338, T 339, T 340, T 341, T 342, T 343, T 344, T 345, T 346, T 347, T 348, T 349, T 350, T 351, T 352, T 353, T 354, T 355, T 356, T 357, T 358, T 359, T 360, T 361, T 362, T 363, T 364, T 365, T 366, T 367, T 368, T 369, T 370, T 371, T 372, T 373, T 374, T 375, T 376, T 377, T 378, T 379, T 380, T 381, T 382, T 383, T 384, T 385, T 386, T 387, T 388, T 389, T 390, T 391, T 392, T 393, T 394, T 395, T 396, T 397, T 398, T 399, T 400, T 401, T 402, T 403, T 404, T 405, T 406, T 407, T 408, T 409, T 410, T 411, T 412, T 413, T 414, T 415, T 416, T 417, T 418, T 419, T 420, T 421, T 422, T 423, T 424, T 425, T 426, T 427, T 428, T 429, T 430, T 431, T 432, T 433, T 434, T 435, T 436, T 437, T 438, T 439, T 440, T 441, T 442, T 443, T 444, T 445, T 446, T 447, T 448, T 449, T 450, T 451, T 452, T 453, T 454, T 455, T 456, T 457, T 458, T 459, T 460, T 461, T 462, T 463, T 464, T 465, T 466, T 467, T 468, T 469, T 470, T 471, T 472, T 473, T 474, T 475, T 476, T 477, T 478, T 479, T 480, T 481, T 482, T 483, T 484, T 485, T 486, T 487, T 488, T 489, T 490, T 491, T 492, T 493, T 494, T 495, T 496, T 497, T 498, T 499, T 500, T 501, T 502, T 503, T 504, T 505, T 506, T 507, T 508, T 509, T 510, T 511, T 512]
set_option maxRecDepth 100000 in
theorem arrM_e (f : Nat → Value) : arrM f (f 0) (f 1) (f 5) (f 6) (f 7) (f 8) (f 10) (f 12) (f 13) (f 14) (f 16) (f 17) (f 19) (f 21) (f 23) (f 25) (f 27) (f 28) = (Array.range 513).map f := by kernel_rfl
theorem arrM_mk {X : Array Value} {v0 v1 v5 v6 v7 v8 v10 v12 v13 v14 v16 v17 v19 v21 v23 v25 v27 v28 : Value} (h : X.size = 513) (h0 : X.getD 0 undef = v0) (h1 : X.getD 1 undef = v1) (h5 : X.getD 5 undef = v5) (h6 : X.getD 6 undef = v6) (h7 : X.getD 7 undef = v7) (h8 : X.getD 8 undef = v8) (h10 : X.getD 10 undef = v10) (h12 : X.getD 12 undef = v12) (h13 : X.getD 13 undef = v13) (h14 : X.getD 14 undef = v14) (h16 : X.getD 16 undef = v16) (h17 : X.getD 17 undef = v17) (h19 : X.getD 19 undef = v19) (h21 : X.getD 21 undef = v21) (h23 : X.getD 23 undef = v23) (h25 : X.getD 25 undef = v25) (h27 : X.getD 27 undef = v27) (h28 : X.getD 28 undef = v28) : ∃ T, X = arrM T v0 v1 v5 v6 v7 v8 v10 v12 v13 v14 v16 v17 v19 v21 v23 v25 v27 v28 := by
  subst h0; subst h1; subst h5; subst h6; subst h7; subst h8; subst h10; subst h12; subst h13; subst h14; subst h16; subst h17; subst h19; subst h21; subst h23; subst h25; subst h27; subst h28
  exact ⟨fun i => X.getD i undef, (arr_range X h).trans (arrM_e fun i => X.getD i undef).symm⟩
end Go.Proofs.Ytmmolicodlmlkaa.Ph
namespace Go.Proofs.Ytmmolicodlmlkaa.Ph
open Go.Conc Go.ConcN Go.RowKit
open Go.Proofs.Ytmmolicodlmlkaa.Rel
set_option linter.unusedVariables false
set_option linter.unusedSimpArgs false

abbrev arrH0 (T : Nat → Value) (v0 v1 v5 v6 v7 : Value) : Array Value := #[v0, v1, T 2, T 3, T 4, v5, v6, v7, T 8, T 9, T 10, T 11, T 12, T 13, T 14, T 15, T 16, T 17, T 18, T 19, T 20, T 21, T 22, T 23, T 24, T 25, T 26, T 27, T 28, T 29, T 30, T 31, T 32, T 33, T 34, T 35, T 36, T 37, T 38, T 39, T 40, T 41, T 42, T 43, T 44, T 45, T 46, T 47, T 48, T 49, T 50, T 51, T 52, T 53, T 54, T 55, T 56, T 57, T 58, T 59, T 60, T 61, T 62, T 63, T 64, T 65, T 66, T 67, T 68, T 69, T 70, T 71, T 72, T 73, T 74, T 75, T 76, T 77, T 78, T 79, T 80, T 81, T 82, T 83, T 84, T 85, T 86, T 87, T 88, T 89, T 90, T 91, T 92, T 93, T 94, T 95, T 96, T 97, T 98, T 99, T 100, T 101, T 102, T 103, T 104, T 105, T 106, T 107, T 108, T 109, T 110, T 111, T 112, T 113, T 114, T 115, T 116, T 117, T 118, T 119, T 120, T 121, T 122, T 123, T 124, T 125, T 126, T 127, T 128, T 129, T 130, T 131, T 132, T 133, T 134, T 135, T 136, T 137, T 138, T 139, T 140, T 141, T 142, T 143, T 144, T 145, T 146, T 147, T 148, T 149, T 150, T 151, T 152, T 153, T 154, T 155, T 156, T 157, T 158, T 159, T 160, T 161, T 162, T 163, T 164, T 165, T 166, T 167, T 168, T 169, T 170, T 171, T 172, T 173, T 174, T 175, T 176, T 177, T 178, T 179, T 180, T 181, T 182, T 183, T 184, T 185, T 186, T 187, T 188, T 189, T 190, T 191, T 192, T 193, T 194, T 195, T 196, T 197, T 198, T 199, T 200, T 201, T 202, T 203, T 204, T 205, T 206, T 207, T 208, T 209, T 210, T 211, T 212, T 213, T 214, T 215, T 216, T 217, T 218, T 219, T 220, T 221, T 222, T 223, T 224, T 225, T 226, T 227, T 228, T 229, T 230, T 231, T 232, T 233, T 234, T 235, T 236, T 237, T 238, T 239, T 240, T 241, T 242, T 243, T 244, T 245, T 246, T 247, T 248, T 249, T 250, T 251, T 252, T 253, T 254, T 255, T 256, T 257, T 258, T 259, T 260, T 261, T 262, T 263, T 264, T 265, T 266, T 267, T 268, T 269, T 270, T 271, T 272, T 273, T 274, T 275, T 276, T 277, T 278, T 279, T 280, T 281, T 282, T 283, T 284, T 285, T 286, T 287, T 288, T 289, T 290, T 291, T 292, T 293, T 294, T 295, T 296, T 297, T 298, T 299, T 300, T 301, T 302, T 303, T 304, T 305, T 306, T 307, T 308, T 309, T 310, T 311, T 312, T 313, T 314, T 315, T 316, T 317, T 318, T 319, T 320, T 321, T 322, T 323, T 324, T 325, T 326, T 327, T 328, T 329, T 330, T 331, T 332, T 333, T 334, T 335, T 336, T 337, T 338, T 339, T 340, T 341, T 342, T 343, T 344, T 345, T 346, T 347, T 348, T 349, T 350, T 351, T 352, T 353, T 354, T 355, T 356, T 357, T 358, T 359, T 360, T 361, T 362, T 363, T 364, T 365, T 366, T 367, T 368, T 369, T 370, T 371, T 372, T 373, T 374, T 375, T 376, T 377, T 378, T 379, T 380, T 381, T 382, T 383, T 384, T 385, T 386, T 387, T 388, T 389, T 390, T 391, T 392, T 393, T 394, T 395, T 396, T 397, T 398, T 399, T 400, T 401, T 402, T 403, T 404, T 405, T 406, T 407, T 408, T 409, T 410, T 411, T 412, T 413, T 414, T 415, T 416, T 417, T 418, T 419, T 420, T 421, T 422, T 423, T 424, T 425, T 426, T 427, T 428, T 429, T 430, T 431, T 432, T 433, T 434, T 435, T 436, T 437, T 438, T 439, T 440, T 441, T 442, T 443, T 444, T 445, T 446, T 447, T 448, T 449, T 450, T 451, T 452, T 453, T 454, T 455, T 456, T 457, T 458, T 459, T 460, T 461, T 462, T 463, T 464, T 465, T 466, T 467, T 468, T 469, T 470, T 471, T 472, T 473, T 474, T 475, T 476, T 477, T 478, T 479, T 480, T 481, T 482, T 483, T 484, T 485, T 486, T 487, T 488, T 489, T 490, T 491, T 492, T 493, T 494, T 495, T 496, T 497, T 498, T 499, T 500, T 501, T 502, T 503, T 504, T 505, T 506, T 507, T 508, T 509, T 510, T 511, T 512]
abbrev actH (A : Option Addr) (n c : Nat) (A' : Option Addr) (n' c' : Nat) : Act := ⟨arrH0 (fun _ => undef) (.slice A n c) (.slice A' n' c') undef undef undef, []⟩
set_option maxRecDepth 100000 in
theorem hl_enter (A : Option Addr) (n c : Nat) (A' : Option Addr) (n' c' : Nat) : Frame.enter Try.prog 10 #[.slice A n c, .slice A' n' c'] .normal = (base 10).at (actH A n c A' n' c') [.code hbody] := by
  rw [enter_at _ Try.func10 hbody_is]
  kernel_rfl
/-- What stands ahead of the program's HashRows. -/
def HPre (B : Nat) (v0 v1 : Value) (a' : Act) (w' : World) : Prop :=
  a'.defers = [] ∧ ∃ (n : Nat) (ks sl : List Int) (Ak : Option Addr) (ck : Nat) (As : Option Addr) (cs : Nat), a'.tmps = arrH0 (fun i => a'.tmps.getD i undef) v0 v1 (.int .i64 (n : Nat)) (.slice Ak ks.length ck) (.slice As sl.length cs) ∧
    FhOk ks sl n 1 ∧ OwnV w' B (.slice Ak ks.length ck) ks ∧ OwnV w' B (.slice As sl.length cs) sl
set_option maxRecDepth 100000 in
set_option maxHeartbeats 16000000 in
theorem fh_reach (A : Option Addr) (c : Nat) (x : List Int) (A' : Option Addr) (c' : Nat) (y : List Int) (w : World) (hx : RdL (Value.int .u8) w A x) (hbx : Byt x) (hy : RdL (Value.int .u8) w A' y) (hby : Byt y) (hn : x.length ≤ 48) (hn' : y.length ≤ 48) :
    Rel.Reach Try.prog 5 hbody (HPre w.heap.size (.slice A x.length c) (.slice A' y.length c')) (actH A x.length c A' y.length c') w := by
  have HX := hid hx
  have HY := hid hy
  have BX := hid hbx
  have BY := hid hby
  have hd : decide (48 < x.length ∨ 48 < y.length) = false := decide_eq_false (by omega)
  have C0 : Hid (∀ w, Calls Try.prog 50 #[.slice A x.length c, .slice A' y.length c'] w fun e w' => e = .returned (.bool false) ∧ w = w') := fun w => hd ▸ r8Long_any A A' x.length y.length c c' w
  have CA : Hid (∀ (i n : Int) w', RdL (Value.int .u8) w' A' y → 0 ≤ i → i ≤ 1000 → 1 < n → n ≤ 256 → Calls Try.prog 51 #[.slice A' y.length c', .int .i64 i, .int .i64 n] w' fun e w'' => (∃ r, e = .returned (.int .i64 r) ∧ 0 ≤ r ∧ r < n) ∧ w' = w'') := fun i n w' h1 h2 h3 h4 h5 => r8At_any A' c' y i n w' h1 BY.out (by omega) h2 h3 h4 h5
  clear hx hy hbx hby hd
  simp only [hbody, Try.f10]
  refine reach_seq ?_
  go_wp2
  refine reach_seq ?_
  go_wp2_with (go_at_call 50; refine (C0.out _).mono ?_; rintro e w' ⟨rfl, rfl⟩)
  clear C0
  refine reach_seq ?_
  go_wp2_with fail
  refine (CA.out 40 20 w HY.out (by decide) (by decide) (by decide) (by decide)).mono ?_
  rintro e w' ⟨⟨r0, rfl, h00, h01⟩, rfl⟩
  obtain ⟨n, hne⟩ : ∃ n : Nat, (1 : Int) + r0 = n := ⟨(1 + r0).toNat, by omega⟩
  have q2 : IntKind.i64.wrap (1 + r0) = (n : Int) := by rw [IntKind.wrap_i64]; omega
  have nb : 1 ≤ n ∧ n ≤ 20 := by omega
  clear hne h00 h01
  go_wp2
  clear q2
  refine reach_seq ?_
  go_wp2_with fail
  refine (r8Keys_any A c x (n : Int) w HX.out BX.out (by omega) (by omega) (by omega)).mono ?_
  rintro e w1 ⟨v, ks, rfl, hOK, hKl, hKb, hb⟩
  obtain ⟨Ak, ck, rfl, -⟩ := hOK.ownS
  have K1 := hid hOK
  have S1 := hid hb
  have KB := hid hKb
  have KL : Hid (ks.length = n) := by show _ = _; omega
  have Y1 := hid (HY.out.below hb)
  clear hb hKb hOK hKl HX
  go_wp2
  refine reach_seq ?_
  go_wp2_with fail
  refine (CA.out 41 6 w1 Y1.out (by decide) (by decide) (by decide) (by decide)).mono ?_
  rintro e w' ⟨⟨r1, rfl, h00, h01⟩, rfl⟩
  obtain ⟨m, hme⟩ : ∃ m : Nat, (1 : Int) + r1 = m := ⟨(1 + r1).toNat, by omega⟩
  have q2 : IntKind.i64.wrap (1 + r1) = (m : Int) := by rw [IntKind.wrap_i64]; omega
  have mb : 1 ≤ m ∧ m ≤ 6 := by omega
  clear hme h00 h01
  go_wp2_with fail
  refine (r8Keys_any A' c' y (m : Int) w1 Y1.out BY.out (by omega) (by omega) (by omega)).mono ?_
  rintro e w2 ⟨v, sl, rfl, hOK, hKl, hKb, hb⟩
  obtain ⟨As, cs, rfl, -⟩ := hOK.ownS
  have S2 := hid (hOK.mono S1.out.size)
  have K2 := hid (K1.out.below hb)
  have SB := hid hKb
  have SL : Hid (sl.length = m) := by show _ = _; omega
  clear hb hKb hOK hKl q2
  go_wp2
  refine reach_here ?_
  exact ⟨rfl, n, ks, sl, Ak, ck, As, cs, by kernel_rfl, ⟨KL.out, nb.1, nb.2, by rw [SL.out]; exact mb.1, by rw [SL.out]; exact mb.2, by omega, by omega, KB.out, SB.out⟩, K2.out, S2.out⟩
end Go.Proofs.Ytmmolicodlmlkaa.Ph
namespace Go.Proofs.Ytmmolicodlmlkaa.Ph
open Go.Conc Go.ConcN Go.RowKit Go.Conc.Lib Go.ConcR.Gen Go.ConcN.Gen
open Go.ConcR (KK wgBlock WgAt stA smA rd wr mk DC0 Payload)
open Go.Proofs.Ytmmolicodlmlkaa.Rel
set_option linter.unusedVariables false
set_option linter.unusedSimpArgs false

noncomputable def ih1 : Array Oper := match Try.f19.body with | some (.seq _ (.seq (.region _ ops _) _)) => ops | _ => #[]
section
variable {W₀ : World} {l : List Fc} {F S : Nat → Prop} {own : List ((Nat → Prop) × Fc)} {Shun : Loc → Prop} {w : World} {m : Machine} {t : Trace} {A A2 : Option Addr} {c c2 : Nat} {x sl : List Int} {cs : List Frame} {b₀ : Frame} {a₀ : Act} {ops₀ : Array Oper} {i₀ : Nat} {rest₀ : List Nat} {k₀ : List Item}
set_option maxRecDepth 100000 in
set_option maxHeartbeats 4000000 in
theorem ih_gl (hF0 : LH W₀ l F own S w) :
    GL Try.prog (fun t g w' => g = G (Frame.enter Try.prog 24 #[.slice A x.length c, .slice A2 sl.length c2, .int .i64 1] .normal) ((base 19).at ⟨#[.slice A x.length c, .slice A2 sl.length c2, undef, undef, .slice none 0 0, .bool false, .slice A x.length c, .slice A2 sl.length c2, undef, undef, undef], []⟩ [.inRegion ih1 [2, 3, 4, 5, 6], .code .ret] :: b₀.at a₀ (.inRegion ops₀ (i₀ :: rest₀) :: k₀) :: cs) ∧ LH W₀ l F own t w') S
      (G (Frame.enter Try.prog 19 #[.slice A x.length c, .slice A2 sl.length c2] .normal) (b₀.at a₀ (.inRegion ops₀ (i₀ :: rest₀) :: k₀) :: cs)) w := by
  have hF := hF0
  have rl : ∀ {l : List Fc} {F : Nat → Prop} {own : List ((Nat → Prop) × Fc)} {S : Nat → Prop} {a b : World}, LH W₀ l F own S a → RS No S a b → LH W₀ l F own S b := fun h r => h.rely r
  rw [enter_at _ Try.func19 rfl]
  refine gl_go (n := 40) ?_
  walk_nrmf Try.f19
  (u_in rl hF; rw [stepG_seq]; simp only [goes_go]; refine ⟨by (refine de1_none ?_; intro e he; simp at he), ?_⟩)
  (u_in rl hF; rw [stepG_region]; simp only [goes_go, List.size_toArray, List.length_cons, List.length_nil, Nat.reduceAdd, Nat.zero_add, List.range, List.range.loop]; refine ⟨by (refine de1_none ?_; intro e he; simp at he), ?_⟩)
  u_in rl hF
  refine goes_oper_k rfl rfl (by k_ne) (fun K hK => ?_)
  go_simp
  refine hK _ _ ⟨?_, ?_⟩
  · refine de1_none ?_
    intro e he
    have hm := mem_listed he
    simp [go_sem, *] at hm
  clear hK K
  try w_num
  u_in rl hF
  refine goes_oper_k rfl rfl (by k_ne) (fun K hK => ?_)
  go_simp
  refine hK _ _ ⟨?_, ?_⟩
  · refine de1_none ?_
    intro e he
    have hm := mem_listed he
    simp [go_sem, *] at hm
  clear hK K
  try w_num
  (u_in rl hF; rw [stepG_region_end]; simp only [goes_go]; refine ⟨by (refine de1_none ?_; intro e he; simp at he), ?_⟩)
  (u_in rl hF; rw [stepG_seq]; simp only [goes_go]; refine ⟨by (refine de1_none ?_; intro e he; simp at he), ?_⟩)
  (u_in rl hF; rw [stepG_region]; simp only [goes_go, List.size_toArray, List.length_cons, List.length_nil, Nat.reduceAdd, Nat.zero_add, List.range, List.range.loop]; refine ⟨by (refine de1_none ?_; intro e he; simp at he), ?_⟩)
  u_in rl hF
  refine goes_oper_k rfl rfl (by k_ne) (fun K hK => ?_)
  go_simp
  refine hK _ _ ⟨?_, ?_⟩
  · refine de1_none ?_
    intro e he
    have hm := mem_listed he
    simp [go_sem, *] at hm
  clear hK K
  try w_num
  u_in rl hF
  refine goes_oper_k rfl rfl (by k_ne) (fun K hK => ?_)
  go_simp
  refine hK _ _ ⟨?_, ?_⟩
  · refine de1_none ?_
    intro e he
    have hm := mem_listed he
    simp [go_sem, *] at hm
  clear hK K
  try w_num
  u_in rl hF
  refine goes_call rfl rfl (by k_ne) rfl Try.func24 nm_iRows rfl ⟨by (refine de1_none ?_; intro e he; simp at he), ?_⟩
  rw [← enter_at _ Try.func24 rfl]
  refine Goes.stop fun w₁ h₁ => Go1.stop fun w₂ h₂ => ?_
  exact ⟨by kernel_rfl, rl (rl hF h₁) h₂⟩
set_option maxRecDepth 100000 in
set_option maxHeartbeats 4000000 in
theorem ih_last {Ag : Option Addr} {n cg : Nat} {g1 : Bool} {v0 v1 v2 v3 v4 v5 v6 v7 v8 v9 v10 : Value} (hF0 : LH W₀ l F own S w) :
    GL Try.prog (fun t g w' => g = G (b₀.at (a₀.put ((ops₀[i₀]?).bind (·.dst)) (.tuple #[.slice Ag n cg, .bool g1])) (.inRegion ops₀ rest₀ :: k₀)) cs ∧ LH W₀ l F own t w') S
      (G ((base 19).at (Act.put ⟨#[v0, v1, v2, v3, v4, v5, v6, v7, v8, v9, v10], []⟩ ((ih1[2]?).bind (·.dst)) (.tuple #[.slice Ag n cg, .bool g1])) [.inRegion ih1 [3, 4, 5, 6], .code .ret]) (b₀.at a₀ (.inRegion ops₀ (i₀ :: rest₀) :: k₀) :: cs)) w := by
  have hF := hF0
  have rl : ∀ {l : List Fc} {F : Nat → Prop} {own : List ((Nat → Prop) × Fc)} {S : Nat → Prop} {a b : World}, LH W₀ l F own S a → RS No S a b → LH W₀ l F own S b := fun h r => h.rely r
  refine gl_go (n := 40) ?_
  simp only [ih1, Try.f19]
  walk_nrm
  u_in rl hF
  refine goes_oper_k rfl rfl (by k_ne) (fun K hK => ?_)
  go_simp
  refine hK _ _ ⟨?_, ?_⟩
  · refine de1_none ?_
    intro e he
    have hm := mem_listed he
    simp [go_sem, *] at hm
  clear hK K
  try w_num
  u_in rl hF
  refine goes_oper_k rfl rfl (by k_ne) (fun K hK => ?_)
  go_simp
  refine hK _ _ ⟨?_, ?_⟩
  · refine de1_none ?_
    intro e he
    have hm := mem_listed he
    simp [go_sem, *] at hm
  clear hK K
  try w_num
  u_in rl hF
  refine goes_oper_k rfl rfl (by k_ne) (fun K hK => ?_)
  go_simp
  refine hK _ _ ⟨?_, ?_⟩
  · refine de1_none ?_
    intro e he
    have hm := mem_listed he
    simp [go_sem, *] at hm
  clear hK K
  try w_num
  u_in rl hF
  refine goes_oper_k rfl rfl (by k_ne) (fun K hK => ?_)
  go_simp
  refine hK _ _ ⟨?_, ?_⟩
  · refine de1_none ?_
    intro e he
    have hm := mem_listed he
    simp [go_sem, *] at hm
  clear hK K
  try w_num
  (u_in rl hF; rw [stepG_region_end]; simp only [goes_go]; refine ⟨by (refine de1_none ?_; intro e he; simp at he), ?_⟩)
  (u_in rl hF; rw [stepG_ret']; simp only [goes_go]; refine ⟨by (refine de1_none ?_; intro e he; simp at he), ?_⟩)
  u_in rl hF
  refine goes_leave2 rfl rfl Try.func19 rfl ⟨by (refine de1_none ?_; intro e he; simp at he), ?_⟩
  refine Goes.stop fun w₁ h₁ => Go1.stop fun w₂ h₂ => ⟨by kernel_rfl, rl (rl hF h₁) h₂⟩
/-- ████ impl.HashRows, CALLED BY A LAW. ████ -/
theorem hash_at (h : At Try.prog Shun (G (Frame.enter Try.prog 19 #[.slice A x.length c, .slice A2 sl.length c2] .normal) (b₀.at a₀ (.inRegion ops₀ (i₀ :: rest₀) :: k₀) :: cs)) w m t) (hH : LH W₀ l F own S w) (hS : ∀ y, S y → FreeB Shun w y)
    (hf : ∀ {S w}, LH W₀ l F own S w → RdL (Value.int .i64) w A x ∧ RdL (Value.int .i64) w A2 sl ∧ ArgP S w A ∧ ArgP S w A2) (hxn : x.length ≤ 1048576) (hsn : sl.length ≤ 1048576) :
    ∃ K m' t' w' Shun' A' c' G', runNT Try.prog K m t = (.next m', t') ∧ At Try.prog Shun' (G (b₀.at (a₀.put ((ops₀[i₀]?).bind (·.dst)) (.tuple #[.slice A' (resOf (gateRS x sl 1) x sl).length c', .bool (gateRS x sl 1)])) (.inRegion ops₀ rest₀ :: k₀)) cs) w' m' t' ∧
      LH W₀ l F ((G', .sso A' (resOf (gateRS x sl 1) x sl)) :: own) (FreeB Shun' w') w' := by
  have hH0 := hH.wide hS fun y hy => hy.1
  obtain ⟨K1, m1, t1, g1, w1, S1, r1, hAt1, ⟨rfl, hH1⟩, hf1, _⟩ := h.walk (fun S g w d ⟨e, hF⟩ => ⟨e, hF.at⟩) (ih_gl hH0)
  obtain ⟨q1, q2, q3, q4⟩ := hf hH1
  obtain ⟨K2, m2, t2, w2, Shun2, A', c', G', r2, hAt2, hH2⟩ := rows_at hAt1 hH1 hf1 q1 q2 hxn hsn q3 q4
  obtain ⟨K3, m3, t3, g3, w3, S3, r3, hAt3, ⟨rfl, hH3⟩, hf3, _⟩ := hAt2.walk (fun S g w d ⟨e, hF⟩ => ⟨e, hF.at⟩) (ih_last hH2)
  exact ⟨_, m3, t3, w3, Shun2, A', c', G', run_trans r1 (run_trans r2 r3), hAt3, hH3.wide hf3 fun y hy => hy.1⟩
end
end Go.Proofs.Ytmmolicodlmlkaa.Ph
namespace Go.Proofs.Ytmmolicodlmlkaa.Ph
open Go.Conc Go.ConcN Go.RowKit Go.Conc.Lib Go.ConcR.Gen Go.ConcN.Gen
open Go.ConcR (KK wgBlock WgAt stA smA rd wr mk DC0 Payload)
open Go.Proofs.Ytmmolicodlmlkaa.Rel
set_option linter.unusedVariables false
set_option linter.unusedSimpArgs false

theorem nmf_r8At : (Try.f51.name == "runtime.NumGoroutine") = false := by kernel_rfl
theorem nmf_iHash : (Try.f19.name == "runtime.NumGoroutine") = false := by kernel_rfl
def rtFs : FuncId → Bool := fun f => [51].contains f
theorem rtFs_0 : fnOk Try.prog rtFs Try.f51 = true := by kernel_rfl
theorem rtFs_ok : ∀ f, rtFs f = true → ∃ fn, Try.prog.funcs[f]? = some fn ∧ fnOk Try.prog rtFs fn = true := by
  intro f hf
  simp [rtFs] at hf
  subst hf
  · exact ⟨_, Try.func51, rtFs_0⟩
def hrFs : FuncId → Bool := fun f => [50, 51, 52, 95, 96, 108, 130].contains f
theorem hrFs_0 : fnOk Try.prog hrFs Try.f50 = true := by kernel_rfl
theorem hrFs_1 : fnOk Try.prog hrFs Try.f51 = true := by kernel_rfl
theorem hrFs_2 : fnOk Try.prog hrFs Try.f52 = true := by kernel_rfl
theorem hrFs_3 : fnOk Try.prog hrFs Try.f95 = true := by kernel_rfl
theorem hrFs_4 : fnOk Try.prog hrFs Try.f96 = true := by kernel_rfl
theorem hrFs_5 : fnOk Try.prog hrFs Try.f108 = true := by kernel_rfl
theorem hrFs_6 : fnOk Try.prog hrFs Try.f130 = true := by kernel_rfl
theorem hrFs_ok : ∀ f, hrFs f = true → ∃ fn, Try.prog.funcs[f]? = some fn ∧ fnOk Try.prog hrFs fn = true := by
  intro f hf
  simp [hrFs] at hf
  rcases hf with rfl | rfl | rfl | rfl | rfl | rfl | rfl
  · exact ⟨_, Try.func50, hrFs_0⟩
  · exact ⟨_, Try.func51, hrFs_1⟩
  · exact ⟨_, Try.func52, hrFs_2⟩
  · exact ⟨_, Try.func95, hrFs_3⟩
  · exact ⟨_, Try.func96, hrFs_4⟩
  · exact ⟨_, Try.func108, hrFs_5⟩
  · exact ⟨_, Try.func130, hrFs_6⟩
theorem hl_spine : spineOk Try.prog ⟨hrFs, fun _ => false, fun _ => false, fun _ => false⟩ 5 hbody = true := by kernel_rfl
theorem hl_results : Try.f10.results.all resOk = true := by kernel_rfl
abbrev arrH2 (T : Nat → Value) (v0 v1 v5 v6 v7 v8 v9 : Value) : Array Value := #[v0, v1, T 2, T 3, T 4, v5, v6, v7, v8, v9, T 10, T 11, T 12, T 13, T 14, T 15, T 16, T 17, T 18, T 19, T 20, T 21, T 22, T 23, T 24, T 25, T 26, T 27, T 28, T 29, T 30, T 31, T 32, T 33, T 34, T 35, T 36, T 37, T 38, T 39, T 40, T 41, T 42, T 43, T 44, T 45, T 46, T 47, T 48, T 49, T 50, T 51, T 52, T 53, T 54, T 55, T 56, T 57, T 58, T 59, T 60, T 61, T 62, T 63, T 64, T 65, T 66, T 67, T 68, T 69, T 70, T 71, T 72, T 73, T 74, T 75, T 76, T 77, T 78, T 79, T 80, T 81, T 82, T 83, T 84, T 85, T 86, T 87, T 88, T 89, T 90, T 91, T 92, T 93, T 94, T 95, T 96, T 97, T 98, T 99, T 100, T 101, T 102, T 103, T 104, T 105, T 106, T 107, T 108, T 109, T 110, T 111, T 112, T 113, T 114, T 115, T 116, T 117, T 118, T 119, T 120, T 121, T 122, T 123, T 124, T 125, T 126, T 127, T 128, T 129, T 130, T 131, T 132, T 133, T 134, T 135, T 136, T 137, T 138, T 139, T 140, T 141, T 142, T 143, T 144, T 145, T 146, T 147, T 148, T 149, T 150, T 151, T 152, T 153, T 154, T 155, T 156, T 157, T 158, T 159, T 160, T 161, T 162, T 163, T 164, T 165, T 166, T 167, T 168, T 169, T 170, T 171, T 172, T 173, T 174, T 175, T 176, T 177, T 178, T 179, T 180, T 181, T 182, T 183, T 184, T 185, T 186, T 187, T 188, T 189, T 190, T 191, T 192, T 193, T 194, T 195, T 196, T 197, T 198, T 199, T 200, T 201, T 202, T 203, T 204, T 205, T 206, T 207, T 208, T 209, T 210, T 211, T 212, T 213, T 214, T 215, T 216, T 217, T 218, T 219, T 220, T 221, T 222, T 223, T 224, T 225, T 226, T 227, T 228, T 229, T 230, T 231, T 232, T 233, T 234, T 235, T 236, T 237, T 238, T 239, T 240, T 241, T 242, T 243, T 244, T 245, T 246, T 247, T 248, T 249, T 250, T 251, T 252, T 253, T 254, T 255, T 256, T 257, T 258, T 259, T 260, T 261, T 262, T 263, T 264, T 265, T 266, T 267, T 268, T 269, T 270, T 271, T 272, T 273, T 274, T 275, T 276, T 277, T 278, T 279, T 280, T 281, T 282, T 283, T 284, T 285, T 286, T 287, T 288, T 289, T 290, T 291, T 292, T 293, T 294, T 295, T 296, T 297, T 298, T 299, T 300, T 301, T 302, T 303, T 304, T 305, T 306, T 307, T 308, T 309, T 310, T 311, T 312, T 313, T 314, T 315, T 316, T 317, T 318, T 319, T 320, T 321, T 322, T 323, T 324, T 325, T 326, T 327, T 328, T 329, T 330, T 331, T 332, T 333, T 334, T 335, T 336, T 337, T 338, T 339, T 340, T 341, T 342, T 343, T 344, T 345, T 346, T 347, T 348, T 349, T 350, T 351, T 352, T 353, T 354, T 355, T 356, T 357, T 358, T 359, T 360, T 361, T 362, T 363, T 364, T 365, T 366, T 367, T 368, T 369, T 370, T 371, T 372, T 373, T 374, T 375, T 376, T 377, T 378, T 379, T 380, T 381, T 382, T 383, T 384, T 385, T 386, T 387, T 388, T 389, T 390, T 391, T 392, T 393, T 394, T 395, T 396, T 397, T 398, T 399, T 400, T 401, T 402, T 403, T 404, T 405, T 406, T 407, T 408, T 409, T 410, T 411, T 412, T 413, T 414, T 415, T 416, T 417, T 418, T 419, T 420, T 421, T 422, T 423, T 424, T 425, T 426, T 427, T 428, T 429, T 430, T 431, T 432, T 433, T 434, T 435, T 436, T 437, T 438, T 439, T 440, T 441, T 442, T 443, T 444, T 445, T 446, T 447, T 448, T 449, T 450, T 451, T 452, T 453, T 454, T 455, T 456, T 457, T 458, T 459, T 460, T 461, T 462, T 463, T 464, T 465, T 466, T 467, T 468, T 469, T 470, T 471, T 472, T 473, T 474, T 475, T 476, T 477, T 478, T 479, T 480, T 481, T 482, T 483, T 484, T 485, T 486, T 487, T 488, T 489, T 490, T 491, T 492, T 493, T 494, T 495, T 496, T 497, T 498, T 499, T 500, T 501, T 502, T 503, T 504, T 505, T 506, T 507, T 508, T 509, T 510, T 511, T 512]
section
variable {W₀ : World} {l fs : List Fc} {F S N s : Nat → Prop} {own : List ((Nat → Prop) × Fc)} {w wl w' : World} {fset : FuncId → Bool} {ρ : Rn} {cs : List Frame} {b₀ : Frame} {a₀ : Act} {ops₀ : Array Oper} {i₀ : Nat} {rest₀ : List Nat} {k₀ : List Item} {A A' : Option Addr} {c c' : Nat} {x y : List Int}
/-- Many new facts that are read. -/
theorem lh_many (h : LH W₀ l F own S w) (hf : ∀ f ∈ fs, f.holds N w) (hS : ∀ y, N y → S y) (hd : ∀ q ∈ own, ∀ y, q.1 y → ¬ N y) : LH W₀ (fs ++ l) (fun y => F y ∨ N y) own S w :=
  ⟨h.tw, fun y hy => ⟨.inl (h.old y hy).1, (h.old y hy).2⟩, h.low, h.glob, fun x hx => by
    rcases List.mem_append.1 hx with hx | hx
    · exact fc_stay (hf x hx) fun y hy => ⟨.inr hy, rfl⟩
    · exact fc_stay (h.fc x hx) fun y hy => ⟨.inl hy, rfl⟩, fun y hy => hy.elim (h.sub y) (hS y), fun p hp => ⟨(h.ow p hp).1, (h.ow p hp).2.1, fun y hy hp' => hy.elim (fun hy => (h.ow p hp).2.2 y hy hp') fun hy => hd p hp y hp' hy⟩, h.dis⟩
theorem own_vK {n c : Nat} (hL : Rel.Left Try.prog (fnsQ fset w S No) w (fun b => S b ∧ ¬ No b) No ρ wl s w') (ho : OwnV wl w.heap.size (.slice A n c) x) : (Fc.arg (A.map (renS ρ)) x).holds (fun y => w.heap.size ≤ y ∧ s y) w' := by
  have ho0 := ho
  obtain ⟨hn, ⟨h, h0⟩ | ⟨g, cap, cur, hv, hB, hg, hc, hm, hs, ht⟩⟩ := ho
  · injection h with h1 _ _
    subst h1
    have : x = [] := List.eq_nil_of_length_eq_zero h0
    subst this
    exact ⟨fun i hi => by simp at hi, fun a ha => (by simp at ha)⟩
  · injection hv with h1 _ _
    subst h1
    obtain ⟨A2, c2, e2, hos⟩ := ho0.ownS
    injection e2 with e2 _ _
    subst e2
    have hlt : g < wl.heap.size := (Array.getElem?_eq_some_iff.1 hg).1
    have p1 := (left_blk hL (fnsQ_new hB).1 hg).1
    have m1 := left_new hL hB hlt
    have h1 := (hL.own (fun b hb => (fnsQ_new hb).1) (fun y => by simp) hos).1
    refine ⟨h1.rd, fun a ha => ?_⟩
    simp at ha
    subst ha
    exact ⟨⟨m1.2, m1.1⟩, by simp only; rw [p1]; rfl, rfl⟩
theorem u8_stay {v : World} (h : RdL (Value.int .u8) w A x) (hs : ∀ a, A = some a → v.heap[a.block]? = w.heap[a.block]?) : RdL (Value.int .u8) v A x := by
  intro j hj
  obtain ⟨b, o, hA, hc⟩ := h j hj
  exact ⟨b, o, hA, (cell_stay (a := ⟨b, o + j, none⟩) (show v.heap[b]? = w.heap[b]? from hs _ hA)).trans hc⟩
theorem u8_lone {fs : FuncId → Bool} (hl : ∀ y, S y → y < w.heap.size) (hx : RdL (Value.int .u8) w A x) (hA : ArgP S w A) : RdL (Value.int .u8) (loneW (fnsQ fs w S No) w) A x :=
  rdl_look hx (fun _ => by simp) fun b o _ e => ⟨rfl, fnsQ_old (hl _ (hA _ e).1) (hA _ e).1 (hA _ e).2.1, fnsQ_no (hl _ (hA _ e).1)⟩
theorem u8_old (h : LH W₀ l F own S w) (hx : RdL (Value.int .u8) W₀ A x) (hA : ArgP (fun y => y < W₀.heap.size) W₀ A) : RdL (Value.int .u8) w A x ∧ ArgP S w A :=
  ⟨u8_stay hx fun a ha => (h.old _ (hA a ha).1).2, fun a ha => ⟨h.sub _ (h.old _ (hA a ha).1).1, (hA a ha).2.stay (h.old _ (hA a ha).1).2⟩⟩
/-- r8At, beside leavers. -/
theorem r8At_gl (h : LH W₀ l F own S w) (hx : RdL (Value.int .u8) w A x) (hA : ArgP S w A) (hb : Byt x) (hn : x.length ≤ 1048576) {i n : Int} (hi0 : 0 ≤ i) (hi1 : i ≤ 1000) (hn1 : 1 < n) (hn2 : n ≤ 256) :
    GL Try.prog (fun t g w' => ∃ r, (0 ≤ r ∧ r < n) ∧ g = G (b₀.at (a₀.put ((ops₀[i₀]?).bind (·.dst)) (.int .i64 r)) (.inRegion ops₀ rest₀ :: k₀)) cs ∧ LH W₀ l F own t w') S
      (G (Frame.enter Try.prog 51 #[.slice A x.length c, .int .i64 i, .int .i64 n] .normal) (b₀.at a₀ (.inRegion ops₀ (i₀ :: rest₀) :: k₀) :: cs)) w := by
  have hg := gl_back (b₀ := b₀) (a₀ := a₀) (ops₀ := ops₀) (i₀ := i₀) (rest₀ := rest₀) (k₀ := k₀) (cs := cs) (fun b h => h.elim) (gl_call (P := Try.prog) (fs := rtFs) (v := w) (F := S) (W := No) (f := 51) (args := #[.slice A x.length c, .int .i64 i, .int .i64 n])
    (Q := fun u w' => ∃ r, u = .int .i64 r ∧ 0 ≤ r ∧ r < n) (fun b h => h.elim) h.low zero_ok h.glob rtFs_ok rfl (by
      intro z hz
      simp at hz
      rcases hz with rfl | rfl | rfl
      · exact okV_arg h.lf hA
      · simp
      · simp) fun τ => (r8At_any A c x i n { loneW (fnsQ rtFs w S No) w with tape := τ, drawn := 0 } (u8_lone h.low hx hA) hb hn hi0 hi1 hn1 hn2).mono fun e w' he => by
        obtain ⟨⟨r, rfl, h1, h2⟩, _⟩ := he
        exact ⟨r, rfl, h1, h2⟩)
  refine Go1.widen hg ?_
  rintro t g w' ⟨s, rfl, ρ, u, wl, rfl, ⟨r, rfl, h1, h2⟩, hok, hL⟩
  exact ⟨r, ⟨h1, h2⟩, by simp, h.lk (lk_left h.low hL)⟩
set_option maxRecDepth 100000 in
set_option maxHeartbeats 8000000 in
theorem h_a (hF : LH W₀ [] F [] S w) (hx : RdL (Value.int .u8) W₀ A x) (hA : ArgP (fun y => y < W₀.heap.size) W₀ A) (hbx : Byt x) (hn : x.length ≤ 48) (hy : RdL (Value.int .u8) W₀ A' y) (hA' : ArgP (fun y => y < W₀.heap.size) W₀ A') (hby : Byt y) (hn' : y.length ≤ 48) :
    GL Try.prog (fun t g w' => ∃ T n ks sl Ak ck As cs F', g = G (Frame.enter Try.prog 19 #[.slice Ak ks.length ck, .slice As sl.length cs] .normal) [(base 10).at ⟨arrH0 T (.slice A x.length c) (.slice A' y.length c') (.int .i64 (n : Nat)) (.slice Ak ks.length ck) (.slice As sl.length cs), []⟩ [.inRegion fy6h [2, 3, 4, 5, 6, 7], .code fc7h]] ∧
      FhOk ks sl n 1 ∧ LH W₀ [.arg Ak ks, .arg As sl] F' [] t w') S (G (Frame.enter Try.prog 10 #[.slice A x.length c, .slice A' y.length c'] .normal) []) w := by
  have rl : ∀ {l : List Fc} {F : Nat → Prop} {own : List ((Nat → Prop) × Fc)} {S : Nat → Prop} {a b : World}, LH W₀ l F own S a → RS No S a b → LH W₀ l F own S b := fun h r => h.rely r
  obtain ⟨x1, x2⟩ := u8_old hF hx hA
  obtain ⟨y1, y2⟩ := u8_old hF hy hA'
  have ha : ∀ z ∈ (actH A x.length c A' y.length c').tmps, okV (fnsQ hrFs w S No) w.heap.size z = true := by
    intro z hz
    simp [arrH0] at hz
    rcases hz with rfl | rfl | rfl
    · exact okV_arg hF.lf x2
    · exact okV_arg hF.lf y2
    · exact okV_undef _ _
  rw [hl_enter]
  have hcut := gl_cut (P := Try.prog) (fs := hrFs) (v := w) (F := S) (W := No) (cs := []) (f := 10) (n := 5) (Pre := HPre w.heap.size (.slice A x.length c) (.slice A' y.length c')) (fun b h => h.elim) hF.low zero_ok hF.glob hrFs_ok hl_spine rfl ha fun τ => by
    have h := fh_reach A c x A' c' y { loneW (fnsQ hrFs w S No) w with tape := τ, drawn := 0 } (u8_lone hF.low x1 x2) hbx (u8_lone hF.low y1 y2) hby hn hn'
    have e : ({ loneW (fnsQ hrFs w S No) w with tape := τ, drawn := 0 } : World).heap.size = w.heap.size := loneW_size
    rw [e] at h
    exact h
  refine Go1.bind (fun _ a => RS.refl a) hcut ?_
  rintro t g w' ⟨s', rfl, ρ, a', wl, rfl, ⟨hd, n, ks, sl, Ak, ck, As, cs, ht, OK, hK, hS⟩, hok, hL⟩
  have arg_id : ∀ {B : Option Addr}, ArgP S w B → B.map (renS ρ) = B := by
    intro B hB
    cases B with
    | none => rfl
    | some a =>
      have := hL.id a.block (hF.low _ (hB a rfl).1)
      rw [Option.map_some, renS_none _ (hB a rfl).2.2]
      simp only [renA, this]
  have ea := arg_id x2
  have ea' := arg_id y2
  have f1 := own_vK hL hK
  have f2 := own_vK hL hS
  replace hF := lh_many (hF.lk (lk_left hF.low hL)) (N := fun y => w.heap.size ≤ y ∧ s' y) (fs := [.arg (Ak.map (renS ρ)) ks, .arg (As.map (renS ρ)) sl]) (fun f hf => by
    simp only [List.mem_cons, List.not_mem_nil, or_false] at hf
    rcases hf with rfl | rfl
    · exact f1
    · exact f2) (fun y hy => .inr hy.2) (fun q hq => by cases hq)
  rw [List.append_nil] at hF
  generalize (fun b => (S b ∧ ¬ No b) ∨ s' b) = S' at hF ⊢
  rw [ht]
  generalize (fun i => a'.tmps.getD i undef) = T
  simp only [arrH0, List.map_toArray, List.map_cons, List.map_nil, ren_slice, ren_int, ren_bool, ren_pointer, Option.map_some, renA, ea, ea']
  generalize Ak.map (renS ρ) = Ak at hF ⊢
  generalize As.map (renS ρ) = As at hF ⊢
  generalize ren ρ = rr
  clear hcut ha hok hL ht hd ea ea' f1 f2 hK hS x1 x2 y1 y2
  refine gl_go (n := 100) ?_
  simp only [hbody, Try.f10, cut]
  (u_in rl hF; rw [stepG_seq]; simp only [goes_go]; refine ⟨by (refine de1_none ?_; intro e he; simp at he), ?_⟩)
  (u_in rl hF; rw [stepG_region]; simp only [goes_go, List.size_toArray, List.length_cons, List.length_nil, Nat.reduceAdd, Nat.zero_add, List.range, List.range.loop]; refine ⟨by (refine de1_none ?_; intro e he; simp at he), ?_⟩)
  u_in rl hF
  refine goes_oper_k rfl rfl (by k_ne) (fun K hK => ?_)
  go_simp
  refine hK _ _ ⟨?_, ?_⟩
  · refine de1_none ?_
    intro e he
    have hm := mem_listed he
    simp [go_sem, *] at hm
  clear hK K
  try w_num
  u_in rl hF
  refine goes_oper_k rfl rfl (by k_ne) (fun K hK => ?_)
  go_simp
  refine hK _ _ ⟨?_, ?_⟩
  · refine de1_none ?_
    intro e he
    have hm := mem_listed he
    simp [go_sem, *] at hm
  clear hK K
  try w_num
  u_in rl hF
  refine goes_call rfl rfl (by k_ne) rfl Try.func19 nmf_iHash rfl ⟨by (refine de1_none ?_; intro e he; simp at he), ?_⟩
  rw [← enter_at _ Try.func19 rfl]
  refine Goes.stop fun w₁ h₁ => Go1.stop fun w₂ h₂ => ?_
  replace hF := rl (rl hF h₁) h₂
  exact ⟨fun i => Array.getD #[.slice A x.length c, .slice A' y.length c', rr (T 2), rr (T 3), rr (T 4), .int .i64 (n : Nat), .slice Ak ks.length ck, .slice As sl.length cs, rr (T 8), rr (T 9), rr (T 10), rr (T 11), rr (T 12), rr (T 13), rr (T 14), rr (T 15), rr (T 16), rr (T 17), rr (T 18), rr (T 19), rr (T 20), rr (T 21), rr (T 22), rr (T 23), rr (T 24), rr (T 25), rr (T 26), rr (T 27), rr (T 28), rr (T 29), rr (T 30), rr (T 31), rr (T 32), rr (T 33), rr (T 34), rr (T 35), rr (T 36), rr (T 37), rr (T 38), rr (T 39), rr (T 40), rr (T 41), rr (T 42), rr (T 43), rr (T 44), rr (T 45), rr (T 46), rr (T 47), rr (T 48), rr (T 49), rr (T 50), rr (T 51), rr (T 52), rr (T 53), rr (T 54), rr (T 55), rr (T 56), rr (T 57), .slice Ak ks.length ck, .slice As sl.length cs, rr (T 60), rr (T 61), rr (T 62), rr (T 63), rr (T 64), rr (T 65), rr (T 66), rr (T 67), rr (T 68), rr (T 69), rr (T 70), rr (T 71), rr (T 72), rr (T 73), rr (T 74), rr (T 75), rr (T 76), rr (T 77), rr (T 78), rr (T 79), rr (T 80), rr (T 81), rr (T 82), rr (T 83), rr (T 84), rr (T 85), rr (T 86), rr (T 87), rr (T 88), rr (T 89), rr (T 90), rr (T 91), rr (T 92), rr (T 93), rr (T 94), rr (T 95), rr (T 96), rr (T 97), rr (T 98), rr (T 99), rr (T 100), rr (T 101), rr (T 102), rr (T 103), rr (T 104), rr (T 105), rr (T 106), rr (T 107), rr (T 108), rr (T 109), rr (T 110), rr (T 111), rr (T 112), rr (T 113), rr (T 114), rr (T 115), rr (T 116), rr (T 117), rr (T 118), rr (T 119), rr (T 120), rr (T 121), rr (T 122), rr (T 123), rr (T 124), rr (T 125), rr (T 126), rr (T 127), rr (T 128), rr (T 129), rr (T 130), rr (T 131), rr (T 132), rr (T 133), rr (T 134), rr (T 135), rr (T 136), rr (T 137), rr (T 138), rr (T 139), rr (T 140), rr (T 141), rr (T 142), rr (T 143), rr (T 144), rr (T 145), rr (T 146), rr (T 147), rr (T 148), rr (T 149), rr (T 150), rr (T 151), rr (T 152), rr (T 153), rr (T 154), rr (T 155), rr (T 156), rr (T 157), rr (T 158), rr (T 159), rr (T 160), rr (T 161), rr (T 162), rr (T 163), rr (T 164), rr (T 165), rr (T 166), rr (T 167), rr (T 168), rr (T 169), rr (T 170), rr (T 171), rr (T 172), rr (T 173), rr (T 174), rr (T 175), rr (T 176), rr (T 177), rr (T 178), rr (T 179), rr (T 180), rr (T 181), rr (T 182), rr (T 183), rr (T 184), rr (T 185), rr (T 186), rr (T 187), rr (T 188), rr (T 189), rr (T 190), rr (T 191), rr (T 192), rr (T 193), rr (T 194), rr (T 195), rr (T 196), rr (T 197), rr (T 198), rr (T 199), rr (T 200), rr (T 201), rr (T 202), rr (T 203), rr (T 204), rr (T 205), rr (T 206), rr (T 207), rr (T 208), rr (T 209), rr (T 210), rr (T 211), rr (T 212), rr (T 213), rr (T 214), rr (T 215), rr (T 216), rr (T 217), rr (T 218), rr (T 219), rr (T 220), rr (T 221), rr (T 222), rr (T 223), rr (T 224), rr (T 225), rr (T 226), rr (T 227), rr (T 228), rr (T 229), rr (T 230), rr (T 231), rr (T 232), rr (T 233), rr (T 234), rr (T 235), rr (T 236), rr (T 237), rr (T 238), rr (T 239), rr (T 240), rr (T 241), rr (T 242), rr (T 243), rr (T 244), rr (T 245), rr (T 246), rr (T 247), rr (T 248), rr (T 249), rr (T 250), rr (T 251), rr (T 252), rr (T 253), rr (T 254), rr (T 255), rr (T 256), rr (T 257), rr (T 258), rr (T 259), rr (T 260), rr (T 261), rr (T 262), rr (T 263), rr (T 264), rr (T 265), rr (T 266), rr (T 267), rr (T 268), rr (T 269), rr (T 270), rr (T 271), rr (T 272), rr (T 273), rr (T 274), rr (T 275), rr (T 276), rr (T 277), rr (T 278), rr (T 279), rr (T 280), rr (T 281), rr (T 282), rr (T 283), rr (T 284), rr (T 285), rr (T 286), rr (T 287), rr (T 288), rr (T 289), rr (T 290), rr (T 291), rr (T 292), rr (T 293), rr (T 294), rr (T 295), rr (T 296), rr (T 297), rr (T 298), rr (T 299), rr (T 300), rr (T 301), rr (T 302), rr (T 303), rr (T 304), rr (T 305), rr (T 306), rr (T 307), rr (T 308), rr (T 309), rr (T 310), rr (T 311), rr (T 312), rr (T 313), rr (T 314), rr (T 315), rr (T 316), rr (T 317), rr (T 318), rr (T 319), rr (T 320), rr (T 321), rr (T 322), rr (T 323), rr (T 324), rr (T 325), rr (T 326), rr (T 327), rr (T 328), rr (T 329), rr (T 330), rr (T 331), rr (T 332), rr (T 333), rr (T 334), rr (T 335), rr (T 336), rr (T 337), rr (T 338), rr (T 339), rr (T 340), rr (T 341), rr (T 342), rr (T 343), rr (T 344), rr (T 345), rr (T 346), rr (T 347), rr (T 348), rr (T 349), rr (T 350), rr (T 351), rr (T 352), rr (T 353), rr (T 354), rr (T 355), rr (T 356), rr (T 357), rr (T 358), rr (T 359), rr (T 360), rr (T 361), rr (T 362), rr (T 363), rr (T 364), rr (T 365), rr (T 366), rr (T 367), rr (T 368), rr (T 369), rr (T 370), rr (T 371), rr (T 372), rr (T 373), rr (T 374), rr (T 375), rr (T 376), rr (T 377), rr (T 378), rr (T 379), rr (T 380), rr (T 381), rr (T 382), rr (T 383), rr (T 384), rr (T 385), rr (T 386), rr (T 387), rr (T 388), rr (T 389), rr (T 390), rr (T 391), rr (T 392), rr (T 393), rr (T 394), rr (T 395), rr (T 396), rr (T 397), rr (T 398), rr (T 399), rr (T 400), rr (T 401), rr (T 402), rr (T 403), rr (T 404), rr (T 405), rr (T 406), rr (T 407), rr (T 408), rr (T 409), rr (T 410), rr (T 411), rr (T 412), rr (T 413), rr (T 414), rr (T 415), rr (T 416), rr (T 417), rr (T 418), rr (T 419), rr (T 420), rr (T 421), rr (T 422), rr (T 423), rr (T 424), rr (T 425), rr (T 426), rr (T 427), rr (T 428), rr (T 429), rr (T 430), rr (T 431), rr (T 432), rr (T 433), rr (T 434), rr (T 435), rr (T 436), rr (T 437), rr (T 438), rr (T 439), rr (T 440), rr (T 441), rr (T 442), rr (T 443), rr (T 444), rr (T 445), rr (T 446), rr (T 447), rr (T 448), rr (T 449), rr (T 450), rr (T 451), rr (T 452), rr (T 453), rr (T 454), rr (T 455), rr (T 456), rr (T 457), rr (T 458), rr (T 459), rr (T 460), rr (T 461), rr (T 462), rr (T 463), rr (T 464), rr (T 465), rr (T 466), rr (T 467), rr (T 468), rr (T 469), rr (T 470), rr (T 471), rr (T 472), rr (T 473), rr (T 474), rr (T 475), rr (T 476), rr (T 477), rr (T 478), rr (T 479), rr (T 480), rr (T 481), rr (T 482), rr (T 483), rr (T 484), rr (T 485), rr (T 486), rr (T 487), rr (T 488), rr (T 489), rr (T 490), rr (T 491), rr (T 492), rr (T 493), rr (T 494), rr (T 495), rr (T 496), rr (T 497), rr (T 498), rr (T 499), rr (T 500), rr (T 501), rr (T 502), rr (T 503), rr (T 504), rr (T 505), rr (T 506), rr (T 507), rr (T 508), rr (T 509), rr (T 510), rr (T 511), rr (T 512)] i undef, n, ks, sl, Ak, ck, As, cs, _, by kernel_rfl, OK, hF⟩
set_option maxRecDepth 100000 in
set_option maxHeartbeats 8000000 in
theorem h_b {T : Nat → Value} {n : Nat} {ks sl : List Int} {Ak : Option Addr} {ck : Nat} {As : Option Addr} {cs : Nat} {Ar : Option Addr} {cr : Nat} (hF : LH W₀ l F own S w) (hy : RdL (Value.int .u8) W₀ A' y) (hA' : ArgP (fun y => y < W₀.heap.size) W₀ A') (hby : Byt y) (hn' : y.length ≤ 48) :
    GL Try.prog (fun t g w' => ∃ T kw, g = G (Frame.enter Try.prog 24 #[.slice Ak ks.length ck, .slice As sl.length cs, .int .i64 kw] .normal) [(base 10).at ⟨arrH2 T (.slice A x.length c) (.slice A' y.length c') (.int .i64 (n : Nat)) (.slice Ak ks.length ck) (.slice As sl.length cs) (.slice Ar sl.length cr) (.bool true), []⟩ [.inRegion fy7h [5, 6, 7, 8, 9, 10], .code fc8h]] ∧ (1 ≤ kw ∧ kw ≤ 8) ∧ LH W₀ l F own t w') S
      (G ((base 10).at (Act.put ⟨arrH0 T (.slice A x.length c) (.slice A' y.length c') (.int .i64 (n : Nat)) (.slice Ak ks.length ck) (.slice As sl.length cs), []⟩ ((fy6h[2]?).bind (·.dst)) (.tuple #[.slice Ar sl.length cr, .bool true])) [.inRegion fy6h [3, 4, 5, 6, 7], .code fc7h]) []) w := by
  have rl : ∀ {l : List Fc} {F : Nat → Prop} {own : List ((Nat → Prop) × Fc)} {S : Nat → Prop} {a b : World}, LH W₀ l F own S a → RS No S a b → LH W₀ l F own S b := fun h r => h.rely r
  refine gl_go (n := 100) ?_
  simp only [fy6h, fc7h, Try.f10, arrH0]
  walk_nrm
  u_in rl hF
  refine goes_oper_k rfl rfl (by k_ne) (fun K hK => ?_)
  go_simp
  refine hK _ _ ⟨?_, ?_⟩
  · refine de1_none ?_
    intro e he
    have hm := mem_listed he
    simp [go_sem, *] at hm
  clear hK K
  try w_num
  u_in rl hF
  refine goes_oper_k rfl rfl (by k_ne) (fun K hK => ?_)
  go_simp
  refine hK _ _ ⟨?_, ?_⟩
  · refine de1_none ?_
    intro e he
    have hm := mem_listed he
    simp [go_sem, *] at hm
  clear hK K
  try w_num
  u_in rl hF
  refine goes_oper_k rfl rfl (by k_ne) (fun K hK => ?_)
  go_simp
  refine hK _ _ ⟨?_, ?_⟩
  · refine de1_none ?_
    intro e he
    have hm := mem_listed he
    simp [go_sem, *] at hm
  clear hK K
  try w_num
  u_in rl hF
  refine goes_oper_k rfl rfl (by k_ne) (fun K hK => ?_)
  go_simp
  refine hK _ _ ⟨?_, ?_⟩
  · refine de1_none ?_
    intro e he
    have hm := mem_listed he
    simp [go_sem, *] at hm
  clear hK K
  try w_num
  u_in rl hF
  refine goes_oper_k rfl rfl (by k_ne) (fun K hK => ?_)
  go_simp
  refine hK _ _ ⟨?_, ?_⟩
  · refine de1_none ?_
    intro e he
    have hm := mem_listed he
    simp [go_sem, *] at hm
  clear hK K
  try w_num
  (u_in rl hF; rw [stepG_region_end]; simp only [goes_go]; refine ⟨by (refine de1_none ?_; intro e he; simp at he), ?_⟩)
  (u_in rl hF; rw [stepG_seq]; simp only [goes_go]; refine ⟨by (refine de1_none ?_; intro e he; simp at he), ?_⟩)
  (u_in rl hF; rw [stepG_region]; simp only [goes_go, List.size_toArray, List.length_cons, List.length_nil, Nat.reduceAdd, Nat.zero_add, List.range, List.range.loop]; refine ⟨by (refine de1_none ?_; intro e he; simp at he), ?_⟩)
  u_in rl hF
  refine goes_oper_k rfl rfl (by k_ne) (fun K hK => ?_)
  go_simp
  refine hK _ _ ⟨?_, ?_⟩
  · refine de1_none ?_
    intro e he
    have hm := mem_listed he
    simp [go_sem, *] at hm
  clear hK K
  try w_num
  u_in rl hF
  refine goes_oper_k rfl rfl (by k_ne) (fun K hK => ?_)
  go_simp
  refine hK _ _ ⟨?_, ?_⟩
  · refine de1_none ?_
    intro e he
    have hm := mem_listed he
    simp [go_sem, *] at hm
  clear hK K
  try w_num
  u_in rl hF
  refine goes_oper_k rfl rfl (by k_ne) (fun K hK => ?_)
  go_simp
  refine hK _ _ ⟨?_, ?_⟩
  · refine de1_none ?_
    intro e he
    have hm := mem_listed he
    simp [go_sem, *] at hm
  clear hK K
  try w_num
  u_in rl hF
  refine goes_call rfl rfl (by k_ne) rfl Try.func51 nmf_r8At rfl ⟨by (refine de1_none ?_; intro e he; simp at he), ?_⟩
  rw [← enter_at _ Try.func51 rfl]
  refine Goes.stop fun w₁ h₁ => ?_
  replace hF := rl hF h₁
  clear h₁
  walk_nrm
  obtain ⟨y1, y2⟩ := u8_old hF hy hA'
  refine Go1.bind (fun _ a => RS.refl a) (r8At_gl hF y1 y2 hby (by omega) (by decide) (by decide) (by decide) (by decide)) ?_
  rintro t g w' ⟨r, ⟨r1, r2⟩, rfl, hF2⟩
  replace hF := hF2
  clear hF2 y1 y2
  have hwr : IntKind.i64.wrap (1 + r) = 1 + r := by rw [IntKind.wrap_i64]; omega
  refine gl_go (n := 100) ?_
  walk_nrm
  u_in rl hF
  refine goes_oper_k rfl rfl (by k_ne) (fun K hK => ?_)
  go_simp
  refine hK _ _ ⟨?_, ?_⟩
  · refine de1_none ?_
    intro e he
    have hm := mem_listed he
    simp [go_sem, *] at hm
  clear hK K
  try w_num
  u_in rl hF
  refine goes_call rfl rfl (by k_ne) rfl Try.func24 nm_iRows rfl ⟨by (refine de1_none ?_; intro e he; simp at he), ?_⟩
  rw [← enter_at _ Try.func24 rfl]
  refine Goes.stop fun w₁ h₁ => Go1.stop fun w₂ h₂ => ?_
  replace hF := rl (rl hF h₁) h₂
  exact ⟨fun i => Array.getD #[.slice A x.length c, .slice A' y.length c', T 2, T 3, T 4, .int .i64 (n : Nat), .slice Ak ks.length ck, .slice As sl.length cs, .slice Ar sl.length cr, .bool true, T 10, T 11, T 12, T 13, T 14, T 15, T 16, T 17, T 18, T 19, T 20, T 21, T 22, T 23, T 24, T 25, T 26, T 27, T 28, T 29, T 30, T 31, T 32, T 33, T 34, T 35, T 36, T 37, T 38, T 39, T 40, T 41, T 42, T 43, T 44, T 45, T 46, T 47, T 48, T 49, T 50, T 51, T 52, T 53, T 54, T 55, T 56, .tuple #[.slice Ar sl.length cr, .bool true], T 58, T 59, .tuple #[.slice Ar sl.length cr, .bool true], .slice Ar sl.length cr, .bool true, T 63, .slice Ak ks.length ck, .slice As sl.length cs, .slice A' y.length c', .int .i64 r, .int .i64 (1 + r), T 69, T 70, T 71, T 72, T 73, T 74, T 75, T 76, T 77, T 78, T 79, T 80, T 81, T 82, T 83, T 84, T 85, T 86, T 87, T 88, T 89, T 90, T 91, T 92, T 93, T 94, T 95, T 96, T 97, T 98, T 99, T 100, T 101, T 102, T 103, T 104, T 105, T 106, T 107, T 108, T 109, T 110, T 111, T 112, T 113, T 114, T 115, T 116, T 117, T 118, T 119, T 120, T 121, T 122, T 123, T 124, T 125, T 126, T 127, T 128, T 129, T 130, T 131, T 132, T 133, T 134, T 135, T 136, T 137, T 138, T 139, T 140, T 141, T 142, T 143, T 144, T 145, T 146, T 147, T 148, T 149, T 150, T 151, T 152, T 153, T 154, T 155, T 156, T 157, T 158, T 159, T 160, T 161, T 162, T 163, T 164, T 165, T 166, T 167, T 168, T 169, T 170, T 171, T 172, T 173, T 174, T 175, T 176, T 177, T 178, T 179, T 180, T 181, T 182, T 183, T 184, T 185, T 186, T 187, T 188, T 189, T 190, T 191, T 192, T 193, T 194, T 195, T 196, T 197, T 198, T 199, T 200, T 201, T 202, T 203, T 204, T 205, T 206, T 207, T 208, T 209, T 210, T 211, T 212, T 213, T 214, T 215, T 216, T 217, T 218, T 219, T 220, T 221, T 222, T 223, T 224, T 225, T 226, T 227, T 228, T 229, T 230, T 231, T 232, T 233, T 234, T 235, T 236, T 237, T 238, T 239, T 240, T 241, T 242, T 243, T 244, T 245, T 246, T 247, T 248, T 249, T 250, T 251, T 252, T 253, T 254, T 255, T 256, T 257, T 258, T 259, T 260, T 261, T 262, T 263, T 264, T 265, T 266, T 267, T 268, T 269, T 270, T 271, T 272, T 273, T 274, T 275, T 276, T 277, T 278, T 279, T 280, T 281, T 282, T 283, T 284, T 285, T 286, T 287, T 288, T 289, T 290, T 291, T 292, T 293, T 294, T 295, T 296, T 297, T 298, T 299, T 300, T 301, T 302, T 303, T 304, T 305, T 306, T 307, T 308, T 309, T 310, T 311, T 312, T 313, T 314, T 315, T 316, T 317, T 318, T 319, T 320, T 321, T 322, T 323, T 324, T 325, T 326, T 327, T 328, T 329, T 330, T 331, T 332, T 333, T 334, T 335, T 336, T 337, T 338, T 339, T 340, T 341, T 342, T 343, T 344, T 345, T 346, T 347, T 348, T 349, T 350, T 351, T 352, T 353, T 354, T 355, T 356, T 357, T 358, T 359, T 360, T 361, T 362, T 363, T 364, T 365, T 366, T 367, T 368, T 369, T 370, T 371, T 372, T 373, T 374, T 375, T 376, T 377, T 378, T 379, T 380, T 381, T 382, T 383, T 384, T 385, T 386, T 387, T 388, T 389, T 390, T 391, T 392, T 393, T 394, T 395, T 396, T 397, T 398, T 399, T 400, T 401, T 402, T 403, T 404, T 405, T 406, T 407, T 408, T 409, T 410, T 411, T 412, T 413, T 414, T 415, T 416, T 417, T 418, T 419, T 420, T 421, T 422, T 423, T 424, T 425, T 426, T 427, T 428, T 429, T 430, T 431, T 432, T 433, T 434, T 435, T 436, T 437, T 438, T 439, T 440, T 441, T 442, T 443, T 444, T 445, T 446, T 447, T 448, T 449, T 450, T 451, T 452, T 453, T 454, T 455, T 456, T 457, T 458, T 459, T 460, T 461, T 462, T 463, T 464, T 465, T 466, T 467, T 468, T 469, T 470, T 471, T 472, T 473, T 474, T 475, T 476, T 477, T 478, T 479, T 480, T 481, T 482, T 483, T 484, T 485, T 486, T 487, T 488, T 489, T 490, T 491, T 492, T 493, T 494, T 495, T 496, T 497, T 498, T 499, T 500, T 501, T 502, T 503, T 504, T 505, T 506, T 507, T 508, T 509, T 510, T 511, T 512] i undef, 1 + r, by kernel_rfl, ⟨by omega, by omega⟩, hF⟩
end
end Go.Proofs.Ytmmolicodlmlkaa.Ph
