/-
  Parts of the proof: Words for memory of my own: a slice that reads as a list, a block that is known whole, a slice of the call's own; no program in sight. The laws' own helpers over plain slices, by their contracts: size, copy, compare, mark, look for the marks. Printed by gen_help.py. From data to lists: what an argument of a law reads as. What a function hands back that builds a slice of its own. A slice of cells (structs with a slice in each) of the call's own: words for its memory. Cells appended to a slice of cells of the call's own. Floats that are no NaN: what the operations and conversions make of them. F No condition.
-/
import Derived.WalkKit
import Derived.WalkSpells
import Derived.WalkLawsBesides
import Derived.Deep.Draws
import Derived.Deep.QuietTactic
import Derived.BigQuiet
import Derived.Deep.RegionHeld3
import Derived.Deep.OwnRows
import Derived.Test.YtmmolicodlmlkaaProg
import Derived.ProofKit
import Derived.OpenShut
import Derived.Deep.Grids
import Derived.Lib.SmallJoins
import Derived.Maps.AppendAt
import Derived.Laws.FloatArith
import Derived.Laws.Cover2
set_option linter.unusedVariables false
set_option linter.unusedSimpArgs false
namespace Go.Proofs.Ytmmolicodlmlkaa
open Go.RowKit

theorem hid {p : Prop} (h : p) : Hid p := h

/-- Behind a call that leaves all old blocks alone: two rules by which the walk reads old cells and old marks in the new world. -/
theorem bcell {W w1 : World} (hb : Below W.heap.size W w1) : (∀ b o, b < W.heap.size → w1.cell? ⟨b, o, none⟩ = W.cell? ⟨b, o, none⟩) ∧ (∀ b o, b < W.heap.size → w1.frozen? ⟨b, o, none⟩ = W.frozen? ⟨b, o, none⟩) :=
  ⟨fun b o h => hb.cell (p := ⟨b, o, none⟩) h, fun b o h => hb.frozen (p := ⟨b, o, none⟩) h⟩

theorem below_drewN {B : Nat} {a w : World} (h : Below B a w) (n : Nat) : Below B a (w.drewN n) := ⟨h.os, h.tape, h.output, h.size, h.block⟩
theorem below_refl (w : World) : Below w.heap.size w w := Below.refl _ _
theorem below_a2 (w : World) (o o' : Obj) : Below w.heap.size w ((w.alloc o).alloc o') := ((Below.refl _ _).alloc (Nat.le_refl _) o).alloc (by simp) o'
theorem below_a3 (w : World) (o o' o'' : Obj) : Below w.heap.size w (((w.alloc o).alloc o').alloc o'') := (below_a2 w o o').alloc (by simp; omega) o''
theorem below_alloc2 (w : World) (o o' : Obj) : Below w.heap.size w ((w.alloc o).alloc o') := ((Below.refl _ _).alloc (Nat.le_refl _) o).alloc (by simp) o'
theorem below_alloc3 (w : World) (o o' o'' : Obj) : Below w.heap.size w (((w.alloc o).alloc o').alloc o'') := (below_alloc2 w o o').alloc (by simp; omega) o''
theorem below_alloc4 (w : World) (o o' o'' o3 : Obj) : Below w.heap.size w ((((w.alloc o).alloc o').alloc o'').alloc o3) := (below_alloc3 w o o' o'').alloc (by simp; omega) o3

theorem below_a1 (w : World) (o : Obj) : Below w.heap.size w (w.alloc o) := (Below.refl _ _).alloc (Nat.le_refl _) _
/-- Behind a call made in the world W, which has grown out of w0. -/
theorem below_call {w0 W w1 : World} (h : Below w0.heap.size w0 W) (hb : Below W.heap.size W w1) : Hid (Below w0.heap.size w0 w1) := h.trans (hb.mono h.size)

theorem below_drew1 {B : Nat} {a w : World} (h : Below B a w) : Below B a w.drew := ⟨h.os, h.tape, h.output, h.size, h.block⟩
theorem below_alloc_ {W c : World} (h : Below W.heap.size W c) (o : Obj) : Below W.heap.size W (c.alloc o) := h.alloc h.size o
theorem below_next {B : Nat} {W c w' : World} (h : Below B W c) (hb : Below c.heap.size c w') (hB : B ≤ W.heap.size := by exact Nat.le_refl _) : Hid (Below B W w') := h.trans (hb.mono (Nat.le_trans hB h.size))
theorem below_drew'' {B n : Nat} {a w : World} (h : Below B (a.drewN n) w) : Below B a w := ⟨h.os, h.tape, h.output, h.size, h.block⟩
theorem below_drew' {B : Nat} {a w : World} (h : Below B a.drew w) : Below B a w := ⟨h.os, h.tape, h.output, h.size, h.block⟩

/-- The slice whose address is A reads, in w, as the list xs (f: how an element lies in its cell). -/
def RdL {α : Type} (f : α → Value) (w : World) (A : Option Addr) (xs : List α) : Prop :=
  ∀ j (h : j < xs.length), ∃ b o, A = some ⟨b, o, none⟩ ∧ w.cell? ⟨b, o + j, none⟩ = some (f xs[j])

section
variable {α : Type} {f : α → Value} {w w' : World} {A : Option Addr} {xs : List α}
theorem RdL.nil : RdL f w A [] := fun j h => absurd h (by simp)
theorem RdL.below (h : RdL f w A xs) (hb : Below w.heap.size w w') : RdL f w' A xs := fun j hj => by
  obtain ⟨b, o, hA, hc⟩ := h j hj
  have hlt := World.block_lt_of_cell? w _ hc
  exact ⟨b, o, hA, (hb.cell (p := ⟨b, o + j, none⟩) hlt).trans hc⟩
theorem RdL.drewN (h : RdL f w A xs) (n : Nat) : RdL f (w.drewN n) A xs := h
theorem RdL.at_ (h : RdL f w A xs) {k : Nat} (hk : k < xs.length) :
    ∃ b o x, A = some ⟨b, o, none⟩ ∧ w.cell? ⟨b, o + k, none⟩ = some (f x) ∧ Hid (xs[k]? = some x) := by
  obtain ⟨b, o, hA, hc⟩ := h k hk
  exact ⟨b, o, xs[k], hA, hc, by show xs[k]? = _; exact List.getElem?_eq_getElem hk⟩
end

/-- Block g is just the cells cs, of element type t, none of them frozen. -/
def Blk (w : World) (g : Nat) (t : TypeId) (cs : List Value) : Prop := w.heap[g]? = some (.cells cs.toArray t (0, 0))

section
variable {w w' : World} {g : Nat} {t : TypeId} {cs : List Value}
theorem Blk.lt (h : Blk w g t cs) : g < w.heap.size := (Array.getElem?_eq_some_iff.1 h).1
theorem Blk.cell (h : Blk w g t cs) {i : Nat} {v : Value} (hi : cs[i]? = some v) : w.cell? ⟨g, i, none⟩ = some v := by
  rw [cell_of_row w g i cs.toArray t (0, 0) h]; simpa using hi
theorem Blk.frozen (h : Blk w g t cs) (i : Nat) : w.frozen? ⟨g, i, none⟩ = false := by
  unfold Blk at h; simp [World.frozen?, h]
theorem Blk.cells2 {v0 v1 : Value} (h : Blk w g t [v0, v1]) : w.cell? ⟨g, 0, none⟩ = some v0 ∧ w.cell? ⟨g, 1, none⟩ = some v1 := ⟨h.cell rfl, h.cell rfl⟩
theorem Blk.cells4 {v0 v1 v2 v3 : Value} (h : Blk w g t [v0, v1, v2, v3]) : w.cell? ⟨g, 0, none⟩ = some v0 ∧ w.cell? ⟨g, 1, none⟩ = some v1 ∧ w.cell? ⟨g, 2, none⟩ = some v2 ∧ w.cell? ⟨g, 3, none⟩ = some v3 := ⟨h.cell rfl, h.cell rfl, h.cell rfl, h.cell rfl⟩
theorem Blk.cells3 {v0 v1 v2 : Value} (h : Blk w g t [v0, v1, v2]) : w.cell? ⟨g, 0, none⟩ = some v0 ∧ w.cell? ⟨g, 1, none⟩ = some v1 ∧ w.cell? ⟨g, 2, none⟩ = some v2 := ⟨h.cell rfl, h.cell rfl, h.cell rfl⟩
theorem Blk.new (w : World) (t : TypeId) (cs : List Value) : Blk (w.alloc (.cells cs.toArray t)) w.heap.size t cs := heap_alloc_new w _
theorem Blk.new2 (w : World) (o : Obj) (t : TypeId) (cs : List Value) : Blk ((w.alloc o).alloc (.cells cs.toArray t)) (w.heap.size + 1) t cs := by
  have h := Blk.new (w.alloc o) t cs
  rwa [World.size_alloc] at h
theorem Blk.new3 (w : World) (o o' : Obj) (t : TypeId) (cs : List Value) : Blk (((w.alloc o).alloc o').alloc (.cells cs.toArray t)) (w.heap.size + 1 + 1) t cs := by
  have h := Blk.new2 (w.alloc o) o' t cs
  rwa [World.size_alloc] at h
theorem madeCells_one (z : Value) (n : Nat) : madeCells #[z] n = (List.replicate n z).toArray := by
  apply Array.ext
  · simp [size_madeCells]
  · intro i h1 h2
    simp [madeCells, Nat.mod_one]
theorem Blk.made (w : World) (t : TypeId) (z : Value) (n : Nat) : Blk (w.alloc (.cells (madeCells #[z] n) t)) w.heap.size t (List.replicate n z) := by
  rw [madeCells_one]; exact Blk.new w t _
theorem Blk.drewN (h : Blk w g t cs) (n : Nat) : Blk (w.drewN n) g t cs := h
theorem Blk.alloc (h : Blk w g t cs) (o : Obj) : Blk (w.alloc o) g t cs := (Below.heap_alloc w o g h.lt).trans h
theorem Blk.set_ (h : Blk w g t cs) (i : Nat) (u : Value) : Blk (w.setCell ⟨g, i, none⟩ u) g t (cs.set i u) := by
  unfold Blk at h ⊢
  simp [World.setCell, Array.getElem?_modify, h]
theorem Blk.far (h : Blk w g t cs) {p : Addr} (hp : g ≠ p.block) (u : Value) : Blk (w.setCell p u) g t cs := (Below.heap_setCell w p u g hp).trans h
theorem Blk.below (h : Blk w g t cs) (hb : Below w.heap.size w w') : Blk w' g t cs := (hb.block g h.lt).trans h
theorem Blk.rd0 {α : Type} {f : α → Value} {xs : List α} (h : Blk w g t (xs.map f)) : RdL f w (some ⟨g, 0, none⟩) xs := fun j hj => by
  refine ⟨g, 0, rfl, ?_⟩
  rw [Nat.zero_add]
  exact h.cell (by simp [hj])
theorem Blk.rd {α : Type} {f : α → Value} {xs : List α} {ex : List Value} (h : Blk w g t (xs.map f ++ ex)) : RdL f w (some ⟨g, 0, none⟩) xs := fun j hj => by
  refine ⟨g, 0, rfl, ?_⟩
  rw [Nat.zero_add]
  exact h.cell (by rw [List.getElem?_append_left (by simpa using hj)]; simp [hj])
end

/-- The slice at A holds the list xs in a block of the call's own (from block B on), which may be written. -/
def OwnS {α : Type} (f : α → Value) (w : World) (B : Nat) (t : TypeId) (A : Option Addr) (xs : List α) : Prop :=
  xs ≠ [] → ∃ g ex, A = some ⟨g, 0, none⟩ ∧ B ≤ g ∧ Blk w g t (xs.map f ++ ex)

/-- Only the block of the slice (A, n elements) may have changed. -/
structure Touch (w w' : World) (A : Option Addr) (n : Nat) : Prop where
  os : w'.os = w.os
  tape : w'.tape = w.tape
  output : w'.output = w.output
  size : w'.heap.size = w.heap.size
  block : ∀ b, (n = 0 ∨ ∀ o, A ≠ some ⟨b, o, none⟩) → w'.heap[b]? = w.heap[b]?

section
variable {α : Type} {f : α → Value} {w w' w'' : World} {A : Option Addr} {xs : List α} {B : Nat} {t : TypeId} {n : Nat}
theorem OwnS.nil : OwnS f w B t A [] := fun h => absurd rfl h
theorem OwnS.rd (h : OwnS f w B t A xs) : RdL f w A xs := by
  rcases List.eq_nil_or_concat xs with rfl | ⟨_, _, rfl⟩
  · exact RdL.nil
  · obtain ⟨g, ex, rfl, _, hb⟩ := h (by simp)
    exact hb.rd
theorem OwnS.below (h : OwnS f w B t A xs) (hb : Below w.heap.size w w') : OwnS f w' B t A xs := fun hn => by
  obtain ⟨g, ex, hA, hB, hg⟩ := h hn
  exact ⟨g, ex, hA, hB, hg.below hb⟩
theorem OwnS.mono (h : OwnS f w B t A xs) {B' : Nat} (hB : B' ≤ B) : OwnS f w B' t A xs := fun hn => by
  obtain ⟨g, ex, hA, hg, hb⟩ := h hn
  exact ⟨g, ex, hA, by omega, hb⟩
theorem OwnS.of_blk {g : Nat} (h : Blk w g t (xs.map f)) (hB : B ≤ g) : OwnS f w B t (some ⟨g, 0, none⟩) xs := fun _ => ⟨g, [], rfl, hB, by simpa using h⟩
theorem Touch.refl : Touch w w A n := ⟨rfl, rfl, rfl, rfl, fun _ _ => rfl⟩
theorem Touch.trans (h : Touch w w' A n) (k : Touch w' w'' A n) : Touch w w'' A n :=
  ⟨k.os.trans h.os, k.tape.trans h.tape, k.output.trans h.output, k.size.trans h.size, fun b hb => (k.block b hb).trans (h.block b hb)⟩
theorem Touch.drewN (h : Touch w w' A n) (k : Nat) : Touch w (w'.drewN k) A n := ⟨h.os, h.tape, h.output, h.size, h.block⟩
theorem Touch.set_ {g : Nat} (h : Touch w w' (some ⟨g, 0, none⟩) n) (hn : 0 < n) (i : Nat) (u : Value) : Touch w (w'.setCell ⟨g, i, none⟩ u) (some ⟨g, 0, none⟩) n :=
  h.trans ⟨rfl, rfl, rfl, by simp, fun b hb => Below.heap_setCell _ _ _ _ (by
    rintro rfl
    rcases hb with hb | hb
    · omega
    · exact hb 0 rfl)⟩
theorem Touch.below (h : Touch w w' A xs.length) (ho : OwnS f w B t A xs) : Below B w w' :=
  ⟨h.os, h.tape, h.output, Nat.le_of_eq h.size.symm, fun k hk => h.block k (by
    rcases List.eq_nil_or_concat xs with rfl | ⟨_, _, rfl⟩
    · exact .inl rfl
    · obtain ⟨g, ex, rfl, hB, _⟩ := ho (by simp)
      exact .inr fun o e => by
        injection e with e; injection e with e; omega)⟩
end

/-- Two slices do not share a block. -/
def Apart (A : Option Addr) (n : Nat) (A' : Option Addr) (m : Nat) : Prop := n = 0 ∨ m = 0 ∨ ∀ g o g' o', A = some ⟨g, o, none⟩ → A' = some ⟨g', o', none⟩ → g ≠ g'
theorem Apart.symm {A A' : Option Addr} {n m : Nat} (h : Apart A n A' m) : Apart A' m A n := by
  rcases h with h | h | h
  · exact .inr (.inl h)
  · exact .inl h
  · exact .inr (.inr fun g o g' o' h1 h2 e => h g' o' g o h2 h1 e.symm)

/-- Only the blocks of the listed slices, and new ones, may have changed. -/
structure TouchAll (w w' : World) (l : List (Option Addr × Nat)) : Prop where
  os : w'.os = w.os
  tape : w'.tape = w.tape
  output : w'.output = w.output
  size : w.heap.size ≤ w'.heap.size
  block : ∀ b, b < w.heap.size → (∀ p ∈ l, p.2 = 0 ∨ ∀ o, p.1 ≠ some ⟨b, o, none⟩) → w'.heap[b]? = w.heap[b]?

section
variable {α : Type} {f : α → Value} {w w' w'' : World} {A A' : Option Addr} {xs : List α} {B : Nat} {t : TypeId} {n : Nat} {l : List (Option Addr × Nat)}
theorem TouchAll.alloc (w : World) (o : Obj) (l : List (Option Addr × Nat)) : TouchAll w (w.alloc o) l := ⟨rfl, rfl, rfl, by simp, fun b hb _ => Below.heap_alloc _ _ _ hb⟩
theorem TouchAll.trans (h : TouchAll w w' [(A, n)]) (k : Touch w' w'' A n) : TouchAll w w'' [(A, n)] :=
  ⟨k.os.trans h.os, k.tape.trans h.tape, k.output.trans h.output, Nat.le_trans h.size (Nat.le_of_eq k.size.symm), fun b hb hp => (k.block b (hp (A, n) (by simp))).trans (h.block b hb hp)⟩
theorem TouchAll.snoc (h : TouchAll w w' l) (k : Touch w' w'' A n) : TouchAll w w'' (l ++ [(A, n)]) :=
  ⟨k.os.trans h.os, k.tape.trans h.tape, k.output.trans h.output, Nat.le_trans h.size (Nat.le_of_eq k.size.symm), fun b hb hp => (k.block b (hp (A, n) (by simp))).trans (h.block b hb fun p hp' => hp p (by simp [hp']))⟩
theorem TouchAll.of_touch (k : Touch w w' A n) : TouchAll w w' [(A, n)] := ⟨k.os, k.tape, k.output, Nat.le_of_eq k.size.symm, fun b _ hp => k.block b (hp (A, n) (by simp))⟩
theorem OwnS.touch (h : OwnS f w B t A' xs) (k : Touch w w' A n) (ha : Apart A n A' xs.length) : OwnS f w' B t A' xs := fun hn => by
  obtain ⟨g, ex, rfl, hB, hb⟩ := h hn
  refine ⟨g, ex, rfl, hB, (k.block g ?_).trans hb⟩
  rcases ha with ha | ha | ha
  · exact .inl ha
  · exact absurd (List.eq_nil_of_length_eq_zero ha) hn
  · exact .inr fun o e => ha g o g 0 e rfl rfl
/-- A slice of another block. -/
theorem OwnS.touchAll (h : OwnS f w B t A' xs) (k : TouchAll w w' l) (ha : ∀ p ∈ l, Apart p.1 p.2 A' xs.length) : OwnS f w' B t A' xs := fun hn => by
  obtain ⟨g, ex, rfl, hB, hb⟩ := h hn
  refine ⟨g, ex, rfl, hB, (k.block g hb.lt fun p hp => ?_).trans hb⟩
  rcases ha p hp with ha | ha | ha
  · exact .inl ha
  · exact absurd (List.eq_nil_of_length_eq_zero ha) hn
  · exact .inr fun o e => ha g o g 0 e rfl rfl
/-- A block of another element type is another block. -/
theorem Blk.touchAll {g : Nat} {cs : List Value} (h : Blk w g t cs) (k : TouchAll w w' l) (ha : ∀ p ∈ l, p.2 = 0 ∨ ∀ o, p.1 ≠ some ⟨g, o, none⟩) : Blk w' g t cs := (k.block g h.lt ha).trans h
theorem OwnS.other {e : TypeId} {g : Nat} {cs : List Value} (h : OwnS f w B e A xs) (hb : Blk w g t cs) (hne : e ≠ t) : xs.length = 0 ∨ ∀ o, A ≠ some ⟨g, o, none⟩ := by
  rcases List.eq_nil_or_concat xs with rfl | ⟨_, _, rfl⟩
  · exact .inl rfl
  · obtain ⟨g', ex, rfl, _, hb'⟩ := h (by simp)
    refine .inr fun o e' => ?_
    injection e' with e'; injection e' with e1 _
    subst e1
    have h1 : w.heap[g']? = _ := hb
    have h2 : w.heap[g']? = _ := hb'
    rw [h1] at h2
    injection h2 with h2
    injection h2 with _ h3
    exact hne h3.symm
/-- A store into a block of another element type. -/
theorem OwnS.setOther {e : TypeId} {q : Nat} {cs : List Value} (h : OwnS f w B e A xs) (hb : Blk w q t cs) (hne : e ≠ t) (i : Nat) (u : Value) : OwnS f (w.setCell ⟨q, i, none⟩ u) B e A xs := fun hn => by
  obtain ⟨g, ex, rfl, hB, hg⟩ := h hn
  refine ⟨g, ex, rfl, hB, hg.far ?_ u⟩
  show g ≠ q
  rintro rfl
  have h1 : w.heap[g]? = _ := hb
  have h2 : w.heap[g]? = _ := hg
  rw [h1] at h2
  injection h2 with h2
  injection h2 with _ h3
  exact hne h3.symm
/-- A slice made from block B' on, and one that lies below it. -/
theorem OwnS.apart_lt {β : Type} {f' : β → Value} {B' : Nat} {e : TypeId} {ys : List β} (h : OwnS f w B t A xs) (h' : OwnS f' w' B' e A' ys) (hw : w.heap.size ≤ B') : Apart A xs.length A' ys.length := by
  rcases List.eq_nil_or_concat xs with rfl | ⟨_, _, rfl⟩
  · exact .inl rfl
  rcases List.eq_nil_or_concat ys with rfl | ⟨_, _, rfl⟩
  · exact .inr (.inl rfl)
  obtain ⟨g, ex, rfl, _, hb⟩ := h (by simp)
  obtain ⟨g', ex', rfl, hB', _⟩ := h' (by simp)
  have := hb.lt
  exact .inr (.inr fun a o a' o' e1 e2 e3 => by
    injection e1 with e1; injection e1 with e1; injection e2 with e2; injection e2 with e2; omega)
end
theorem apart_ne {α β : Type} {g g' : Nat} {xs : List α} {ys : List β} (hne : g ≠ g') : Apart (some ⟨g, 0, none⟩) xs.length (some ⟨g', 0, none⟩) ys.length :=
  .inr (.inr fun a o a' o' e1 e2 e3 => by
    injection e1 with e1; injection e1 with e1; injection e2 with e2; injection e2 with e2; omega)
theorem ret_bool {a b : Bool} (h : a = b) : Ending.returned (.bool a) = .returned (.bool b) := by rw [h]
theorem ret_int {k : IntKind} {a b : Int} (h : a = b) : Ending.returned (.int k a) = .returned (.int k b) := by rw [h]

theorem take_snoc_eq {α : Type} {xs ys : List α} {k : Nat} {x y : α} (h : xs.take k = ys.take k) (hx : Hid (xs[k]? = some x)) (hy : Hid (ys[k]? = some y)) (e : x = y) : xs.take (k + 1) = ys.take (k + 1) := by
  rw [List.take_add_one, List.take_add_one, h, hx.out, hy.out, e]
theorem ne_of_at {α : Type} {xs ys : List α} {k : Nat} {x y : α} (hx : Hid (xs[k]? = some x)) (hy : Hid (ys[k]? = some y)) (e : x ≠ y) : xs ≠ ys := by
  rintro rfl
  have h1 := hx.out; have h2 := hy.out
  rw [h1] at h2
  exact e (by simpa using h2)

/-- What a loop that fills a slice has made so far: the first k of xs, then the rest of what was there. -/
def fillUp {α : Type} (k : Nat) (xs zs : List α) : List α := xs.take k ++ zs.drop k
section
variable {α : Type} {k : Nat} {xs zs : List α} {v : α}
theorem fillUp_zero : fillUp 0 xs zs = zs := by simp [fillUp]
theorem fillUp_all (h1 : xs.length = k) (h2 : zs.length = k) : fillUp k xs zs = xs := by
  simp [fillUp, ← h1, List.take_length, List.drop_of_length_le (show zs.length ≤ xs.length by omega)]
theorem fillUp_length (hx : k ≤ xs.length) (hz : k ≤ zs.length) : (fillUp k xs zs).length = zs.length := by
  simp [fillUp]; omega
theorem fillUp_step (h : xs[k]? = some v) (hz : k < zs.length) : (fillUp k xs zs).set k v = fillUp (k + 1) xs zs := by
  have hk : k < xs.length := by
    rcases Nat.lt_or_ge k xs.length with h1 | h1
    · exact h1
    · rw [List.getElem?_eq_none h1] at h; cases h
  have hl : (xs.take k).length = k := by simp; omega
  unfold fillUp
  rw [List.set_append_right _ _ (by omega), hl, Nat.sub_self, List.drop_eq_getElem_cons hz, List.set_cons_zero, List.take_add_one, h]
  simp
theorem fillUp_at (hx : k ≤ xs.length) : (fillUp k xs zs)[k]? = zs[k]? := by
  unfold fillUp
  rw [List.getElem?_append_right (by simp; omega)]
  have : (xs.take k).length = k := by simp; omega
  simp [this]
end

/-- At place j of a slice of the call's own: the cell is there and may be written; what is written lies there. -/
theorem OwnS.put {α : Type} {f : α → Value} {w : World} {B : Nat} {t : TypeId} {A : Option Addr} {ys : List α} (h : OwnS f w B t A ys) {j : Nat} (hj : j < ys.length) :
    ∃ g u, A = some ⟨g, 0, none⟩ ∧ B ≤ g ∧ w.cell? ⟨g, j, none⟩ = some (f u) ∧ w.frozen? ⟨g, j, none⟩ = false ∧ Hid (ys[j]? = some u) ∧
      ∀ x, Hid (OwnS f (w.setCell ⟨g, j, none⟩ (f x)) B t A (ys.set j x)) := by
  obtain ⟨g, ex, rfl, hB, hb⟩ := h (by rintro rfl; simp at hj)
  refine ⟨g, ys[j], rfl, hB, hb.cell (by rw [List.getElem?_append_left (by simpa using hj)]; simp [hj]), hb.frozen j, by show ys[j]? = _; simp [hj], fun x _ => ⟨g, ex, rfl, hB, ?_⟩⟩
  have := hb.set_ j (f x)
  rw [List.set_append_left _ _ (by simpa using hj), ← List.map_set] at this
  exact this

/-- The marks that a law lays: h of k, k + 1, .. -/
def marks {α : Type} (h : Int → α) (k : Int) (n : Nat) : List α := (List.range n).map fun (j : Nat) => h (k + (j : Int))
theorem marks_length {α : Type} (h : Int → α) (k : Int) (n : Nat) : (marks h k n).length = n := by simp [marks]
theorem marks_at {α : Type} (h : Int → α) (k : Int) {n j : Nat} (hj : j < n) : (marks h k n)[j]? = some (h (k + (j : Int))) := by simp [marks, hj]
def markB (q : Int) : Bool := q % 3 == 0
def markI (q : Int) : Int := q

/-- A slice of the call's own does not lie in the block that comes next. -/
theorem own_new {α : Type} {f : α → Value} {w : World} {B : Nat} {t : TypeId} {A : Option Addr} {xs : List α} (h : OwnS f w B t A xs) : xs.length = 0 ∨ ∀ o, A ≠ some ⟨w.heap.size, o, none⟩ := by
  rcases List.eq_nil_or_concat xs with rfl | ⟨_, _, rfl⟩
  · exact .inl rfl
  · obtain ⟨g, ex, rfl, _, hb⟩ := h (by simp)
    refine .inr fun o e => ?_
    injection e with e; injection e with e
    have := hb.lt
    omega
end Go.Proofs.Ytmmolicodlmlkaa
namespace Go.Proofs.Ytmmolicodlmlkaa
open Go.RowKit

theorem ne_of_length {α : Type} {xs ys : List α} (h : xs.length ≠ ys.length) : xs ≠ ys := fun e => h (by rw [e])

set_option maxHeartbeats 400000 in
theorem eqInt64S_any (A A' : Option Addr) (c c' : Nat) (xs ys : List Int) (w : World) (hx : RdL (Value.int .i64) w A xs) (hy : RdL (Value.int .i64) w A' ys)
    (hn : xs.length ≤ 1048576) :
    Calls Try.prog 15 #[.slice A xs.length c, .slice A' ys.length c'] w fun e w' => e = .returned (.bool (decide (xs = ys))) ∧ ∃ n, w' = w.drewN n := by
  have HX := hid hx
  have HY := hid hy
  clear hx hy
  by_cases hl : xs.length = ys.length
  · have hl' : ((xs.length : Int) == (ys.length : Int)) = true := by simp [hl]
    have HL := hid hl
    clear hl
    go_enter Try.func15, Try.ntmps15
    go_wp2
    go_loopw [5] (fun i wr => ∃ k n : Nat, k ≤ xs.length ∧ i = .int .i64 k ∧ wr = w.drewN n ∧ Hid (xs.take k = ys.take k)) (fun i _ => xs.length - (intOf i).toNat)
    case atStart => exact ⟨0, 0, Nat.zero_le _, rfl, rfl, by show xs.take 0 = ys.take 0; simp⟩
    case round =>
      obtain ⟨k, n, hk, rfl, rfl, hh⟩ := hrel
      by_cases hlt : k < xs.length
      · have hlt' : k < ys.length := by have := HL.out; omega
        have hi : (k : Int) < (xs.length : Int) := by omega
        have hi' : (k : Int) < (ys.length : Int) := by omega
        obtain ⟨b, o, x, rfl, hc, hxk⟩ := HX.out.at_ hlt
        obtain ⟨b', o', y, rfl, hc', hyk⟩ := HY.out.at_ hlt'
        by_cases hxy : x = y
        · have ht : (x == y) = true := by simp [hxy]
          have he := take_snoc_eq hh.out hxk hyk hxy
          have HE : Hid (xs.take (k + 1) = ys.take (k + 1)) := he
          clear hxy he
          go_wp2
          go_quiet (fail)
          go_wp2
          exact ⟨⟨k + 1, _, by omega, by go_num, rfl, HE⟩, by simp [intOf]; omega⟩
        · have ht : (x == y) = false := by simp [hxy]
          have he := ne_of_at hxk hyk hxy
          clear hxy
          go_wp2
          go_quiet (fail)
          go_wp2
          go_ret
          exact ⟨by simp [he], _, World.drewN_drewN _ _ _⟩
      · have hi : ¬ (k : Int) < (xs.length : Int) := by omega
        go_wp2
        go_ret
        have := HL.out
        have hh := hh.out
        rw [List.take_of_length_le (by omega), List.take_of_length_le (by omega)] at hh
        exact ⟨by simp [hh], _, rfl⟩
  · have hl' : ((xs.length : Int) == (ys.length : Int)) = false := by simp; omega
    have hne := ne_of_length hl
    clear hl
    go_enter Try.func15, Try.ntmps15
    go_wp2
    go_ret
    exact ⟨by simp [hne], 0, rfl⟩

theorem szInt64S_yes (A : Option Addr) (n c : Nat) (left : Int) (w : World) (h0 : 0 ≤ left) (h1 : left ≤ 1048576) (h : (n : Int) ≤ left) :
    Calls Try.prog 84 #[.slice A n c, .int .i64 left] w fun e w' => e = .returned (.int .i64 (left - n)) ∧ w = w' := by
  have hb : 0 ≤ left - (n : Int) := by omega
  go_enter Try.func84, Try.ntmps84
  go_wp2
  go_ret
  exact ⟨rfl, rfl⟩
theorem szInt64S_no (A : Option Addr) (n c : Nat) (left : Int) (w : World) (h0 : 0 ≤ left) (h1 : left ≤ 1048576) (hn : n ≤ 9223372036854775807) (h : left < (n : Int)) :
    Calls Try.prog 84 #[.slice A n c, .int .i64 left] w fun e w' => e = .returned (.int .i64 (-1)) ∧ w = w' := by
  have hb : left - (n : Int) < 0 := by omega
  go_enter Try.func84, Try.ntmps84
  go_wp2
  go_ret
  exact ⟨rfl, rfl⟩

theorem Try.infoInt64S : (Try.prog.info? 2).map (fun i => (i.zero, i.size, i.bytes)) = some (some (.int .i64 0), 1, 8) := by kernel_rfl

set_option maxHeartbeats 400000 in
theorem toInt64S_any (A : Option Addr) (c : Nat) (xs : List Int) (w : World) (hx : RdL (Value.int .i64) w A xs) (hn : xs.length ≤ 1048576) :
    Calls Try.prog 13 #[.slice A xs.length c] w fun e w' => ∃ g, e = .returned (.slice (some ⟨g, 0, none⟩) xs.length xs.length) ∧ w.heap.size ≤ g ∧
      Blk w' g 2 (xs.map (Value.int .i64)) ∧ Below w.heap.size w w' := by
  have hmk := run_make_row' (P := Try.prog) 22 2 (.int .i64 0) 8 Try.underlying22 Try.infoInt64S rfl .i64 .i64 xs.length (by omega) (by omega)
  have HX := hid hx
  clear hx
  go_enter Try.func13, Try.ntmps13
  go_wp2
  have hB0 : Hid (Blk (w.alloc (.cells (madeCells #[.int .i64 0] xs.length) 2)) w.heap.size 2 (fillUp 0 (xs.map (Value.int .i64)) (List.replicate xs.length (.int .i64 0)))) := by
    rw [fillUp_zero]; exact Blk.made _ _ _ _
  have hW0 : Hid (Below w.heap.size w (w.alloc (.cells (madeCells #[.int .i64 0] xs.length) 2))) := (Below.refl _ _).alloc (Nat.le_refl _) _
  clear hmk
  go_loopw [4] (fun i wr => ∃ k : Nat, k ≤ xs.length ∧ i = .int .i64 k ∧ Hid (Blk wr w.heap.size 2 (fillUp k (xs.map (Value.int .i64)) (List.replicate xs.length (.int .i64 0)))) ∧ Hid (Below w.heap.size w wr))
    (fun i _ => xs.length - (intOf i).toNat)
  case atStart => exact ⟨0, Nat.zero_le _, rfl, hB0, hW0⟩
  case round =>
    clear hB0 hW0
    obtain ⟨k, hk, rfl, hB, hW⟩ := hrel
    by_cases hlt : k < xs.length
    · have hi : (k : Int) < (xs.length : Int) := by omega
      obtain ⟨b, o, x, rfl, hc, hxk⟩ := (HX.out.below hW.out).at_ hlt
      have hoc := hB.out.cell (i := k) (v := .int .i64 0) (by rw [fillUp_at (by simp; omega)]; simp [hlt])
      have hof := hB.out.frozen k
      have hB1 : Hid (Blk (wr.setCell ⟨w.heap.size, k, none⟩ ((Value.int .i64) x)) w.heap.size 2 (fillUp (k + 1) (xs.map (Value.int .i64)) (List.replicate xs.length (.int .i64 0)))) := by
        rw [← fillUp_step (v := (Value.int .i64) x) (by simp [hxk.out]) (by simp; omega)]; exact hB.out.set_ _ _
      have hW1 : Hid (Below w.heap.size w (wr.setCell ⟨w.heap.size, k, none⟩ ((Value.int .i64) x))) := hW.out.setCell (Nat.le_refl _) _
      clear hB hW
      go_wp2
      exact ⟨⟨k + 1, by omega, by go_num, hB1, hW1⟩, by simp [intOf]; omega⟩
    · have hi : ¬ (k : Int) < (xs.length : Int) := by omega
      go_wp2
      go_ret
      have hkl : k = xs.length := by omega
      have hB1 := hB.out
      rw [fillUp_all (by simp; omega) (by simp; omega)] at hB1
      exact ⟨_, rfl, Nat.le_refl _, hB1, hW.out⟩

set_option maxHeartbeats 400000 in
theorem markInt64S_any (A : Option Addr) (c B : Nat) (xs : List Int) (q : Int) (w : World) (hx : OwnS (Value.int .i64) w B 2 A xs) (hn : xs.length ≤ 1048576) (hq0 : 0 ≤ q) (hq1 : q ≤ 1073741824) :
    Calls Try.prog 16 #[.slice A xs.length c, .int .i64 q] w fun e w' => e = .returned (.int .i64 (q + xs.length)) ∧
      OwnS (Value.int .i64) w' B 2 A (marks markI q xs.length) ∧ Touch w w' A xs.length := by
  have H0 : Hid (OwnS (Value.int .i64) w B 2 A (fillUp 0 (marks markI q xs.length) xs)) := by rw [fillUp_zero]; exact hx
  clear hx
  go_enter Try.func16, Try.ntmps16
  go_wp2
  go_loopw [1, 5] (fun u i wr => ∃ k : Nat, k ≤ xs.length ∧ i = .int .i64 k ∧ u = .int .i64 (q + k) ∧ Hid (OwnS (Value.int .i64) wr B 2 A (fillUp k (marks markI q xs.length) xs)) ∧ Hid (Touch w wr A xs.length))
    (fun _ i _ => xs.length - (intOf i).toNat)
  case atStart => exact ⟨0, Nat.zero_le _, rfl, by go_num, H0, Touch.refl⟩
  case round =>
    clear H0
    obtain ⟨k, hk, rfl, rfl, hO, hT⟩ := hrel
    by_cases hlt : k < xs.length
    · have hi : (k : Int) < (xs.length : Int) := by omega
      obtain ⟨g, u, rfl, hBg, hc, hf, hu, hput⟩ := hO.out.put (j := k) (by rw [fillUp_length (by rw [marks_length]; omega) (by omega)]; exact hlt)
      have hO1 := hput (markI (q + k))
      rw [fillUp_step (marks_at _ _ hlt) hlt] at hO1
      have hT1 : Hid (Touch w (wr.setCell ⟨g, k, none⟩ ((Value.int .i64) (markI (q + k)))) (some ⟨g, 0, none⟩) xs.length) := hT.out.set_ (by omega) _ _
      clear hput hO hT hu
      go_wp2
      exact ⟨⟨k + 1, by omega, by go_num, by go_num, hO1, hT1⟩, by simp [intOf]; omega⟩
    · have hi : ¬ (k : Int) < (xs.length : Int) := by omega
      go_wp2
      go_ret
      obtain rfl : k = xs.length := by omega
      have hO1 := hO.out
      rw [fillUp_all (marks_length _ _ _) rfl] at hO1
      exact ⟨rfl, hO1, hT.out⟩

set_option maxHeartbeats 400000 in
theorem heldInt64S_yes (A : Option Addr) (n c : Nat) (q : Int) (w : World) (hx : RdL (Value.int .i64) w A (marks markI q n)) (hn : n ≤ 1048576) (hq0 : 0 ≤ q) (hq1 : q ≤ 1073741824) :
    Calls Try.prog 17 #[.slice A n c, .int .i64 q] w fun e w' => e = .returned (.int .i64 (q + n)) ∧ w = w' := by
  have HX := hid hx
  clear hx
  go_enter Try.func17, Try.ntmps17
  go_wp2
  go_loop [1, 5] (fun u i => ∃ k : Nat, k ≤ n ∧ i = .int .i64 k ∧ u = .int .i64 (q + k)) (fun _ i => n - (intOf i).toNat)
  case atStart => exact ⟨0, Nat.zero_le _, rfl, by go_num⟩
  case round =>
    obtain ⟨k, hk, rfl, rfl⟩ := hrel
    by_cases hlt : k < n
    · have hi : (k : Int) < (n : Int) := by omega
      obtain ⟨b, o, x, rfl, hc, hxk⟩ := HX.out.at_ (k := k) (by rw [marks_length]; exact hlt)
      have hx2 := hxk.out
      rw [marks_at _ _ hlt] at hx2
      obtain rfl : markI (q + k) = x := by simpa using hx2
      clear hx2 hxk HX
      simp only [markI] at hc
      go_wp2
      exact ⟨⟨k + 1, by omega, by go_num, by go_num⟩, by simp [intOf]; omega⟩
    · have hi : ¬ (k : Int) < (n : Int) := by omega
      obtain rfl : k = n := by omega
      go_wp2
      go_ret
      exact ⟨rfl, rfl⟩

end Go.Proofs.Ytmmolicodlmlkaa
namespace Go.Proofs.Ytmmolicodlmlkaa
open Go.ChangeShapes Go.WideShapes Go.ChangeAt Go.RowKit Go.Deep

theorem below_of_draw {w w' : World} {n : Nat} (h : w' = w.drewN n) : Below w.heap.size w w' := by rw [h]; exact below_drewN (Below.refl _ _) n

/-- The number fits an int64. -/
def W64 (a : Int) : Prop := (Lit.int .i64 a).wf = true
theorem W64.bounds {a : Int} (h : W64 a) : -9223372036854775808 ≤ a ∧ a ≤ 9223372036854775807 := by
  simpa [W64, Lit.wf, IntKind.min, IntKind.max, IntKind.signed, IntKind.bits] using h

section
variable {H : Type} {enc : TypeId × Value → H} {P : Program} {w : World}

theorem open_intL {t e : TypeId} {fuel : Nat} {v : Value} {x : DataW H × List MemPlace} (ht : P.underlying t = some (.slice e)) (he : P.underlying e = some (.int .i64)) (hc : P.cellsOf e = 1)
    (h : DataW.trod enc P w 0 (fun _ => true) true fuel t [v] = some x) :
    ∃ A c xs n, v = .slice A n c ∧ Hid (xs.length = n) ∧ n ≤ 9223372036854775807 ∧ RdL (Value.int .i64) w A xs ∧ ∀ x ∈ xs, W64 x := by
  rcases open_ints ht he hc h with ⟨hcs, _⟩ | ⟨a, len, cap, zs, hcs, _, hl, hm, hz, _, hcell, hwz⟩
  · simp at hcs
    subst hcs
    exact ⟨none, 0, [], 0, rfl, rfl, by omega, RdL.nil, by simp⟩
  · simp at hcs hz
    subst hcs
    obtain ⟨b, o, spot⟩ := a
    refine ⟨some ⟨b, o, spot⟩, cap, zs.take len, len, rfl, ?_, ?_, ?_, fun y hy => hwz y (List.mem_of_mem_take hy)⟩
    · show (zs.take len).length = len
      simp; omega
    · simp only [maxLen] at hm; omega
    · intro j hj
      have hj' : j < len ∧ j < zs.length := by
        have h0 : j < (zs.take len).length := hj
        simp at h0; omega
      have hs : spot = none := by simpa [Addr.add] using World.cell?_spot (hcell 0 (by omega))
      subst hs
      refine ⟨b, o, rfl, ?_⟩
      have := hcell j hj'.2
      rw [show (⟨b, o, none⟩ : Addr).add j = ⟨b, o + j, none⟩ from by unfold Addr.add; split <;> simp_all] at this
      rw [this]
      simp [hj'.2]

theorem open_boolL {t e : TypeId} {fuel : Nat} {v : Value} {x : DataW H × List MemPlace} (ht : P.underlying t = some (.slice e)) (he : P.underlying e = some .bool) (hc : P.cellsOf e = 1)
    (h : DataW.trod enc P w 0 (fun _ => true) true fuel t [v] = some x) :
    ∃ A c xs n, v = .slice A n c ∧ Hid (xs.length = n) ∧ n ≤ 9223372036854775807 ∧ RdL Value.bool w A xs := by
  rcases open_bools ht he hc h with ⟨hcs, _⟩ | ⟨a, len, cap, Bf, hcs, _, hl, hm, _, hcell⟩
  · simp at hcs
    subst hcs
    exact ⟨none, 0, [], 0, rfl, rfl, by omega, RdL.nil⟩
  · simp at hcs
    subst hcs
    obtain ⟨b, o, spot⟩ := a
    refine ⟨some ⟨b, o, spot⟩, cap, (List.range len).map Bf, len, rfl, ?_, ?_, ?_⟩
    · show ((List.range len).map Bf).length = len
      simp
    · simp only [maxLen] at hm; omega
    · intro j hj
      have hj' : j < len := by simpa using hj
      have hs : spot = none := by simpa [Addr.add] using World.cell?_spot (hcell 0 (by omega))
      subst hs
      refine ⟨b, o, rfl, ?_⟩
      have := hcell j (by omega)
      rw [show (⟨b, o, none⟩ : Addr).add j = ⟨b, o + j, none⟩ from by unfold Addr.add; split <;> simp_all] at this
      rw [this]
      simp
end

end Go.Proofs.Ytmmolicodlmlkaa
namespace Go.Proofs.Ytmmolicodlmlkaa
open Go.RowKit

theorem Try.infoI : (Try.prog.info? 2).map (fun i => (i.zero, i.size, i.bytes)) = some (some (.int .i64 0), 1, 8) := by kernel_rfl

theorem ret_bool2 {a b a' b' : Bool} (h : a = a') (h' : b = b') : Ending.returned (.tuple #[.bool a, .bool b]) = .returned (.tuple #[.bool a', .bool b']) := by rw [h, h']
theorem ret_int2 {k : IntKind} {a a' : Int} {b b' : Bool} (h : a = a') (h' : b = b') : Ending.returned (.tuple #[.int k a, .bool b]) = .returned (.tuple #[.int k a', .bool b']) := by rw [h, h']

/-- A callee that leaves the world alone, inside a region that only draws, where draws went before. -/
theorem quiet_more {P : Program} {f : FuncId} {args : Array Value} {w : World} {a n : Nat} {v : Value}
    (h : Calls P f args (w.drewN (a + n)) fun e w' => e = .returned v ∧ w.drewN (a + n) = w') : Calls P f args (w.drewN (a + n)) fun e w'' => e = .returned v ∧ ∃ m, w'' = w.drewN (a + m) :=
  h.mono fun _ _ ⟨he, hm⟩ => ⟨he, n, hm.symm⟩

/-- It hands back a slice of its own that holds xs; nothing that was there has changed. -/
def RetL {α : Type} (f : α → Value) (t : TypeId) (w : World) (xs : List α) (e : Ending) (w' : World) : Prop :=
  ∃ A c, e = .returned (.slice A xs.length c) ∧ OwnS f w' w.heap.size t A xs ∧ Below w.heap.size w w'

/-- A slice built by append, as a slice of the call's own. -/
theorem ownS_of_row {α : Type} {f : α → Value} {w : World} {B : Nat} {e : TypeId} {v : Value} {n : Nat} {xs : List α} (h : w.ownsRow B e 1 v n (xs.map f)) (hl : xs.length = n) :
    ∃ A c, v = .slice A xs.length c ∧ OwnS f w B e A xs := by
  subst hl
  obtain ⟨hn, h | ⟨g, cap, cur, hv, hB, hg, hc, hm, hs, ht⟩⟩ := h
  · obtain ⟨rfl, h0⟩ := h
    obtain rfl : xs = [] := List.eq_nil_of_length_eq_zero h0
    exact ⟨none, 0, rfl, OwnS.nil⟩
  · refine ⟨some ⟨g, 0, none⟩, cap, hv, fun _ => ⟨g, cur.toList.drop xs.length, rfl, hB, ?_⟩⟩
    unfold Blk
    rw [hg]
    have : xs.map f ++ cur.toList.drop xs.length = cur.toList := by
      rw [← ht, Nat.mul_one, List.take_append_drop]
    rw [this]


end Go.Proofs.Ytmmolicodlmlkaa
namespace Go.Proofs.Ytmmolicodlmlkaa
open Go.RowKit
set_option linter.unusedVariables false

/-- One of a slice of cells: its integers, and where its counts lie. -/
structure Lay where
  a : Int
  b : Int
  s : Int
  A : Option Addr
  c : Nat
  x : List Int
/-- What it holds, without places. -/
def Lay.plain (e : Lay) : Int × Int × Int × List Int := (e.a, e.b, e.s, e.x)
def Lay.cells (e : Lay) : List Value := [.int .i64 e.a, .int .i64 e.b, .int .i64 e.s, .slice e.A e.x.length e.c]
def flatL (L : List Lay) : List Value := L.flatMap Lay.cells
theorem flatL_length (L : List Lay) : (flatL L).length = 4 * L.length := by
  induction L with
  | nil => rfl
  | cons e L ih => simp only [flatL, List.flatMap_cons, List.length_append, List.length_cons] at ih ⊢; rw [ih]; simp [Lay.cells]; omega
theorem flatL_append (L L' : List Lay) : flatL (L ++ L') = flatL L ++ flatL L' := by simp [flatL]
theorem flatL_one (e : Lay) : flatL [e] = e.cells := by simp [flatL]
theorem flatL_at {L : List Lay} {i : Nat} {e : Lay} (h : L[i]? = some e) {j : Nat} (hj : j < 4) : (flatL L)[4 * i + j]? = e.cells[j]? := by
  obtain ⟨hi, rfl⟩ := List.getElem?_eq_some_iff.1 h
  have h1 : L = L.take i ++ L[i] :: L.drop (i + 1) := by rw [← List.drop_eq_getElem_cons hi, List.take_append_drop]
  have h2 : flatL L = flatL (L.take i) ++ (L[i].cells ++ flatL (L.drop (i + 1))) := by
    conv => lhs; rw [h1]
    rw [flatL_append, ← List.singleton_append, flatL_append, flatL_one]
  have hl : (flatL (L.take i)).length = 4 * i := by rw [flatL_length, List.length_take]; congr 1; omega
  rw [h2, List.getElem?_append_right (by omega), hl, List.getElem?_append_left (by simp [Lay.cells]; omega)]
  congr 1; omega
theorem flatL_set {L : List Lay} {i : Nat} {e e' : Lay} (h : L[i]? = some e) {j : Nat} (hj : j < 4) {u : Value} (he : e.cells.set j u = e'.cells) : (flatL L).set (4 * i + j) u = flatL (L.set i e') := by
  obtain ⟨hi, rfl⟩ := List.getElem?_eq_some_iff.1 h
  have h1 : L = L.take i ++ L[i] :: L.drop (i + 1) := by rw [← List.drop_eq_getElem_cons hi, List.take_append_drop]
  have h2 : flatL L = flatL (L.take i) ++ (L[i].cells ++ flatL (L.drop (i + 1))) := by
    conv => lhs; rw [h1]
    rw [flatL_append, ← List.singleton_append, flatL_append, flatL_one]
  have h3 : L.set i e' = L.take i ++ e' :: L.drop (i + 1) := by
    apply List.ext_getElem?
    intro k
    rw [List.getElem?_set]
    by_cases hk : i = k
    · subst hk
      rw [if_pos rfl, if_pos hi, List.getElem?_append_right (by simp; omega)]
      simp [Nat.min_eq_left (Nat.le_of_lt hi)]
    · rw [if_neg hk]
      conv => lhs; rw [h1]
      by_cases hk2 : k < i
      · rw [List.getElem?_append_left (by simp; omega), List.getElem?_append_left (by simp; omega)]
      · rw [List.getElem?_append_right (by simp; omega), List.getElem?_append_right (by simp; omega)]
        simp only [List.length_take, Nat.min_eq_left (Nat.le_of_lt hi)]
        obtain ⟨m, rfl⟩ : ∃ m, k = i + 1 + m := ⟨k - (i + 1), by omega⟩
        rw [show i + 1 + m - i = m + 1 by omega, List.getElem?_cons_succ, List.getElem?_cons_succ]
  have hl : (flatL (L.take i)).length = 4 * i := by rw [flatL_length, List.length_take]; congr 1; omega
  rw [h2, h3, flatL_append, ← List.singleton_append, flatL_append, flatL_one, List.set_append_right _ _ (by omega), hl, show 4 * i + j - 4 * i = j by omega, List.set_append_left _ _ (by simp [Lay.cells]; omega), he]

/-- The slice of cells at A reads as L. -/
def RdC (w : World) (A : Option Addr) (L : List Lay) : Prop :=
  ∀ (i : Nat) (e : Lay), L[i]? = some e → (∃ g o, A = some ⟨g, o, none⟩ ∧ w.cell? ⟨g, o + i * 4, none⟩ = some (.int .i64 e.a) ∧ w.cell? ⟨g, o + i * 4 + 1, none⟩ = some (.int .i64 e.b) ∧ w.cell? ⟨g, o + i * 4 + 2, none⟩ = some (.int .i64 e.s) ∧
    w.cell? ⟨g, o + i * 4 + 3, none⟩ = some (.slice e.A e.x.length e.c)) ∧ RdL (Value.int .i64) w e.A e.x
theorem RdC.below {w w' : World} {A : Option Addr} {L : List Lay} (h : RdC w A L) (hb : Below w.heap.size w w') : RdC w' A L := fun i e he => by
  obtain ⟨⟨g, o, hA, h0, h1, h2, h3⟩, h4⟩ := h i e he
  have hlt : g < w.heap.size := World.block_lt_of_cell? w _ h0
  have := fun p => (bcell hb).1 g p hlt
  exact ⟨⟨g, o, hA, by rw [this]; exact h0, by rw [this]; exact h1, by rw [this]; exact h2, by rw [this]; exact h3⟩, h4.below hb⟩

/-- A slice of cells of the call's own, from block B on: block and counts. -/
structure OwnC (w : World) (B : Nat) (A : Option Addr) (L : List Lay) : Prop where
  blk : L ≠ [] → ∃ g ex, A = some ⟨g, 0, none⟩ ∧ B ≤ g ∧ Blk w g 37 (flatL L ++ ex)
  own : ∀ (i : Nat) (e : Lay), L[i]? = some e → OwnS (Value.int .i64) w B 2 e.A e.x
  apart : ∀ (i j : Nat) (e e' : Lay), i ≠ j → L[i]? = some e → L[j]? = some e' → Apart e.A e.x.length e'.A e'.x.length

section
variable {w w' : World} {B : Nat} {A : Option Addr} {L : List Lay}
theorem OwnC.rd (h : OwnC w B A L) : RdC w A L := fun i e he => by
  have hne : L ≠ [] := by rintro rfl; simp at he
  obtain ⟨g, ex, rfl, hB, hb⟩ := h.blk hne
  have hlt : i < L.length := (List.getElem?_eq_some_iff.1 he).1
  have hc : ∀ j u, j < 4 → e.cells[j]? = some u → w.cell? ⟨g, 4 * i + j, none⟩ = some u := fun j u hj hu => hb.cell (by rw [List.getElem?_append_left (by rw [flatL_length]; omega), flatL_at he hj, hu])
  refine ⟨⟨g, 0, rfl, ?_, ?_, ?_, ?_⟩, (h.own i e he).rd⟩
  · rw [Nat.zero_add, Nat.mul_comm]; exact hc 0 _ (by omega) rfl
  · rw [Nat.zero_add, Nat.mul_comm]; exact hc 1 _ (by omega) rfl
  · rw [Nat.zero_add, Nat.mul_comm]; exact hc 2 _ (by omega) rfl
  · rw [Nat.zero_add, Nat.mul_comm]; exact hc 3 _ (by omega) rfl
theorem OwnC.below (h : OwnC w B A L) (hb : Below w.heap.size w w') : OwnC w' B A L := by
  refine ⟨fun hn => ?_, fun i e he => (h.own i e he).below hb, h.apart⟩
  obtain ⟨g, ex, hA, hB, hg⟩ := h.blk hn
  exact ⟨g, ex, hA, hB, hg.below hb⟩
theorem OwnC.mono (h : OwnC w B A L) {B' : Nat} (hB : B' ≤ B) : OwnC w B' A L := by
  refine ⟨fun hn => ?_, fun i e he => (h.own i e he).mono hB, h.apart⟩
  obtain ⟨g, ex, hA, hg, hb⟩ := h.blk hn
  exact ⟨g, ex, hA, by omega, hb⟩
/-- A cell of element i: it is there and may be written; what is written lies there. -/
theorem OwnC.put (h : OwnC w B A L) {i : Nat} {e : Lay} (he : L[i]? = some e) {j : Nat} (hj : j < 4) {v u : Value} {e' : Lay} (hv : e.cells[j]? = some v) (hu : e.cells.set j u = e'.cells) (hA' : e'.A = e.A) (hx : e'.x = e.x) :
    ∃ g, A = some ⟨g, 0, none⟩ ∧ B ≤ g ∧ w.cell? ⟨g, i * 4 + j, none⟩ = some v ∧ w.frozen? ⟨g, i * 4 + j, none⟩ = false ∧ OwnC (w.setCell ⟨g, i * 4 + j, none⟩ u) B A (L.set i e') := by
  rw [Nat.mul_comm i 4]
  have hne : L ≠ [] := by rintro rfl; simp at he
  obtain ⟨g, ex, rfl, hB, hb⟩ := h.blk hne
  have hlt : i < L.length := (List.getElem?_eq_some_iff.1 he).1
  have hla : (L.set i e')[i]? = some e' := by simp [hlt]
  refine ⟨g, rfl, hB, hb.cell (by rw [List.getElem?_append_left (by rw [flatL_length]; omega), flatL_at he hj, hv]), hb.frozen _, ⟨fun _ => ⟨g, ex, rfl, hB, ?_⟩, fun k f hk => ?_, fun k l f f' hkl hk hl => ?_⟩⟩
  · have := hb.set_ (4 * i + j) u
    rw [List.set_append_left _ _ (by rw [flatL_length]; omega), flatL_set he hj hu] at this
    exact this
  · by_cases hki : k = i
    · subst hki
      rw [hla] at hk
      injection hk with hk
      subst hk
      rw [hA', hx]
      exact (h.own k e he).setOther hb (by decide) _ _
    · rw [List.getElem?_set_ne (fun q => hki q.symm)] at hk
      exact (h.own k f hk).setOther hb (by decide) _ _
  · have key : ∀ (k : Nat) (f : Lay), (L.set i e')[k]? = some f → ∃ f0 : Lay, L[k]? = some f0 ∧ f.A = f0.A ∧ f.x = f0.x := fun k f hk => by
      by_cases hki : k = i
      · subst hki
        rw [hla] at hk
        injection hk with hk
        subst hk
        exact ⟨e, he, hA', hx⟩
      · rw [List.getElem?_set_ne (fun q => hki q.symm)] at hk
        exact ⟨f, hk, rfl, rfl⟩
    obtain ⟨f0, h1, h2, h3⟩ := key k f hk
    obtain ⟨f1, h4, h5, h6⟩ := key l f' hl
    rw [h2, h3, h5, h6]
    exact h.apart k l f0 f1 hkl h1 h4
/-- The counts of element i, written. -/
theorem OwnC.counts (h : OwnC w B A L) {i : Nat} {e e' : Lay} (he : L[i]? = some e) (ht : Touch w w' e.A e.x.length) (ho : OwnS (Value.int .i64) w' B 2 e'.A e'.x) (hc : e'.cells = e.cells) (hA' : e'.A = e.A) (hx : e'.x.length = e.x.length) : OwnC w' B A (L.set i e') := by
  have hlt : i < L.length := (List.getElem?_eq_some_iff.1 he).1
  have hla : (L.set i e')[i]? = some e' := by simp [hlt]
  refine ⟨fun _ => ?_, fun k f hk => ?_, fun k l f f' hkl hk hl => ?_⟩
  · have hne : L ≠ [] := by rintro rfl; simp at he
    obtain ⟨g, ex, rfl, hB, hb⟩ := h.blk hne
    refine ⟨g, ex, rfl, hB, ?_⟩
    have h1 : flatL (L.set i e') = flatL L := by
      have := flatL_set he (j := 0) (by omega) (u := .int .i64 e.a) (e' := e') (by rw [hc]; rfl)
      rw [← this]
      have h5 : (flatL L)[4 * i + 0]? = some (Value.int .i64 e.a) := by rw [flatL_at he (by omega)]; rfl
      apply List.ext_getElem?
      intro k
      rw [List.getElem?_set]
      by_cases hk : 4 * i + 0 = k
      · subst hk; rw [if_pos rfl, if_pos (List.getElem?_eq_some_iff.1 h5).1, h5]
      · rw [if_neg hk]
    rw [h1]
    exact (ht.block g ((h.own i e he).other hb (by decide))).trans hb
  · by_cases hki : k = i
    · subst hki
      rw [hla] at hk
      injection hk with hk
      subst hk
      exact ho
    · rw [List.getElem?_set_ne (fun q => hki q.symm)] at hk
      exact (h.own k f hk).touch ht (h.apart i k e f (fun q => hki q.symm) he hk)
  · have key : ∀ (k : Nat) (f : Lay), (L.set i e')[k]? = some f → ∃ f0 : Lay, L[k]? = some f0 ∧ f.A = f0.A ∧ f.x.length = f0.x.length := fun k f hk => by
      by_cases hki : k = i
      · subst hki
        rw [hla] at hk
        injection hk with hk
        subst hk
        exact ⟨e, he, hA', hx⟩
      · rw [List.getElem?_set_ne (fun q => hki q.symm)] at hk
        exact ⟨f, hk, rfl, rfl⟩
    obtain ⟨f0, h1, h2, h3⟩ := key k f hk
    obtain ⟨f1, h4, h5, h6⟩ := key l f' hl
    rw [h2, h3, h5, h6]
    exact h.apart k l f0 f1 hkl h1 h4
end
end Go.Proofs.Ytmmolicodlmlkaa
namespace Go.Proofs.Ytmmolicodlmlkaa
open Go.RowKit
set_option linter.unusedVariables false

theorem Try.infoC : (Try.prog.info? 37).map (fun i => (i.zero, i.size, i.bytes)) = some (some (.agg #[.int .i64 0, .int .i64 0, .int .i64 0, .slice none 0 0]), 4, 48) := by kernel_rfl

theorem OwnS.grown {α : Type} {f : α → Value} {w w' : World} {B : Nat} {t : TypeId} {A : Option Addr} {xs : List α} {row : Option Nat} (h : OwnS f w B t A xs) (hg : w.grownBy w' row) (hne : ∀ g, row = some g → xs.length = 0 ∨ ∀ o, A ≠ some ⟨g, o, none⟩) : OwnS f w' B t A xs := fun hn => by
  obtain ⟨g, ex, rfl, hB, hb⟩ := h hn
  refine ⟨g, ex, rfl, hB, (hg.block g hb.lt fun e => ?_).trans hb⟩
  rcases hne g e.symm with h0 | h0
  · exact hn (List.eq_nil_of_length_eq_zero h0)
  · exact h0 0 rfl
/-- v is a slice of cells of the call's own that holds L, as append leaves it. -/
structure OwnVC (w : World) (B : Nat) (v : Value) (L : List Lay) : Prop where
  row : w.ownsRow B 37 4 v L.length (flatL L)
  own : ∀ (i : Nat) (e : Lay), L[i]? = some e → OwnS (Value.int .i64) w B 2 e.A e.x
  apart : ∀ (i j : Nat) (e e' : Lay), i ≠ j → L[i]? = some e → L[j]? = some e' → Apart e.A e.x.length e'.A e'.x.length
theorem OwnVC.made (w : World) {B : Nat} (hB : B ≤ w.heap.size) : OwnVC (w.alloc (.cells #[] 37)) B (.slice (some ⟨w.heap.size, 0, none⟩) 0 0) [] :=
  ⟨World.ownsRow_made w #[] 0 hB (Nat.zero_le _) rfl, fun i e h => by simp at h, fun i j e e' _ h => by simp at h⟩
theorem OwnVC.below {w w' : World} {B : Nat} {v : Value} {L : List Lay} (h : OwnVC w B v L) (hb : Below w.heap.size w w') : OwnVC w' B v L := by
  refine ⟨?_, fun i e he => (h.own i e he).below hb, h.apart⟩
  obtain ⟨hn, h | ⟨g, cap, cur, hv, hB, hg, hc, hm, hs, ht⟩⟩ := h.row
  · exact ⟨hn, .inl h⟩
  · exact ⟨hn, .inr ⟨g, cap, cur, hv, hB, (hb.block g (Array.getElem?_eq_some_iff.1 hg).1).trans hg, hc, hm, hs, ht⟩⟩
theorem OwnVC.parts {w : World} {B : Nat} {v : Value} {L : List Lay} (h : OwnVC w B v L) : ∃ A c, v = .slice A L.length c ∧ OwnC w B A L := by
  obtain ⟨hn, h1 | ⟨g, cap, cur, hv, hB, hg, hc, hm, hs, ht⟩⟩ := h.row
  · obtain ⟨rfl, h0⟩ := h1
    obtain rfl : L = [] := List.eq_nil_of_length_eq_zero h0
    exact ⟨none, 0, rfl, ⟨fun q => absurd rfl q, h.own, h.apart⟩⟩
  · refine ⟨some ⟨g, 0, none⟩, cap, hv, ⟨fun _ => ⟨g, cur.toList.drop (L.length * 4), rfl, hB, ?_⟩, h.own, h.apart⟩⟩
    unfold Blk
    rw [hg, ← ht, List.take_append_drop]

/-- The cells to be appended, out of a block that is known whole. -/
theorem World.news_of_block' {w : World} {B : Nat} {cs : Array Value} {t : TypeId} {fr : Nat × Nat} (hb : w.heap[B]? = some (.cells cs t fr)) : ∀ j u, cs.toList[j]? = some u → w.cell? ((⟨B, 0, none⟩ : Addr).add j) = some u := fun j u hu => by
  have hadd : (⟨B, 0, none⟩ : Addr).add j = ⟨B, j, none⟩ := by unfold Addr.add; split <;> simp_all
  rw [hadd, cell_of_row w B j cs t fr hb]
  simpa using hu

theorem app_lay {ops : Array Oper} {rest : List Oper} {o : Oper} {a : Act} {Q : Exit → Act → World → Prop} (hgd : o.guard = none) (s x : Operand)
    (ho : o.op = .call { callee := .builtin .append, args := #[s, x], argTypes := #[78, 78] })
    (e : Lay) {w0 wr : World} {B : Nat} {v : Value} {L : List Lay} (hown : OwnVC wr B v L) (hB : Below B w0 wr) (he : OwnS (Value.int .i64) wr B 2 e.A e.x)
    (hap : ∀ (i : Nat) (f : Lay), L[i]? = some f → Apart f.A f.x.length e.A e.x.length) (hs : a.eval s = v) (hx : a.eval x = .slice (some ⟨wr.heap.size, 0, none⟩) 1 1)
    (hl : L.length ≤ 1048576) (hsz : B ≤ wr.heap.size)
    (h : ∀ v' w', Hid (OwnVC w' B v' (L ++ [e])) → Hid (Below B w0 w') → wpList Try.prog ops Q rest (a.put o.dst v') w') :
    wpList Try.prog ops Q (o :: rest) a (wr.alloc (.cells #[.int .i64 e.a, .int .i64 e.b, .int .i64 e.s, .slice e.A e.x.length e.c] 37)) := by
  obtain ⟨i0, hi0, hz0, hz1, hz2⟩ := info_parts Try.infoC
  have hrow : World.ownsRow (wr.alloc (.cells #[.int .i64 e.a, .int .i64 e.b, .int .i64 e.s, .slice e.A e.x.length e.c] 37)) B 37 4 v L.length (flatL L) := World.ownsRow.alloc hown.row _
  refine wpList_append_own _ hgd s x 78 ho B 37 i0 (.agg #[.int .i64 0, .int .i64 0, .int .i64 0, .slice none 0 0]) 4 48 Try.underlying78 hi0 hz0 hz1 hz2 rfl (by decide) v L.length _ hs hrow ⟨wr.heap.size, 0, none⟩ 1 1 e.cells hx rfl ?_ ?_ ?_ ?_ ?_ ?_
  · exact World.news_of_block' (cs := #[.int .i64 e.a, .int .i64 e.b, .int .i64 e.s, .slice e.A e.x.length e.c]) (heap_alloc_new wr _)
  · intro u hu; simp only [Lay.cells, List.mem_cons, List.not_mem_nil, or_false] at hu; rcases hu with rfl | rfl | rfl | rfl <;> rfl
  · simp only [maxLen]; omega
  · omega
  · simp; omega
  · intro v' w1 hown' hgrow _
    have hne : ∀ {A : Option Addr} {xs : List Int} {w : World}, w = wr.alloc (.cells #[.int .i64 e.a, .int .i64 e.b, .int .i64 e.s, .slice e.A e.x.length e.c] 37) → OwnS (Value.int .i64) w B 2 A xs → ∀ g, v.ownBlock = some g → xs.length = 0 ∨ ∀ o, A ≠ some ⟨g, o, none⟩ := by
      rintro A xs w rfl hoS g hg
      obtain ⟨hn, h1 | ⟨g', cap, cur, hv, hB', hgg, hc, hm, hs', ht⟩⟩ := hrow
      · rw [h1.1] at hg; cases hg
      · rw [hv] at hg
        have hgg' : g' = g := by simpa [Value.ownBlock] using hg
        subst hgg'
        exact OwnS.other hoS (t := 37) (cs := cur.toList) (by unfold Blk; simpa using hgg) (by decide)
    have hbel : Below wr.heap.size wr (wr.alloc (.cells #[.int .i64 e.a, .int .i64 e.b, .int .i64 e.s, .slice e.A e.x.length e.c] 37)) := Below.alloc (Below.refl _ _) (Nat.le_refl _) _
    refine h v' w1 ⟨?_, fun i f hf => ?_, fun i j f f' hij hf hf' => ?_⟩ ?_
    · have e1 : (L ++ [e]).length = L.length + 1 := by simp
      rw [e1, flatL_append, flatL_one]; exact hown'
    · by_cases hi : i < L.length
      · rw [List.getElem?_append_left hi] at hf
        have h2 := (hown.own i f hf).below hbel
        exact h2.grown hgrow (hne rfl h2)
      · rw [List.getElem?_append_right (by omega)] at hf
        have h3 : e = f := by
          have := List.mem_of_getElem? hf
          simp at this; exact this.symm
        subst h3
        have h2 := he.below hbel
        exact h2.grown hgrow (hne rfl h2)
    · have key : ∀ (i : Nat) (f : Lay), (L ++ [e])[i]? = some f → (i < L.length ∧ L[i]? = some f) ∨ (i = L.length ∧ f = e) := fun i f hf => by
        by_cases hi : i < L.length
        · rw [List.getElem?_append_left hi] at hf; exact .inl ⟨hi, hf⟩
        · rw [List.getElem?_append_right (by omega)] at hf
          have h3 := List.mem_of_getElem? hf
          have h4 : i - L.length < 1 := by simpa using (List.getElem?_eq_some_iff.1 hf).1
          simp at h3
          exact .inr ⟨by omega, h3⟩
      rcases key i f hf with ⟨_, h1⟩ | ⟨h1, rfl⟩ <;> rcases key j f' hf' with ⟨_, h2⟩ | ⟨h2, rfl⟩
      · exact hown.apart i j f f' hij h1 h2
      · exact hap i f h1
      · exact Apart.symm (hap j f' h2)
      · omega
    · exact (hB.alloc hsz _).grown hgrow (by simp; omega) (fun g hg => (World.ownsRow.lt hrow g hg).1)
end Go.Proofs.Ytmmolicodlmlkaa
namespace Go.Proofs.Ytmmolicodlmlkaa
open Go.RowKit Ieee

/-- Its word is no NaN, and its sign is s. -/
def Sg (f : Format) (s : Bool) (b : Nat) : Prop := (∃ m e, f.read b = .number s m e) ∨ f.read b = .infinity s
/-- Its word is no NaN. -/
def NN (f : Format) (b : Nat) : Prop := ∃ s, Sg f s b

theorem word_div (f : Format) (s : Bool) {r : Nat} (h : r < f.signWeight) : (f.word s r / f.signWeight % 2 == 1) = s ∧ f.word s r % f.signWeight = r := by
  have hp : 0 < f.signWeight := Nat.pow_pos (by omega)
  unfold Format.word
  cases s with
  | true =>
    have h1 : (f.signWeight + r) / f.signWeight = 1 := by
      rw [Nat.add_div_left _ hp, Nat.div_eq_of_lt h]
    simp [h1, Nat.mod_eq_of_lt h]
  | false => simp [Nat.div_eq_of_lt h, Nat.mod_eq_of_lt h]
theorem infRung_lt' (f : Format) : f.infRung < f.signWeight := f.infRung_lt
theorem read_word_lt (f : Format) (s : Bool) {r : Nat} (h : r < f.infRung) : ∃ m e, f.read (f.word s r) = .number s m e := by
  obtain ⟨h1, h2⟩ := word_div f s (Nat.lt_trans h (infRung_lt' f))
  unfold Format.read
  simp only [h1, h2]
  by_cases hb : r < f.binade
  · exact ⟨_, _, by rw [if_pos hb]⟩
  · exact ⟨_, _, by rw [if_neg hb, if_pos h]⟩
theorem read_word_inf (f : Format) (s : Bool) (hb : f.binade ≤ f.infRung) : f.read (f.word s f.infRung) = .infinity s := by
  obtain ⟨h1, h2⟩ := word_div f s (infRung_lt' f)
  unfold Format.read
  simp only [h1, h2]
  rw [if_neg (by omega), if_neg (by omega)]
  simp
theorem nearest_form (f : Format) (s : Bool) (m : Nat) (p : Int) : ∃ r, r ≤ f.infRung ∧ f.nearest s m p = f.word s r ∧ (m = 0 → r = 0) := by
  unfold Format.nearest
  by_cases h : m = 0
  · exact ⟨0, Nat.zero_le _, by rw [if_pos h], fun _ => rfl⟩
  · exact ⟨_, Nat.min_le_right _ _, by rw [if_neg h], fun h' => absurd h' h⟩
theorem write_sg (f : Format) (hb : f.binade ≤ f.infRung) (s : Bool) (m : Nat) (p : Int) : Sg f s (f.write (.number s m p)) := by
  obtain ⟨r, hr, he, _⟩ := nearest_form f s m p
  show Sg f s (f.nearest s m p)
  rw [he]
  rcases Nat.lt_or_ge r f.infRung with h | h
  · exact .inl (read_word_lt f s h)
  · obtain rfl : r = f.infRung := by omega
    exact .inr (read_word_inf f s hb)
theorem write_inf_sg (f : Format) (hb : f.binade ≤ f.infRung) (s : Bool) : Sg f s (f.write (.infinity s)) := .inr (read_word_inf f s hb)
theorem single_bi : single.binade ≤ single.infRung := by decide
theorem double_bi : double.binade ≤ double.infRung := by decide

/-- A sum of two numbers that are not below 0. -/
theorem add_pos {x y : Nat} (hx : Sg single false x) (hy : Sg single false y) : ∃ r, floatBits .add .f32 x y = some r ∧ Sg single false r := by
  show ∃ r, single.add x y = some r ∧ _
  unfold Format.add
  rcases hx with ⟨m, e, hx⟩ | hx <;> rcases hy with ⟨n, j, hy⟩ | hy <;> rw [hx, hy]
  · simp only [Datum.sum, Option.map_some]
    refine ⟨_, rfl, ?_⟩
    have h1 : ∀ a b : Nat, (if signed false m a + signed false n b = 0 then (false && false) else decide (signed false m a + signed false n b < 0)) = false := by
      intro a b
      have h2 : 0 ≤ signed false m a := Int.natCast_nonneg (m <<< a)
      have h3 : 0 ≤ signed false n b := Int.natCast_nonneg (n <<< b)
      split
      · rfl
      · simp; omega
    rw [h1]
    exact write_sg _ single_bi _ _ _
  · exact ⟨_, rfl, write_inf_sg _ single_bi _⟩
  · exact ⟨_, rfl, write_inf_sg _ single_bi _⟩
  · exact ⟨_, rfl, write_inf_sg _ single_bi _⟩
/-- A difference of two finite numbers. -/
theorem sub_nn {x y : Nat} (hx : ∃ s m e, single.read x = .number s m e) (hy : ∃ s m e, single.read y = .number s m e) : ∃ r, floatBits .sub .f32 x y = some r ∧ NN single r := by
  obtain ⟨s, m, e, hx⟩ := hx
  obtain ⟨t, n, j, hy⟩ := hy
  show ∃ r, single.sub x y = some r ∧ _
  unfold Format.sub
  rw [hx, hy]
  simp only [Datum.opposite, Datum.sum, Option.map_some]
  exact ⟨_, rfl, _, write_sg _ single_bi _ _ _⟩
/-- A square. -/
theorem sq_pos {x : Nat} (hx : NN single x) : ∃ r, floatBits .mul .f32 x x = some r ∧ Sg single false r := by
  obtain ⟨s, hx⟩ := hx
  show ∃ r, single.mul x x = some r ∧ _
  unfold Format.mul
  rcases hx with ⟨m, e, hx⟩ | hx
  · rw [hx]
    simp only [Datum.product, Option.map_some, Bool.xor_self]
    exact ⟨_, rfl, write_sg _ single_bi _ _ _⟩
  · rw [hx]
    simp only [Datum.product, Option.map_some, Bool.xor_self]
    exact ⟨_, rfl, write_inf_sg _ single_bi _⟩
/-- A product with a finite number that is not 0. -/
theorem mul_pos {x y : Nat} (hx : Sg single false x) (hy : ∃ n j, single.read y = .number false n j ∧ n ≠ 0) : ∃ r, floatBits .mul .f32 x y = some r ∧ Sg single false r := by
  obtain ⟨n, j, hy, hn⟩ := hy
  show ∃ r, single.mul x y = some r ∧ _
  unfold Format.mul
  rcases hx with ⟨m, e, hx⟩ | hx <;> rw [hx, hy]
  · simp only [Datum.product, Option.map_some, Bool.xor_self]
    exact ⟨_, rfl, write_sg _ single_bi _ _ _⟩
  · simp only [Datum.product, if_neg hn, Option.map_some, Bool.xor_self]
    exact ⟨_, rfl, write_inf_sg _ single_bi _⟩
/-- A product with 0. -/
theorem mul_zero_fin {x y : Nat} (hx : ∃ m e, single.read x = .number false m e) (hy : ∃ j, single.read y = .number false 0 j) : ∃ r, floatBits .mul .f32 x y = some r ∧ ∃ e, single.read r = .number false 0 e := by
  obtain ⟨m, e, hx⟩ := hx
  obtain ⟨j, hy⟩ := hy
  show ∃ r, single.mul x y = some r ∧ _
  unfold Format.mul
  rw [hx, hy]
  simp only [Datum.product, Option.map_some, Bool.xor_self, Nat.mul_zero]
  refine ⟨_, rfl, single.leastPlace, ?_⟩
  show single.read (single.nearest false 0 (e + j)) = _
  have h : single.nearest false 0 (e + j) = 0 := by unfold Format.nearest; rw [if_pos rfl]; rfl
  rw [h]
  decide +kernel
/-- A quotient by a finite number that is not 0. -/
theorem quo_sg {s t : Bool} {x y : Nat} (hx : Sg single s x) (hy : ∃ n j, single.read y = .number t n j ∧ n ≠ 0) : ∃ r, floatBits .quo .f32 x y = some r ∧ Sg single (s ^^ t) r := by
  obtain ⟨n, j, hy, hn⟩ := hy
  show ∃ r, single.div x y = some r ∧ _
  unfold Format.div
  rcases hx with ⟨m, e, hx⟩ | hx <;> rw [hx, hy]
  · simp only [Datum.quotient, if_neg hn, Option.map_some]
    exact ⟨_, rfl, write_sg _ single_bi _ _ _⟩
  · simp only [Datum.quotient, Option.map_some]
    exact ⟨_, rfl, write_inf_sg _ single_bi _⟩

/-- A number of the double format that is no NaN is the same as itself. -/
theorem order_self {b : Nat} (h : NN double b) : double.order b b = some .eq := by
  obtain ⟨s, ⟨m, e, h⟩ | h⟩ := h
  · unfold Format.order
    rw [h]
    simp only [Datum.order, Int.min_self, Int.sub_self]
    simp
  · unfold Format.order
    rw [h]
    simp [Datum.order]
/-- 1 by 0. -/
theorem one_quo_zero {b : Nat} (h : NN double b) (h0 : double.order b 0 = some .eq) : ∃ r, floatBits .quo .f64 4607182418800017408 b = some r := by
  have h1 : double.read 4607182418800017408 = .number false 4503599627370496 (-52) := by decide +kernel
  have hz : double.read 0 = .number false 0 double.leastPlace := by decide +kernel
  obtain ⟨s, ⟨m, e, h⟩ | h⟩ := h
  · show ∃ r, double.div _ b = some r
    unfold Format.div
    rw [h1, h]
    by_cases hm : m = 0
    · subst hm
      simp [Datum.quotient]
    · simp [Datum.quotient, hm]
  · unfold Format.order at h0
    rw [h, hz] at h0
    cases s <;> simp [Datum.order] at h0

theorem log2_lt_of {m k : Nat} (h : m < 2 ^ k) (hk : 0 < k) : m.log2 < k := by
  by_cases hm : m = 0
  · subst hm; simpa using hk
  · exact (Nat.log2_lt hm).2 h
/-- What the single format reads. -/
theorem read_single_bounds {b : Nat} {s : Bool} {m : Nat} {e : Int} (h : single.read b = .number s m e) : m < 16777216 ∧ -149 ≤ e ∧ e ≤ 104 := by
  have hw : single.signWeight = 2147483648 := by decide
  have hi : single.infRung = 2139095040 := by decide
  have hb : single.binade = 8388608 := by decide
  have hl : single.leastPlace = -149 := by decide
  unfold Format.read at h
  simp only [hw, hi, hb, hl] at h
  split at h
  · injection h with h1 h2 h3
    omega
  · split at h
    · injection h with h1 h2 h3
      omega
    · split at h <;> cases h
theorem cut_even_zero (neg : Bool) (n : Nat) : Toward.even.cut neg n 0 = n := by
  unfold Toward.cut
  simp [Nat.mod_one]
theorem rung_lt {L K : Nat} (h : L ≤ 1149) (h' : K < 9007199254740992) : min (L * 4503599627370496 + K) 9218868437227405312 < 9218868437227405312 := by
  have h7 : L * 4503599627370496 ≤ 1149 * 4503599627370496 := Nat.mul_le_mul_right _ h
  omega
/-- A finite single number is a finite double one. -/
theorem widen {b : Nat} (h : NN single b) : ∃ r, floatToFloatBits .f32 b .f64 = some r ∧ NN double r := by
  obtain ⟨s, ⟨m, e, h⟩ | h⟩ := h
  · obtain ⟨hm, he1, he2⟩ := read_single_bounds h
    have hlt : double.nearest s m e = double.word s 0 ∨ ∃ r, r < double.infRung ∧ double.nearest s m e = double.word s r := by
      by_cases h0 : m = 0
      · exact .inl (by unfold Format.nearest; rw [if_pos h0])
      · refine .inr ?_
        have hl : double.leastPlace = -1074 := by decide
        have hb : double.binade = 4503599627370496 := by decide
        have hi : double.infRung = 9218868437227405312 := by decide
        have hf : double.fractionBits = 52 := rfl
        have hlog := log2_lt_of (k := 24) (m := m) (by omega) (by omega)
        unfold Format.nearest
        rw [if_neg h0]
        simp only [hl, hb, hi, hf]
        have hmax : max (e + (m.log2 : Int) - ((52 : Nat) : Int)) (-1074) = e + (m.log2 : Int) - 52 := by omega
        rw [hmax]
        have h1 : (e + (m.log2 : Int) - 52 - e).toNat = 0 := by omega
        have h2 : (e - (e + (m.log2 : Int) - 52)).toNat = 52 - m.log2 := by omega
        rw [h1, h2, cut_even_zero]
        have h3 : m <<< (52 - m.log2) < 9007199254740992 := by
          rw [Nat.shiftLeft_eq]
          have h4 : m < 2 ^ (m.log2 + 1) := Nat.lt_log2_self
          have h5 : m * 2 ^ (52 - m.log2) < 2 ^ (m.log2 + 1) * 2 ^ (52 - m.log2) := Nat.mul_lt_mul_of_pos_right h4 (Nat.pow_pos (by omega))
          rw [← Nat.pow_add, show m.log2 + 1 + (52 - m.log2) = 53 by omega] at h5
          exact h5
        refine ⟨_, ?_, rfl⟩
        have h6 : (e + (m.log2 : Int) - 52 - -1074).toNat ≤ 1149 := by omega
        exact rung_lt h6 h3
    have hrd : ∃ m' e', double.read (double.nearest s m e) = .number s m' e' := by
      rcases hlt with h1 | ⟨r, hr, h1⟩
      · rw [h1]; exact read_word_lt _ _ (by decide)
      · rw [h1]; exact read_word_lt _ _ hr
    obtain ⟨m', e', hrd⟩ := hrd
    refine ⟨double.nearest s m e, ?_, s, .inl ⟨m', e', hrd⟩⟩
    have hd : FloatKind.f32.decode b = .number s m e := h
    have hni : (FloatKind.f64.decode (FloatKind.f64.encode (.number s m e))).isInfinity = false := by
      show (double.read (double.nearest s m e)).isInfinity = false
      rw [hrd]; rfl
    unfold floatToFloatBits
    rw [if_neg (by decide), hd]
    simp only [hni]
    rfl
  · refine ⟨double.write (.infinity s), ?_, s, write_inf_sg _ double_bi _⟩
    have hd : FloatKind.f32.decode b = .infinity s := h
    unfold floatToFloatBits
    rw [if_neg (by decide), hd]
    rfl
theorem read_single (r : Nat) (h1 : 8388608 ≤ r) (h2 : r < 2139095040) : single.read r = .number false (8388608 + r % 8388608) (-149 + ((r / 8388608 - 1 : Nat) : Int)) := by
  have hw : single.signWeight = 2147483648 := by decide
  have hi : single.infRung = 2139095040 := by decide
  have hb : single.binade = 8388608 := by decide
  have hl : single.leastPlace = -149 := by decide
  have d : r / 2147483648 = 0 := Nat.div_eq_of_lt (by omega)
  have e : r % 2147483648 = r := Nat.mod_eq_of_lt (by omega)
  unfold Format.read
  simp only [hw, hi, hb, hl, d, e]
  rw [if_neg (by omega), if_pos h2]
  rfl
theorem word_false (f : Format) (r : Nat) : f.word false r = r := by
  unfold Format.word
  simp
theorem shl_log {n : Nat} (h0 : n ≠ 0) (h : n < 16777216) : 8388608 ≤ n <<< (23 - n.log2) ∧ n <<< (23 - n.log2) < 16777216 := by
  have hlog := log2_lt_of (k := 24) (m := n) (by omega) (by omega)
  rw [Nat.shiftLeft_eq]
  have h4 : n < 2 ^ (n.log2 + 1) := Nat.lt_log2_self
  have h5 : n * 2 ^ (23 - n.log2) < 2 ^ (n.log2 + 1) * 2 ^ (23 - n.log2) := Nat.mul_lt_mul_of_pos_right h4 (Nat.pow_pos (by omega))
  have h6 : 2 ^ n.log2 ≤ n := Nat.log2_self_le h0
  have h7 : 2 ^ n.log2 * 2 ^ (23 - n.log2) ≤ n * 2 ^ (23 - n.log2) := Nat.mul_le_mul_right _ h6
  rw [← Nat.pow_add] at h5 h7
  rw [show n.log2 + 1 + (23 - n.log2) = 24 by omega] at h5
  rw [show n.log2 + (23 - n.log2) = 23 by omega] at h7
  exact ⟨h7, h5⟩
theorem rung_small {L K : Nat} (h : L ≤ 149) (h1 : 8388608 ≤ K) (h2 : K < 16777216) : min (L * 8388608 + K) 2139095040 = L * 8388608 + K ∧ 8388608 ≤ L * 8388608 + K ∧ L * 8388608 + K < 2139095040 ∧ (L * 8388608 + K) / 8388608 = L + 1 ∧ (L * 8388608 + K) % 8388608 = K - 8388608 := by
  have h7 : L * 8388608 ≤ 149 * 8388608 := Nat.mul_le_mul_right _ h
  refine ⟨by omega, by omega, by omega, by omega, by omega⟩
/-- An integer that is exact in the single format. -/
theorem ofInt_read {n : Nat} (hn : n < 16777216) : ∃ m e, single.read (floatOfInt .f32 (n : Int)) = .number false m e ∧ (0 < n → m ≠ 0 ∧ m < 16777216 ∧ 8388608 ≤ m ∧ e = (n.log2 : Int) - 23) ∧ (n = 0 → m = 0) := by
  have hfo : floatOfInt .f32 (n : Int) = single.nearest false n 0 := by
    show single.nearest (decide ((n : Int) < 0)) (n : Int).natAbs 0 = _
    rw [show decide ((n : Int) < 0) = false by simp]
    rfl
  rw [hfo]
  by_cases h0 : n = 0
  · subst h0
    exact ⟨0, single.leastPlace, by decide +kernel, fun h => absurd h (by omega), fun _ => rfl⟩
  · have hl : single.leastPlace = -149 := by decide
    have hb : single.binade = 8388608 := by decide
    have hi : single.infRung = 2139095040 := by decide
    have hf : single.fractionBits = 23 := rfl
    have hlog := log2_lt_of (k := 24) (m := n) (by omega) (by omega)
    obtain ⟨hK1, hK2⟩ := shl_log h0 hn
    obtain ⟨r1, r2, r3, r4, r5⟩ := rung_small (L := n.log2 + 126) (by omega) hK1 hK2
    have hnr : single.nearest false n 0 = (n.log2 + 126) * 8388608 + n <<< (23 - n.log2) := by
      unfold Format.nearest
      rw [if_neg h0]
      simp only [hl, hb, hi, hf]
      have hmax : max ((0 : Int) + (n.log2 : Int) - ((23 : Nat) : Int)) (-149) = (n.log2 : Int) - 23 := by omega
      rw [hmax]
      have h1 : ((n.log2 : Int) - 23 - 0).toNat = 0 := by omega
      have h2 : (0 - ((n.log2 : Int) - 23)).toNat = 23 - n.log2 := by omega
      have h8 : ((n.log2 : Int) - 23 - -149).toNat = n.log2 + 126 := by omega
      rw [h1, h2, cut_even_zero, h8, word_false, r1]
    rw [hnr, read_single _ r2 r3, r4, r5]
    exact ⟨_, _, rfl, fun _ => ⟨by omega, by omega, by omega, by omega⟩, fun h => absurd h h0⟩

/-- It is a number that is not below 0 and not above 2 ^ (L + 1). -/
def Lg (b : Nat) (L : Int) : Prop := ∃ m e, single.read b = .number false m e ∧ (m.log2 : Int) + e ≤ L
theorem Lg.sg {b : Nat} {L : Int} (h : Lg b L) : Sg single false b := by
  obtain ⟨m, e, h, _⟩ := h
  exact .inl ⟨m, e, h⟩
theorem Sg.nn {f : Format} {s : Bool} {b : Nat} (h : Sg f s b) : NN f b := ⟨s, h⟩
theorem Lg.mono {b : Nat} {L L' : Int} (h : Lg b L) (hl : L ≤ L') : Lg b L' := by
  obtain ⟨m, e, h, h2⟩ := h
  exact ⟨m, e, h, by omega⟩
theorem cut_even_le (n d : Nat) : Toward.even.cut false n d ≤ n / 2 ^ d + 1 := by
  have h1 : n / (1 <<< min d (n.log2 + 2)) ≤ n / 2 ^ d := by
    rw [Nat.shiftLeft_eq, Nat.one_mul]
    rcases Nat.le_total d (n.log2 + 2) with h | h
    · rw [Nat.min_eq_left h]; exact Nat.le_refl _
    · rw [Nat.min_eq_right h]
      have h2 : n < 2 ^ (n.log2 + 1) := Nat.lt_log2_self
      have h3 : 2 ^ (n.log2 + 1) ≤ 2 ^ (n.log2 + 2) := Nat.pow_le_pow_right (by omega) (by omega)
      rw [Nat.div_eq_of_lt (by omega)]
      exact Nat.zero_le _
  unfold Toward.cut
  simp only
  have h4 : ∀ b : Bool, b.toNat ≤ 1 := Bool.toNat_le
  exact Nat.add_le_add h1 (h4 _)
theorem div_pow_lt {M d : Nat} (h : M.log2 ≤ d + 23) : M / 2 ^ d < 16777216 := by
  have h2 : M < 2 ^ (M.log2 + 1) := Nat.lt_log2_self
  have h3 : 2 ^ (M.log2 + 1) ≤ 2 ^ (d + 24) := Nat.pow_le_pow_right (by omega) (by omega)
  rw [Nat.div_lt_iff_lt_mul (Nat.pow_pos (by omega))]
  have h4 : 2 ^ (d + 24) = 16777216 * 2 ^ d := by rw [Nat.pow_add, Nat.mul_comm]
  omega
theorem shl_lt {M k : Nat} (h : M.log2 + k ≤ 23) : M <<< k < 16777216 := by
  rw [Nat.shiftLeft_eq]
  have h4 : M < 2 ^ (M.log2 + 1) := Nat.lt_log2_self
  have h5 : M * 2 ^ k < 2 ^ (M.log2 + 1) * 2 ^ k := Nat.mul_lt_mul_of_pos_right h4 (Nat.pow_pos (by omega))
  rw [← Nat.pow_add] at h5
  have h6 : 2 ^ (M.log2 + 1 + k) ≤ 2 ^ 24 := Nat.pow_le_pow_right (by omega) (by omega)
  omega
theorem rung_bound {L K : Nat} (h : L ≤ 250) (h2 : K ≤ 16777216) : min (L * 8388608 + K) 2139095040 = L * 8388608 + K ∧ L * 8388608 + K < 2139095040 ∧ (L * 8388608 + K) / 8388608 ≤ L + 2 := by
  have h7 : L * 8388608 ≤ 250 * 8388608 := Nat.mul_le_mul_right _ h
  refine ⟨by omega, by omega, ?_⟩
  have h8 : (L + 2) * 8388608 = L * 8388608 + 16777216 := by rw [Nat.add_mul]
  exact Nat.le_of_lt_succ ((Nat.div_lt_iff_lt_mul (by omega)).2 (by rw [Nat.succ_mul]; omega))
theorem read_low (r : Nat) (h1 : r < 8388608) : single.read r = .number false r (-149) := by
  have hw : single.signWeight = 2147483648 := by decide
  have hb : single.binade = 8388608 := by decide
  have hl : single.leastPlace = -149 := by decide
  have d : r / 2147483648 = 0 := Nat.div_eq_of_lt (by omega)
  have e : r % 2147483648 = r := Nat.mod_eq_of_lt (by omega)
  unfold Format.read
  simp only [hw, hb, hl, d, e]
  rw [if_pos h1]
  rfl
theorem read_lg {r L : Nat} (h1 : r < 2139095040) (h2 : r / 8388608 ≤ L + 2) : Lg r ((L : Int) - 125) := by
  rcases Nat.lt_or_ge r 8388608 with h | h
  · refine ⟨r, -149, read_low r h, ?_⟩
    have := log2_lt_of (k := 23) (m := r) (by omega) (by omega)
    omega
  · refine ⟨_, _, read_single r h h1, ?_⟩
    have h3 : r % 8388608 < 8388608 := Nat.mod_lt _ (by omega)
    have h5 : 8388608 + r % 8388608 < 2 ^ 24 := by omega
    have h4 := log2_lt_of (k := 24) (m := 8388608 + r % 8388608) h5 (by omega)
    have h6 : 1 ≤ r / 8388608 := (Nat.le_div_iff_mul_le (by omega)).2 (by omega)
    omega
/-- The nearest word of a number that is not great. -/
theorem nearest_lg {M : Nat} {p L : Int} (h : M ≠ 0 → (M.log2 : Int) + p ≤ L) (h1 : -100 ≤ L) (h2 : L ≤ 100) : Lg (single.nearest false M p) (L + 1) := by
  have hl : single.leastPlace = -149 := by decide
  have hb : single.binade = 8388608 := by decide
  have hi : single.infRung = 2139095040 := by decide
  have hf : single.fractionBits = 23 := rfl
  by_cases h0 : M = 0
  · subst h0
    have e : single.nearest false 0 p = 0 := by unfold Format.nearest; rw [if_pos rfl, word_false]
    rw [e]
    exact (read_lg (L := 0) (by omega) (by omega)).mono (by omega)
  · have h3 := h h0
    obtain ⟨last, hla⟩ : ∃ last : Int, last = max (p + (M.log2 : Int) - ((23 : Nat) : Int)) (-149) := ⟨_, rfl⟩
    obtain ⟨N, hN⟩ : ∃ N, N = (last - -149).toNat := ⟨_, rfl⟩
    have hNb : (N : Int) - 125 ≤ L + 1 ∧ N ≤ 250 := by omega
    have hk : Toward.even.cut false (M <<< (p - last).toNat) (last - p).toNat ≤ 16777216 := by
      rcases Int.le_total last p with h4 | h4
      · rw [show (last - p).toNat = 0 by omega, cut_even_zero]
        exact Nat.le_of_lt (shl_lt (by omega))
      · rw [show (p - last).toNat = 0 by omega, Nat.shiftLeft_zero]
        have h5 := cut_even_le M (last - p).toNat
        have h6 := div_pow_lt (M := M) (d := (last - p).toNat) (by omega)
        omega
    obtain ⟨K, hK⟩ : ∃ K, K = Toward.even.cut false (M <<< (p - last).toNat) (last - p).toNat := ⟨_, rfl⟩
    rw [← hK] at hk
    obtain ⟨r1, r2, r3⟩ := rung_bound (L := N) (K := K) hNb.2 hk
    have hnr : single.nearest false M p = N * 8388608 + K := by
      unfold Format.nearest
      rw [if_neg h0]
      simp only [hl, hb, hi, hf]
      rw [← hla, ← hK, ← hN, word_false, r1]
    rw [hnr]
    exact (read_lg r2 r3).mono hNb.1
theorem log2_mul_le {m n : Nat} (h : m * n ≠ 0) : (m * n).log2 ≤ m.log2 + n.log2 + 1 := by
  have h1 : m < 2 ^ (m.log2 + 1) := Nat.lt_log2_self
  have h2 : n < 2 ^ (n.log2 + 1) := Nat.lt_log2_self
  have h3 : m * n < 2 ^ (m.log2 + 1) * 2 ^ (n.log2 + 1) := Nat.mul_lt_mul'' h1 h2
  rw [← Nat.pow_add] at h3
  have := (Nat.log2_lt h).2 h3
  omega
/-- A product. -/
theorem mul_lg {x y : Nat} {a b : Int} (hx : Lg x a) (hy : Lg y b) (h1 : -100 ≤ a + b) (h2 : a + b ≤ 90) : ∃ r, floatBits .mul .f32 x y = some r ∧ Lg r (a + b + 2) := by
  obtain ⟨m, e, hx, h3⟩ := hx
  obtain ⟨n, j, hy, h4⟩ := hy
  show ∃ r, single.mul x y = some r ∧ _
  unfold Format.mul
  rw [hx, hy]
  simp only [Datum.product, Option.map_some, Bool.xor_self]
  refine ⟨_, rfl, ?_⟩
  have h5 : Lg (single.nearest false (m * n) (e + j)) (a + b + 1 + 1) := nearest_lg (fun h => by have := log2_mul_le h; omega) (by omega) (by omega)
  exact h5.mono (by omega)
/-- A share. -/
theorem quo_lg {n k : Nat} (hn : n ≤ k) (hk : 0 < k) (hk2 : k < 16777216) : ∃ r, floatBits .quo .f32 (floatOfInt .f32 (n : Int)) (floatOfInt .f32 (k : Int)) = some r ∧ Lg r 1 := by
  obtain ⟨m, e, hx, hx1, hx0⟩ := ofInt_read (n := n) (by omega)
  obtain ⟨d, j, hy, hy1, _⟩ := ofInt_read (n := k) hk2
  obtain ⟨hd0, hd2, hd1, hj⟩ := hy1 hk
  show ∃ r, single.div _ _ = some r ∧ _
  unfold Format.div
  rw [hx, hy]
  simp only [Datum.quotient, if_neg hd0, Option.map_some, Bool.xor_self]
  refine ⟨_, rfl, ?_⟩
  show Lg (single.nearest false _ _) (0 + 1)
  refine nearest_lg (fun hM => ?_) (by omega) (by omega)
  have hld : d.log2 = 23 := by
    have h1 := log2_lt_of (k := 24) (m := d) (by omega) (by omega)
    have h2 := (Nat.le_log2 hd0 (k := 23)).2 (by omega)
    omega
  by_cases hn0 : n = 0
  · have hm0 := hx0 hn0
    subst hm0
    exfalso
    apply hM
    simp
  · obtain ⟨hm0, hm2, hm1, he⟩ := hx1 (by omega)
    have hlm : m.log2 = 23 := by
      have h1 := log2_lt_of (k := 24) (m := m) (by omega) (by omega)
      have h2 := (Nat.le_log2 hm0 (k := 23)).2 (by omega)
      omega
    have hlog : n.log2 ≤ k.log2 := by
      have h1 : n < 2 ^ (k.log2 + 1) := by have : k < 2 ^ (k.log2 + 1) := Nat.lt_log2_self; omega
      have := (Nat.log2_lt hn0).2 h1
      omega
    have hmore : single.fractionBits + 2 + d.log2 - m.log2 = 25 := by rw [hld, hlm]; rfl
    rw [hmore] at hM ⊢
    have hdiv : m <<< 25 / d < 67108864 := by
      rw [Nat.shiftLeft_eq, Nat.div_lt_iff_lt_mul (by omega)]
      have : 67108864 * 8388608 ≤ 67108864 * d := Nat.mul_le_mul_left _ hd1
      omega
    have hb : ∀ b : Bool, b.toNat ≤ 1 := Bool.toNat_le
    have hb1 := hb (m <<< 25 % d != 0)
    have hlg := (Nat.log2_lt hM (k := 27)).2 (by omega)
    omega
/-- The share of n of k, as the program's floats tell it. -/
def shareB (n k : Nat) : Nat := (floatBits .quo .f32 (floatOfInt .f32 (n : Int)) (floatOfInt .f32 (k : Int))).getD 0
theorem shareB_spec {n k : Nat} (hn : n ≤ k) (hk : 0 < k) (hk2 : k < 16777216) : floatBits .quo .f32 (floatOfInt .f32 (n : Int)) (floatOfInt .f32 (k : Int)) = some (shareB n k) ∧ Lg (shareB n k) 1 := by
  obtain ⟨r, h1, h2⟩ := quo_lg hn hk hk2
  unfold shareB
  rw [h1]
  exact ⟨rfl, h2⟩
/-- q to the power of k + 1. -/
def powB (q : Nat) : Nat → Nat
  | 0 => q
  | k + 1 => (floatBits .mul .f32 (powB q k) q).getD 0
theorem powB_spec {q : Nat} (hq : Lg q 1) : ∀ k : Nat, k ≤ 20 → Lg (powB q k) (1 + 3 * (k : Int)) ∧ floatBits .mul .f32 (powB q k) q = some (powB q (k + 1)) := by
  have key : ∀ k : Nat, k ≤ 21 → Lg (powB q k) (1 + 3 * (k : Int)) := by
    intro k
    induction k with
    | zero => intro _; exact hq.mono (by omega)
    | succ k ih =>
      intro hk
      obtain ⟨r, h1, h2⟩ := mul_lg (ih (by omega)) hq (by omega) (by omega)
      rw [powB, h1]
      exact h2.mono (by omega)
  intro k hk
  refine ⟨key k (by omega), ?_⟩
  obtain ⟨r, h1, _⟩ := mul_lg (key k (by omega)) hq (by omega) (by omega)
  rw [powB, h1]
  rfl
end Go.Proofs.Ytmmolicodlmlkaa
namespace Go.Proofs.Ytmmolicodlmlkaa
open Go.RowKit Ieee
set_option linter.unusedVariables false

/-- It is a normal number, not below 0, of 24 digits, from 2 ^ a up to less than 2 ^ (b + 1). -/
def Nm (x : Nat) (a b : Int) : Prop := ∃ m e, single.read x = .number false m e ∧ 8388608 ≤ m ∧ m < 16777216 ∧ a ≤ e + 23 ∧ e + 23 ≤ b
theorem Nm.sg {x : Nat} {a b : Int} (h : Nm x a b) : Sg single false x := by
  obtain ⟨m, e, h, _⟩ := h
  exact .inl ⟨m, e, h⟩
theorem Nm.mono {x : Nat} {a b a' b' : Int} (h : Nm x a b) (ha : a' ≤ a) (hb : b ≤ b') : Nm x a' b' := by
  obtain ⟨m, e, h, h1, h2, h3, h4⟩ := h
  exact ⟨m, e, h, h1, h2, by omega, by omega⟩
theorem cut_even_ge (n d : Nat) (h : d ≤ n.log2 + 2) : n / 2 ^ d ≤ Toward.even.cut false n d := by
  unfold Toward.cut
  simp only
  rw [Nat.min_eq_left h, Nat.shiftLeft_eq, Nat.one_mul]
  exact Nat.le_add_right _ _
theorem div_pow_ge {M d : Nat} (h0 : M ≠ 0) (h : M.log2 = d + 23) : 8388608 ≤ M / 2 ^ d := by
  have h2 : 2 ^ M.log2 ≤ M := Nat.log2_self_le h0
  rw [Nat.le_div_iff_mul_le (Nat.pow_pos (by omega))]
  have h4 : 2 ^ (d + 23) = 8388608 * 2 ^ d := by rw [Nat.pow_add, Nat.mul_comm]
  rw [h, h4] at h2
  exact h2
theorem shl_ge {M k : Nat} (h0 : M ≠ 0) (h : M.log2 + k = 23) : 8388608 ≤ M <<< k := by
  rw [Nat.shiftLeft_eq]
  have h2 : 2 ^ M.log2 ≤ M := Nat.log2_self_le h0
  have h3 : 2 ^ M.log2 * 2 ^ k ≤ M * 2 ^ k := Nat.mul_le_mul_right _ h2
  rw [← Nat.pow_add, h] at h3
  exact h3
theorem rung_norm {L K : Nat} (h : L ≤ 250) (h1 : 8388608 ≤ K) (h2 : K ≤ 16777216) : 8388608 ≤ L * 8388608 + K ∧ ((K = 16777216 ∧ (L * 8388608 + K) / 8388608 = L + 2 ∧ (L * 8388608 + K) % 8388608 = 0) ∨ (K < 16777216 ∧ (L * 8388608 + K) / 8388608 = L + 1 ∧ (L * 8388608 + K) % 8388608 = K - 8388608)) := by
  refine ⟨by omega, ?_⟩
  rcases (show K = 16777216 ∨ K < 16777216 by omega) with h3 | h3
  · exact .inl ⟨h3, by omega, by omega⟩
  · exact .inr ⟨h3, by omega, by omega⟩
/-- The nearest word of a number that is neither small nor great. -/
theorem nearest_nm {M : Nat} {p : Int} (h0 : M ≠ 0) (h1 : -100 ≤ (M.log2 : Int) + p) (h2 : (M.log2 : Int) + p ≤ 99) : Nm (single.nearest false M p) ((M.log2 : Int) + p) ((M.log2 : Int) + p + 1) := by
  have hl : single.leastPlace = -149 := by decide
  have hb : single.binade = 8388608 := by decide
  have hi : single.infRung = 2139095040 := by decide
  have hf : single.fractionBits = 23 := rfl
  obtain ⟨last, hla⟩ : ∃ last : Int, last = max (p + (M.log2 : Int) - ((23 : Nat) : Int)) (-149) := ⟨_, rfl⟩
  obtain ⟨N, hN⟩ : ∃ N, N = (last - -149).toNat := ⟨_, rfl⟩
  have hlast : last = p + (M.log2 : Int) - 23 := by omega
  have hNb : (N : Int) = last + 149 ∧ N ≤ 250 := by omega
  have hk : 8388608 ≤ Toward.even.cut false (M <<< (p - last).toNat) (last - p).toNat ∧ Toward.even.cut false (M <<< (p - last).toNat) (last - p).toNat ≤ 16777216 := by
    rcases Int.le_total last p with h4 | h4
    · rw [show (last - p).toNat = 0 by omega, cut_even_zero]
      exact ⟨shl_ge h0 (by omega), Nat.le_of_lt (shl_lt (by omega))⟩
    · rw [show (p - last).toNat = 0 by omega, Nat.shiftLeft_zero]
      have h5 := cut_even_le M (last - p).toNat
      have h6 := div_pow_lt (M := M) (d := (last - p).toNat) (by omega)
      have h7 := cut_even_ge M (last - p).toNat (by omega)
      have h8 := div_pow_ge (M := M) (d := (last - p).toNat) h0 (by omega)
      omega
  obtain ⟨K, hK⟩ : ∃ K, K = Toward.even.cut false (M <<< (p - last).toNat) (last - p).toNat := ⟨_, rfl⟩
  rw [← hK] at hk
  obtain ⟨r1, r2, r3⟩ := rung_bound (L := N) (K := K) hNb.2 hk.2
  obtain ⟨q1, q2⟩ := rung_norm (L := N) hNb.2 hk.1 hk.2
  have hnr : single.nearest false M p = N * 8388608 + K := by
    unfold Format.nearest
    rw [if_neg h0]
    simp only [hl, hb, hi, hf]
    rw [← hla, ← hK, ← hN, word_false, r1]
  rw [hnr]
  have hNl := hNb.1
  clear hK hla hN hnr r1 r3
  rcases q2 with ⟨h3, h4, h5⟩ | ⟨h3, h4, h5⟩
  · refine ⟨_, _, read_single _ q1 r2, ?_⟩
    rw [h4, h5]
    omega
  · refine ⟨_, _, read_single _ q1 r2, ?_⟩
    rw [h4, h5]
    omega
/-- An integer that is not 0. -/
theorem ofInt_nm {n : Nat} (h0 : n ≠ 0) (hn : n.log2 ≤ 90) : Nm (floatOfInt .f32 (n : Int)) (n.log2 : Int) ((n.log2 : Int) + 1) := by
  have hfo : floatOfInt .f32 (n : Int) = single.nearest false n 0 := by
    show single.nearest (decide ((n : Int) < 0)) (n : Int).natAbs 0 = _
    rw [show decide ((n : Int) < 0) = false by simp]
    rfl
  rw [hfo]
  exact (nearest_nm (p := 0) h0 (by omega) (by omega)).mono (by omega) (by omega)
/-- A quotient. -/
theorem quo_nm {x y : Nat} {a b c d : Int} (hx : Nm x a b) (hy : Nm y c d) (h1 : -90 ≤ a - d) (h2 : b - c ≤ 90) : ∃ r, floatBits .quo .f32 x y = some r ∧ Nm r (a - d - 1) (b - c + 1) := by
  obtain ⟨m, e, hx, m1, m2, m3, m4⟩ := hx
  obtain ⟨n, j, hy, n1, n2, n3, n4⟩ := hy
  have hn0 : n ≠ 0 := by omega
  have hm0 : m ≠ 0 := by omega
  have hlm : m.log2 = 23 := by
    have h1 := log2_lt_of (k := 24) (m := m) (by omega) (by omega)
    have h2 := (Nat.le_log2 hm0 (k := 23)).2 (by omega)
    omega
  have hln : n.log2 = 23 := by
    have h1 := log2_lt_of (k := 24) (m := n) (by omega) (by omega)
    have h2 := (Nat.le_log2 hn0 (k := 23)).2 (by omega)
    omega
  have hmore : single.fractionBits + 2 + n.log2 - m.log2 = 25 := by rw [hln, hlm]; rfl
  have hd1 : m <<< 25 / n < 67108864 := by
    rw [Nat.shiftLeft_eq, Nat.div_lt_iff_lt_mul (by omega)]
    have : 67108864 * 8388608 ≤ 67108864 * n := Nat.mul_le_mul_left _ n1
    omega
  have hd2 : 16777216 ≤ m <<< 25 / n := by
    rw [Nat.shiftLeft_eq, Nat.le_div_iff_mul_le (by omega)]
    exact Nat.le_trans (Nat.mul_le_mul_left 16777216 (show n ≤ 16777216 by omega)) (Nat.le_trans (by decide) (Nat.mul_le_mul_right (2 ^ 25) m1))
  show ∃ r, single.div x y = some r ∧ _
  unfold Format.div
  rw [hx, hy]
  simp only [Datum.quotient, if_neg hn0, Option.map_some, Bool.xor_self, hmore]
  refine ⟨_, rfl, ?_⟩
  have hbt : ∀ b : Bool, b.toNat ≤ 1 := Bool.toNat_le
  have hb1 := hbt (m <<< 25 % n != 0)
  obtain ⟨M, hM⟩ : ∃ M, M = 2 * (m <<< 25 / n) + (m <<< 25 % n != 0).toNat := ⟨_, rfl⟩
  have hM0 : M ≠ 0 := by omega
  have hM1 : M < 2 ^ 27 := by omega
  have hM2 : 2 ^ 25 ≤ M := by omega
  have hlg := (Nat.log2_lt hM0 (k := 27)).2 hM1
  have hlg2 := (Nat.le_log2 hM0 (k := 25)).2 hM2
  show Nm (single.nearest false (2 * (m <<< 25 / n) + (m <<< 25 % n != 0).toNat) (e - j - ((25 : Nat) : Int) - 1)) _ _
  rw [← hM]
  clear hM hb1 hbt hd1 hd2
  exact (nearest_nm hM0 (by omega) (by omega)).mono (by omega) (by omega)
end Go.Proofs.Ytmmolicodlmlkaa
namespace Go.Proofs.Ytmmolicodlmlkaa
open Go.RowKit

/-- n lies from lo to hi. -/
def inB (n lo hi : Int) : Bool := decide (lo ≤ n) && decide (n ≤ hi)
theorem inB_iff {n lo hi : Int} : inB n lo hi = true ↔ lo ≤ n ∧ n ≤ hi := by simp [inB]
theorem inB_false {n lo hi : Int} : inB n lo hi = false ↔ ¬ (lo ≤ n ∧ n ≤ hi) := by
  rw [← inB_iff]; simp

theorem three (n lo hi : Int) (h : lo ≤ hi) : (lo ≤ n ∧ n ≤ hi) ∨ (n < lo ∧ n ≤ hi) ∨ (lo ≤ n ∧ hi < n) := by omega

theorem l00In_any (n lo hi : Int) (w : World) :
    Calls Try.prog 78 #[.int .i64 n, .int .i64 lo, .int .i64 hi] w fun e w' => e = .returned (.bool (inB n lo hi)) ∧ w = w' := by
  by_cases h1 : lo ≤ n <;> by_cases h2 : n ≤ hi <;>
  · go_enter Try.func78, Try.ntmps78
    go_wp2
    go_ret
    exact ⟨by simp [inB]; omega, rfl⟩

theorem within_any (n lo hi : Int) (w : World) :
    Calls Try.prog 97 #[.int .i64 n, .int .i64 lo, .int .i64 hi] w fun e w' => e = .returned (.bool (inB n lo hi)) ∧ w = w' := by
  by_cases h1 : lo ≤ n <;> by_cases h2 : n ≤ hi <;>
  · go_enter Try.func97, Try.ntmps97
    go_wp2
    go_ret
    exact ⟨by simp [inB]; omega, rfl⟩

theorem l02Key_any (n : Int) (w : World) :
    Calls Try.prog 73 #[.int .i64 n] w fun e w' => e = .returned (.bool (inB n 0 4294967295)) ∧ w = w' := by
  go_enter Try.func73, Try.ntmps73
  go_wp2_with (go_at_call 78; refine (l00In_any _ _ _ _).mono ?_; rintro e w' ⟨rfl, rfl⟩)
  go_ret
  exact ⟨rfl, rfl⟩

theorem IsKey_any (n : Int) (w : World) :
    Calls Try.prog 63 #[.int .i64 n] w fun e w' => e = .returned (.bool (inB n 0 4294967295)) ∧ w = w' := by
  go_enter Try.func63, Try.ntmps63
  go_wp2_with (go_at_call 97; refine (within_any _ _ _ _).mono ?_; rintro e w' ⟨rfl, rfl⟩)
  go_ret
  exact ⟨rfl, rfl⟩


end Go.Proofs.Ytmmolicodlmlkaa
namespace Go.Proofs.Ytmmolicodlmlkaa
open Go.RowKit
set_option linter.unusedVariables false

/-- A sieve is valid. -/
def vSieve (r s : Int) (n : Nat) : Bool := inB r 1 8 && inB s 0 4294967295 && decide ((1 : Int) ≤ n) && decide ((n : Int) ≤ 512)

end Go.Proofs.Ytmmolicodlmlkaa
namespace Go.Proofs.Ytmmolicodlmlkaa
open Go.RowKit Ieee
set_option linter.unusedVariables false
set_option linter.unusedSimpArgs false

/-- How many are true. -/
def countT (x : List Bool) : Nat := x.countP id
theorem countT_le (x : List Bool) : countT x ≤ x.length := List.countP_le_length
theorem countT_snoc {x : List Bool} {k : Nat} {b : Bool} (h : Hid (x[k]? = some b)) : countT (x.take (k + 1)) = countT (x.take k) + b.toNat := by
  unfold countT
  rw [List.take_add_one, h.out]
  cases b <;> simp
/-- How full. -/
def fullB (x : List Bool) : Nat := shareB (countT x) x.length
theorem fullB_spec {x : List Bool} (h0 : 0 < x.length) (h1 : x.length ≤ 1048576) : floatBits .quo .f32 (floatOfInt .f32 (countT x : Int)) (floatOfInt .f32 (x.length : Int)) = some (fullB x) ∧ Lg (fullB x) 1 :=
  shareB_spec (countT_le x) h0 (by omega)
theorem nn_zero : NN single 0 := ⟨false, .inl ⟨0, -149, read_low 0 (by omega)⟩⟩
/-- What FullOfSieve returns. -/
def pFullOfSieve (r s : Int) (x : List Bool) : Nat × Bool := if vSieve r s x.length = true then (fullB x, true) else (0, false)
theorem vSieve_len {r s : Int} {n : Nat} (h : vSieve r s n = true) : 0 < n ∧ n ≤ 512 ∧ 1 ≤ r ∧ r ≤ 8 := by
  simp only [vSieve, Bool.and_eq_true, inB_iff, decide_eq_true_eq] at h
  omega
theorem nn_FullOfSieve (r s : Int) (x : List Bool) : NN single (pFullOfSieve r s x).1 := by
  unfold pFullOfSieve
  split
  · rename_i h
    obtain ⟨h1, h2, _⟩ := vSieve_len h
    exact (fullB_spec h1 (by omega)).2.sg.nn
  · exact nn_zero
/-- What FalseShare returns. -/
def pFalseShare (r s : Int) (x : List Bool) : Nat × Bool := if vSieve r s x.length = true then (powB (fullB x) (r.toNat - 1), true) else (0, false)
theorem nn_FalseShare (r s : Int) (x : List Bool) : NN single (pFalseShare r s x).1 := by
  unfold pFalseShare
  split
  · rename_i h
    obtain ⟨h1, h2, _, h3⟩ := vSieve_len h
    exact (powB_spec (fullB_spec h1 (by omega)).2 (r.toNat - 1) (by omega)).1.sg.nn
  · exact nn_zero
end Go.Proofs.Ytmmolicodlmlkaa
namespace Go.Proofs.Ytmmolicodlmlkaa
open Go.RowKit
set_option linter.unusedVariables false

set_option maxHeartbeats 400000 in
theorem slEqInt64S_any (A A' : Option Addr) (c c' : Nat) (xs ys : List Int) (w : World) (hx : RdL (Value.int .i64) w A xs) (hy : RdL (Value.int .i64) w A' ys)
    (hn : xs.length ≤ 1048576) :
    Calls Try.prog 107 #[.slice A xs.length c, .slice A' ys.length c'] w fun e w' => e = .returned (.bool (decide (xs = ys))) ∧ ∃ n, w' = w.drewN n := by
  have HX := hid hx
  have HY := hid hy
  clear hx hy
  by_cases hl : xs.length = ys.length
  · have hl' : ((xs.length : Int) == (ys.length : Int)) = true := by simp [hl]
    have HL := hid hl
    clear hl
    go_enter Try.func107, Try.ntmps107
    go_wp2
    go_loopw [13] (fun i wr => ∃ k n : Nat, k ≤ xs.length ∧ i = .int .i64 k ∧ wr = w.drewN n ∧ Hid (xs.take k = ys.take k)) (fun i _ => xs.length - (intOf i).toNat)
    case atStart => exact ⟨0, 0, Nat.zero_le _, rfl, rfl, by show xs.take 0 = ys.take 0; simp⟩
    case round =>
      obtain ⟨k, n, hk, rfl, rfl, hh⟩ := hrel
      by_cases hlt : k < xs.length
      · have hlt' : k < ys.length := by have := HL.out; omega
        have hi : (k : Int) < (xs.length : Int) := by omega
        have hi' : (k : Int) < (ys.length : Int) := by omega
        obtain ⟨b, o, x, rfl, hc, hxk⟩ := HX.out.at_ hlt
        obtain ⟨b', o', y, rfl, hc', hyk⟩ := HY.out.at_ hlt'
        by_cases hxy : x = y
        · have ht : (x == y) = true := by simp [hxy]
          have he := take_snoc_eq hh.out hxk hyk hxy
          have HE : Hid (xs.take (k + 1) = ys.take (k + 1)) := he
          clear hxy he
          go_wp2
          go_quiet (fail)
          go_wp2
          exact ⟨⟨k + 1, _, by omega, by go_num, rfl, HE⟩, by simp [intOf]; omega⟩
        · have ht : (x == y) = false := by simp [hxy]
          have he := ne_of_at hxk hyk hxy
          clear hxy
          go_wp2
          go_quiet (fail)
          go_wp2
          go_ret
          exact ⟨by simp [he], _, World.drewN_drewN _ _ _⟩
      · have hi : ¬ (k : Int) < (xs.length : Int) := by omega
        go_wp2
        go_ret
        have := HL.out
        have hh := hh.out
        rw [List.take_of_length_le (by omega), List.take_of_length_le (by omega)] at hh
        exact ⟨by simp [hh], _, rfl⟩
  · have hl' : ((xs.length : Int) == (ys.length : Int)) = false := by simp; omega
    have hne := ne_of_length hl
    clear hl
    go_enter Try.func107, Try.ntmps107
    go_wp2
    go_ret
    exact ⟨by simp [hne], 0, rfl⟩

/-- The first index of an element with p; -1 where there is none. -/
def idxP (p : Int → Bool) (xs : List Int) : Int := match xs.findIdx? p with | some i => i | none => -1
theorem idxP_at {p : Int → Bool} {xs : List Int} {k : Nat} {x : Int} (h : Hid ((xs.take k).any p = false)) (hx : Hid (xs[k]? = some x)) (hp : p x = true) : idxP p xs = k := by
  have hk : k < xs.length := by
    rcases Nat.lt_or_ge k xs.length with h1 | h1
    · exact h1
    · have := hx.out; rw [List.getElem?_eq_none h1] at this; cases this
  have hs : xs = xs.take k ++ x :: xs.drop (k + 1) := by
    have hx' := hx.out
    rw [List.getElem?_eq_getElem hk] at hx'
    injection hx' with hx'
    rw [← hx']
    conv => lhs; rw [← List.take_append_drop k xs, List.drop_eq_getElem_cons hk]
  have h1 : (xs.take k).findIdx? p = none := by
    rw [List.findIdx?_eq_none_iff]
    have := h.out
    simpa using this
  unfold idxP
  rw [hs, List.findIdx?_append, h1, List.findIdx?_cons]
  simp [hp]
  omega
theorem idxP_none {p : Int → Bool} {xs : List Int} (h : xs.any p = false) : idxP p xs = -1 := by
  have h1 : xs.findIdx? p = none := by
    rw [List.findIdx?_eq_none_iff]
    simpa using h
  unfold idxP
  rw [h1]
theorem any_snoc {p : Int → Bool} {xs : List Int} {k : Nat} {x : Int} (h : Hid ((xs.take k).any p = false)) (hx : Hid (xs[k]? = some x)) (hp : p x = false) : (xs.take (k + 1)).any p = false := by
  rw [List.take_add_one, hx.out]
  simp only [Option.toList_some, List.any_append, h.out, List.any_cons, hp, List.any_nil, Bool.or_self]
theorem mem_of_at {xs : List Int} {k : Nat} {x : Int} (hx : Hid (xs[k]? = some x)) : x ∈ xs := List.mem_of_getElem? hx.out
theorem idxP_ge {p : Int → Bool} {xs : List Int} : decide (0 ≤ idxP p xs) = xs.any p := by
  cases h : xs.any p with
  | false => rw [idxP_none h]; rfl
  | true =>
    unfold idxP
    cases h1 : xs.findIdx? p with
    | some i => simp
    | none =>
      rw [List.findIdx?_eq_none_iff] at h1
      obtain ⟨x, hx, hp⟩ := List.any_eq_true.1 h
      rw [h1 x hx] at hp
      cases hp

set_option maxHeartbeats 400000 in
theorem IndexFuncW_any (A : Option Addr) (c : Nat) (xs : List Int) (v0 : Value) (v1 : Value) (p : Int → Bool) (w : World) (hx : RdL (Value.int .i64) w A xs) (hn : xs.length ≤ 1048576)
    (hcall : ∀ x ∈ xs, Calls Try.prog 131 #[.int .i64 x, v0, v1] w fun e w' => e = .returned (.bool (p x)) ∧ w = w') :
    Calls Try.prog 139 #[.slice A xs.length c, .func (.func 131) #[] #[v0, v1]] w fun e w' => e = .returned (.int .i64 (idxP p xs)) ∧ w = w' := by
  have HX := hid hx
  have HC := hid hcall
  clear hx hcall
  go_enter Try.func139, Try.ntmps139
  go_wp2
  go_loop [8] (fun i => ∃ k : Nat, k ≤ xs.length ∧ i = .int .i64 k ∧ Hid ((xs.take k).any p = false)) (fun i => xs.length - (intOf i).toNat)
  case atStart => exact ⟨0, Nat.zero_le _, rfl, by show (xs.take 0).any p = false; simp⟩
  case round =>
    obtain ⟨k, hk, rfl, hh⟩ := hrel
    by_cases hlt : k < xs.length
    · have hi : (k : Int) < (xs.length : Int) := by omega
      obtain ⟨b, o, x, rfl, hc, hxk⟩ := HX.out.at_ hlt
      go_wp2_with fail
      refine (HC.out x (mem_of_at hxk)).mono ?_
      rintro e w' ⟨rfl, rfl⟩
      cases hp : p x with
      | true =>
        have he := hid (idxP_at hh hxk hp)
        clear hp
        go_wp2
        go_ret
        exact ⟨ret_int he.out.symm, rfl⟩
      | false =>
        have he := hid (any_snoc hh hxk hp)
        clear hp
        go_wp2
        exact ⟨⟨k + 1, by omega, by go_num, he⟩, by simp [intOf]; omega⟩
    · have hi : ¬ (k : Int) < (xs.length : Int) := by omega
      go_wp2
      go_ret
      have he := hh.out
      rw [List.take_of_length_le (by omega)] at he
      exact ⟨ret_int (idxP_none he).symm, rfl⟩
theorem ContainsFuncW_any (A : Option Addr) (c : Nat) (xs : List Int) (v0 : Value) (v1 : Value) (p : Int → Bool) (w : World) (hx : RdL (Value.int .i64) w A xs) (hn : xs.length ≤ 1048576)
    (hcall : ∀ x ∈ xs, Calls Try.prog 131 #[.int .i64 x, v0, v1] w fun e w' => e = .returned (.bool (p x)) ∧ w = w') :
    Calls Try.prog 123 #[.slice A xs.length c, .func (.func 131) #[] #[v0, v1]] w fun e w' => e = .returned (.bool (xs.any p)) ∧ w = w' := by
  have HX := hid hx
  have HC := hid hcall
  clear hx hcall
  go_enter Try.func123, Try.ntmps123
  go_wp2_with fail
  refine (IndexFuncW_any A c xs v0 v1 p _ HX.out hn HC.out).mono ?_
  rintro e w' ⟨rfl, rfl⟩
  go_wp2
  go_ret
  exact ⟨ret_bool idxP_ge, rfl⟩
set_option maxHeartbeats 400000 in
theorem IndexFuncK_any (A : Option Addr) (c : Nat) (xs : List Int) (p : Int → Bool) (w : World) (hx : RdL (Value.int .i64) w A xs) (hn : xs.length ≤ 1048576)
    (hcall : ∀ x ∈ xs, Calls Try.prog 124 #[.int .i64 x] w fun e w' => e = .returned (.bool (p x)) ∧ w = w') :
    Calls Try.prog 139 #[.slice A xs.length c, .func (.func 124) #[] #[]] w fun e w' => e = .returned (.int .i64 (idxP p xs)) ∧ w = w' := by
  have HX := hid hx
  have HC := hid hcall
  clear hx hcall
  go_enter Try.func139, Try.ntmps139
  go_wp2
  go_loop [8] (fun i => ∃ k : Nat, k ≤ xs.length ∧ i = .int .i64 k ∧ Hid ((xs.take k).any p = false)) (fun i => xs.length - (intOf i).toNat)
  case atStart => exact ⟨0, Nat.zero_le _, rfl, by show (xs.take 0).any p = false; simp⟩
  case round =>
    obtain ⟨k, hk, rfl, hh⟩ := hrel
    by_cases hlt : k < xs.length
    · have hi : (k : Int) < (xs.length : Int) := by omega
      obtain ⟨b, o, x, rfl, hc, hxk⟩ := HX.out.at_ hlt
      go_wp2_with fail
      refine (HC.out x (mem_of_at hxk)).mono ?_
      rintro e w' ⟨rfl, rfl⟩
      cases hp : p x with
      | true =>
        have he := hid (idxP_at hh hxk hp)
        clear hp
        go_wp2
        go_ret
        exact ⟨ret_int he.out.symm, rfl⟩
      | false =>
        have he := hid (any_snoc hh hxk hp)
        clear hp
        go_wp2
        exact ⟨⟨k + 1, by omega, by go_num, he⟩, by simp [intOf]; omega⟩
    · have hi : ¬ (k : Int) < (xs.length : Int) := by omega
      go_wp2
      go_ret
      have he := hh.out
      rw [List.take_of_length_le (by omega)] at he
      exact ⟨ret_int (idxP_none he).symm, rfl⟩
theorem ContainsFuncK_any (A : Option Addr) (c : Nat) (xs : List Int) (p : Int → Bool) (w : World) (hx : RdL (Value.int .i64) w A xs) (hn : xs.length ≤ 1048576)
    (hcall : ∀ x ∈ xs, Calls Try.prog 124 #[.int .i64 x] w fun e w' => e = .returned (.bool (p x)) ∧ w = w') :
    Calls Try.prog 123 #[.slice A xs.length c, .func (.func 124) #[] #[]] w fun e w' => e = .returned (.bool (xs.any p)) ∧ w = w' := by
  have HX := hid hx
  have HC := hid hcall
  clear hx hcall
  go_enter Try.func123, Try.ntmps123
  go_wp2_with fail
  refine (IndexFuncK_any A c xs  p _ HX.out hn HC.out).mono ?_
  rintro e w' ⟨rfl, rfl⟩
  go_wp2
  go_ret
  exact ⟨ret_bool idxP_ge, rfl⟩
end Go.Proofs.Ytmmolicodlmlkaa
namespace Go.Proofs.Ytmmolicodlmlkaa
open Go.RowKit
set_option linter.unusedVariables false

/-- All elements lie from lo to hi. -/
def allB (xs : List Int) (lo hi : Int) : Bool := xs.all fun x => inB x lo hi
theorem allB_not_any {xs : List Int} {lo hi : Int} : (!xs.any fun x => !inB x lo hi) = allB xs lo hi := by
  unfold allB
  rw [List.all_eq_not_any_not]
theorem allB_no {xs : List Int} {k : Nat} {x lo hi : Int} (hx : Hid (xs[k]? = some x)) (h : inB x lo hi = false) : allB xs lo hi = false := by
  unfold allB
  rw [List.all_eq_false]
  exact ⟨x, List.mem_of_getElem? hx.out, by simp [h]⟩
theorem allB_snoc {xs : List Int} {k : Nat} {x lo hi : Int} (h0 : Hid (allB (xs.take k) lo hi = true)) (hx : Hid (xs[k]? = some x)) (h : inB x lo hi = true) : allB (xs.take (k + 1)) lo hi = true := by
  have := h0.out
  unfold allB at this ⊢
  rw [List.take_add_one, hx.out]
  simp only [Option.toList_some, List.all_append, this, List.all_cons, h, List.all_nil, Bool.and_self]

theorem areWithin1_any (x lo hi : Int) (b b' : Nat) (w : World) (h0 : w.cell? ⟨b, 0, none⟩ = some (.int .i64 lo)) (h1 : w.cell? ⟨b', 0, none⟩ = some (.int .i64 hi)) :
    Calls Try.prog 131 #[.int .i64 x, .pointer (some ⟨b, 0, none⟩), .pointer (some ⟨b', 0, none⟩)] w fun e w' => e = .returned (.bool (!inB x lo hi)) ∧ w = w' := by
  go_enter Try.func131, Try.ntmps131
  go_wp2_with (go_at_call 97; refine (within_any _ _ _ _).mono ?_; rintro e w' ⟨rfl, rfl⟩)
  go_ret
  exact ⟨rfl, rfl⟩
set_option maxHeartbeats 400000 in
theorem areWithin_any (A : Option Addr) (c : Nat) (xs : List Int) (lo hi : Int) (w : World) (hx : RdL (Value.int .i64) w A xs) (hn : xs.length ≤ 1048576) :
    Calls Try.prog 105 #[.slice A xs.length c, .int .i64 lo, .int .i64 hi] w fun e w' => e = .returned (.bool (allB xs lo hi)) ∧ Below w.heap.size w w' := by
  have hmf : ∀ (fn : Fn) (first cap : Array Value) (w : World), (Instr.makeFunc fn first cap).run Try.prog w = .ok (.func fn first cap) w := fun _ _ _ _ => rfl
  have HX := hid hx
  clear hx
  go_enter Try.func105, Try.ntmps105
  go_wp2_with fail
  refine (ContainsFuncW_any A c xs _ _ (fun x => !inB x lo hi) _ (HX.out.below (below_a2 _ _ _)) hn (fun x _ => areWithin1_any x lo hi _ _ _ ?_ ?_)).mono ?_
  · simp
  · simp
  rintro e w' ⟨rfl, rfl⟩
  go_wp2
  go_ret
  exact ⟨ret_bool allB_not_any, below_a2 _ _ _⟩
theorem areAllKeys1_any (x : Int) (w : World) :
    Calls Try.prog 124 #[.int .i64 x] w fun e w' => e = .returned (.bool (!inB x 0 4294967295)) ∧ w = w' := by
  go_enter Try.func124, Try.ntmps124
  go_wp2_with (go_at_call 63; refine (IsKey_any _ _).mono ?_; rintro e w' ⟨rfl, rfl⟩)
  go_ret
  exact ⟨rfl, rfl⟩
theorem areAllKeys_any (A : Option Addr) (c : Nat) (xs : List Int) (w : World) (hx : RdL (Value.int .i64) w A xs) (hn : xs.length ≤ 1048576) :
    Calls Try.prog 79 #[.slice A xs.length c] w fun e w' => e = .returned (.bool (allB xs 0 4294967295)) ∧ w = w' := by
  have hmf : ∀ (fn : Fn) (first cap : Array Value) (w : World), (Instr.makeFunc fn first cap).run Try.prog w = .ok (.func fn first cap) w := fun _ _ _ _ => rfl
  have HX := hid hx
  clear hx
  go_enter Try.func79, Try.ntmps79
  go_wp2_with fail
  refine (ContainsFuncK_any A c xs (fun x => !inB x 0 4294967295) _ HX.out hn (fun x _ => areAllKeys1_any x _)).mono ?_
  rintro e w' ⟨rfl, rfl⟩
  go_wp2
  go_ret
  exact ⟨ret_bool allB_not_any, rfl⟩
end Go.Proofs.Ytmmolicodlmlkaa
namespace Go.Proofs.Ytmmolicodlmlkaa
open Go.RowKit Ieee
set_option linter.unusedVariables false
set_option linter.unusedSimpArgs false

/-- The first n elements ascend strictly. -/
def incTo (x : List Int) (n : Nat) : Bool := (List.range n).all fun k => decide (k = 0 ∨ x.getD (k - 1) 0 < x.getD k 0)
theorem incTo_succ (x : List Int) (n : Nat) : incTo x (n + 1) = (incTo x n && decide (n = 0 ∨ x.getD (n - 1) 0 < x.getD n 0)) := by
  simp [incTo, List.range_succ]
theorem incTo_no {x : List Int} {k n : Nat} (h : incTo x (k + 1) = false) (hk : k < n) : incTo x n = false := by
  induction n with
  | zero => omega
  | succ n ih =>
    rcases (show k = n ∨ k < n by omega) with rfl | h1
    · exact h
    · rw [incTo_succ, ih h1]; rfl
theorem getD_of {x : List Int} {k : Nat} {y : Int} (h : Hid (x[k]? = some y)) : x.getD k 0 = y := by rw [List.getD_eq_getElem?_getD, h.out]; rfl
/-- A list of least hashes is valid. -/
def vLeast (x : List Int) (room : Int) : Bool := inB room 1 256 && decide ((x.length : Int) ≤ room) && allB x 0 4294967295 && incTo x x.length

/-- The number that is told. -/
def leastV (n : Nat) (last room : Int) : Nat :=
  if (n : Int) < room then floatOfInt .f32 (n : Int)
  else (floatBits .quo .f32 (floatOfInt .f32 (room - 1)) ((floatBits .quo .f32 (floatOfInt .f32 (last + 1)) 1333788672).getD 0)).getD 0
/-- What CountOfLeast returns. -/
def pCountOfLeast (x : List Int) (room : Int) : Nat × Bool := if vLeast x room = true then (leastV x.length (x.getD (x.length - 1) 0) room, true) else (0, false)

theorem all_nm : Nm 1333788672 32 32 := ⟨8388608, 9, by decide +kernel, by omega, by omega, by omega, by omega⟩
/-- It is a number, not below 0. -/
def Fin0 (r : Nat) : Prop := ∃ m e, single.read r = .number false m e
theorem Fin0.nn {r : Nat} (h : Fin0 r) : NN single r := by
  obtain ⟨m, e, h⟩ := h
  exact ⟨false, .inl ⟨m, e, h⟩⟩
theorem zero_quo {y : Nat} {c d : Int} (hy : Nm y c d) : floatBits .quo .f32 (floatOfInt .f32 0) y = some 0 := by
  obtain ⟨n, j, hy, n1, _⟩ := hy
  have h0 : single.read (floatOfInt .f32 0) = .number false 0 (-149) := by decide +kernel
  show single.div _ y = _
  unfold Format.div
  rw [h0, hy]
  simp only [Datum.quotient, if_neg (show n ≠ 0 by omega), Option.map_some, Bool.xor_self, Nat.zero_shiftLeft, Nat.zero_div, Nat.zero_mod]
  show some (single.nearest false _ _) = _
  congr 1
theorem log2_le_of {n k : Nat} (h : n < 2 ^ (k + 1)) : n.log2 ≤ k := by
  have := log2_lt_of h (by omega)
  omega
theorem least_spec {last room : Int} (hl0 : 0 ≤ last) (hl : last ≤ 4294967295) (hr0 : 1 ≤ room) (hr : room ≤ 256) :
    ∃ q r, floatBits .quo .f32 (floatOfInt .f32 (last + 1)) 1333788672 = some q ∧ floatBits .quo .f32 (floatOfInt .f32 (room - 1)) q = some r ∧ Fin0 r := by
  obtain ⟨l, rfl⟩ := Int.eq_ofNat_of_zero_le hl0
  have h1 : (l : Int) + 1 = ((l + 1 : Nat) : Int) := by omega
  have hlog : (l + 1).log2 ≤ 32 := log2_le_of (k := 32) (by omega)
  have hn := ofInt_nm (n := l + 1) (by omega) (by omega)
  obtain ⟨q, hq, hqn⟩ := quo_nm hn all_nm (by omega) (by omega)
  rw [h1]
  refine ⟨q, ?_⟩
  rcases (show room = 1 ∨ 2 ≤ room by omega) with rfl | h2
  · exact ⟨0, hq, zero_quo hqn, 0, -149, read_low 0 (by omega)⟩
  · obtain ⟨k, hk⟩ := Int.eq_ofNat_of_zero_le (show 0 ≤ room - 1 by omega)
    have hkl : k.log2 ≤ 8 := log2_le_of (k := 8) (by omega)
    have hkn := ofInt_nm (n := k) (by omega) (by omega)
    obtain ⟨r, hr, hrn⟩ := quo_nm hkn hqn (by omega) (by omega)
    rw [hk]
    obtain ⟨m, e, hre, _⟩ := hrn
    exact ⟨r, hq, hr, m, e, hre⟩
theorem vLeast_iff {x : List Int} {room : Int} (h : vLeast x room = true) : (1 ≤ room ∧ room ≤ 256) ∧ (x.length : Int) ≤ room ∧ (∀ y ∈ x, 0 ≤ y ∧ y ≤ 4294967295) ∧ incTo x x.length = true := by
  simp only [vLeast, Bool.and_eq_true, decide_eq_true_eq, inB_iff] at h
  refine ⟨h.1.1.1, h.1.1.2, fun y hy => ?_, h.2⟩
  have := h.1.2
  unfold allB at this
  rw [List.all_eq_true] at this
  exact inB_iff.1 (this y hy)
theorem last_mem {x : List Int} (h : 0 < x.length) : x.getD (x.length - 1) 0 ∈ x := by
  rw [List.getD_eq_getElem?_getD, List.getElem?_eq_getElem (by omega), Option.getD_some]
  exact List.getElem_mem _
theorem fin_ofNat {n : Nat} (h : n ≤ 256) : Fin0 (floatOfInt .f32 (n : Int)) := by
  obtain ⟨m, e, h, _⟩ := ofInt_read (n := n) (by omega)
  exact ⟨m, e, h⟩
theorem leastV_eq {n : Nat} {last room : Int} {q r : Nat} (h : ¬ (n : Int) < room) (hq : floatBits .quo .f32 (floatOfInt .f32 (last + 1)) 1333788672 = some q) (hr : floatBits .quo .f32 (floatOfInt .f32 (room - 1)) q = some r) : leastV n last room = r := by
  unfold leastV
  rw [if_neg h, hq, Option.getD_some, hr, Option.getD_some]
theorem nn_CountOfLeast (x : List Int) (room : Int) : NN single (pCountOfLeast x room).1 := by
  unfold pCountOfLeast
  split
  · rename_i h
    obtain ⟨⟨h1, h2⟩, h3, h4, _⟩ := vLeast_iff h
    by_cases hlt : (x.length : Int) < room
    · show NN single (leastV _ _ _)
      unfold leastV
      rw [if_pos hlt]
      exact (fin_ofNat (by omega)).nn
    · have hb := h4 _ (last_mem (x := x) (by omega))
      obtain ⟨q, r, hq, hr, hf⟩ := least_spec hb.1 hb.2 h1 h2
      show NN single (leastV _ _ _)
      rw [leastV_eq hlt hq hr]
      exact hf.nn
  · exact nn_zero
theorem sub_self_fin {r : Nat} (h : Fin0 r) : floatBits .sub .f32 r r = some 0 := by
  obtain ⟨m, e, h⟩ := h
  show single.sub r r = _
  unfold Format.sub
  rw [h]
  simp only [Datum.opposite, Datum.sum, Option.map_some]
  have hz : ∀ a : Nat, signed false m a + signed true m a = 0 := fun a => by
    show (((m <<< a : Nat) : Int)) + -((m <<< a : Nat) : Int) = 0
    omega
  simp [hz]
  show single.nearest _ _ _ = 0
  unfold Format.nearest
  simp [word_false]
end Go.Proofs.Ytmmolicodlmlkaa
namespace Go.Proofs.Ytmmolicodlmlkaa
open Go.RowKit Ieee
set_option linter.unusedVariables false
set_option linter.unusedSimpArgs false

set_option maxHeartbeats 1000000 in
theorem l02Keys_any (A : Option Addr) (c : Nat) (x : List Int) (w : World) (hx : RdL (Value.int .i64) w A x) (hn : x.length ≤ 256) :
    Calls Try.prog 72 #[.slice A x.length c] w fun e w' => e = .returned (.bool (allB x 0 4294967295)) ∧ w = w' := by
  have HX := hid hx
  clear hx
  have hn' : (x.length : Int) ≤ 256 := by omega
  go_enter Try.func72, Try.ntmps72
  go_wp2
  go_loop [3] (fun i => ∃ k : Nat, k ≤ x.length ∧ i = .int .i64 k ∧ Hid (allB (x.take k) 0 4294967295 = true)) (fun i => x.length - (intOf i).toNat)
  case atStart => exact ⟨0, Nat.zero_le _, rfl, rfl⟩
  case round =>
    obtain ⟨k, hk, rfl, hh⟩ := hrel
    by_cases hlt : k < x.length
    · have hi : (k : Int) < (x.length : Int) := by omega
      obtain ⟨b', o', z, rfl, hc, hxk⟩ := HX.out.at_ hlt
      cases hb : inB z 0 4294967295 with
      | true =>
        have he := hid (allB_snoc hh hxk hb)
        go_wp2_with ((go_at_call 73; refine (l02Key_any _ _).mono ?_; rintro e w' ⟨rfl, rfl⟩))
        exact ⟨⟨k + 1, by omega, by go_num, he⟩, by simp [intOf]; omega⟩
      | false =>
        have he := hid (allB_no hxk hb)
        go_wp2_with ((go_at_call 73; refine (l02Key_any _ _).mono ?_; rintro e w' ⟨rfl, rfl⟩))
        go_ret
        exact ⟨ret_bool he.out.symm, rfl⟩
    · have hi : ¬ (k : Int) < (x.length : Int) := by omega
      have he := hh.out
      rw [List.take_of_length_le (by omega)] at he
      have HE := hid he
      clear he
      go_wp2
      go_ret
      exact ⟨ret_bool (by first | (rw [HE.out]; done) | (rw [HE.out]; simp; omega)), rfl⟩
set_option maxHeartbeats 400000 in
theorem l02Keys_no (A : Option Addr) (c : Nat) (x : List Int) (w : World) (hx : RdL (Value.int .i64) w A x) (hn : 256 < x.length) :
    Calls Try.prog 72 #[.slice A x.length c] w fun e w' => e = .returned (.bool false) ∧ w = w' := by
  have hn' : (256 : Int) < (x.length : Int) := by omega
  have hp : (0 : Int) < (x.length : Int) := by omega
  have hd : decide ((x.length : Int) ≤ 256) = false := decide_eq_false (by omega)
  clear hx
  go_enter Try.func72, Try.ntmps72
  go_wp2
  go_loop [3] (fun i => i = .int .i64 0) (fun i => 0)
  case atStart => rfl
  case round =>
    obtain rfl := hrel
    go_wp2
    go_ret
    exact ⟨rfl, rfl⟩
end Go.Proofs.Ytmmolicodlmlkaa
namespace Go.Proofs.Ytmmolicodlmlkaa
open Go.RowKit
set_option linter.unusedVariables false

def mixA (x : Nat) : Nat := (x ^^^ x / 1073741824) * 13787848793156543929 % 18446744073709551616
def mixB (x : Nat) : Nat := (x ^^^ x / 134217728) * 10723151780598845931 % 18446744073709551616
def mixC (x : Nat) : Nat := x ^^^ x / 2147483648
/-- All digits are mixed. -/
def mixU (x : Nat) : Nat := mixC (mixB (mixA x))
theorem mixC_lt {x : Nat} (hx : x < 18446744073709551616) : mixC x < 18446744073709551616 :=
  Nat.xor_lt_two_pow (n := 64) hx (Nat.lt_of_le_of_lt (Nat.div_le_self _ _) hx)
theorem mixA_lt (x : Nat) : mixA x < 18446744073709551616 := Nat.mod_lt _ (by omega)
theorem mixB_lt (x : Nat) : mixB x < 18446744073709551616 := Nat.mod_lt _ (by omega)
theorem mixU_lt (x : Nat) : mixU x < 18446744073709551616 := mixC_lt (mixB_lt _)
theorem mixA_eq (x : Nat) (hx : x < 18446744073709551616) : IntKind.u64.wrap (bits .xor .u64 (x : Int) ((x : Int) / 1073741824) * 13787848793156543929) = (mixA x : Int) := mixStep_u64 x 1073741824 13787848793156543929 hx
theorem mixB_eq (x : Nat) (hx : x < 18446744073709551616) : IntKind.u64.wrap (bits .xor .u64 (x : Int) ((x : Int) / 134217728) * 10723151780598845931) = (mixB x : Int) := mixStep_u64 x 134217728 10723151780598845931 hx
theorem mixC_eq (x : Nat) (hx : x < 18446744073709551616) : bits .xor .u64 (x : Int) ((x : Int) / 2147483648) = (mixC x : Int) := xorShift_u64 x 2147483648 hx
/-- The hash of a key with a salt. -/
def hashN (k s : Nat) : Nat := mixU ((k + s * 4294967296 + 11400714819323198485) % 18446744073709551616) / 4294967296
theorem hashN_lt (k s : Nat) : hashN k s < 4294967296 := by
  unfold hashN
  have := mixU_lt ((k + s * 4294967296 + 11400714819323198485) % 18446744073709551616)
  omega
/-- A number below n. -/
def belowN (k s n : Nat) : Nat := hashN k s * n / 4294967296
theorem belowN_lt (k s n : Nat) (hn : 0 < n) : belowN k s n < n := by
  unfold belowN
  rw [Nat.div_lt_iff_lt_mul (by omega), Nat.mul_comm]
  exact Nat.mul_lt_mul_of_pos_left (hashN_lt k s) hn
theorem below_mul_lt (k s n : Nat) (hn : n ≤ 4294967296) : hashN k s * n < 18446744073709551616 := by
  have h1 := hashN_lt k s
  have h2 : hashN k s * n ≤ 4294967295 * 4294967296 := Nat.mul_le_mul (by omega) hn
  omega

theorem hash_arg (k s : Nat) : IntKind.u64.wrap ((k : Int) + (s : Int) * 4294967296 + 11400714819323198485) = (((k + s * 4294967296 + 11400714819323198485) % 18446744073709551616 : Nat) : Int) := by
  rw [IntKind.wrap_u64]; omega
theorem hash_arg' (k s : Nat) : IntKind.u64.wrap ((k : Int) + 4294967296 * (s : Int) + 11400714819323198485) = (((k + s * 4294967296 + 11400714819323198485) % 18446744073709551616 : Nat) : Int) := by
  rw [IntKind.wrap_u64]; omega

theorem l02Mix_any (x : Nat) (w : World) (hx : x < 18446744073709551616) :
    Calls Try.prog 136 #[.int .u64 x] w fun e w' => e = .returned (.int .u64 (mixU x)) ∧ w = w' := by
  go_enter Try.func136, Try.ntmps136
  go_wp2
  go_ret
  exact ⟨ret_int (by rw [mixA_eq x hx, mixB_eq _ (mixA_lt x)]; exact mixC_eq _ (mixB_lt _)), rfl⟩
theorem MixHash_any (x : Nat) (w : World) (hx : x < 18446744073709551616) :
    Calls Try.prog 66 #[.int .u64 x] w fun e w' => e = .returned (.int .u64 (mixU x)) ∧ w = w' := by
  go_enter Try.func66, Try.ntmps66
  go_wp2
  go_ret
  exact ⟨ret_int (by rw [mixA_eq x hx, mixB_eq _ (mixA_lt x)]; exact mixC_eq _ (mixB_lt _)), rfl⟩
theorem l02Hash_any (k s : Nat) (w : World) (hk : k < 4294967296) (hs : s < 4294967296) :
    Calls Try.prog 120 #[.int .i64 k, .int .i64 s] w fun e w' => e = .returned (.int .i64 (hashN k s)) ∧ w = w' := by
  go_enter Try.func120, Try.ntmps120
  go_wp2_with fail
  rw [hash_arg]
  have hlt := mixU_lt ((k + s * 4294967296 + 11400714819323198485) % 18446744073709551616)
  obtain ⟨m, hm⟩ : ∃ m, m = mixU ((k + s * 4294967296 + 11400714819323198485) % 18446744073709551616) := ⟨_, rfl⟩
  have HM := hid hm
  refine (l02Mix_any _ _ (Nat.mod_lt _ (by omega))).mono ?_
  rintro e w' ⟨rfl, rfl⟩
  rw [← hm] at hlt ⊢
  clear hm
  have hh : hashN k s = m / 4294967296 := by rw [HM.out]; rfl
  have HH := hid hh
  clear hh
  go_wp2
  go_ret
  exact ⟨ret_int (by rw [HH.out]; omega), rfl⟩
theorem ihash_any (k s : Nat) (w : World) (hk : k < 4294967296) (hs : s < 4294967296) :
    Calls Try.prog 111 #[.int .i64 k, .int .i64 s] w fun e w' => e = .returned (.int .i64 (hashN k s)) ∧ w = w' := by
  go_enter Try.func111, Try.ntmps111
  go_wp2_with fail
  rw [hash_arg']
  have hlt := mixU_lt ((k + s * 4294967296 + 11400714819323198485) % 18446744073709551616)
  obtain ⟨m, hm⟩ : ∃ m, m = mixU ((k + s * 4294967296 + 11400714819323198485) % 18446744073709551616) := ⟨_, rfl⟩
  have HM := hid hm
  refine (MixHash_any _ _ (Nat.mod_lt _ (by omega))).mono ?_
  rintro e w' ⟨rfl, rfl⟩
  rw [← hm] at hlt ⊢
  clear hm
  have hh : hashN k s = m / 4294967296 := by rw [HM.out]; rfl
  have HH := hid hh
  clear hh
  go_wp2
  go_ret
  exact ⟨ret_int (by rw [HH.out]; omega), rfl⟩
theorem l02Below_any (k s n : Nat) (w : World) (hk : k < 4294967296) (hs : s < 4294967296) (hn : n ≤ 4294967296) :
    Calls Try.prog 154 #[.int .i64 k, .int .i64 s, .int .i64 n] w fun e w' => e = .returned (.int .i64 (belowN k s n)) ∧ w = w' := by
  have hb := below_mul_lt k s n hn
  have hh := hashN_lt k s
  go_enter Try.func154, Try.ntmps154
  go_wp2_with (go_at_call 120; refine (l02Hash_any k s _ hk hs).mono ?_; rintro e w' ⟨rfl, rfl⟩)
  go_ret
  exact ⟨ret_int (by unfold belowN; rw [Int.natCast_ediv, Int.natCast_mul]; rfl), rfl⟩
theorem ibelow_any (k s n : Nat) (w : World) (hk : k < 4294967296) (hs : s < 4294967296) (hn : n ≤ 4294967296) :
    Calls Try.prog 110 #[.int .i64 k, .int .i64 s, .int .i64 n] w fun e w' => e = .returned (.int .i64 (belowN k s n)) ∧ w = w' := by
  have hb := below_mul_lt k s n hn
  have hh := hashN_lt k s
  go_enter Try.func110, Try.ntmps110
  go_wp2_with (go_at_call 111; refine (ihash_any k s _ hk hs).mono ?_; rintro e w' ⟨rfl, rfl⟩)
  go_ret
  exact ⟨ret_int (by unfold belowN; rw [Int.natCast_ediv, Int.natCast_mul]; rfl), rfl⟩
/-- A salt plus a number. -/
def saltN (s k : Nat) : Nat := (s + k) % 4294967296
theorem saltN_lt (s k : Nat) : saltN s k < 4294967296 := Nat.mod_lt _ (by omega)
theorem salted_any (s k : Nat) (w : World) (hs : s < 4294967296) (hk : k < 4294967296) :
    Calls Try.prog 114 #[.int .i64 s, .int .i64 k] w fun e w' => e = .returned (.int .i64 (saltN s k)) ∧ w = w' := by
  go_enter Try.func114, Try.ntmps114
  go_wp2
  go_ret
  exact ⟨ret_int (by unfold saltN; omega), rfl⟩
end Go.Proofs.Ytmmolicodlmlkaa
