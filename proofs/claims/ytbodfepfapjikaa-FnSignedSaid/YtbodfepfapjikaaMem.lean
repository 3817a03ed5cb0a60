/-
  Words for memory of my own: a slice that reads as a list, a block that is known whole, a slice of the call's own; no program in sight.
-/
import Derived.WalkKit
import Derived.WalkSpells
import Derived.WalkLawsBesides
import Derived.Deep.Draws
import Derived.Deep.QuietTactic
import Derived.BigQuiet
import Derived.Deep.RegionHeld3
import Derived.Deep.OwnRows
namespace Go.Proofs.Ytbodfepfapjikaa
open Go.RowKit

theorem hid {p : Prop} (h : p) : Hid p := h

/-- Behind a call that leaves all old blocks alone: two rules by which the walk reads old cells and old marks in the new world. -/
theorem bcell {W w1 : World} (hb : Below W.heap.size W w1) : (∀ b o, b < W.heap.size → w1.cell? ⟨b, o, none⟩ = W.cell? ⟨b, o, none⟩) ∧ (∀ b o, b < W.heap.size → w1.frozen? ⟨b, o, none⟩ = W.frozen? ⟨b, o, none⟩) :=
  ⟨fun b o h => hb.cell (p := ⟨b, o, none⟩) h, fun b o h => hb.frozen (p := ⟨b, o, none⟩) h⟩

theorem below_drewN {B : Nat} {a w : World} (h : Below B a w) (n : Nat) : Below B a (w.drewN n) := ⟨h.os, h.tape, h.output, h.size, h.block⟩
theorem below_refl (w : World) : Below w.heap.size w w := Below.refl _ _
theorem below_a2 (w : World) (o o' : Obj) : Below w.heap.size w ((w.alloc o).alloc o') := ((Below.refl _ _).alloc (Nat.le_refl _) o).alloc (by simp) o'
theorem below_a3 (w : World) (o o' o'' : Obj) : Below w.heap.size w (((w.alloc o).alloc o').alloc o'') := (below_a2 w o o').alloc (by simp; omega) o''
theorem below_alloc2 (w : World) (o o' : Obj) : Below w.heap.size w ((w.alloc o).alloc o') := ((Below.refl _ _).alloc (Nat.le_refl _) o).alloc (by simp) o'
theorem below_alloc3 (w : World) (o o' o'' : Obj) : Below w.heap.size w (((w.alloc o).alloc o').alloc o'') := (below_alloc2 w o o').alloc (by simp; omega) o''
theorem below_alloc4 (w : World) (o o' o'' o3 : Obj) : Below w.heap.size w ((((w.alloc o).alloc o').alloc o'').alloc o3) := (below_alloc3 w o o' o'').alloc (by simp; omega) o3

theorem below_a1 (w : World) (o : Obj) : Below w.heap.size w (w.alloc o) := (Below.refl _ _).alloc (Nat.le_refl _) _
/-- Behind a call made in the world W, which has grown out of w0. -/
theorem below_call {w0 W w1 : World} (h : Below w0.heap.size w0 W) (hb : Below W.heap.size W w1) : Hid (Below w0.heap.size w0 w1) := h.trans (hb.mono h.size)

theorem below_drew1 {B : Nat} {a w : World} (h : Below B a w) : Below B a w.drew := ⟨h.os, h.tape, h.output, h.size, h.block⟩
theorem below_alloc_ {W c : World} (h : Below W.heap.size W c) (o : Obj) : Below W.heap.size W (c.alloc o) := h.alloc h.size o
theorem below_next {B : Nat} {W c w' : World} (h : Below B W c) (hb : Below c.heap.size c w') (hB : B ≤ W.heap.size := by exact Nat.le_refl _) : Hid (Below B W w') := h.trans (hb.mono (Nat.le_trans hB h.size))
theorem below_drew'' {B n : Nat} {a w : World} (h : Below B (a.drewN n) w) : Below B a w := ⟨h.os, h.tape, h.output, h.size, h.block⟩
theorem below_drew' {B : Nat} {a w : World} (h : Below B a.drew w) : Below B a w := ⟨h.os, h.tape, h.output, h.size, h.block⟩

/-- The slice whose address is A reads, in w, as the list xs (f: how an element lies in its cell). -/
def RdL {α : Type} (f : α → Value) (w : World) (A : Option Addr) (xs : List α) : Prop :=
  ∀ j (h : j < xs.length), ∃ b o, A = some ⟨b, o, none⟩ ∧ w.cell? ⟨b, o + j, none⟩ = some (f xs[j])

section
variable {α : Type} {f : α → Value} {w w' : World} {A : Option Addr} {xs : List α}
theorem RdL.nil : RdL f w A [] := fun j h => absurd h (by simp)
theorem RdL.below (h : RdL f w A xs) (hb : Below w.heap.size w w') : RdL f w' A xs := fun j hj => by
  obtain ⟨b, o, hA, hc⟩ := h j hj
  have hlt := World.block_lt_of_cell? w _ hc
  exact ⟨b, o, hA, (hb.cell (p := ⟨b, o + j, none⟩) hlt).trans hc⟩
theorem RdL.drewN (h : RdL f w A xs) (n : Nat) : RdL f (w.drewN n) A xs := h
theorem RdL.at_ (h : RdL f w A xs) {k : Nat} (hk : k < xs.length) :
    ∃ b o x, A = some ⟨b, o, none⟩ ∧ w.cell? ⟨b, o + k, none⟩ = some (f x) ∧ Hid (xs[k]? = some x) := by
  obtain ⟨b, o, hA, hc⟩ := h k hk
  exact ⟨b, o, xs[k], hA, hc, by show xs[k]? = _; exact List.getElem?_eq_getElem hk⟩
end

/-- Block g is just the cells cs, of element type t, none of them frozen. -/
def Blk (w : World) (g : Nat) (t : TypeId) (cs : List Value) : Prop := w.heap[g]? = some (.cells cs.toArray t (0, 0))

section
variable {w w' : World} {g : Nat} {t : TypeId} {cs : List Value}
theorem Blk.lt (h : Blk w g t cs) : g < w.heap.size := (Array.getElem?_eq_some_iff.1 h).1
theorem Blk.cell (h : Blk w g t cs) {i : Nat} {v : Value} (hi : cs[i]? = some v) : w.cell? ⟨g, i, none⟩ = some v := by
  rw [cell_of_row w g i cs.toArray t (0, 0) h]; simpa using hi
theorem Blk.frozen (h : Blk w g t cs) (i : Nat) : w.frozen? ⟨g, i, none⟩ = false := by
  unfold Blk at h; simp [World.frozen?, h]
theorem Blk.cells2 {v0 v1 : Value} (h : Blk w g t [v0, v1]) : w.cell? ⟨g, 0, none⟩ = some v0 ∧ w.cell? ⟨g, 1, none⟩ = some v1 := ⟨h.cell rfl, h.cell rfl⟩
theorem Blk.cells4 {v0 v1 v2 v3 : Value} (h : Blk w g t [v0, v1, v2, v3]) : w.cell? ⟨g, 0, none⟩ = some v0 ∧ w.cell? ⟨g, 1, none⟩ = some v1 ∧ w.cell? ⟨g, 2, none⟩ = some v2 ∧ w.cell? ⟨g, 3, none⟩ = some v3 := ⟨h.cell rfl, h.cell rfl, h.cell rfl, h.cell rfl⟩
theorem Blk.cells3 {v0 v1 v2 : Value} (h : Blk w g t [v0, v1, v2]) : w.cell? ⟨g, 0, none⟩ = some v0 ∧ w.cell? ⟨g, 1, none⟩ = some v1 ∧ w.cell? ⟨g, 2, none⟩ = some v2 := ⟨h.cell rfl, h.cell rfl, h.cell rfl⟩
theorem Blk.new (w : World) (t : TypeId) (cs : List Value) : Blk (w.alloc (.cells cs.toArray t)) w.heap.size t cs := heap_alloc_new w _
theorem Blk.new2 (w : World) (o : Obj) (t : TypeId) (cs : List Value) : Blk ((w.alloc o).alloc (.cells cs.toArray t)) (w.heap.size + 1) t cs := by
  have h := Blk.new (w.alloc o) t cs
  rwa [World.size_alloc] at h
theorem Blk.new3 (w : World) (o o' : Obj) (t : TypeId) (cs : List Value) : Blk (((w.alloc o).alloc o').alloc (.cells cs.toArray t)) (w.heap.size + 1 + 1) t cs := by
  have h := Blk.new2 (w.alloc o) o' t cs
  rwa [World.size_alloc] at h
theorem madeCells_one (z : Value) (n : Nat) : madeCells #[z] n = (List.replicate n z).toArray := by
  apply Array.ext
  · simp [size_madeCells]
  · intro i h1 h2
    simp [madeCells, Nat.mod_one]
theorem Blk.made (w : World) (t : TypeId) (z : Value) (n : Nat) : Blk (w.alloc (.cells (madeCells #[z] n) t)) w.heap.size t (List.replicate n z) := by
  rw [madeCells_one]; exact Blk.new w t _
theorem Blk.drewN (h : Blk w g t cs) (n : Nat) : Blk (w.drewN n) g t cs := h
theorem Blk.alloc (h : Blk w g t cs) (o : Obj) : Blk (w.alloc o) g t cs := (Below.heap_alloc w o g h.lt).trans h
theorem Blk.set_ (h : Blk w g t cs) (i : Nat) (u : Value) : Blk (w.setCell ⟨g, i, none⟩ u) g t (cs.set i u) := by
  unfold Blk at h ⊢
  simp [World.setCell, Array.getElem?_modify, h]
theorem Blk.far (h : Blk w g t cs) {p : Addr} (hp : g ≠ p.block) (u : Value) : Blk (w.setCell p u) g t cs := (Below.heap_setCell w p u g hp).trans h
theorem Blk.below (h : Blk w g t cs) (hb : Below w.heap.size w w') : Blk w' g t cs := (hb.block g h.lt).trans h
theorem Blk.rd0 {α : Type} {f : α → Value} {xs : List α} (h : Blk w g t (xs.map f)) : RdL f w (some ⟨g, 0, none⟩) xs := fun j hj => by
  refine ⟨g, 0, rfl, ?_⟩
  rw [Nat.zero_add]
  exact h.cell (by simp [hj])
theorem Blk.rd {α : Type} {f : α → Value} {xs : List α} {ex : List Value} (h : Blk w g t (xs.map f ++ ex)) : RdL f w (some ⟨g, 0, none⟩) xs := fun j hj => by
  refine ⟨g, 0, rfl, ?_⟩
  rw [Nat.zero_add]
  exact h.cell (by rw [List.getElem?_append_left (by simpa using hj)]; simp [hj])
end

/-- The slice at A holds the list xs in a block of the call's own (from block B on), which may be written. -/
def OwnS {α : Type} (f : α → Value) (w : World) (B : Nat) (t : TypeId) (A : Option Addr) (xs : List α) : Prop :=
  xs ≠ [] → ∃ g ex, A = some ⟨g, 0, none⟩ ∧ B ≤ g ∧ Blk w g t (xs.map f ++ ex)

/-- Only the block of the slice (A, n elements) may have changed. -/
structure Touch (w w' : World) (A : Option Addr) (n : Nat) : Prop where
  os : w'.os = w.os
  tape : w'.tape = w.tape
  output : w'.output = w.output
  size : w'.heap.size = w.heap.size
  block : ∀ b, (n = 0 ∨ ∀ o, A ≠ some ⟨b, o, none⟩) → w'.heap[b]? = w.heap[b]?

section
variable {α : Type} {f : α → Value} {w w' w'' : World} {A : Option Addr} {xs : List α} {B : Nat} {t : TypeId} {n : Nat}
theorem OwnS.nil : OwnS f w B t A [] := fun h => absurd rfl h
theorem OwnS.rd (h : OwnS f w B t A xs) : RdL f w A xs := by
  rcases List.eq_nil_or_concat xs with rfl | ⟨_, _, rfl⟩
  · exact RdL.nil
  · obtain ⟨g, ex, rfl, _, hb⟩ := h (by simp)
    exact hb.rd
theorem OwnS.below (h : OwnS f w B t A xs) (hb : Below w.heap.size w w') : OwnS f w' B t A xs := fun hn => by
  obtain ⟨g, ex, hA, hB, hg⟩ := h hn
  exact ⟨g, ex, hA, hB, hg.below hb⟩
theorem OwnS.mono (h : OwnS f w B t A xs) {B' : Nat} (hB : B' ≤ B) : OwnS f w B' t A xs := fun hn => by
  obtain ⟨g, ex, hA, hg, hb⟩ := h hn
  exact ⟨g, ex, hA, by omega, hb⟩
theorem OwnS.of_blk {g : Nat} (h : Blk w g t (xs.map f)) (hB : B ≤ g) : OwnS f w B t (some ⟨g, 0, none⟩) xs := fun _ => ⟨g, [], rfl, hB, by simpa using h⟩
theorem Touch.refl : Touch w w A n := ⟨rfl, rfl, rfl, rfl, fun _ _ => rfl⟩
theorem Touch.trans (h : Touch w w' A n) (k : Touch w' w'' A n) : Touch w w'' A n :=
  ⟨k.os.trans h.os, k.tape.trans h.tape, k.output.trans h.output, k.size.trans h.size, fun b hb => (k.block b hb).trans (h.block b hb)⟩
theorem Touch.drewN (h : Touch w w' A n) (k : Nat) : Touch w (w'.drewN k) A n := ⟨h.os, h.tape, h.output, h.size, h.block⟩
theorem Touch.set_ {g : Nat} (h : Touch w w' (some ⟨g, 0, none⟩) n) (hn : 0 < n) (i : Nat) (u : Value) : Touch w (w'.setCell ⟨g, i, none⟩ u) (some ⟨g, 0, none⟩) n :=
  h.trans ⟨rfl, rfl, rfl, by simp, fun b hb => Below.heap_setCell _ _ _ _ (by
    rintro rfl
    rcases hb with hb | hb
    · omega
    · exact hb 0 rfl)⟩
theorem Touch.below (h : Touch w w' A xs.length) (ho : OwnS f w B t A xs) : Below B w w' :=
  ⟨h.os, h.tape, h.output, Nat.le_of_eq h.size.symm, fun k hk => h.block k (by
    rcases List.eq_nil_or_concat xs with rfl | ⟨_, _, rfl⟩
    · exact .inl rfl
    · obtain ⟨g, ex, rfl, hB, _⟩ := ho (by simp)
      exact .inr fun o e => by
        injection e with e; injection e with e; omega)⟩
end

/-- Two slices do not share a block. -/
def Apart (A : Option Addr) (n : Nat) (A' : Option Addr) (m : Nat) : Prop := n = 0 ∨ m = 0 ∨ ∀ g o g' o', A = some ⟨g, o, none⟩ → A' = some ⟨g', o', none⟩ → g ≠ g'
theorem Apart.symm {A A' : Option Addr} {n m : Nat} (h : Apart A n A' m) : Apart A' m A n := by
  rcases h with h | h | h
  · exact .inr (.inl h)
  · exact .inl h
  · exact .inr (.inr fun g o g' o' h1 h2 e => h g' o' g o h2 h1 e.symm)

/-- Only the blocks of the listed slices, and new ones, may have changed. -/
structure TouchAll (w w' : World) (l : List (Option Addr × Nat)) : Prop where
  os : w'.os = w.os
  tape : w'.tape = w.tape
  output : w'.output = w.output
  size : w.heap.size ≤ w'.heap.size
  block : ∀ b, b < w.heap.size → (∀ p ∈ l, p.2 = 0 ∨ ∀ o, p.1 ≠ some ⟨b, o, none⟩) → w'.heap[b]? = w.heap[b]?

section
variable {α : Type} {f : α → Value} {w w' w'' : World} {A A' : Option Addr} {xs : List α} {B : Nat} {t : TypeId} {n : Nat} {l : List (Option Addr × Nat)}
theorem TouchAll.alloc (w : World) (o : Obj) (l : List (Option Addr × Nat)) : TouchAll w (w.alloc o) l := ⟨rfl, rfl, rfl, by simp, fun b hb _ => Below.heap_alloc _ _ _ hb⟩
theorem TouchAll.trans (h : TouchAll w w' [(A, n)]) (k : Touch w' w'' A n) : TouchAll w w'' [(A, n)] :=
  ⟨k.os.trans h.os, k.tape.trans h.tape, k.output.trans h.output, Nat.le_trans h.size (Nat.le_of_eq k.size.symm), fun b hb hp => (k.block b (hp (A, n) (by simp))).trans (h.block b hb hp)⟩
theorem TouchAll.snoc (h : TouchAll w w' l) (k : Touch w' w'' A n) : TouchAll w w'' (l ++ [(A, n)]) :=
  ⟨k.os.trans h.os, k.tape.trans h.tape, k.output.trans h.output, Nat.le_trans h.size (Nat.le_of_eq k.size.symm), fun b hb hp => (k.block b (hp (A, n) (by simp))).trans (h.block b hb fun p hp' => hp p (by simp [hp']))⟩
theorem TouchAll.of_touch (k : Touch w w' A n) : TouchAll w w' [(A, n)] := ⟨k.os, k.tape, k.output, Nat.le_of_eq k.size.symm, fun b _ hp => k.block b (hp (A, n) (by simp))⟩
theorem OwnS.touch (h : OwnS f w B t A' xs) (k : Touch w w' A n) (ha : Apart A n A' xs.length) : OwnS f w' B t A' xs := fun hn => by
  obtain ⟨g, ex, rfl, hB, hb⟩ := h hn
  refine ⟨g, ex, rfl, hB, (k.block g ?_).trans hb⟩
  rcases ha with ha | ha | ha
  · exact .inl ha
  · exact absurd (List.eq_nil_of_length_eq_zero ha) hn
  · exact .inr fun o e => ha g o g 0 e rfl rfl
/-- A slice of another block. -/
theorem OwnS.touchAll (h : OwnS f w B t A' xs) (k : TouchAll w w' l) (ha : ∀ p ∈ l, Apart p.1 p.2 A' xs.length) : OwnS f w' B t A' xs := fun hn => by
  obtain ⟨g, ex, rfl, hB, hb⟩ := h hn
  refine ⟨g, ex, rfl, hB, (k.block g hb.lt fun p hp => ?_).trans hb⟩
  rcases ha p hp with ha | ha | ha
  · exact .inl ha
  · exact absurd (List.eq_nil_of_length_eq_zero ha) hn
  · exact .inr fun o e => ha g o g 0 e rfl rfl
/-- A block of another element type is another block. -/
theorem Blk.touchAll {g : Nat} {cs : List Value} (h : Blk w g t cs) (k : TouchAll w w' l) (ha : ∀ p ∈ l, p.2 = 0 ∨ ∀ o, p.1 ≠ some ⟨g, o, none⟩) : Blk w' g t cs := (k.block g h.lt ha).trans h
theorem OwnS.other {e : TypeId} {g : Nat} {cs : List Value} (h : OwnS f w B e A xs) (hb : Blk w g t cs) (hne : e ≠ t) : xs.length = 0 ∨ ∀ o, A ≠ some ⟨g, o, none⟩ := by
  rcases List.eq_nil_or_concat xs with rfl | ⟨_, _, rfl⟩
  · exact .inl rfl
  · obtain ⟨g', ex, rfl, _, hb'⟩ := h (by simp)
    refine .inr fun o e' => ?_
    injection e' with e'; injection e' with e1 _
    subst e1
    have h1 : w.heap[g']? = _ := hb
    have h2 : w.heap[g']? = _ := hb'
    rw [h1] at h2
    injection h2 with h2
    injection h2 with _ h3
    exact hne h3.symm
/-- A store into a block of another element type. -/
theorem OwnS.setOther {e : TypeId} {q : Nat} {cs : List Value} (h : OwnS f w B e A xs) (hb : Blk w q t cs) (hne : e ≠ t) (i : Nat) (u : Value) : OwnS f (w.setCell ⟨q, i, none⟩ u) B e A xs := fun hn => by
  obtain ⟨g, ex, rfl, hB, hg⟩ := h hn
  refine ⟨g, ex, rfl, hB, hg.far ?_ u⟩
  show g ≠ q
  rintro rfl
  have h1 : w.heap[g]? = _ := hb
  have h2 : w.heap[g]? = _ := hg
  rw [h1] at h2
  injection h2 with h2
  injection h2 with _ h3
  exact hne h3.symm
/-- A slice made from block B' on, and one that lies below it. -/
theorem OwnS.apart_lt {β : Type} {f' : β → Value} {B' : Nat} {e : TypeId} {ys : List β} (h : OwnS f w B t A xs) (h' : OwnS f' w' B' e A' ys) (hw : w.heap.size ≤ B') : Apart A xs.length A' ys.length := by
  rcases List.eq_nil_or_concat xs with rfl | ⟨_, _, rfl⟩
  · exact .inl rfl
  rcases List.eq_nil_or_concat ys with rfl | ⟨_, _, rfl⟩
  · exact .inr (.inl rfl)
  obtain ⟨g, ex, rfl, _, hb⟩ := h (by simp)
  obtain ⟨g', ex', rfl, hB', _⟩ := h' (by simp)
  have := hb.lt
  exact .inr (.inr fun a o a' o' e1 e2 e3 => by
    injection e1 with e1; injection e1 with e1; injection e2 with e2; injection e2 with e2; omega)
end
theorem apart_ne {α β : Type} {g g' : Nat} {xs : List α} {ys : List β} (hne : g ≠ g') : Apart (some ⟨g, 0, none⟩) xs.length (some ⟨g', 0, none⟩) ys.length :=
  .inr (.inr fun a o a' o' e1 e2 e3 => by
    injection e1 with e1; injection e1 with e1; injection e2 with e2; injection e2 with e2; omega)
theorem ret_bool {a b : Bool} (h : a = b) : Ending.returned (.bool a) = .returned (.bool b) := by rw [h]
theorem ret_int {k : IntKind} {a b : Int} (h : a = b) : Ending.returned (.int k a) = .returned (.int k b) := by rw [h]

theorem take_snoc_eq {α : Type} {xs ys : List α} {k : Nat} {x y : α} (h : xs.take k = ys.take k) (hx : Hid (xs[k]? = some x)) (hy : Hid (ys[k]? = some y)) (e : x = y) : xs.take (k + 1) = ys.take (k + 1) := by
  rw [List.take_add_one, List.take_add_one, h, hx.out, hy.out, e]
theorem ne_of_at {α : Type} {xs ys : List α} {k : Nat} {x y : α} (hx : Hid (xs[k]? = some x)) (hy : Hid (ys[k]? = some y)) (e : x ≠ y) : xs ≠ ys := by
  rintro rfl
  have h1 := hx.out; have h2 := hy.out
  rw [h1] at h2
  exact e (by simpa using h2)

/-- What a loop that fills a slice has made so far: the first k of xs, then the rest of what was there. -/
def fillUp {α : Type} (k : Nat) (xs zs : List α) : List α := xs.take k ++ zs.drop k
section
variable {α : Type} {k : Nat} {xs zs : List α} {v : α}
theorem fillUp_zero : fillUp 0 xs zs = zs := by simp [fillUp]
theorem fillUp_all (h1 : xs.length = k) (h2 : zs.length = k) : fillUp k xs zs = xs := by
  simp [fillUp, ← h1, List.take_length, List.drop_of_length_le (show zs.length ≤ xs.length by omega)]
theorem fillUp_length (hx : k ≤ xs.length) (hz : k ≤ zs.length) : (fillUp k xs zs).length = zs.length := by
  simp [fillUp]; omega
theorem fillUp_step (h : xs[k]? = some v) (hz : k < zs.length) : (fillUp k xs zs).set k v = fillUp (k + 1) xs zs := by
  have hk : k < xs.length := by
    rcases Nat.lt_or_ge k xs.length with h1 | h1
    · exact h1
    · rw [List.getElem?_eq_none h1] at h; cases h
  have hl : (xs.take k).length = k := by simp; omega
  unfold fillUp
  rw [List.set_append_right _ _ (by omega), hl, Nat.sub_self, List.drop_eq_getElem_cons hz, List.set_cons_zero, List.take_add_one, h]
  simp
theorem fillUp_at (hx : k ≤ xs.length) : (fillUp k xs zs)[k]? = zs[k]? := by
  unfold fillUp
  rw [List.getElem?_append_right (by simp; omega)]
  have : (xs.take k).length = k := by simp; omega
  simp [this]
end

/-- At place j of a slice of the call's own: the cell is there and may be written; what is written lies there. -/
theorem OwnS.put {α : Type} {f : α → Value} {w : World} {B : Nat} {t : TypeId} {A : Option Addr} {ys : List α} (h : OwnS f w B t A ys) {j : Nat} (hj : j < ys.length) :
    ∃ g u, A = some ⟨g, 0, none⟩ ∧ B ≤ g ∧ w.cell? ⟨g, j, none⟩ = some (f u) ∧ w.frozen? ⟨g, j, none⟩ = false ∧ Hid (ys[j]? = some u) ∧
      ∀ x, Hid (OwnS f (w.setCell ⟨g, j, none⟩ (f x)) B t A (ys.set j x)) := by
  obtain ⟨g, ex, rfl, hB, hb⟩ := h (by rintro rfl; simp at hj)
  refine ⟨g, ys[j], rfl, hB, hb.cell (by rw [List.getElem?_append_left (by simpa using hj)]; simp [hj]), hb.frozen j, by show ys[j]? = _; simp [hj], fun x _ => ⟨g, ex, rfl, hB, ?_⟩⟩
  have := hb.set_ j (f x)
  rw [List.set_append_left _ _ (by simpa using hj), ← List.map_set] at this
  exact this

/-- The marks that a law lays: h of k, k + 1, .. -/
def marks {α : Type} (h : Int → α) (k : Int) (n : Nat) : List α := (List.range n).map fun (j : Nat) => h (k + (j : Int))
theorem marks_length {α : Type} (h : Int → α) (k : Int) (n : Nat) : (marks h k n).length = n := by simp [marks]
theorem marks_at {α : Type} (h : Int → α) (k : Int) {n j : Nat} (hj : j < n) : (marks h k n)[j]? = some (h (k + (j : Int))) := by simp [marks, hj]
def markB (q : Int) : Bool := q % 3 == 0
def markI (q : Int) : Int := q

/-- A slice of the call's own does not lie in the block that comes next. -/
theorem own_new {α : Type} {f : α → Value} {w : World} {B : Nat} {t : TypeId} {A : Option Addr} {xs : List α} (h : OwnS f w B t A xs) : xs.length = 0 ∨ ∀ o, A ≠ some ⟨w.heap.size, o, none⟩ := by
  rcases List.eq_nil_or_concat xs with rfl | ⟨_, _, rfl⟩
  · exact .inl rfl
  · obtain ⟨g, ex, rfl, _, hb⟩ := h (by simp)
    refine .inr fun o e => ?_
    injection e with e; injection e with e
    have := hb.lt
    omega
end Go.Proofs.Ytbodfepfapjikaa
