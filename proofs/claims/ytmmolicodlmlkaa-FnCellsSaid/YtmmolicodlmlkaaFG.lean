/-
  Parts of the proof: Words for memory of my own: a slice that reads as a list, a block that is known whole, a slice of the call's own; no program in sight. Numbers added at places of a list. Small functions on numbers, by their contracts: bounds, keys. From data to lists: what an argument of a law reads as. Hashes of keys, reference and program, by contracts. What a function hands back that builds a slice of its own. The places of a key: the reference's l04Places and the program's spots, by contracts. The laws' own helpers over plain slices, by their contracts: size, copy, compare, mark, look for the marks. Printe No condition.
-/
import Derived.WalkKit
import Derived.WalkSpells
import Derived.WalkLawsBesides
import Derived.Deep.Draws
import Derived.Deep.QuietTactic
import Derived.BigQuiet
import Derived.Deep.RegionHeld3
import Derived.Deep.OwnRows
import Derived.Test.YtmmolicodlmlkaaProg
import Derived.ProofKit
import Derived.OpenShut
import Derived.Deep.Grids
import Derived.Lib.SmallJoins
import Derived.Deep.AppendLies
import Derived.Lib.SliceRun
import Derived.Deep.CutRange
import Derived.Deep.RegionLaw
set_option linter.unusedVariables false
set_option linter.unusedSimpArgs false
namespace Go.Proofs.Ytmmolicodlmlkaa
open Go.RowKit

theorem hid {p : Prop} (h : p) : Hid p := h

theorem below_drewN {B : Nat} {a w : World} (h : Below B a w) (n : Nat) : Below B a (w.drewN n) := ⟨h.os, h.tape, h.output, h.size, h.block⟩
theorem below_a2 (w : World) (o o' : Obj) : Below w.heap.size w ((w.alloc o).alloc o') := ((Below.refl _ _).alloc (Nat.le_refl _) o).alloc (by simp) o'
theorem below_a3 (w : World) (o o' o'' : Obj) : Below w.heap.size w (((w.alloc o).alloc o').alloc o'') := (below_a2 w o o').alloc (by simp; omega) o''
theorem below_a1 (w : World) (o : Obj) : Below w.heap.size w (w.alloc o) := (Below.refl _ _).alloc (Nat.le_refl _) _
/-- Behind a call made in the world W, which has grown out of w0. -/
theorem below_call {w0 W w1 : World} (h : Below w0.heap.size w0 W) (hb : Below W.heap.size W w1) : Hid (Below w0.heap.size w0 w1) := h.trans (hb.mono h.size)

theorem below_drew1 {B : Nat} {a w : World} (h : Below B a w) : Below B a w.drew := ⟨h.os, h.tape, h.output, h.size, h.block⟩
theorem below_alloc_ {W c : World} (h : Below W.heap.size W c) (o : Obj) : Below W.heap.size W (c.alloc o) := h.alloc h.size o
theorem below_next {B : Nat} {W c w' : World} (h : Below B W c) (hb : Below c.heap.size c w') (hB : B ≤ W.heap.size := by exact Nat.le_refl _) : Hid (Below B W w') := h.trans (hb.mono (Nat.le_trans hB h.size))
theorem below_drew'' {B n : Nat} {a w : World} (h : Below B (a.drewN n) w) : Below B a w := ⟨h.os, h.tape, h.output, h.size, h.block⟩
theorem below_drew' {B : Nat} {a w : World} (h : Below B a.drew w) : Below B a w := ⟨h.os, h.tape, h.output, h.size, h.block⟩

/-- The slice whose address is A reads, in w, as the list xs (f: how an element lies in its cell). -/
def RdL {α : Type} (f : α → Value) (w : World) (A : Option Addr) (xs : List α) : Prop :=
  ∀ j (h : j < xs.length), ∃ b o, A = some ⟨b, o, none⟩ ∧ w.cell? ⟨b, o + j, none⟩ = some (f xs[j])

section
variable {α : Type} {f : α → Value} {w w' : World} {A : Option Addr} {xs : List α}
theorem RdL.nil : RdL f w A [] := fun j h => absurd h (by simp)
theorem RdL.below (h : RdL f w A xs) (hb : Below w.heap.size w w') : RdL f w' A xs := fun j hj => by
  obtain ⟨b, o, hA, hc⟩ := h j hj
  have hlt := World.block_lt_of_cell? w _ hc
  exact ⟨b, o, hA, (hb.cell (p := ⟨b, o + j, none⟩) hlt).trans hc⟩
theorem RdL.drewN (h : RdL f w A xs) (n : Nat) : RdL f (w.drewN n) A xs := h
theorem RdL.at_ (h : RdL f w A xs) {k : Nat} (hk : k < xs.length) :
    ∃ b o x, A = some ⟨b, o, none⟩ ∧ w.cell? ⟨b, o + k, none⟩ = some (f x) ∧ Hid (xs[k]? = some x) := by
  obtain ⟨b, o, hA, hc⟩ := h k hk
  exact ⟨b, o, xs[k], hA, hc, by show xs[k]? = _; exact List.getElem?_eq_getElem hk⟩
end

/-- Block g is just the cells cs, of element type t, none of them frozen. -/
def Blk (w : World) (g : Nat) (t : TypeId) (cs : List Value) : Prop := w.heap[g]? = some (.cells cs.toArray t (0, 0))

section
variable {w w' : World} {g : Nat} {t : TypeId} {cs : List Value}
theorem Blk.lt (h : Blk w g t cs) : g < w.heap.size := (Array.getElem?_eq_some_iff.1 h).1
theorem Blk.cell (h : Blk w g t cs) {i : Nat} {v : Value} (hi : cs[i]? = some v) : w.cell? ⟨g, i, none⟩ = some v := by
  rw [cell_of_row w g i cs.toArray t (0, 0) h]; simpa using hi
theorem Blk.frozen (h : Blk w g t cs) (i : Nat) : w.frozen? ⟨g, i, none⟩ = false := by
  unfold Blk at h; simp [World.frozen?, h]
theorem Blk.cells4 {v0 v1 v2 v3 : Value} (h : Blk w g t [v0, v1, v2, v3]) : w.cell? ⟨g, 0, none⟩ = some v0 ∧ w.cell? ⟨g, 1, none⟩ = some v1 ∧ w.cell? ⟨g, 2, none⟩ = some v2 ∧ w.cell? ⟨g, 3, none⟩ = some v3 := ⟨h.cell rfl, h.cell rfl, h.cell rfl, h.cell rfl⟩
theorem Blk.cells3 {v0 v1 v2 : Value} (h : Blk w g t [v0, v1, v2]) : w.cell? ⟨g, 0, none⟩ = some v0 ∧ w.cell? ⟨g, 1, none⟩ = some v1 ∧ w.cell? ⟨g, 2, none⟩ = some v2 := ⟨h.cell rfl, h.cell rfl, h.cell rfl⟩
theorem Blk.new (w : World) (t : TypeId) (cs : List Value) : Blk (w.alloc (.cells cs.toArray t)) w.heap.size t cs := heap_alloc_new w _
theorem Blk.new2 (w : World) (o : Obj) (t : TypeId) (cs : List Value) : Blk ((w.alloc o).alloc (.cells cs.toArray t)) (w.heap.size + 1) t cs := by
  have h := Blk.new (w.alloc o) t cs
  rwa [World.size_alloc] at h
theorem Blk.new3 (w : World) (o o' : Obj) (t : TypeId) (cs : List Value) : Blk (((w.alloc o).alloc o').alloc (.cells cs.toArray t)) (w.heap.size + 1 + 1) t cs := by
  have h := Blk.new2 (w.alloc o) o' t cs
  rwa [World.size_alloc] at h
theorem madeCells_one (z : Value) (n : Nat) : madeCells #[z] n = (List.replicate n z).toArray := by
  apply Array.ext
  · simp [size_madeCells]
  · intro i h1 h2
    simp [madeCells, Nat.mod_one]
theorem Blk.made (w : World) (t : TypeId) (z : Value) (n : Nat) : Blk (w.alloc (.cells (madeCells #[z] n) t)) w.heap.size t (List.replicate n z) := by
  rw [madeCells_one]; exact Blk.new w t _
theorem Blk.drewN (h : Blk w g t cs) (n : Nat) : Blk (w.drewN n) g t cs := h
theorem Blk.alloc (h : Blk w g t cs) (o : Obj) : Blk (w.alloc o) g t cs := (Below.heap_alloc w o g h.lt).trans h
theorem Blk.set_ (h : Blk w g t cs) (i : Nat) (u : Value) : Blk (w.setCell ⟨g, i, none⟩ u) g t (cs.set i u) := by
  unfold Blk at h ⊢
  simp [World.setCell, Array.getElem?_modify, h]
theorem Blk.far (h : Blk w g t cs) {p : Addr} (hp : g ≠ p.block) (u : Value) : Blk (w.setCell p u) g t cs := (Below.heap_setCell w p u g hp).trans h
theorem Blk.below (h : Blk w g t cs) (hb : Below w.heap.size w w') : Blk w' g t cs := (hb.block g h.lt).trans h
theorem Blk.rd0 {α : Type} {f : α → Value} {xs : List α} (h : Blk w g t (xs.map f)) : RdL f w (some ⟨g, 0, none⟩) xs := fun j hj => by
  refine ⟨g, 0, rfl, ?_⟩
  rw [Nat.zero_add]
  exact h.cell (by simp [hj])
theorem Blk.rd {α : Type} {f : α → Value} {xs : List α} {ex : List Value} (h : Blk w g t (xs.map f ++ ex)) : RdL f w (some ⟨g, 0, none⟩) xs := fun j hj => by
  refine ⟨g, 0, rfl, ?_⟩
  rw [Nat.zero_add]
  exact h.cell (by rw [List.getElem?_append_left (by simpa using hj)]; simp [hj])
end

/-- The slice at A holds the list xs in a block of the call's own (from block B on), which may be written. -/
def OwnS {α : Type} (f : α → Value) (w : World) (B : Nat) (t : TypeId) (A : Option Addr) (xs : List α) : Prop :=
  xs ≠ [] → ∃ g ex, A = some ⟨g, 0, none⟩ ∧ B ≤ g ∧ Blk w g t (xs.map f ++ ex)

/-- Only the block of the slice (A, n elements) may have changed. -/
structure Touch (w w' : World) (A : Option Addr) (n : Nat) : Prop where
  os : w'.os = w.os
  tape : w'.tape = w.tape
  output : w'.output = w.output
  size : w'.heap.size = w.heap.size
  block : ∀ b, (n = 0 ∨ ∀ o, A ≠ some ⟨b, o, none⟩) → w'.heap[b]? = w.heap[b]?

section
variable {α : Type} {f : α → Value} {w w' w'' : World} {A : Option Addr} {xs : List α} {B : Nat} {t : TypeId} {n : Nat}
theorem OwnS.nil : OwnS f w B t A [] := fun h => absurd rfl h
theorem OwnS.rd (h : OwnS f w B t A xs) : RdL f w A xs := by
  rcases List.eq_nil_or_concat xs with rfl | ⟨_, _, rfl⟩
  · exact RdL.nil
  · obtain ⟨g, ex, rfl, _, hb⟩ := h (by simp)
    exact hb.rd
theorem OwnS.below (h : OwnS f w B t A xs) (hb : Below w.heap.size w w') : OwnS f w' B t A xs := fun hn => by
  obtain ⟨g, ex, hA, hB, hg⟩ := h hn
  exact ⟨g, ex, hA, hB, hg.below hb⟩
theorem OwnS.mono (h : OwnS f w B t A xs) {B' : Nat} (hB : B' ≤ B) : OwnS f w B' t A xs := fun hn => by
  obtain ⟨g, ex, hA, hg, hb⟩ := h hn
  exact ⟨g, ex, hA, by omega, hb⟩
theorem OwnS.of_blk {g : Nat} (h : Blk w g t (xs.map f)) (hB : B ≤ g) : OwnS f w B t (some ⟨g, 0, none⟩) xs := fun _ => ⟨g, [], rfl, hB, by simpa using h⟩
theorem Touch.refl : Touch w w A n := ⟨rfl, rfl, rfl, rfl, fun _ _ => rfl⟩
theorem Touch.trans (h : Touch w w' A n) (k : Touch w' w'' A n) : Touch w w'' A n :=
  ⟨k.os.trans h.os, k.tape.trans h.tape, k.output.trans h.output, k.size.trans h.size, fun b hb => (k.block b hb).trans (h.block b hb)⟩
theorem Touch.drewN (h : Touch w w' A n) (k : Nat) : Touch w (w'.drewN k) A n := ⟨h.os, h.tape, h.output, h.size, h.block⟩
theorem Touch.set_ {g : Nat} (h : Touch w w' (some ⟨g, 0, none⟩) n) (hn : 0 < n) (i : Nat) (u : Value) : Touch w (w'.setCell ⟨g, i, none⟩ u) (some ⟨g, 0, none⟩) n :=
  h.trans ⟨rfl, rfl, rfl, by simp, fun b hb => Below.heap_setCell _ _ _ _ (by
    rintro rfl
    rcases hb with hb | hb
    · omega
    · exact hb 0 rfl)⟩
theorem Touch.below (h : Touch w w' A xs.length) (ho : OwnS f w B t A xs) : Below B w w' :=
  ⟨h.os, h.tape, h.output, Nat.le_of_eq h.size.symm, fun k hk => h.block k (by
    rcases List.eq_nil_or_concat xs with rfl | ⟨_, _, rfl⟩
    · exact .inl rfl
    · obtain ⟨g, ex, rfl, hB, _⟩ := ho (by simp)
      exact .inr fun o e => by
        injection e with e; injection e with e; omega)⟩
end

/-- Two slices do not share a block. -/
def Apart (A : Option Addr) (n : Nat) (A' : Option Addr) (m : Nat) : Prop := n = 0 ∨ m = 0 ∨ ∀ g o g' o', A = some ⟨g, o, none⟩ → A' = some ⟨g', o', none⟩ → g ≠ g'
theorem Apart.symm {A A' : Option Addr} {n m : Nat} (h : Apart A n A' m) : Apart A' m A n := by
  rcases h with h | h | h
  · exact .inr (.inl h)
  · exact .inl h
  · exact .inr (.inr fun g o g' o' h1 h2 e => h g' o' g o h2 h1 e.symm)

/-- Only the blocks of the listed slices, and new ones, may have changed. -/
structure TouchAll (w w' : World) (l : List (Option Addr × Nat)) : Prop where
  os : w'.os = w.os
  tape : w'.tape = w.tape
  output : w'.output = w.output
  size : w.heap.size ≤ w'.heap.size
  block : ∀ b, b < w.heap.size → (∀ p ∈ l, p.2 = 0 ∨ ∀ o, p.1 ≠ some ⟨b, o, none⟩) → w'.heap[b]? = w.heap[b]?

section
variable {α : Type} {f : α → Value} {w w' w'' : World} {A A' : Option Addr} {xs : List α} {B : Nat} {t : TypeId} {n : Nat} {l : List (Option Addr × Nat)}
theorem TouchAll.alloc (w : World) (o : Obj) (l : List (Option Addr × Nat)) : TouchAll w (w.alloc o) l := ⟨rfl, rfl, rfl, by simp, fun b hb _ => Below.heap_alloc _ _ _ hb⟩
theorem TouchAll.trans (h : TouchAll w w' [(A, n)]) (k : Touch w' w'' A n) : TouchAll w w'' [(A, n)] :=
  ⟨k.os.trans h.os, k.tape.trans h.tape, k.output.trans h.output, Nat.le_trans h.size (Nat.le_of_eq k.size.symm), fun b hb hp => (k.block b (hp (A, n) (by simp))).trans (h.block b hb hp)⟩
theorem TouchAll.of_touch (k : Touch w w' A n) : TouchAll w w' [(A, n)] := ⟨k.os, k.tape, k.output, Nat.le_of_eq k.size.symm, fun b _ hp => k.block b (hp (A, n) (by simp))⟩
theorem OwnS.touch (h : OwnS f w B t A' xs) (k : Touch w w' A n) (ha : Apart A n A' xs.length) : OwnS f w' B t A' xs := fun hn => by
  obtain ⟨g, ex, rfl, hB, hb⟩ := h hn
  refine ⟨g, ex, rfl, hB, (k.block g ?_).trans hb⟩
  rcases ha with ha | ha | ha
  · exact .inl ha
  · exact absurd (List.eq_nil_of_length_eq_zero ha) hn
  · exact .inr fun o e => ha g o g 0 e rfl rfl
/-- A slice of another block. -/
theorem OwnS.touchAll (h : OwnS f w B t A' xs) (k : TouchAll w w' l) (ha : ∀ p ∈ l, Apart p.1 p.2 A' xs.length) : OwnS f w' B t A' xs := fun hn => by
  obtain ⟨g, ex, rfl, hB, hb⟩ := h hn
  refine ⟨g, ex, rfl, hB, (k.block g hb.lt fun p hp => ?_).trans hb⟩
  rcases ha p hp with ha | ha | ha
  · exact .inl ha
  · exact absurd (List.eq_nil_of_length_eq_zero ha) hn
  · exact .inr fun o e => ha g o g 0 e rfl rfl
/-- A block of another element type is another block. -/
theorem Blk.touchAll {g : Nat} {cs : List Value} (h : Blk w g t cs) (k : TouchAll w w' l) (ha : ∀ p ∈ l, p.2 = 0 ∨ ∀ o, p.1 ≠ some ⟨g, o, none⟩) : Blk w' g t cs := (k.block g h.lt ha).trans h
/-- A store into a block of another element type. -/
theorem OwnS.setOther {e : TypeId} {q : Nat} {cs : List Value} (h : OwnS f w B e A xs) (hb : Blk w q t cs) (hne : e ≠ t) (i : Nat) (u : Value) : OwnS f (w.setCell ⟨q, i, none⟩ u) B e A xs := fun hn => by
  obtain ⟨g, ex, rfl, hB, hg⟩ := h hn
  refine ⟨g, ex, rfl, hB, hg.far ?_ u⟩
  show g ≠ q
  rintro rfl
  have h1 : w.heap[g]? = _ := hb
  have h2 : w.heap[g]? = _ := hg
  rw [h1] at h2
  injection h2 with h2
  injection h2 with _ h3
  exact hne h3.symm
/-- A slice made from block B' on, and one that lies below it. -/
theorem OwnS.apart_lt {β : Type} {f' : β → Value} {B' : Nat} {e : TypeId} {ys : List β} (h : OwnS f w B t A xs) (h' : OwnS f' w' B' e A' ys) (hw : w.heap.size ≤ B') : Apart A xs.length A' ys.length := by
  rcases List.eq_nil_or_concat xs with rfl | ⟨_, _, rfl⟩
  · exact .inl rfl
  rcases List.eq_nil_or_concat ys with rfl | ⟨_, _, rfl⟩
  · exact .inr (.inl rfl)
  obtain ⟨g, ex, rfl, _, hb⟩ := h (by simp)
  obtain ⟨g', ex', rfl, hB', _⟩ := h' (by simp)
  have := hb.lt
  exact .inr (.inr fun a o a' o' e1 e2 e3 => by
    injection e1 with e1; injection e1 with e1; injection e2 with e2; injection e2 with e2; omega)
end
theorem ret_bool {a b : Bool} (h : a = b) : Ending.returned (.bool a) = .returned (.bool b) := by rw [h]
theorem ret_int {k : IntKind} {a b : Int} (h : a = b) : Ending.returned (.int k a) = .returned (.int k b) := by rw [h]

theorem take_snoc_eq {α : Type} {xs ys : List α} {k : Nat} {x y : α} (h : xs.take k = ys.take k) (hx : Hid (xs[k]? = some x)) (hy : Hid (ys[k]? = some y)) (e : x = y) : xs.take (k + 1) = ys.take (k + 1) := by
  rw [List.take_add_one, List.take_add_one, h, hx.out, hy.out, e]
theorem ne_of_at {α : Type} {xs ys : List α} {k : Nat} {x y : α} (hx : Hid (xs[k]? = some x)) (hy : Hid (ys[k]? = some y)) (e : x ≠ y) : xs ≠ ys := by
  rintro rfl
  have h1 := hx.out; have h2 := hy.out
  rw [h1] at h2
  exact e (by simpa using h2)

/-- What a loop that fills a slice has made so far: the first k of xs, then the rest of what was there. -/
def fillUp {α : Type} (k : Nat) (xs zs : List α) : List α := xs.take k ++ zs.drop k
section
variable {α : Type} {k : Nat} {xs zs : List α} {v : α}
theorem fillUp_zero : fillUp 0 xs zs = zs := by simp [fillUp]
theorem fillUp_all (h1 : xs.length = k) (h2 : zs.length = k) : fillUp k xs zs = xs := by
  simp [fillUp, ← h1, List.take_length, List.drop_of_length_le (show zs.length ≤ xs.length by omega)]
theorem fillUp_length (hx : k ≤ xs.length) (hz : k ≤ zs.length) : (fillUp k xs zs).length = zs.length := by
  simp [fillUp]; omega
theorem fillUp_step (h : xs[k]? = some v) (hz : k < zs.length) : (fillUp k xs zs).set k v = fillUp (k + 1) xs zs := by
  have hk : k < xs.length := by
    rcases Nat.lt_or_ge k xs.length with h1 | h1
    · exact h1
    · rw [List.getElem?_eq_none h1] at h; cases h
  have hl : (xs.take k).length = k := by simp; omega
  unfold fillUp
  rw [List.set_append_right _ _ (by omega), hl, Nat.sub_self, List.drop_eq_getElem_cons hz, List.set_cons_zero, List.take_add_one, h]
  simp
theorem fillUp_at (hx : k ≤ xs.length) : (fillUp k xs zs)[k]? = zs[k]? := by
  unfold fillUp
  rw [List.getElem?_append_right (by simp; omega)]
  have : (xs.take k).length = k := by simp; omega
  simp [this]
end

/-- At place j of a slice of the call's own: the cell is there and may be written; what is written lies there. -/
theorem OwnS.put {α : Type} {f : α → Value} {w : World} {B : Nat} {t : TypeId} {A : Option Addr} {ys : List α} (h : OwnS f w B t A ys) {j : Nat} (hj : j < ys.length) :
    ∃ g u, A = some ⟨g, 0, none⟩ ∧ B ≤ g ∧ w.cell? ⟨g, j, none⟩ = some (f u) ∧ w.frozen? ⟨g, j, none⟩ = false ∧ Hid (ys[j]? = some u) ∧
      ∀ x, Hid (OwnS f (w.setCell ⟨g, j, none⟩ (f x)) B t A (ys.set j x)) := by
  obtain ⟨g, ex, rfl, hB, hb⟩ := h (by rintro rfl; simp at hj)
  refine ⟨g, ys[j], rfl, hB, hb.cell (by rw [List.getElem?_append_left (by simpa using hj)]; simp [hj]), hb.frozen j, by show ys[j]? = _; simp [hj], fun x _ => ⟨g, ex, rfl, hB, ?_⟩⟩
  have := hb.set_ j (f x)
  rw [List.set_append_left _ _ (by simpa using hj), ← List.map_set] at this
  exact this

end Go.Proofs.Ytmmolicodlmlkaa
namespace Go.Proofs.Ytmmolicodlmlkaa
open Go.RowKit

/-- d is added at all listed places. -/
def addAt (d : Int) (x l : List Int) : List Int := l.foldl (fun x p => x.set p.toNat (x.getD p.toNat 0 + d)) x
theorem addAt_length (d : Int) (x l : List Int) : (addAt d x l).length = x.length := by
  unfold addAt
  induction l generalizing x with
  | nil => rfl
  | cons a l ih => rw [List.foldl_cons, ih]; simp
theorem addAt_zero (d : Int) (x l : List Int) : addAt d x (l.take 0) = x := by simp [addAt]
theorem addAt_succ {d : Int} {x l : List Int} {k m : Nat} {u : Int} (h : Hid (l[k]? = some (m : Int))) (hu : Hid ((addAt d x (l.take k))[m]? = some u)) : (addAt d x (l.take k)).set m (u + d) = addAt d x (l.take (k + 1)) := by
  have hu' := hu.out
  unfold addAt at hu' ⊢
  rw [List.take_add_one, h.out, List.foldl_append]
  simp only [Option.toList_some, List.foldl_cons, List.foldl_nil, Int.toNat_natCast]
  rw [List.getD_eq_getElem?_getD, hu']
  rfl
theorem addAt_bound {lo hi D d : Int} {x l : List Int} (hx : ∀ y ∈ x, lo ≤ y ∧ y ≤ hi) (hd : -D ≤ d ∧ d ≤ D) (hD : 0 ≤ D) : ∀ y ∈ addAt d x l, lo - D * (l.length : Int) ≤ y ∧ y ≤ hi + D * (l.length : Int) := by
  induction l generalizing x lo hi with
  | nil =>
    intro y hy
    have := hx y hy
    simp only [List.length_nil, Int.natCast_zero, Int.mul_zero]
    omega
  | cons a l ih =>
    have h1 : ∀ y ∈ x.set a.toNat (x.getD a.toNat 0 + d), lo - D ≤ y ∧ y ≤ hi + D := by
      intro y hy
      by_cases hlt : a.toNat < x.length
      · rcases List.mem_or_eq_of_mem_set hy with h | h
        · have := hx y h; omega
        · subst h
          have hm : x.getD a.toNat 0 ∈ x := by rw [List.getD_eq_getElem?_getD, List.getElem?_eq_getElem hlt]; simp
          have := hx _ hm
          omega
      · rw [List.set_eq_of_length_le (by omega)] at hy
        have := hx y hy; omega
    intro y hy
    have h2 := ih h1 y (by simpa [addAt] using hy)
    have h3 : D * ((l.length + 1 : Nat) : Int) = D * (l.length : Int) + D := by rw [Int.natCast_add]; simp [Int.mul_add]
    rw [List.length_cons, h3]
    omega
end Go.Proofs.Ytmmolicodlmlkaa
namespace Go.Proofs.Ytmmolicodlmlkaa
open Go.RowKit

/-- n lies from lo to hi. -/
def inB (n lo hi : Int) : Bool := decide (lo ≤ n) && decide (n ≤ hi)
theorem inB_iff {n lo hi : Int} : inB n lo hi = true ↔ lo ≤ n ∧ n ≤ hi := by simp [inB]
theorem l00In_any (n lo hi : Int) (w : World) :
    Calls Try.prog 78 #[.int .i64 n, .int .i64 lo, .int .i64 hi] w fun e w' => e = .returned (.bool (inB n lo hi)) ∧ w = w' := by
  by_cases h1 : lo ≤ n <;> by_cases h2 : n ≤ hi <;>
  · go_enter Try.func78, Try.ntmps78
    go_wp2
    go_ret
    exact ⟨by simp [inB]; omega, rfl⟩

theorem within_any (n lo hi : Int) (w : World) :
    Calls Try.prog 97 #[.int .i64 n, .int .i64 lo, .int .i64 hi] w fun e w' => e = .returned (.bool (inB n lo hi)) ∧ w = w' := by
  by_cases h1 : lo ≤ n <;> by_cases h2 : n ≤ hi <;>
  · go_enter Try.func97, Try.ntmps97
    go_wp2
    go_ret
    exact ⟨by simp [inB]; omega, rfl⟩

theorem l02Key_any (n : Int) (w : World) :
    Calls Try.prog 73 #[.int .i64 n] w fun e w' => e = .returned (.bool (inB n 0 4294967295)) ∧ w = w' := by
  go_enter Try.func73, Try.ntmps73
  go_wp2_with (go_at_call 78; refine (l00In_any _ _ _ _).mono ?_; rintro e w' ⟨rfl, rfl⟩)
  go_ret
  exact ⟨rfl, rfl⟩

theorem IsKey_any (n : Int) (w : World) :
    Calls Try.prog 63 #[.int .i64 n] w fun e w' => e = .returned (.bool (inB n 0 4294967295)) ∧ w = w' := by
  go_enter Try.func63, Try.ntmps63
  go_wp2_with (go_at_call 97; refine (within_any _ _ _ _).mono ?_; rintro e w' ⟨rfl, rfl⟩)
  go_ret
  exact ⟨rfl, rfl⟩


end Go.Proofs.Ytmmolicodlmlkaa
namespace Go.Proofs.Ytmmolicodlmlkaa
open Go.ChangeShapes Go.WideShapes Go.ChangeAt Go.RowKit Go.Deep

theorem below_of_draw {w w' : World} {n : Nat} (h : w' = w.drewN n) : Below w.heap.size w w' := by rw [h]; exact below_drewN (Below.refl _ _) n

/-- The number fits an int64. -/
def W64 (a : Int) : Prop := (Lit.int .i64 a).wf = true
theorem W64.bounds {a : Int} (h : W64 a) : -9223372036854775808 ≤ a ∧ a ≤ 9223372036854775807 := by
  simpa [W64, Lit.wf, IntKind.min, IntKind.max, IntKind.signed, IntKind.bits] using h

section
variable {H : Type} {enc : TypeId × Value → H} {P : Program} {w : World}

end

end Go.Proofs.Ytmmolicodlmlkaa
namespace Go.Proofs.Ytmmolicodlmlkaa
open Go.RowKit
set_option linter.unusedVariables false

def mixA (x : Nat) : Nat := (x ^^^ x / 1073741824) * 13787848793156543929 % 18446744073709551616
def mixB (x : Nat) : Nat := (x ^^^ x / 134217728) * 10723151780598845931 % 18446744073709551616
def mixC (x : Nat) : Nat := x ^^^ x / 2147483648
/-- All digits are mixed. -/
def mixU (x : Nat) : Nat := mixC (mixB (mixA x))
theorem mixC_lt {x : Nat} (hx : x < 18446744073709551616) : mixC x < 18446744073709551616 :=
  Nat.xor_lt_two_pow (n := 64) hx (Nat.lt_of_le_of_lt (Nat.div_le_self _ _) hx)
theorem mixA_lt (x : Nat) : mixA x < 18446744073709551616 := Nat.mod_lt _ (by omega)
theorem mixB_lt (x : Nat) : mixB x < 18446744073709551616 := Nat.mod_lt _ (by omega)
theorem mixU_lt (x : Nat) : mixU x < 18446744073709551616 := mixC_lt (mixB_lt _)
theorem mixA_eq (x : Nat) (hx : x < 18446744073709551616) : IntKind.u64.wrap (bits .xor .u64 (x : Int) ((x : Int) / 1073741824) * 13787848793156543929) = (mixA x : Int) := mixStep_u64 x 1073741824 13787848793156543929 hx
theorem mixB_eq (x : Nat) (hx : x < 18446744073709551616) : IntKind.u64.wrap (bits .xor .u64 (x : Int) ((x : Int) / 134217728) * 10723151780598845931) = (mixB x : Int) := mixStep_u64 x 134217728 10723151780598845931 hx
theorem mixC_eq (x : Nat) (hx : x < 18446744073709551616) : bits .xor .u64 (x : Int) ((x : Int) / 2147483648) = (mixC x : Int) := xorShift_u64 x 2147483648 hx
/-- The hash of a key with a salt. -/
def hashN (k s : Nat) : Nat := mixU ((k + s * 4294967296 + 11400714819323198485) % 18446744073709551616) / 4294967296
theorem hashN_lt (k s : Nat) : hashN k s < 4294967296 := by
  unfold hashN
  have := mixU_lt ((k + s * 4294967296 + 11400714819323198485) % 18446744073709551616)
  omega
/-- A number below n. -/
def belowN (k s n : Nat) : Nat := hashN k s * n / 4294967296
theorem belowN_lt (k s n : Nat) (hn : 0 < n) : belowN k s n < n := by
  unfold belowN
  rw [Nat.div_lt_iff_lt_mul (by omega), Nat.mul_comm]
  exact Nat.mul_lt_mul_of_pos_left (hashN_lt k s) hn
theorem below_mul_lt (k s n : Nat) (hn : n ≤ 4294967296) : hashN k s * n < 18446744073709551616 := by
  have h1 := hashN_lt k s
  have h2 : hashN k s * n ≤ 4294967295 * 4294967296 := Nat.mul_le_mul (by omega) hn
  omega

theorem hash_arg' (k s : Nat) : IntKind.u64.wrap ((k : Int) + 4294967296 * (s : Int) + 11400714819323198485) = (((k + s * 4294967296 + 11400714819323198485) % 18446744073709551616 : Nat) : Int) := by
  rw [IntKind.wrap_u64]; omega

theorem MixHash_any (x : Nat) (w : World) (hx : x < 18446744073709551616) :
    Calls Try.prog 66 #[.int .u64 x] w fun e w' => e = .returned (.int .u64 (mixU x)) ∧ w = w' := by
  go_enter Try.func66, Try.ntmps66
  go_wp2
  go_ret
  exact ⟨ret_int (by rw [mixA_eq x hx, mixB_eq _ (mixA_lt x)]; exact mixC_eq _ (mixB_lt _)), rfl⟩
theorem ihash_any (k s : Nat) (w : World) (hk : k < 4294967296) (hs : s < 4294967296) :
    Calls Try.prog 111 #[.int .i64 k, .int .i64 s] w fun e w' => e = .returned (.int .i64 (hashN k s)) ∧ w = w' := by
  go_enter Try.func111, Try.ntmps111
  go_wp2_with fail
  rw [hash_arg']
  have hlt := mixU_lt ((k + s * 4294967296 + 11400714819323198485) % 18446744073709551616)
  obtain ⟨m, hm⟩ : ∃ m, m = mixU ((k + s * 4294967296 + 11400714819323198485) % 18446744073709551616) := ⟨_, rfl⟩
  have HM := hid hm
  refine (MixHash_any _ _ (Nat.mod_lt _ (by omega))).mono ?_
  rintro e w' ⟨rfl, rfl⟩
  rw [← hm] at hlt ⊢
  clear hm
  have hh : hashN k s = m / 4294967296 := by rw [HM.out]; rfl
  have HH := hid hh
  clear hh
  go_wp2
  go_ret
  exact ⟨ret_int (by rw [HH.out]; omega), rfl⟩
theorem ibelow_any (k s n : Nat) (w : World) (hk : k < 4294967296) (hs : s < 4294967296) (hn : n ≤ 4294967296) :
    Calls Try.prog 110 #[.int .i64 k, .int .i64 s, .int .i64 n] w fun e w' => e = .returned (.int .i64 (belowN k s n)) ∧ w = w' := by
  have hb := below_mul_lt k s n hn
  have hh := hashN_lt k s
  go_enter Try.func110, Try.ntmps110
  go_wp2_with (go_at_call 111; refine (ihash_any k s _ hk hs).mono ?_; rintro e w' ⟨rfl, rfl⟩)
  go_ret
  exact ⟨ret_int (by unfold belowN; rw [Int.natCast_ediv, Int.natCast_mul]; rfl), rfl⟩
/-- A salt plus a number. -/
def saltN (s k : Nat) : Nat := (s + k) % 4294967296
theorem saltN_lt (s k : Nat) : saltN s k < 4294967296 := Nat.mod_lt _ (by omega)
theorem salted_any (s k : Nat) (w : World) (hs : s < 4294967296) (hk : k < 4294967296) :
    Calls Try.prog 114 #[.int .i64 s, .int .i64 k] w fun e w' => e = .returned (.int .i64 (saltN s k)) ∧ w = w' := by
  go_enter Try.func114, Try.ntmps114
  go_wp2
  go_ret
  exact ⟨ret_int (by unfold saltN; omega), rfl⟩
end Go.Proofs.Ytmmolicodlmlkaa
namespace Go.Proofs.Ytmmolicodlmlkaa
open Go.RowKit

theorem Try.infoI : (Try.prog.info? 2).map (fun i => (i.zero, i.size, i.bytes)) = some (some (.int .i64 0), 1, 8) := by kernel_rfl

/-- It hands back a slice of its own that holds xs; nothing that was there has changed. -/
def RetL {α : Type} (f : α → Value) (t : TypeId) (w : World) (xs : List α) (e : Ending) (w' : World) : Prop :=
  ∃ A c, e = .returned (.slice A xs.length c) ∧ OwnS f w' w.heap.size t A xs ∧ Below w.heap.size w w'

/-- A slice built by append, as a slice of the call's own. -/
theorem ownS_of_row {α : Type} {f : α → Value} {w : World} {B : Nat} {e : TypeId} {v : Value} {n : Nat} {xs : List α} (h : w.ownsRow B e 1 v n (xs.map f)) (hl : xs.length = n) :
    ∃ A c, v = .slice A xs.length c ∧ OwnS f w B e A xs := by
  subst hl
  obtain ⟨hn, h | ⟨g, cap, cur, hv, hB, hg, hc, hm, hs, ht⟩⟩ := h
  · obtain ⟨rfl, h0⟩ := h
    obtain rfl : xs = [] := List.eq_nil_of_length_eq_zero h0
    exact ⟨none, 0, rfl, OwnS.nil⟩
  · refine ⟨some ⟨g, 0, none⟩, cap, hv, fun _ => ⟨g, cur.toList.drop xs.length, rfl, hB, ?_⟩⟩
    unfold Blk
    rw [hg]
    have : xs.map f ++ cur.toList.drop xs.length = cur.toList := by
      rw [← ht, Nat.mul_one, List.take_append_drop]
    rw [this]


end Go.Proofs.Ytmmolicodlmlkaa
namespace Go.Proofs.Ytmmolicodlmlkaa
open Go.RowKit
set_option linter.unusedVariables false

end Go.Proofs.Ytmmolicodlmlkaa
namespace Go.Proofs.Ytmmolicodlmlkaa
open Go.RowKit

theorem ne_of_length {α : Type} {xs ys : List α} (h : xs.length ≠ ys.length) : xs ≠ ys := fun e => h (by rw [e])

end Go.Proofs.Ytmmolicodlmlkaa
namespace Go.Proofs.Ytmmolicodlmlkaa
open Go.RowKit
set_option linter.unusedVariables false

set_option maxHeartbeats 400000 in
theorem slEqInt64S_any (A A' : Option Addr) (c c' : Nat) (xs ys : List Int) (w : World) (hx : RdL (Value.int .i64) w A xs) (hy : RdL (Value.int .i64) w A' ys)
    (hn : xs.length ≤ 1048576) :
    Calls Try.prog 107 #[.slice A xs.length c, .slice A' ys.length c'] w fun e w' => e = .returned (.bool (decide (xs = ys))) ∧ ∃ n, w' = w.drewN n := by
  have HX := hid hx
  have HY := hid hy
  clear hx hy
  by_cases hl : xs.length = ys.length
  · have hl' : ((xs.length : Int) == (ys.length : Int)) = true := by simp [hl]
    have HL := hid hl
    clear hl
    go_enter Try.func107, Try.ntmps107
    go_wp2
    go_loopw [13] (fun i wr => ∃ k n : Nat, k ≤ xs.length ∧ i = .int .i64 k ∧ wr = w.drewN n ∧ Hid (xs.take k = ys.take k)) (fun i _ => xs.length - (intOf i).toNat)
    case atStart => exact ⟨0, 0, Nat.zero_le _, rfl, rfl, by show xs.take 0 = ys.take 0; simp⟩
    case round =>
      obtain ⟨k, n, hk, rfl, rfl, hh⟩ := hrel
      by_cases hlt : k < xs.length
      · have hlt' : k < ys.length := by have := HL.out; omega
        have hi : (k : Int) < (xs.length : Int) := by omega
        have hi' : (k : Int) < (ys.length : Int) := by omega
        obtain ⟨b, o, x, rfl, hc, hxk⟩ := HX.out.at_ hlt
        obtain ⟨b', o', y, rfl, hc', hyk⟩ := HY.out.at_ hlt'
        by_cases hxy : x = y
        · have ht : (x == y) = true := by simp [hxy]
          have he := take_snoc_eq hh.out hxk hyk hxy
          have HE : Hid (xs.take (k + 1) = ys.take (k + 1)) := he
          clear hxy he
          go_wp2
          go_quiet (fail)
          go_wp2
          exact ⟨⟨k + 1, _, by omega, by go_num, rfl, HE⟩, by simp [intOf]; omega⟩
        · have ht : (x == y) = false := by simp [hxy]
          have he := ne_of_at hxk hyk hxy
          clear hxy
          go_wp2
          go_quiet (fail)
          go_wp2
          go_ret
          exact ⟨by simp [he], _, World.drewN_drewN _ _ _⟩
      · have hi : ¬ (k : Int) < (xs.length : Int) := by omega
        go_wp2
        go_ret
        have := HL.out
        have hh := hh.out
        rw [List.take_of_length_le (by omega), List.take_of_length_le (by omega)] at hh
        exact ⟨by simp [hh], _, rfl⟩
  · have hl' : ((xs.length : Int) == (ys.length : Int)) = false := by simp; omega
    have hne := ne_of_length hl
    clear hl
    go_enter Try.func107, Try.ntmps107
    go_wp2
    go_ret
    exact ⟨by simp [hne], 0, rfl⟩

/-- The first index of an element with p; -1 where there is none. -/
def idxP (p : Int → Bool) (xs : List Int) : Int := match xs.findIdx? p with | some i => i | none => -1
theorem idxP_at {p : Int → Bool} {xs : List Int} {k : Nat} {x : Int} (h : Hid ((xs.take k).any p = false)) (hx : Hid (xs[k]? = some x)) (hp : p x = true) : idxP p xs = k := by
  have hk : k < xs.length := by
    rcases Nat.lt_or_ge k xs.length with h1 | h1
    · exact h1
    · have := hx.out; rw [List.getElem?_eq_none h1] at this; cases this
  have hs : xs = xs.take k ++ x :: xs.drop (k + 1) := by
    have hx' := hx.out
    rw [List.getElem?_eq_getElem hk] at hx'
    injection hx' with hx'
    rw [← hx']
    conv => lhs; rw [← List.take_append_drop k xs, List.drop_eq_getElem_cons hk]
  have h1 : (xs.take k).findIdx? p = none := by
    rw [List.findIdx?_eq_none_iff]
    have := h.out
    simpa using this
  unfold idxP
  rw [hs, List.findIdx?_append, h1, List.findIdx?_cons]
  simp [hp]
  omega
theorem idxP_none {p : Int → Bool} {xs : List Int} (h : xs.any p = false) : idxP p xs = -1 := by
  have h1 : xs.findIdx? p = none := by
    rw [List.findIdx?_eq_none_iff]
    simpa using h
  unfold idxP
  rw [h1]
theorem any_snoc {p : Int → Bool} {xs : List Int} {k : Nat} {x : Int} (h : Hid ((xs.take k).any p = false)) (hx : Hid (xs[k]? = some x)) (hp : p x = false) : (xs.take (k + 1)).any p = false := by
  rw [List.take_add_one, hx.out]
  simp only [Option.toList_some, List.any_append, h.out, List.any_cons, hp, List.any_nil, Bool.or_self]
theorem mem_of_at {xs : List Int} {k : Nat} {x : Int} (hx : Hid (xs[k]? = some x)) : x ∈ xs := List.mem_of_getElem? hx.out
theorem idxP_ge {p : Int → Bool} {xs : List Int} : decide (0 ≤ idxP p xs) = xs.any p := by
  cases h : xs.any p with
  | false => rw [idxP_none h]; rfl
  | true =>
    unfold idxP
    cases h1 : xs.findIdx? p with
    | some i => simp
    | none =>
      rw [List.findIdx?_eq_none_iff] at h1
      obtain ⟨x, hx, hp⟩ := List.any_eq_true.1 h
      rw [h1 x hx] at hp
      cases hp

set_option maxHeartbeats 400000 in
theorem IndexFuncW_any (A : Option Addr) (c : Nat) (xs : List Int) (v0 : Value) (v1 : Value) (p : Int → Bool) (w : World) (hx : RdL (Value.int .i64) w A xs) (hn : xs.length ≤ 1048576)
    (hcall : ∀ x ∈ xs, Calls Try.prog 131 #[.int .i64 x, v0, v1] w fun e w' => e = .returned (.bool (p x)) ∧ w = w') :
    Calls Try.prog 139 #[.slice A xs.length c, .func (.func 131) #[] #[v0, v1]] w fun e w' => e = .returned (.int .i64 (idxP p xs)) ∧ w = w' := by
  have HX := hid hx
  have HC := hid hcall
  clear hx hcall
  go_enter Try.func139, Try.ntmps139
  go_wp2
  go_loop [8] (fun i => ∃ k : Nat, k ≤ xs.length ∧ i = .int .i64 k ∧ Hid ((xs.take k).any p = false)) (fun i => xs.length - (intOf i).toNat)
  case atStart => exact ⟨0, Nat.zero_le _, rfl, by show (xs.take 0).any p = false; simp⟩
  case round =>
    obtain ⟨k, hk, rfl, hh⟩ := hrel
    by_cases hlt : k < xs.length
    · have hi : (k : Int) < (xs.length : Int) := by omega
      obtain ⟨b, o, x, rfl, hc, hxk⟩ := HX.out.at_ hlt
      go_wp2_with fail
      refine (HC.out x (mem_of_at hxk)).mono ?_
      rintro e w' ⟨rfl, rfl⟩
      cases hp : p x with
      | true =>
        have he := hid (idxP_at hh hxk hp)
        clear hp
        go_wp2
        go_ret
        exact ⟨ret_int he.out.symm, rfl⟩
      | false =>
        have he := hid (any_snoc hh hxk hp)
        clear hp
        go_wp2
        exact ⟨⟨k + 1, by omega, by go_num, he⟩, by simp [intOf]; omega⟩
    · have hi : ¬ (k : Int) < (xs.length : Int) := by omega
      go_wp2
      go_ret
      have he := hh.out
      rw [List.take_of_length_le (by omega)] at he
      exact ⟨ret_int (idxP_none he).symm, rfl⟩
theorem ContainsFuncW_any (A : Option Addr) (c : Nat) (xs : List Int) (v0 : Value) (v1 : Value) (p : Int → Bool) (w : World) (hx : RdL (Value.int .i64) w A xs) (hn : xs.length ≤ 1048576)
    (hcall : ∀ x ∈ xs, Calls Try.prog 131 #[.int .i64 x, v0, v1] w fun e w' => e = .returned (.bool (p x)) ∧ w = w') :
    Calls Try.prog 123 #[.slice A xs.length c, .func (.func 131) #[] #[v0, v1]] w fun e w' => e = .returned (.bool (xs.any p)) ∧ w = w' := by
  have HX := hid hx
  have HC := hid hcall
  clear hx hcall
  go_enter Try.func123, Try.ntmps123
  go_wp2_with fail
  refine (IndexFuncW_any A c xs v0 v1 p _ HX.out hn HC.out).mono ?_
  rintro e w' ⟨rfl, rfl⟩
  go_wp2
  go_ret
  exact ⟨ret_bool idxP_ge, rfl⟩
set_option maxHeartbeats 400000 in
theorem IndexFuncK_any (A : Option Addr) (c : Nat) (xs : List Int) (p : Int → Bool) (w : World) (hx : RdL (Value.int .i64) w A xs) (hn : xs.length ≤ 1048576)
    (hcall : ∀ x ∈ xs, Calls Try.prog 124 #[.int .i64 x] w fun e w' => e = .returned (.bool (p x)) ∧ w = w') :
    Calls Try.prog 139 #[.slice A xs.length c, .func (.func 124) #[] #[]] w fun e w' => e = .returned (.int .i64 (idxP p xs)) ∧ w = w' := by
  have HX := hid hx
  have HC := hid hcall
  clear hx hcall
  go_enter Try.func139, Try.ntmps139
  go_wp2
  go_loop [8] (fun i => ∃ k : Nat, k ≤ xs.length ∧ i = .int .i64 k ∧ Hid ((xs.take k).any p = false)) (fun i => xs.length - (intOf i).toNat)
  case atStart => exact ⟨0, Nat.zero_le _, rfl, by show (xs.take 0).any p = false; simp⟩
  case round =>
    obtain ⟨k, hk, rfl, hh⟩ := hrel
    by_cases hlt : k < xs.length
    · have hi : (k : Int) < (xs.length : Int) := by omega
      obtain ⟨b, o, x, rfl, hc, hxk⟩ := HX.out.at_ hlt
      go_wp2_with fail
      refine (HC.out x (mem_of_at hxk)).mono ?_
      rintro e w' ⟨rfl, rfl⟩
      cases hp : p x with
      | true =>
        have he := hid (idxP_at hh hxk hp)
        clear hp
        go_wp2
        go_ret
        exact ⟨ret_int he.out.symm, rfl⟩
      | false =>
        have he := hid (any_snoc hh hxk hp)
        clear hp
        go_wp2
        exact ⟨⟨k + 1, by omega, by go_num, he⟩, by simp [intOf]; omega⟩
    · have hi : ¬ (k : Int) < (xs.length : Int) := by omega
      go_wp2
      go_ret
      have he := hh.out
      rw [List.take_of_length_le (by omega)] at he
      exact ⟨ret_int (idxP_none he).symm, rfl⟩
theorem ContainsFuncK_any (A : Option Addr) (c : Nat) (xs : List Int) (p : Int → Bool) (w : World) (hx : RdL (Value.int .i64) w A xs) (hn : xs.length ≤ 1048576)
    (hcall : ∀ x ∈ xs, Calls Try.prog 124 #[.int .i64 x] w fun e w' => e = .returned (.bool (p x)) ∧ w = w') :
    Calls Try.prog 123 #[.slice A xs.length c, .func (.func 124) #[] #[]] w fun e w' => e = .returned (.bool (xs.any p)) ∧ w = w' := by
  have HX := hid hx
  have HC := hid hcall
  clear hx hcall
  go_enter Try.func123, Try.ntmps123
  go_wp2_with fail
  refine (IndexFuncK_any A c xs  p _ HX.out hn HC.out).mono ?_
  rintro e w' ⟨rfl, rfl⟩
  go_wp2
  go_ret
  exact ⟨ret_bool idxP_ge, rfl⟩
end Go.Proofs.Ytmmolicodlmlkaa
namespace Go.Proofs.Ytmmolicodlmlkaa
open Go.RowKit
set_option linter.unusedVariables false

/-- All elements lie from lo to hi. -/
def allB (xs : List Int) (lo hi : Int) : Bool := xs.all fun x => inB x lo hi
theorem allB_not_any {xs : List Int} {lo hi : Int} : (!xs.any fun x => !inB x lo hi) = allB xs lo hi := by
  unfold allB
  rw [List.all_eq_not_any_not]
theorem allB_no {xs : List Int} {k : Nat} {x lo hi : Int} (hx : Hid (xs[k]? = some x)) (h : inB x lo hi = false) : allB xs lo hi = false := by
  unfold allB
  rw [List.all_eq_false]
  exact ⟨x, List.mem_of_getElem? hx.out, by simp [h]⟩
theorem allB_snoc {xs : List Int} {k : Nat} {x lo hi : Int} (h0 : Hid (allB (xs.take k) lo hi = true)) (hx : Hid (xs[k]? = some x)) (h : inB x lo hi = true) : allB (xs.take (k + 1)) lo hi = true := by
  have := h0.out
  unfold allB at this ⊢
  rw [List.take_add_one, hx.out]
  simp only [Option.toList_some, List.all_append, this, List.all_cons, h, List.all_nil, Bool.and_self]

theorem areWithin1_any (x lo hi : Int) (b b' : Nat) (w : World) (h0 : w.cell? ⟨b, 0, none⟩ = some (.int .i64 lo)) (h1 : w.cell? ⟨b', 0, none⟩ = some (.int .i64 hi)) :
    Calls Try.prog 131 #[.int .i64 x, .pointer (some ⟨b, 0, none⟩), .pointer (some ⟨b', 0, none⟩)] w fun e w' => e = .returned (.bool (!inB x lo hi)) ∧ w = w' := by
  go_enter Try.func131, Try.ntmps131
  go_wp2_with (go_at_call 97; refine (within_any _ _ _ _).mono ?_; rintro e w' ⟨rfl, rfl⟩)
  go_ret
  exact ⟨rfl, rfl⟩
set_option maxHeartbeats 400000 in
theorem areWithin_any (A : Option Addr) (c : Nat) (xs : List Int) (lo hi : Int) (w : World) (hx : RdL (Value.int .i64) w A xs) (hn : xs.length ≤ 1048576) :
    Calls Try.prog 105 #[.slice A xs.length c, .int .i64 lo, .int .i64 hi] w fun e w' => e = .returned (.bool (allB xs lo hi)) ∧ Below w.heap.size w w' := by
  have hmf : ∀ (fn : Fn) (first cap : Array Value) (w : World), (Instr.makeFunc fn first cap).run Try.prog w = .ok (.func fn first cap) w := fun _ _ _ _ => rfl
  have HX := hid hx
  clear hx
  go_enter Try.func105, Try.ntmps105
  go_wp2_with fail
  refine (ContainsFuncW_any A c xs _ _ (fun x => !inB x lo hi) _ (HX.out.below (below_a2 _ _ _)) hn (fun x _ => areWithin1_any x lo hi _ _ _ ?_ ?_)).mono ?_
  · simp
  · simp
  rintro e w' ⟨rfl, rfl⟩
  go_wp2
  go_ret
  exact ⟨ret_bool allB_not_any, below_a2 _ _ _⟩
theorem areAllKeys1_any (x : Int) (w : World) :
    Calls Try.prog 124 #[.int .i64 x] w fun e w' => e = .returned (.bool (!inB x 0 4294967295)) ∧ w = w' := by
  go_enter Try.func124, Try.ntmps124
  go_wp2_with (go_at_call 63; refine (IsKey_any _ _).mono ?_; rintro e w' ⟨rfl, rfl⟩)
  go_ret
  exact ⟨rfl, rfl⟩
theorem areAllKeys_any (A : Option Addr) (c : Nat) (xs : List Int) (w : World) (hx : RdL (Value.int .i64) w A xs) (hn : xs.length ≤ 1048576) :
    Calls Try.prog 79 #[.slice A xs.length c] w fun e w' => e = .returned (.bool (allB xs 0 4294967295)) ∧ w = w' := by
  have hmf : ∀ (fn : Fn) (first cap : Array Value) (w : World), (Instr.makeFunc fn first cap).run Try.prog w = .ok (.func fn first cap) w := fun _ _ _ _ => rfl
  have HX := hid hx
  clear hx
  go_enter Try.func79, Try.ntmps79
  go_wp2_with fail
  refine (ContainsFuncK_any A c xs (fun x => !inB x 0 4294967295) _ HX.out hn (fun x _ => areAllKeys1_any x _)).mono ?_
  rintro e w' ⟨rfl, rfl⟩
  go_wp2
  go_ret
  exact ⟨ret_bool allB_not_any, rfl⟩
end Go.Proofs.Ytmmolicodlmlkaa
namespace Go.Proofs.Ytmmolicodlmlkaa
open Go.RowKit
set_option linter.unusedVariables false

/-- Cells are valid. -/
def vCells (a0 a1 a2 : Int) (xs : List Int) : Bool := inB a0 2 64 && inB a1 1 6 && inB a2 0 4294967295 && decide ((xs.length : Int) = a0 * a1) && allB xs (-1000000000000) 1000000000000
theorem mul_sides {a b : Int} (h1 : inB a 2 64 = true) (h2 : inB b 1 6 = true) : 2 ≤ a * b ∧ a * b ≤ 384 := by
  rw [inB_iff] at h1 h2
  have h3 : 2 * 1 ≤ a * b := Int.mul_le_mul h1.1 h2.1 (by omega) (by omega)
  have h4 : a * b ≤ 64 * 6 := Int.mul_le_mul h1.2 h2.2 (by omega) (by omega)
  omega

set_option maxHeartbeats 2000000 in
theorem l03Is_any (p c : Nat) (A : Option Addr) (a0 a1 a2 : Int) (xs : List Int) (w : World) (h0 : w.cell? ⟨p, 0, none⟩ = some (.int .i64 a0)) (h1 : w.cell? ⟨p, 1, none⟩ = some (.int .i64 a1)) (h2 : w.cell? ⟨p, 2, none⟩ = some (.int .i64 a2))
    (h3 : w.cell? ⟨p, 3, none⟩ = some (.slice A xs.length c)) (hx : RdL (Value.int .i64) w A xs) (hn : xs.length ≤ 1048576) :
    Calls Try.prog 106 #[.pointer (some ⟨p, 0, none⟩)] w fun e w' => e = .returned (.bool (vCells a0 a1 a2 xs)) ∧ ∃ n, w' = w.drewN n := by
  have HX := hid hx
  clear hx
  cases e0 : inB a0 2 64 with
  | false =>
    have hv := hid (show vCells a0 a1 a2 xs = false by simp [vCells, e0])
    go_enter Try.func106, Try.ntmps106
    go_wp2
    go_quiet ((first | (go_at_call 78; refine Calls.quiet_of_same ((l00In_any _ _ _ _).mono fun _ _ ⟨h, h'⟩ => ⟨h, h'.symm⟩)) | (go_at_call 73; refine Calls.quiet_of_same ((l02Key_any _ _).mono fun _ _ ⟨h, h'⟩ => ⟨h, h'.symm⟩))))
    go_wp2
    go_ret
    exact ⟨ret_bool hv.out.symm, _, rfl⟩
  | true =>
  cases e1 : inB a1 1 6 with
  | false =>
    have hv := hid (show vCells a0 a1 a2 xs = false by simp [vCells, e1])
    go_enter Try.func106, Try.ntmps106
    go_wp2
    go_quiet ((first | (go_at_call 78; refine Calls.quiet_of_same ((l00In_any _ _ _ _).mono fun _ _ ⟨h, h'⟩ => ⟨h, h'.symm⟩)) | (go_at_call 73; refine Calls.quiet_of_same ((l02Key_any _ _).mono fun _ _ ⟨h, h'⟩ => ⟨h, h'.symm⟩))))
    go_wp2
    go_ret
    exact ⟨ret_bool hv.out.symm, _, rfl⟩
  | true =>
  cases e2 : inB a2 0 4294967295 with
  | false =>
    have hv := hid (show vCells a0 a1 a2 xs = false by simp [vCells, e2])
    go_enter Try.func106, Try.ntmps106
    go_wp2
    go_quiet ((first | (go_at_call 78; refine Calls.quiet_of_same ((l00In_any _ _ _ _).mono fun _ _ ⟨h, h'⟩ => ⟨h, h'.symm⟩)) | (go_at_call 73; refine Calls.quiet_of_same ((l02Key_any _ _).mono fun _ _ ⟨h, h'⟩ => ⟨h, h'.symm⟩))))
    go_wp2
    go_ret
    exact ⟨ret_bool hv.out.symm, _, rfl⟩
  | true =>
  obtain ⟨hm0, hm1⟩ := mul_sides e0 e1
  have hwr : IntKind.i64.wrap (a0 * a1) = a0 * a1 := by rw [IntKind.wrap_i64]; omega
  by_cases e3 : (xs.length : Int) = a0 * a1
  · have hv := hid (show vCells a0 a1 a2 xs = allB xs (-1000000000000) 1000000000000 by simp [vCells, *])
    have hwr1 : IntKind.i64.wrap (a0 * a1) = (xs.length : Int) := by rw [hwr, e3]
    clear e3 hwr hm0 hm1
    go_enter Try.func106, Try.ntmps106
    go_wp2
    go_quiet ((first | (go_at_call 78; refine Calls.quiet_of_same ((l00In_any _ _ _ _).mono fun _ _ ⟨h, h'⟩ => ⟨h, h'.symm⟩)) | (go_at_call 73; refine Calls.quiet_of_same ((l02Key_any _ _).mono fun _ _ ⟨h, h'⟩ => ⟨h, h'.symm⟩))))
    go_wp2
    clear e0 e1 e2
    go_loopw [48] (fun i wr => ∃ k n : Nat, k ≤ xs.length ∧ i = .int .i64 k ∧ wr = w.drewN n ∧ Hid (allB (xs.take k) (-1000000000000) 1000000000000 = true)) (fun i _ => xs.length - (intOf i).toNat)
    case atStart => exact ⟨0, _, Nat.zero_le _, rfl, rfl, rfl⟩
    case round =>
      obtain ⟨k, n, hk, rfl, rfl, hh⟩ := hrel
      by_cases hlt : k < xs.length
      · have hi : (k : Int) < (xs.length : Int) := by omega
        obtain ⟨b', o', x, rfl, hc, hxk⟩ := HX.out.at_ hlt
        cases hb : inB x (-1000000000000) 1000000000000 with
        | true =>
          have he := hid (allB_snoc hh hxk hb)
          go_wp2_with ((go_at_call 78; refine (l00In_any _ _ _ _).mono ?_; rintro e w' ⟨rfl, rfl⟩))
          exact ⟨⟨k + 1, _, by omega, by go_num, rfl, he⟩, by simp [intOf]; omega⟩
        | false =>
          have he := hid (allB_no hxk hb)
          go_wp2_with ((go_at_call 78; refine (l00In_any _ _ _ _).mono ?_; rintro e w' ⟨rfl, rfl⟩))
          go_ret
          exact ⟨ret_bool (by rw [hv.out, he.out]), _, rfl⟩
      · have hi : ¬ (k : Int) < (xs.length : Int) := by omega
        go_wp2
        go_ret
        have he := hh.out
        rw [List.take_of_length_le (by omega)] at he
        exact ⟨ret_bool (by rw [hv.out, he]), _, rfl⟩
  · have t3 : ((xs.length : Int) == a0 * a1) = false := by simp [e3]
    have hv := hid (show vCells a0 a1 a2 xs = false by simp [vCells, e3])
    go_enter Try.func106, Try.ntmps106
    go_wp2
    go_quiet ((first | (go_at_call 78; refine Calls.quiet_of_same ((l00In_any _ _ _ _).mono fun _ _ ⟨h, h'⟩ => ⟨h, h'.symm⟩)) | (go_at_call 73; refine Calls.quiet_of_same ((l02Key_any _ _).mono fun _ _ ⟨h, h'⟩ => ⟨h, h'.symm⟩))))
    go_wp2
    go_ret
    exact ⟨ret_bool hv.out.symm, _, rfl⟩
set_option maxHeartbeats 400000 in
theorem sValidCells_any (a0 a1 a2 : Int) (A : Option Addr) (c : Nat) (x : List Int) (w : World) (h0 : W64 a0) (h1 : W64 a1) (h2 : W64 a2) (hx : RdL (Value.int .i64) w A x) (hn : x.length ≤ 1048576) (we : ∀ y ∈ x, W64 y) :
    Calls Try.prog 44 #[.agg #[.int .i64 a0, .int .i64 a1, .int .i64 a2, .slice A x.length c]] w fun e w' => e = .returned (.bool (vCells a0 a1 a2 x)) ∧ Below w.heap.size w w' := by
  have HX := hid hx
  clear hx we
  go_enter Try.func44, Try.ntmps44
  go_wp2_with fail
  refine (l03Is_any _ c A a0 a1 a2 x _ (by simp) (by simp) (by simp) (by simp) (HX.out.below (below_a1 _ _)) hn).mono ?_
  rintro e w' ⟨rfl, n, rfl⟩
  go_wp2
  go_ret
  exact ⟨rfl, below_drewN (below_a1 _ _) _⟩
set_option maxHeartbeats 2000000 in
theorem iValidCells_any (a0 a1 a2 : Int) (A : Option Addr) (c : Nat) (x : List Int) (w : World) (h0 : W64 a0) (h1 : W64 a1) (h2 : W64 a2) (hx : RdL (Value.int .i64) w A x) (hn : x.length ≤ 1048576) (we : ∀ y ∈ x, W64 y) :
    Calls Try.prog 43 #[.agg #[.int .i64 a0, .int .i64 a1, .int .i64 a2, .slice A x.length c]] w fun e w' => e = .returned (.bool (vCells a0 a1 a2 x)) ∧ Below w.heap.size w w' := by
  have HX := hid hx
  clear hx we h0 h1 h2
  cases e0 : inB a0 2 64 with
  | false =>
    have hv := hid (show vCells a0 a1 a2 x = false by simp [vCells, e0])
    go_enter Try.func43, Try.ntmps43
    go_wp2_with (first | (go_at_call 97; refine (within_any _ _ _ _).mono ?_; rintro e w' ⟨rfl, rfl⟩) | (go_at_call 63; refine (IsKey_any _ _).mono ?_; rintro e w' ⟨rfl, rfl⟩))
    go_ret
    exact ⟨ret_bool hv.out.symm, below_a1 _ _⟩
  | true =>
  cases e1 : inB a1 1 6 with
  | false =>
    have hv := hid (show vCells a0 a1 a2 x = false by simp [vCells, e1])
    go_enter Try.func43, Try.ntmps43
    go_wp2_with (first | (go_at_call 97; refine (within_any _ _ _ _).mono ?_; rintro e w' ⟨rfl, rfl⟩) | (go_at_call 63; refine (IsKey_any _ _).mono ?_; rintro e w' ⟨rfl, rfl⟩))
    go_ret
    exact ⟨ret_bool hv.out.symm, below_a1 _ _⟩
  | true =>
  cases e2 : inB a2 0 4294967295 with
  | false =>
    have hv := hid (show vCells a0 a1 a2 x = false by simp [vCells, e2])
    go_enter Try.func43, Try.ntmps43
    go_wp2_with (first | (go_at_call 97; refine (within_any _ _ _ _).mono ?_; rintro e w' ⟨rfl, rfl⟩) | (go_at_call 63; refine (IsKey_any _ _).mono ?_; rintro e w' ⟨rfl, rfl⟩))
    go_ret
    exact ⟨ret_bool hv.out.symm, below_a1 _ _⟩
  | true =>
  obtain ⟨hm0, hm1⟩ := mul_sides e0 e1
  by_cases e3 : (x.length : Int) = a0 * a1
  · have t3 : ((x.length : Int) == a0 * a1) = true := by simp [e3]
    have hv := hid (show vCells a0 a1 a2 x = allB x (-1000000000000) 1000000000000 by simp [vCells, *])
    clear e3
    go_enter Try.func43, Try.ntmps43
    go_wp2_with (first | (go_at_call 97; refine (within_any _ _ _ _).mono ?_; rintro e w' ⟨rfl, rfl⟩) | (go_at_call 63; refine (IsKey_any _ _).mono ?_; rintro e w' ⟨rfl, rfl⟩) | (go_at_call 105; refine (areWithin_any A c x _ _ _ (HX.out.below (below_a1 _ _)) hn).mono ?_; rintro e w1 ⟨rfl, hb⟩))
    go_ret
    exact ⟨ret_bool hv.out.symm, (below_call (below_a1 _ _) hb).out⟩
  · have t3 : ((x.length : Int) == a0 * a1) = false := by simp [e3]
    have hv := hid (show vCells a0 a1 a2 x = false by simp [vCells, e3])
    go_enter Try.func43, Try.ntmps43
    go_wp2_with (first | (go_at_call 97; refine (within_any _ _ _ _).mono ?_; rintro e w' ⟨rfl, rfl⟩) | (go_at_call 63; refine (IsKey_any _ _).mono ?_; rintro e w' ⟨rfl, rfl⟩))
    go_ret
    exact ⟨ret_bool hv.out.symm, below_a1 _ _⟩
end Go.Proofs.Ytmmolicodlmlkaa
namespace Go.Proofs.Ytmmolicodlmlkaa
open Go.RowKit
set_option linter.unusedVariables false

/-- The index of the cell of a key in row i. -/
def placeN (wd s key i : Nat) : Nat := i * wd + belowN key (saltN s i) wd
theorem placeN_lt {wd s key i dp : Nat} (hw : 0 < wd) (hi : i < dp) : placeN wd s key i < wd * dp := by
  have h1 := belowN_lt key (saltN s i) wd hw
  have h2 : (i + 1) * wd ≤ dp * wd := Nat.mul_le_mul_right wd hi
  rw [Nat.add_mul] at h2
  rw [Nat.mul_comm wd dp]
  unfold placeN
  omega
theorem mul_le6 {i wd : Nat} (hi : i ≤ 6) (hw : wd ≤ 64) : (i : Int) * (wd : Int) ≤ 384 ∧ 0 ≤ (i : Int) * (wd : Int) := by
  have h : i * wd ≤ 6 * 64 := Nat.mul_le_mul hi hw
  have h2 : ((i * wd : Nat) : Int) = (i : Int) * (wd : Int) := Int.natCast_mul _ _
  omega
theorem place_cast (wd s key i : Nat) : ((placeN wd s key i : Nat) : Int) = (i : Int) * (wd : Int) + (belowN key (saltN s i) wd : Int) := by
  unfold placeN
  rw [Int.natCast_add, Int.natCast_mul]

/-- An empty row of the call's own, behind a box. -/
theorem row_start1 (w : World) (o : Obj) (e : TypeId) : ((w.alloc o).alloc (.cells #[] e)).ownsRow (w.heap.size + 1) e 1 (.slice (some ⟨w.heap.size + 1, 0, none⟩) 0 0) 0 [] := by
  have h := World.ownsRow_made (base := w.heap.size + 1) (size := 1) (e := e) (w.alloc o) #[] 0 (by simp) (Nat.zero_le _) rfl
  rwa [World.size_alloc] at h

/-- The cells of a key in the first n rows. -/
def cellsL (wd s key n : Nat) : List Int := (List.range n).map fun i => (placeN wd s key i : Int)
theorem cellsL_succ (wd s key n : Nat) : (cellsL wd s key n).map (Value.int .i64) ++ [Value.int .i64 (placeN wd s key n)] = (cellsL wd s key (n + 1)).map (Value.int .i64) := by
  simp [cellsL, List.range_succ]
theorem cellsL_length (wd s key n : Nat) : (cellsL wd s key n).length = n := by simp [cellsL]
theorem cellsL_mem {wd s key dp : Nat} (hw : 0 < wd) {x : Int} (h : x ∈ cellsL wd s key dp) : ∃ m : Nat, x = m ∧ m < wd * dp := by
  simp only [cellsL, List.mem_map, List.mem_range] at h
  obtain ⟨j, hj, rfl⟩ := h
  exact ⟨_, rfl, placeN_lt hw hj⟩

set_option maxRecDepth 100000 in
set_option maxHeartbeats 1600000 in
theorem places_any (wd dp s key n c : Nat) (A : Option Addr) (w : World) (hw1 : 2 ≤ wd) (hw2 : wd ≤ 64) (hd : dp ≤ 6) (hs : s < 4294967296) (hk : key < 4294967296) :
    Calls Try.prog 92 #[.agg #[.int .i64 wd, .int .i64 dp, .int .i64 s, .slice A n c], .int .i64 key] w (RetL (Value.int .i64) 2 w (cellsL wd s key dp)) := by
  obtain ⟨i0, hi0, hz0, hz1, hz2⟩ := info_parts Try.infoI
  go_enter Try.func92, Try.ntmps92
  go_wp2
  go_loopw [5, 10] (fun v i wr => ∃ k : Nat, k ≤ dp ∧ i = .int .i64 k ∧ Hid (wr.ownsRow (w.heap.size + 1) 2 1 v k ((cellsL wd s key k).map (Value.int .i64))) ∧
      Hid (Below (w.heap.size + 1) (w.alloc (.cells #[.int .i64 wd, .int .i64 dp, .int .i64 s, .slice A n c] 37)) wr)) (fun _ i _ => dp - (intOf i).toNat)
  case atStart => exact ⟨0, Nat.zero_le _, rfl, row_start1 w _ _, (Below.refl _ _).alloc (by simp) _⟩
  case round =>
    obtain ⟨k, hkr, rfl, hown, hW⟩ := hrel
    have hBx : Hid (Blk wr w.heap.size 37 [.int .i64 wd, .int .i64 dp, .int .i64 s, .slice A n c]) := (hW.out.block w.heap.size (by omega)).trans (Blk.new w _ _)
    obtain ⟨c0, c1, c2, c3⟩ := hBx.out.cells4
    by_cases hlt : k < dp
    · have hi : (k : Int) < (dp : Int) := by omega
      have hm := mul_le6 (show k ≤ 6 by omega) hw2
      have hb := belowN_lt key (saltN s k) wd (by omega)
      have hlb : w.heap.size < wr.heap.size := hBx.out.lt
      have hag : u5.ownBlock ≠ some w.heap.size := fun e => by have := (hown.out.lt _ e).1; omega
      have hsl := saltN_lt s k
      have e1 : IntKind.i64.wrap ((k : Int) * (wd : Int)) = (k : Int) * (wd : Int) := by rw [IntKind.wrap_i64]; omega
      have e4 : IntKind.i64.wrap ((k : Int) * (wd : Int) + (belowN key (saltN s k) wd : Int)) = (placeN wd s key k : Int) := by rw [IntKind.wrap_i64, place_cast]; omega
      go_wp2
      go_region_held3 (fun w' => w'.cell? ⟨w.heap.size, 0, none⟩ = some (.int .i64 wd) ∧ w'.cell? ⟨w.heap.size, 2, none⟩ = some (.int .i64 s)) (first | go_keep | (go_split_ands; refine ⟨?_, ?_⟩ <;> (rw [hgrow.cell_far _ (by simp; omega) (Ne.symm hag)]; assumption)))
        (first
          | (go_at_call 114
             refine (salted_any _ _ _ hs (by omega)).mono ?_
             rintro e w' ⟨rfl, rfl⟩)
          | (go_at_call 110
             refine (ibelow_any _ _ _ _ hk hsl (by omega)).mono ?_
             rintro e w' ⟨rfl, rfl⟩)
          | (refine step_append_lies _ (by rfl) _ _ _ (by rfl) (w.heap.size + 1) 2 i0 _ 1 8 Try.underlying22 hi0 hz0 hz1 hz2 rfl (by omega) _ _ _ (by rfl) ((hown.out.alloc _).drew) ⟨wr.heap.size, 0, none⟩ 1 1 [.int .i64 (placeN wd s key k)] (by rfl) (by rfl) (World.news_of_block (cs := #[.int .i64 (placeN wd s key k)]) (t := 2) (fr := (0, 0)) (heap_alloc_new wr _)) (by simp [Value.oneCell']) (by omega) (by simp only [maxLen]; omega) (by omega) (by simp; omega) (wr.heap.size + 1) (by simp) ?_
             intro gg cap w1 hown1 hgrow hat hlt'))
      rw [cellsL_succ] at hown1
      have O1 := hid hown1
      have W1 : Hid (Below (w.heap.size + 1) (w.alloc (.cells #[.int .i64 wd, .int .i64 dp, .int .i64 s, .slice A n c] 37)) w1) :=
        ((hW.out.alloc (by omega) _).drew).grown hgrow (by simp; omega) (fun g hg => (hown.out.lt g hg).1)
      clear hown1 hgrow hat hlt' e1 e4 c0 c1 c2 c3 hag
      go_wp2
      exact ⟨⟨k + 1, by omega, by go_num, O1, W1⟩, by simp [intOf]; omega⟩
    · have hi : ¬ (k : Int) < (dp : Int) := by omega
      go_wp2
      go_ret
      obtain rfl : k = dp := by omega
      obtain ⟨A', c', hv, ho⟩ := ownS_of_row hown.out (cellsL_length _ _ _ _)
      exact ⟨A', c', congrArg Ending.returned hv, ho.mono (by omega), (below_a1 _ _).trans (hW.out.mono (by omega))⟩

end Go.Proofs.Ytmmolicodlmlkaa
namespace Go.Proofs.Ytmmolicodlmlkaa
open Go.RowKit
set_option linter.unusedVariables false

/-- Keys are put to counts, each at its places. -/
def putKs (wd s dp : Nat) (y : List Int) (ks : List Int) : List Int := ks.foldl (fun y k => addAt 1 y (cellsL wd s k.toNat dp)) y
def addL (x y : List Int) : List Int := List.zipWith (fun a b => a + b) x y
theorem addL_length {x y : List Int} (h : x.length = y.length) : (addL x y).length = x.length := by simp [addL, h]
theorem putKs_length (wd s dp : Nat) (y ks : List Int) : (putKs wd s dp y ks).length = y.length := by
  unfold putKs
  induction ks generalizing y with
  | nil => rfl
  | cons k ks ih => rw [List.foldl_cons, ih, addAt_length]
theorem putKs_snoc (wd s dp : Nat) (y ks : List Int) (k : Int) : putKs wd s dp y (ks ++ [k]) = addAt 1 (putKs wd s dp y ks) (cellsL wd s k.toNat dp) := by simp [putKs]
theorem putKs_bound {wd s dp : Nat} {y ks : List Int} {lo hi : Int} (hd : dp ≤ 6) (hy : ∀ z ∈ y, lo ≤ z ∧ z ≤ hi) : ∀ z ∈ putKs wd s dp y ks, lo - 6 * (ks.length : Int) ≤ z ∧ z ≤ hi + 6 * (ks.length : Int) := by
  unfold putKs
  induction ks generalizing y lo hi with
  | nil => intro z hz; have := hy z hz; simp; omega
  | cons k ks ih =>
    intro z hz
    have h1 := addAt_bound (d := 1) (l := cellsL wd s k.toNat dp) (D := 1) hy (by omega) (by omega)
    have h2 : ∀ z ∈ addAt 1 y (cellsL wd s k.toNat dp), lo - 6 ≤ z ∧ z ≤ hi + 6 := fun z hz => by
      have := h1 z hz
      rw [cellsL_length] at this
      omega
    have h3 := ih h2 z hz
    simp only [List.length_cons]
    omega
/-- What the worker for list number o makes. -/
def madeC (wd s dp : Nat) (xss : List (List Int)) (o : Nat) : List Int := putKs wd s dp (List.replicate (wd * dp) 0) (xss.getD o [])
/-- The sum of the first n. -/
def sumC (wd s dp : Nat) (xss : List (List Int)) : Nat → List Int
  | 0 => List.replicate (wd * dp) 0
  | n + 1 => addL (sumC wd s dp xss n) (madeC wd s dp xss n)
theorem madeC_length (wd s dp : Nat) (xss : List (List Int)) (o : Nat) : (madeC wd s dp xss o).length = wd * dp := by simp [madeC, putKs_length]
theorem sumC_length (wd s dp : Nat) (xss : List (List Int)) (n : Nat) : (sumC wd s dp xss n).length = wd * dp := by
  induction n with
  | zero => simp [sumC]
  | succ n ih => rw [sumC, addL_length (by rw [ih, madeC_length]), ih]
theorem madeC_bound {wd s dp : Nat} {xss : List (List Int)} {o : Nat} (hd : dp ≤ 6) (hk : ∀ x ∈ xss, x.length ≤ 256) : ∀ z ∈ madeC wd s dp xss o, -1536 ≤ z ∧ z ≤ 1536 := by
  intro z hz
  have h1 := putKs_bound (wd := wd) (s := s) (y := List.replicate (wd * dp) 0) (ks := xss.getD o []) (lo := 0) (hi := 0) hd (fun z hz => by
    obtain ⟨_, rfl⟩ := List.mem_replicate.1 hz
    omega) z hz
  have h2 : (xss.getD o []).length ≤ 256 := by
    rw [List.getD_eq_getElem?_getD]
    cases he : xss[o]? with
    | none => simp
    | some x => exact hk x (List.mem_of_getElem? he)
  omega
theorem sumC_bound {wd s dp : Nat} {xss : List (List Int)} (hd : dp ≤ 6) (hk : ∀ x ∈ xss, x.length ≤ 256) (n : Nat) : ∀ z ∈ sumC wd s dp xss n, -(1536 * (n : Int)) ≤ z ∧ z ≤ 1536 * (n : Int) := by
  induction n with
  | zero =>
    intro z hz
    obtain ⟨_, rfl⟩ := List.mem_replicate.1 hz
    omega
  | succ n ih =>
    intro z hz
    obtain ⟨i, hi, rfl⟩ := List.getElem_of_mem hz
    have hi1 : i < (sumC wd s dp xss n).length := by rw [sumC_length] at hi ⊢; exact hi
    have hi2 : i < (madeC wd s dp xss n).length := by rw [sumC_length] at hi; rw [madeC_length]; exact hi
    simp only [sumC, addL, List.getElem_zipWith]
    have h1 := ih ((sumC wd s dp xss n)[i]'hi1) (List.getElem_mem _)
    have h2 := madeC_bound (wd := wd) (s := s) (xss := xss) (o := n) hd hk ((madeC wd s dp xss n)[i]'hi2) (List.getElem_mem _)
    omega
/-! ### an own row of numbers, whose block is known whole -/
/-- The slice's block holds just these numbers, and then what is spare. -/
def OwnE (ex : List Value) (w : World) (B : Nat) (t : TypeId) (A : Option Addr) (x : List Int) : Prop := ∃ g, A = some ⟨g, 0, none⟩ ∧ B ≤ g ∧ Blk w g t (x.map (Value.int .i64) ++ ex)
section
variable {ex : List Value} {w w' : World} {B B' : Nat} {t : TypeId} {A : Option Addr} {x : List Int}
theorem OwnE.own (h : OwnE ex w B t A x) : OwnS (Value.int .i64) w B t A x := fun _ => let ⟨g, h1, h2, h3⟩ := h; ⟨g, ex, h1, h2, h3⟩
theorem OwnE.mono (h : OwnE ex w B t A x) (hB : B' ≤ B) : OwnE ex w B' t A x := let ⟨g, h1, h2, h3⟩ := h; ⟨g, h1, by omega, h3⟩
theorem OwnE.below (h : OwnE ex w B t A x) (hb : Below w.heap.size w w') : OwnE ex w' B t A x := let ⟨g, h1, h2, h3⟩ := h; ⟨g, h1, h2, h3.below hb⟩
theorem OwnE.setFar (h : OwnE ex w B t A x) {p : Addr} (hp : p.block < B) (u : Value) : OwnE ex (w.setCell p u) B t A x := by
  obtain ⟨g, h1, h2, h3⟩ := h
  exact ⟨g, h1, h2, (heap_setCell_other w p g u (by omega)).trans h3⟩
theorem OwnE.put (h : OwnE ex w B t A x) {j : Nat} (hj : j < x.length) :
    ∃ g u, A = some ⟨g, 0, none⟩ ∧ B ≤ g ∧ w.cell? ⟨g, j, none⟩ = some (.int .i64 u) ∧ w.frozen? ⟨g, j, none⟩ = false ∧ Hid (x[j]? = some u) ∧
      ∀ v, Hid (OwnE ex (w.setCell ⟨g, j, none⟩ (.int .i64 v)) B t A (x.set j v)) := by
  obtain ⟨g, rfl, hB, hb⟩ := h
  refine ⟨g, x[j], rfl, hB, hb.cell (by rw [List.getElem?_append_left (by simpa using hj)]; simp [hj]), hb.frozen j, by show x[j]? = _; simp [hj], fun v => ⟨g, rfl, hB, ?_⟩⟩
  have := hb.set_ j (Value.int .i64 v)
  rw [List.set_append_left _ _ (by simpa using hj), ← List.map_set] at this
  exact this
end
end Go.Proofs.Ytmmolicodlmlkaa
namespace Go.Proofs.Ytmmolicodlmlkaa
open Go.RowKit
set_option linter.unusedVariables false

theorem rd_news {α : Type} {f : α → Value} {w : World} {ad : Addr} {x : List α} (h : RdL f w (some ad) x) : ∀ j u, (x.map f)[j]? = some u → w.cell? (ad.add j) = some u := fun j u hu => by
  rw [List.getElem?_map] at hu
  by_cases hj : j < x.length
  · obtain ⟨b, o, hA, hc⟩ := h j hj
    injection hA with hA
    subst hA
    rw [List.getElem?_eq_getElem hj] at hu
    have : (⟨b, o, none⟩ : Addr).add j = ⟨b, o + j, none⟩ := by unfold Addr.add; split <;> simp_all
    rw [this, hc]
    simpa using hu
  · rw [List.getElem?_eq_none (by omega)] at hu
    cases hu
theorem rd_none {α : Type} {f : α → Value} {w : World} {x : List α} (h : RdL f w none x) : x = [] := by
  rcases x with _ | ⟨a, x⟩
  · rfl
  · obtain ⟨b, o, hA, _⟩ := h 0 (by simp)
    cases hA

theorem OwnS.setFar {α : Type} {f : α → Value} {w : World} {B : Nat} {t : TypeId} {A : Option Addr} {xs : List α} (h : OwnS f w B t A xs) {p : Addr} (hp : p.block < B) (u : Value) : OwnS f (w.setCell p u) B t A xs := fun hn => by
  obtain ⟨g, ex, hA, hB, hb⟩ := h hn
  exact ⟨g, ex, hA, hB, hb.far (by omega) u⟩
set_option maxRecDepth 100000 in
set_option maxHeartbeats 800000 in
theorem cloneI_any (A : Option Addr) (c : Nat) (x : List Int) (w : World) (hx : RdL (Value.int .i64) w A x) (hn : x.length ≤ 1048576) :
    Calls Try.prog 118 #[.slice A x.length c] w (RetL (Value.int .i64) 2 w x) := by
  obtain ⟨i0, hi0, hz0, hz1, hz2⟩ := info_parts Try.infoI
  have q22 : ∀ (w : World) (a : Option Addr) (n c n' c' : Nat), (binOp .eql 22 (.slice a n c) (.slice none n' c')).run Try.prog w = .ok (.bool a.isNone) w := fun w a n c n' c' => Lib.run_eql_slice_nil w _ _ a n c n' c' Try.underlying22
  cases A with
  | none =>
    obtain rfl := rd_none hx
    go_enter Try.func118, Try.ntmps118
    go_wp2
    go_ret
    exact ⟨none, 0, rfl, OwnS.nil, Below.refl _ _⟩
  | some ad =>
    have HX := hid hx
    clear hx
    go_enter Try.func118, Try.ntmps118
    go_wp2_with (at_builtin; refine wpList_append_own _ rfl _ _ 22 rfl w.heap.size 2 i0 (.int .i64 0) 1 8 Try.underlying22 hi0 hz0 hz1 hz2 rfl (by decide) _ 0 [] rfl (World.ownsRow_made w #[] 0 (Nat.le_refl _) (Nat.zero_le _) rfl) ad x.length c (x.map (Value.int .i64)) rfl ?c1 (rd_news (HX.out.below (below_a1 _ _))) ?c2 ?c3 ?c4 ?c5 ?_)
    case c1 => simp
    case c2 => intro u hu; obtain ⟨y, _, rfl⟩ := List.mem_map.1 hu; rfl
    case c3 => simp only [maxLen]; omega
    case c4 => omega
    case c5 => simp
    intro v' w1 hown' hgrow _
    have O1 := hid hown'
    have W1 : Hid (Below w.heap.size w w1) := ((Below.refl _ w).alloc (Nat.le_refl _) _).grown hgrow (by simp) (by intro k hk; simp [Value.ownBlock] at hk; omega)
    clear hown' hgrow
    go_wp2
    go_ret
    obtain ⟨A', c', hv, ho⟩ := ownS_of_row (f := (Value.int .i64)) (xs := x) (n := 0 + x.length) (by simpa using O1.out) (by simp)
    exact ⟨A', c', congrArg Ending.returned hv, ho, W1.out⟩
end Go.Proofs.Ytmmolicodlmlkaa
namespace Go.Proofs.Ytmmolicodlmlkaa
open Go.RowKit
set_option linter.unusedVariables false

/-- It hands back cells of its own, and whether it could. -/
def RetCl (w : World) (p : (Int × Int × Int × List Int) × Bool) (e : Ending) (w' : World) : Prop := ∃ A c,
  e = .returned (.tuple #[.agg #[.int .i64 p.1.1, .int .i64 p.1.2.1, .int .i64 p.1.2.2.1, .slice A p.1.2.2.2.length c], .bool p.2]) ∧ OwnS (Value.int .i64) w' w.heap.size 2 A p.1.2.2.2 ∧ p.1.2.2.2.length ≤ 1048576 ∧ Below w.heap.size w w'
theorem retCl_no {w : World} : ∀ (e : Ending) (w' : World), (e = .returned (.tuple #[.agg #[.int .i64 0, .int .i64 0, .int .i64 0, .slice none 0 0], .bool false]) ∧ Below w.heap.size w w') → RetCl w ((0, 0, 0, []), false) e w' :=
  fun e w' ⟨he, hb⟩ => ⟨none, 0, he, OwnS.nil, by simp, hb⟩
theorem w64_of_bounds {a : Int} (h : -9223372036854775808 ≤ a ∧ a ≤ 9223372036854775807) : W64 a := by
  simpa [W64, Lit.wf, IntKind.min, IntKind.max, IntKind.signed, IntKind.bits] using h
set_option maxHeartbeats 800000 in
theorem ifCells_yes (a0 a1 a2 : Int) (A : Option Addr) (n c : Nat) (x : List Int) (w : World) (h0 : W64 a0) (h1 : W64 a1) (h2 : W64 a2) (hl : x.length = n) (hx : RdL (Value.int .i64) w A x) (hn : n ≤ 1048576) (we : ∀ y ∈ x, W64 y) (hv : vCells a0 a1 a2 x = true) :
    Calls Try.prog 98 #[.agg #[.int .i64 a0, .int .i64 a1, .int .i64 a2, .slice A n c]] w fun e w' => e = .returned (.tuple #[.agg #[.int .i64 a0, .int .i64 a1, .int .i64 a2, .slice A n c], .bool true]) ∧ Below w.heap.size w w' := by
  subst hl
  have HX := hid hx
  have WE := hid we
  have B0 := hid ((Blk.new w 37 [.int .i64 a0, .int .i64 a1, .int .i64 a2, .slice A x.length c]).alloc (.cells #[.int .i64 0, .int .i64 0, .int .i64 0, .slice none 0 0] 37))
  have R0 := hid (Blk.new2 w (.cells #[.int .i64 a0, .int .i64 a1, .int .i64 a2, .slice A x.length c] 37) 37 [.int .i64 0, .int .i64 0, .int .i64 0, .slice none 0 0])
  clear hx we
  go_enter Try.func98, Try.ntmps98
  go_wp2_with fail
  refine (iValidCells_any a0 a1 a2 A c x _ h0 h1 h2 (HX.out.below (below_a2 _ _ _)) hn WE.out).mono ?_
  rw [hv]
  rintro e w1 ⟨rfl, hb⟩
  obtain ⟨c0, c1, c2, c3⟩ := (B0.out.below hb).cells4
  obtain ⟨d0, d1, d2, d3⟩ := (R0.out.below hb).cells4
  have f0 := (R0.out.below hb).frozen 0
  have f1 := (R0.out.below hb).frozen 1
  have f2 := (R0.out.below hb).frozen 2
  have f3 := (R0.out.below hb).frozen 3
  have S1 := below_call (below_a2 _ _ _) hb
  clear hb B0 R0
  go_wp2
  refine bodyPost_ret (v := .tuple #[.agg #[.int .i64 a0, .int .i64 a1, .int .i64 a2, .slice A x.length c], .bool true]) (by simp [results, Try.results98, go_sem, d0, d1, d2, d3]) rfl ⟨rfl, ?_⟩
  exact (((S1.out.setCell (by simp) _).setCell (by simp) _).setCell (by simp) _).setCell (by simp) _
set_option maxHeartbeats 800000 in
theorem ifCells_no (a0 a1 a2 : Int) (A : Option Addr) (n c : Nat) (x : List Int) (w : World) (h0 : W64 a0) (h1 : W64 a1) (h2 : W64 a2) (hl : x.length = n) (hx : RdL (Value.int .i64) w A x) (hn : n ≤ 1048576) (we : ∀ y ∈ x, W64 y) (hv : vCells a0 a1 a2 x = false) :
    Calls Try.prog 98 #[.agg #[.int .i64 a0, .int .i64 a1, .int .i64 a2, .slice A n c]] w fun e w' => e = .returned (.tuple #[.agg #[.int .i64 0, .int .i64 0, .int .i64 0, .slice none 0 0], .bool false]) ∧ Below w.heap.size w w' := by
  subst hl
  have HX := hid hx
  have WE := hid we
  have R0 := hid (Blk.new2 w (.cells #[.int .i64 a0, .int .i64 a1, .int .i64 a2, .slice A x.length c] 37) 37 [.int .i64 0, .int .i64 0, .int .i64 0, .slice none 0 0])
  clear hx we
  go_enter Try.func98, Try.ntmps98
  go_wp2_with fail
  refine (iValidCells_any a0 a1 a2 A c x _ h0 h1 h2 (HX.out.below (below_a2 _ _ _)) hn WE.out).mono ?_
  rw [hv]
  rintro e w1 ⟨rfl, hb⟩
  obtain ⟨d0, d1, d2, d3⟩ := (R0.out.below hb).cells4
  have f0 := (R0.out.below hb).frozen 0
  have f1 := (R0.out.below hb).frozen 1
  have f2 := (R0.out.below hb).frozen 2
  have f3 := (R0.out.below hb).frozen 3
  have S1 := below_call (below_a2 _ _ _) hb
  clear hb R0
  go_wp2
  refine bodyPost_ret (v := .tuple #[.agg #[.int .i64 0, .int .i64 0, .int .i64 0, .slice none 0 0], .bool false]) (by simp [results, Try.results98, go_sem, d0, d1, d2, d3]) rfl ⟨rfl, ?_⟩
  exact (((S1.out.setCell (by simp) _).setCell (by simp) _).setCell (by simp) _).setCell (by simp) _

/-- What cells are handed back that are given only if they are valid. -/
def GiveCl (a0 a1 a2 : Int) (x : List Int) (A : Option Addr) (n c : Nat) (b0 b1 b2 : Int) (A' : Option Addr) (n' c' : Nat) (t : Bool) : Prop :=
  (vCells a0 a1 a2 x = true ∧ b0 = a0 ∧ b1 = a1 ∧ b2 = a2 ∧ A' = A ∧ n' = n ∧ c' = c ∧ t = true) ∨ (vCells a0 a1 a2 x = false ∧ b0 = 0 ∧ b1 = 0 ∧ b2 = 0 ∧ A' = none ∧ n' = 0 ∧ c' = 0 ∧ t = false)
/-- Cells, if they are valid. -/
def giveP (a0 a1 a2 : Int) (x : List Int) : (Int × Int × Int × List Int) × Bool := if vCells a0 a1 a2 x = true then ((a0, a1, a2, x), true) else ((0, 0, 0, []), false)
theorem retCl_give {w w' : World} {a0 a1 a2 : Int} {x : List Int} {A : Option Addr} {n c : Nat} {b0 b1 b2 : Int} {A' : Option Addr} {n' c' : Nat} {t : Bool} (hh : GiveCl a0 a1 a2 x A n c b0 b1 b2 A' n' c' t)
    (ho : OwnS (Value.int .i64) w' w.heap.size 2 A x) (hl : x.length = n) (hn : n ≤ 1048576) (hb : Below w.heap.size w w') : RetCl w (giveP a0 a1 a2 x) (.returned (.tuple #[.agg #[.int .i64 b0, .int .i64 b1, .int .i64 b2, .slice A' n' c'], .bool t])) w' := by
  subst hl
  rcases hh with ⟨hv, rfl, rfl, rfl, rfl, rfl, rfl, rfl⟩ | ⟨hv, rfl, rfl, rfl, rfl, rfl, rfl, rfl⟩
  · rw [giveP, if_pos hv]
    exact ⟨A', c', rfl, ho, hn, hb⟩
  · rw [giveP, if_neg (by rw [hv]; decide)]
    exact ⟨none, 0, rfl, OwnS.nil, by simp, hb⟩
theorem ifCells_any (a0 a1 a2 : Int) (A : Option Addr) (n c : Nat) (x : List Int) (w : World) (h0 : W64 a0) (h1 : W64 a1) (h2 : W64 a2) (hl : x.length = n) (hx : RdL (Value.int .i64) w A x) (hn : n ≤ 1048576) (we : ∀ y ∈ x, W64 y) :
    Calls Try.prog 98 #[.agg #[.int .i64 a0, .int .i64 a1, .int .i64 a2, .slice A n c]] w fun e w' => ∃ b0 b1 b2 A' n' c' t, e = .returned (.tuple #[.agg #[.int .i64 b0, .int .i64 b1, .int .i64 b2, .slice A' n' c'], .bool t]) ∧ Hid (GiveCl a0 a1 a2 x A n c b0 b1 b2 A' n' c' t) ∧ Below w.heap.size w w' := by
  cases hv : vCells a0 a1 a2 x with
  | true => exact (ifCells_yes a0 a1 a2 A n c x w h0 h1 h2 hl hx hn we hv).mono fun e w' ⟨he, hb⟩ => ⟨a0, a1, a2, A, n, c, true, he, .inl ⟨hv, rfl, rfl, rfl, rfl, rfl, rfl, rfl⟩, hb⟩
  | false => exact (ifCells_no a0 a1 a2 A n c x w h0 h1 h2 hl hx hn we hv).mono fun e w' ⟨he, hb⟩ => ⟨0, 0, 0, none, 0, 0, false, he, .inr ⟨hv, rfl, rfl, rfl, rfl, rfl, rfl, rfl⟩, hb⟩

/-- Sides and a salt of cells. -/
def sidesB (a0 a1 a2 : Int) : Bool := inB a0 2 64 && inB a1 1 6 && inB a2 0 4294967295
/-- What NewCells returns. -/
def pNewCells (a0 a1 a2 : Int) : (Int × Int × Int × List Int) × Bool :=
  if sidesB a0 a1 a2 = true then ((a0, a1, a2, List.replicate (a0 * a1).toNat 0), true) else ((0, 0, 0, []), false)
theorem pNewCells_no {a b c : Int} (h : sidesB a b c = false) : pNewCells a b c = ((0, 0, 0, []), false) := by simp [pNewCells, h]
theorem pNewCells_yes {a b c : Int} (h : sidesB a b c = true) : pNewCells a b c = ((a, b, c, List.replicate (a * b).toNat 0), true) := by simp [pNewCells, h]
theorem sidesB_iff {a b c : Int} (h : sidesB a b c = true) : inB a 2 64 = true ∧ inB b 1 6 = true ∧ inB c 0 4294967295 = true := by
  simp only [sidesB, Bool.and_eq_true] at h
  exact ⟨h.1.1, h.1.2, h.2⟩
theorem allB_zeros (n : Nat) : allB (List.replicate n 0) (-1000000000000) 1000000000000 = true := by
  unfold allB
  rw [List.all_eq_true]
  intro y hy
  obtain ⟨_, rfl⟩ := List.mem_replicate.1 hy
  decide
theorem vCells_new {a b c : Int} (h : inB a 2 64 = true) (h' : inB b 1 6 = true) {n : Nat} (hn : (n : Int) = a * b) : vCells a b c (List.replicate n 0) = inB c 0 4294967295 := by
  simp [vCells, h, h', allB_zeros, hn]

set_option maxHeartbeats 1600000 in
theorem iNewCells_any (a0 a1 a2 : Int) (w : World) (h0 : W64 a0) (h1 : W64 a1) (h2 : W64 a2) :
    Calls Try.prog 37 #[.int .i64 a0, .int .i64 a1, .int .i64 a2] w (RetCl w (pNewCells a0 a1 a2)) := by
  cases e0 : inB a0 2 64 with
  | false =>
    rw [pNewCells_no (by simp [sidesB, e0])]
    refine Calls.mono ?_ retCl_no
    go_enter Try.func37, Try.ntmps37
    go_wp2_with ((go_at_call 97; refine (within_any _ _ _ _).mono ?_; rintro e w' ⟨rfl, rfl⟩))
    refine bodyPost_ret (v := .tuple #[.agg #[.int .i64 0, .int .i64 0, .int .i64 0, .slice none 0 0], .bool false]) (by simp [results, Try.results37, go_sem]) rfl ⟨rfl, below_a1 _ _⟩
  | true =>
  cases e1 : inB a1 1 6 with
  | false =>
    rw [pNewCells_no (by simp [sidesB, e1])]
    refine Calls.mono ?_ retCl_no
    go_enter Try.func37, Try.ntmps37
    go_wp2_with ((go_at_call 97; refine (within_any _ _ _ _).mono ?_; rintro e w' ⟨rfl, rfl⟩))
    refine bodyPost_ret (v := .tuple #[.agg #[.int .i64 0, .int .i64 0, .int .i64 0, .slice none 0 0], .bool false]) (by simp [results, Try.results37, go_sem]) rfl ⟨rfl, below_a1 _ _⟩
  | true =>
  obtain ⟨hm0, hm1⟩ := mul_sides e0 e1
  obtain ⟨n, hn⟩ := Int.eq_ofNat_of_zero_le (show 0 ≤ a0 * a1 by omega)
  have hn1 : n ≤ 384 := by omega
  have ew : IntKind.i64.wrap (a0 * a1) = (n : Int) := by rw [hn, IntKind.wrap_i64]; omega
  have HV := hid (vCells_new (c := a2) e0 e1 hn.symm)
  have hmk := run_make_row' (P := Try.prog) 22 2 (.int .i64 0) 8 Try.underlying22 (by kernel_rfl) rfl .i64 .i64 n (by omega) (by omega)
  have HN := hid hn
  have hZ : RdL (Value.int .i64) ((w.alloc (.cells #[.int .i64 0, .int .i64 0, .int .i64 0, .slice none 0 0] 37)).alloc (.cells (madeCells #[.int .i64 0] n) 2)) (some ⟨w.heap.size + 1, 0, none⟩) (List.replicate n 0) := by
    refine Blk.rd0 ?_ (t := 2)
    rw [madeCells_one, List.map_replicate]
    exact Blk.new2 _ _ _ _
  have HZ := hid hZ
  have HO : Hid (OwnS (Value.int .i64) ((w.alloc (.cells #[.int .i64 0, .int .i64 0, .int .i64 0, .slice none 0 0] 37)).alloc (.cells (madeCells #[.int .i64 0] n) 2)) (w.heap.size + 1) 2 (some ⟨w.heap.size + 1, 0, none⟩) (List.replicate n 0)) := by
    refine OwnS.of_blk ?_ (by omega)
    rw [madeCells_one, List.map_replicate]
    exact Blk.new2 _ _ _ _
  have R0 := hid ((Blk.new w 37 [.int .i64 0, .int .i64 0, .int .i64 0, .slice none 0 0]).alloc (.cells (madeCells #[.int .i64 0] n) 2))
  have hw0 : ∀ y ∈ List.replicate n (0 : Int), W64 y := fun y hy => by
    obtain ⟨_, rfl⟩ := List.mem_replicate.1 hy
    exact w64_of_bounds (by omega)
  have HW := hid hw0
  clear hn hm0 hm1 hZ hw0
  cases e2 : inB a2 0 4294967295 with
  | false =>
    rw [pNewCells_no (by simp [sidesB, e2])]
    refine Calls.mono ?_ retCl_no
    go_enter Try.func37, Try.ntmps37
    go_wp2_with ((go_at_call 97; refine (within_any _ _ _ _).mono ?_; rintro e w' ⟨rfl, rfl⟩))
    refine (ifCells_no a0 a1 a2 _ n n (List.replicate n 0) _ h0 h1 h2 (by simp) HZ.out (by omega) HW.out (HV.out.trans e2)).mono ?_
    rintro e w1 ⟨rfl, hb⟩
    obtain ⟨d0, d1, d2, d3⟩ := (R0.out.below hb).cells4
    have f0 := (R0.out.below hb).frozen 0
    have f1 := (R0.out.below hb).frozen 1
    have f2 := (R0.out.below hb).frozen 2
    have f3 := (R0.out.below hb).frozen 3
    have S1 := below_call (below_a2 _ _ _) hb
    clear hb hmk ew
    go_wp2
    refine bodyPost_ret (v := .tuple #[.agg #[.int .i64 0, .int .i64 0, .int .i64 0, .slice none 0 0], .bool false]) (by simp [results, Try.results37, go_sem, d0, d1, d2, d3]) rfl ⟨rfl, ?_⟩
    exact (((S1.out.setCell (by simp) _).setCell (by simp) _).setCell (by simp) _).setCell (by simp) _
  | true =>
    rw [pNewCells_yes (by simp [sidesB, e0, e1, e2]), HN.out, Int.toNat_natCast]
    go_enter Try.func37, Try.ntmps37
    go_wp2_with ((go_at_call 97; refine (within_any _ _ _ _).mono ?_; rintro e w' ⟨rfl, rfl⟩))
    refine (ifCells_yes a0 a1 a2 _ n n (List.replicate n 0) _ h0 h1 h2 (by simp) HZ.out (by omega) HW.out (HV.out.trans e2)).mono ?_
    rintro e w1 ⟨rfl, hb⟩
    obtain ⟨d0, d1, d2, d3⟩ := (R0.out.below hb).cells4
    have f0 := (R0.out.below hb).frozen 0
    have f1 := (R0.out.below hb).frozen 1
    have f2 := (R0.out.below hb).frozen 2
    have f3 := (R0.out.below hb).frozen 3
    have O1 := hid (HO.out.below hb)
    have S1 := below_call (below_a2 _ _ _) hb
    clear hb hmk ew
    go_wp2
    refine bodyPost_ret (v := .tuple #[.agg #[.int .i64 a0, .int .i64 a1, .int .i64 a2, .slice (some ⟨w.heap.size + 1, 0, none⟩) n n], .bool true]) (by simp [results, Try.results37, go_sem, d0, d1, d2, d3]) rfl ⟨some ⟨w.heap.size + 1, 0, none⟩, n, by simp, ?_, by simp; omega, ?_⟩
    · exact ((((O1.out.setFar (by simp) _).setFar (by simp) _).setFar (by simp) _).setFar (by simp) _).mono (by omega)
    · exact (((S1.out.setCell (by simp) _).setCell (by simp) _).setCell (by simp) _).setCell (by simp) _
end Go.Proofs.Ytmmolicodlmlkaa
namespace Go.Proofs.Ytmmolicodlmlkaa
open Go.RowKit
set_option linter.unusedVariables false

end Go.Proofs.Ytmmolicodlmlkaa
namespace Go.Proofs.Ytmmolicodlmlkaa
open Go.RowKit
set_option linter.unusedVariables false

end Go.Proofs.Ytmmolicodlmlkaa
namespace Go.Proofs.Ytmmolicodlmlkaa
open Go.RowKit
set_option linter.unusedVariables false

theorem TouchAll.below1 {w w' : World} {g n B : Nat} (h : TouchAll w w' [(some ⟨g, 0, none⟩, n)]) (hB : B ≤ w.heap.size) (hg : B ≤ g) : Below B w w' :=
  ⟨h.os, h.tape, h.output, h.size, fun k hk => h.block k (by omega) fun p hp => by
    simp at hp; subst hp
    exact .inr fun o e => by injection e with e; injection e with e; omega⟩
theorem Blk.touch {w w' : World} {q g n : Nat} {t : TypeId} {cs : List Value} (h : Blk w q t cs) (k : Touch w w' (some ⟨g, 0, none⟩) n) (hq : g ≠ q) : Blk w' q t cs :=
  (k.block q (.inr fun o e => by injection e with e; injection e with e; exact hq e)).trans h
end Go.Proofs.Ytmmolicodlmlkaa
namespace Go.Proofs.Ytmmolicodlmlkaa
open Go.RowKit
set_option linter.unusedVariables false

/-- What PutCells returns. -/
def pPutCells (a0 a1 a2 : Int) (x : List Int) (key by_ : Int) : (Int × Int × Int × List Int) × Bool :=
  if (vCells a0 a1 a2 x && inB key 0 4294967295 && inB by_ (-1000000) 1000000) = true then giveP a0 a1 a2 (addAt by_ x (cellsL a0.toNat a2.toNat key.toNat a1.toNat)) else ((0, 0, 0, []), false)
theorem vCells_iff' {a0 a1 a2 : Int} {x : List Int} (h : vCells a0 a1 a2 x = true) : (2 ≤ a0 ∧ a0 ≤ 64) ∧ (1 ≤ a1 ∧ a1 ≤ 6) ∧ (0 ≤ a2 ∧ a2 ≤ 4294967295) ∧ (x.length : Int) = a0 * a1 ∧ ∀ y ∈ x, -1000000000000 ≤ y ∧ y ≤ 1000000000000 := by
  simp only [vCells, Bool.and_eq_true, decide_eq_true_eq, inB_iff] at h
  refine ⟨h.1.1.1.1, h.1.1.1.2, h.1.1.2, h.1.2, fun y hy => ?_⟩
  have := h.2
  unfold allB at this
  rw [List.all_eq_true] at this
  exact inB_iff.1 (this y hy)
set_option maxHeartbeats 800000 in
theorem copyCells_any (a0 a1 a2 : Int) (A : Option Addr) (c : Nat) (x : List Int) (w : World) (hx : RdL (Value.int .i64) w A x) (hn : x.length ≤ 1048576) :
    Calls Try.prog 91 #[.agg #[.int .i64 a0, .int .i64 a1, .int .i64 a2, .slice A x.length c]] w fun e w' => ∃ A' c', e = .returned (.agg #[.int .i64 a0, .int .i64 a1, .int .i64 a2, .slice A' x.length c']) ∧ OwnS (Value.int .i64) w' w.heap.size 2 A' x ∧ Below w.heap.size w w' := by
  have HX := hid hx
  have B0 := hid ((Blk.new w 37 [.int .i64 a0, .int .i64 a1, .int .i64 a2, .slice A x.length c]).alloc (.cells #[.int .i64 0, .int .i64 0, .int .i64 0, .slice none 0 0] 37))
  have R0 := hid (Blk.new2 w (.cells #[.int .i64 a0, .int .i64 a1, .int .i64 a2, .slice A x.length c] 37) 37 [.int .i64 0, .int .i64 0, .int .i64 0, .slice none 0 0])
  clear hx
  go_enter Try.func91, Try.ntmps91
  go_wp2_with fail
  refine (cloneI_any A c x _ (HX.out.below (below_a2 _ _ _)) hn).mono ?_
  rintro e w1 ⟨A1, c1, rfl, ho, hb⟩
  obtain ⟨c0, c1', c2, c3⟩ := (B0.out.below hb).cells4
  have g3 := (B0.out.below hb).frozen 3
  obtain ⟨d0, d1, d2, d3⟩ := (R0.out.below hb).cells4
  have f0 := (R0.out.below hb).frozen 0
  have f1 := (R0.out.below hb).frozen 1
  have f2 := (R0.out.below hb).frozen 2
  have f3 := (R0.out.below hb).frozen 3
  have S1 := below_call (below_a2 _ _ _) hb
  have O1 := hid (ho.mono (B' := w.heap.size + 2) (by simp))
  clear hb B0 R0 ho
  go_wp2
  refine bodyPost_ret (v := .agg #[.int .i64 a0, .int .i64 a1, .int .i64 a2, .slice A1 x.length c1]) (by simp [results, Try.results91, go_sem, d0, d1, d2, d3]) rfl ⟨A1, c1, rfl, ?_, ?_⟩
  · exact (((((O1.out.setFar (by simp <;> omega) _).setFar (by simp <;> omega) _).setFar (by simp <;> omega) _).setFar (by simp <;> omega) _).setFar (by simp <;> omega) _).mono (by omega)
  · exact ((((S1.out.setCell (by simp) _).setCell (by simp) _).setCell (by simp) _).setCell (by simp) _).setCell (by simp) _
end Go.Proofs.Ytmmolicodlmlkaa
namespace Go.Proofs.Ytmmolicodlmlkaa
open Go.RowKit
set_option linter.unusedVariables false
set_option linter.unusedSimpArgs false

/-- At most 256 keys. -/
def keysQ (x : List Int) : Bool := decide ((x.length : Int) ≤ 256) && allB x 0 4294967295
theorem keysQ_iff {x : List Int} (h : keysQ x = true) : x.length ≤ 256 ∧ ∀ y ∈ x, 0 ≤ y ∧ y ≤ 4294967295 := by
  simp only [keysQ, Bool.and_eq_true, decide_eq_true_eq] at h
  refine ⟨by omega, fun y hy => ?_⟩
  have := h.2
  unfold allB at this
  rw [List.all_eq_true] at this
  exact inB_iff.1 (this y hy)
theorem AreKeys_q (A : Option Addr) (c : Nat) (xs : List Int) (w : World) (hx : RdL (Value.int .i64) w A xs) (hn : xs.length ≤ 1048576) :
    Calls Try.prog 65 #[.slice A xs.length c] w fun e w' => e = .returned (.bool (keysQ xs)) ∧ w = w' := by
  have HX := hid hx
  clear hx
  by_cases h : (xs.length : Int) ≤ 256
  · go_enter Try.func65, Try.ntmps65
    go_wp2_with fail
    refine (areAllKeys_any A c xs _ HX.out hn).mono ?_
    rintro e w' ⟨rfl, rfl⟩
    go_wp2
    go_ret
    exact ⟨by simp [keysQ, h], rfl⟩
  · go_enter Try.func65, Try.ntmps65
    go_wp2
    go_ret
    exact ⟨by simp [keysQ]; omega, rfl⟩
end Go.Proofs.Ytmmolicodlmlkaa
namespace Go.Proofs.Ytmmolicodlmlkaa
open Go.RowKit

/-- The first k listed places are changed, the one at place j by f j. -/
def stepL (f : Nat → Int → Int) (x l : List Int) : Nat → List Int
  | 0 => x
  | k + 1 => (stepL f x l k).set (l.getD k 0).toNat (f k ((stepL f x l k).getD (l.getD k 0).toNat 0))
theorem stepL_length (f : Nat → Int → Int) (x l : List Int) (k : Nat) : (stepL f x l k).length = x.length := by
  induction k with
  | zero => rfl
  | succ k ih => rw [stepL, List.length_set, ih]
theorem stepL_succ {f : Nat → Int → Int} {x l : List Int} {k m : Nat} {u : Int} (h : Hid (l[k]? = some (m : Int))) (hu : Hid ((stepL f x l k)[m]? = some u)) : (stepL f x l k).set m (f k u) = stepL f x l (k + 1) := by
  rw [stepL, List.getD_eq_getElem?_getD, h.out, Option.getD_some, Int.toNat_natCast, List.getD_eq_getElem?_getD, hu.out, Option.getD_some]
theorem mem_set {y : List Int} {i : Nat} {v z : Int} (h : z ∈ y.set i v) : z ∈ y ∨ (i < y.length ∧ z = v) := by
  by_cases hi : i < y.length
  · rcases List.mem_or_eq_of_mem_set h with h | h
    · exact .inl h
    · exact .inr ⟨hi, h⟩
  · rw [List.set_eq_of_length_le (by omega)] at h
    exact .inl h
theorem stepL_bound {f : Nat → Int → Int} {lo hi D : Int} {x l : List Int} (hx : ∀ y ∈ x, lo ≤ y ∧ y ≤ hi) (hD : 0 ≤ D) (hf : ∀ k u, f k u ≤ max u hi + D ∧ min u lo - D ≤ f k u) (k : Nat) : ∀ y ∈ stepL f x l k, lo - D * (k : Int) ≤ y ∧ y ≤ hi + D * (k : Int) := by
  induction k with
  | zero => intro y hy; have := hx y hy; simp; omega
  | succ k ih =>
    intro y hy
    have h0 : 0 ≤ D * (k : Int) := Int.mul_nonneg hD (by omega)
    have h3 : D * ((k + 1 : Nat) : Int) = D * (k : Int) + D := by rw [Int.natCast_add]; simp [Int.mul_add]
    rw [h3]
    rw [stepL] at hy
    rcases mem_set hy with h | ⟨hi', h⟩
    · have := ih y h; omega
    · have hm : (stepL f x l k).getD (l.getD k 0).toNat 0 ∈ stepL f x l k := by rw [List.getD_eq_getElem?_getD, List.getElem?_eq_getElem hi', Option.getD_some]; exact List.getElem_mem _
      have h1 := ih _ hm
      have h2 := hf k ((stepL f x l k).getD (l.getD k 0).toNat 0)
      omega
end Go.Proofs.Ytmmolicodlmlkaa
namespace Go.Proofs.Ytmmolicodlmlkaa
open Go.RowKit
set_option linter.unusedVariables false

theorem vCells_iff {a0 a1 a2 : Int} {x : List Int} (h : vCells a0 a1 a2 x = true) : (2 ≤ a0 ∧ a0 ≤ 64) ∧ (1 ≤ a1 ∧ a1 ≤ 6) ∧ (0 ≤ a2 ∧ a2 ≤ 4294967295) ∧ (x.length : Int) = a0 * a1 ∧ ∀ y ∈ x, -1000000000000 ≤ y ∧ y ≤ 1000000000000 := by
  simp only [vCells, Bool.and_eq_true, decide_eq_true_eq, inB_iff] at h
  refine ⟨h.1.1.1.1, h.1.1.1.2, h.1.1.2, h.1.2, fun y hy => ?_⟩
  have := h.2
  unfold allB at this
  rw [List.all_eq_true] at this
  exact inB_iff.1 (this y hy)

/-- The least one of the cells at the listed places, and of M. -/
def minAtM (M : Int) (x : List Int) (l : List Int) : Int := l.foldl (fun a p => min a (x.getD p.toNat 0)) M
theorem minAtM_snoc {M : Int} {x l : List Int} {k m : Nat} {y : Int} (hl : Hid (l[k]? = some (m : Int))) (hx : Hid (x[m]? = some y)) : minAtM M x (l.take (k + 1)) = min (minAtM M x (l.take k)) y := by
  unfold minAtM
  rw [List.take_add_one, hl.out]
  simp only [Option.toList_some, List.foldl_append, List.foldl_cons, List.foldl_nil, Int.toNat_natCast]
  rw [List.getD_eq_getElem?_getD, hx.out]; rfl
theorem cellsL_at {wd s key dp k : Nat} (h : k < dp) : (cellsL wd s key dp)[k]? = some (placeN wd s key k : Int) := by simp [cellsL, h]

set_option maxRecDepth 100000 in
set_option maxHeartbeats 1600000 in
theorem iat_any (wd dp s key c : Nat) (A : Option Addr) (x : List Int) (w : World)
    (hx : RdL (Value.int .i64) w A x) (hw1 : 2 ≤ wd) (hw2 : wd ≤ 64) (hd1 : 1 ≤ dp) (hd2 : dp ≤ 6) (hs : s < 4294967296) (hk : key < 4294967296) (hl : x.length = wd * dp) :
    Calls Try.prog 99 #[.agg #[.int .i64 wd, .int .i64 dp, .int .i64 s, .slice A x.length c], .int .i64 key] w fun e w' => e = .returned (.int .i64 (minAtM 1000000000000 x (cellsL wd s key dp))) ∧ Below w.heap.size w w' := by
  have HX := hid hx
  have hlx : x.length ≤ 384 := by rw [hl]; have := Nat.mul_le_mul hw2 hd2; omega
  have HL := hid hl
  clear hx hl
  have b0 := hid (Blk.new w 37 [.int .i64 wd, .int .i64 dp, .int .i64 s, .slice A x.length c])
  go_enter Try.func99, Try.ntmps99
  go_wp2_with fail
  refine (places_any wd dp s key x.length c A _ hw1 hw2 hd2 hs hk).mono ?_
  rintro e w1 ⟨A1, c1, rfl, ho, hb⟩
  have HO := hid ho.rd
  have S1 := below_call (below_a1 _ _) hb
  have HX1 := hid (HX.out.below S1.out)
  obtain ⟨c0, c2, c4, c3⟩ := (b0.out.below hb).cells4
  have hPl := cellsL_length wd s key dp
  obtain ⟨P, hP⟩ : ∃ P, P = cellsL wd s key dp := ⟨_, rfl⟩
  have hmem : Hid (∀ p ∈ P, ∃ m : Nat, p = m ∧ m < x.length) := fun p hp' => by rw [HL.out]; exact cellsL_mem (by omega) (hP ▸ hp')
  rw [← hP] at hPl HO ⊢
  have HP := hid hP
  clear ho hb hP c0 c2 c4 b0
  have HPl := hid hPl
  have hP8 : P.length ≤ 8 := by omega
  clear hPl
  go_wp2
  go_loop [5, 12] (fun v i => ∃ k : Nat, k ≤ P.length ∧ i = .int .i64 k ∧ ∃ z : Int, v = .int .i64 z ∧ Hid (minAtM 1000000000000 x (P.take k) = z)) (fun _ i => P.length - (intOf i).toNat)
  case atStart => exact ⟨0, Nat.zero_le _, rfl, _, rfl, rfl⟩
  case round =>
    obtain ⟨k, hkr, rfl, z, rfl, hh⟩ := hrel
    by_cases hlt : k < P.length
    · have hi : (k : Int) < (P.length : Int) := by omega
      obtain ⟨b1, o1, p, rfl, hcp, hpk⟩ := HO.out.at_ hlt
      obtain ⟨m, rfl, hm⟩ := hmem.out p (List.mem_of_getElem? hpk.out)
      obtain ⟨b, o, y, rfl, hcy, hym⟩ := HX1.out.at_ hm
      have hm' : (m : Int) < (x.length : Int) := by omega
      have hm0 : (0 : Int) ≤ (m : Int) := by omega
      have he : Hid (minAtM 1000000000000 x (P.take (k + 1)) = min z y) := by rw [minAtM_snoc hpk hym, hh.out]; rfl
      by_cases hzy : z ≤ y
      · rw [show min z y = z by omega] at he
        go_wp2
        exact ⟨⟨k + 1, by omega, by go_num, _, rfl, he⟩, by simp [intOf]; omega⟩
      · have he2 : Hid (minAtM 1000000000000 x (P.take (k + 1)) = y) := by rw [he.out]; show min z y = y; omega
        go_wp2
        exact ⟨⟨k + 1, by omega, by go_num, _, rfl, he2⟩, by simp [intOf]; omega⟩
    · have hi : ¬ (k : Int) < (P.length : Int) := by omega
      go_wp2
      go_ret
      have he := hh.out
      rw [List.take_of_length_le (by omega)] at he
      exact ⟨ret_int (by rw [← HP.out, he]), S1.out⟩
end Go.Proofs.Ytmmolicodlmlkaa
namespace Go.Proofs.Ytmmolicodlmlkaa
open Go.RowKit
set_option linter.unusedVariables false
set_option linter.unusedSimpArgs false

/-- No less than a goal. -/
def fCar (goal : Int) (_ : Nat) (u : Int) : Int := max u goal
theorem fCar_bound {goal lo hi : Int} (h : goal ≤ hi + 1000000) (k : Nat) (u : Int) : fCar goal k u ≤ max u hi + 1000000 ∧ min u lo - 1000000 ≤ fCar goal k u := by
  unfold fCar
  omega
theorem minAtM_le (M : Int) (x l : List Int) : minAtM M x l ≤ M := by
  unfold minAtM
  induction l generalizing M with
  | nil => exact Int.le_refl _
  | cons a l ih => exact Int.le_trans (ih _) (Int.min_le_left _ _)
theorem minAtM_ge {lo M : Int} {x l : List Int} (hM : lo ≤ M) (h0 : lo ≤ 0) (hx : ∀ y ∈ x, lo ≤ y) : lo ≤ minAtM M x l := by
  unfold minAtM
  induction l generalizing M with
  | nil => exact hM
  | cons a l ih =>
    refine ih ?_
    have : lo ≤ x.getD a.toNat 0 := by
      rw [List.getD_eq_getElem?_getD]
      by_cases hl : a.toNat < x.length
      · rw [List.getElem?_eq_getElem hl, Option.getD_some]; exact hx _ (List.getElem_mem _)
      · rw [List.getElem?_eq_none (by omega)]; exact h0
    show lo ≤ min M (x.getD a.toNat 0)
    omega
/-- What PutCareful returns. -/
def pPutCareful (a0 a1 a2 : Int) (x : List Int) (key by_ : Int) : (Int × Int × Int × List Int) × Bool :=
  if (vCells a0 a1 a2 x && inB key 0 4294967295 && inB by_ 0 1000000) = true then giveP a0 a1 a2 (stepL (fCar (minAtM 1000000000000 x (cellsL a0.toNat a2.toNat key.toNat a1.toNat) + by_)) x (cellsL a0.toNat a2.toNat key.toNat a1.toNat) a1.toNat) else ((0, 0, 0, []), false)
theorem touchAll_refl (w : World) (l : List (Option Addr × Nat)) : TouchAll w w l := ⟨rfl, rfl, rfl, Nat.le_refl _, fun _ _ _ => rfl⟩
theorem touchAll_set {w w' : World} {g n : Nat} (h : TouchAll w w' [(some ⟨g, 0, none⟩, n)]) (hn : 0 < n) (i : Nat) (u : Value) : TouchAll w (w'.setCell ⟨g, i, none⟩ u) [(some ⟨g, 0, none⟩, n)] :=
  h.trans (Touch.refl.set_ hn i u)
set_option maxRecDepth 100000 in
set_option maxHeartbeats 3200000 in
theorem iPutCareful_any (a0 a1 a2 : Int) (A : Option Addr) (c : Nat) (x : List Int) (key by_ : Int) (w : World) (h0 : W64 a0) (h1 : W64 a1) (h2 : W64 a2) (hx : RdL (Value.int .i64) w A x) (hn : x.length ≤ 1048576) (we : ∀ y ∈ x, W64 y) (hkey : W64 key) (hby : W64 by_) :
    Calls Try.prog 39 #[.agg #[.int .i64 a0, .int .i64 a1, .int .i64 a2, .slice A x.length c], .int .i64 key, .int .i64 by_] w (RetCl w (pPutCareful a0 a1 a2 x key by_)) := by
  have HX := hid hx
  have WE := hid we
  have B0 := hid ((Blk.new w 37 [.int .i64 a0, .int .i64 a1, .int .i64 a2, .slice A x.length c]).alloc (.cells #[.int .i64 0, .int .i64 0, .int .i64 0, .slice none 0 0] 37))
  have R0 := hid (Blk.new2 w (.cells #[.int .i64 a0, .int .i64 a1, .int .i64 a2, .slice A x.length c] 37) 37 [.int .i64 0, .int .i64 0, .int .i64 0, .slice none 0 0])
  clear hx we hkey hby
  have key_ : ∀ u v z : Bool, vCells a0 a1 a2 x = u → inB key 0 4294967295 = v → inB by_ 0 1000000 = z → (u && v && z) = false →
      Calls Try.prog 39 #[.agg #[.int .i64 a0, .int .i64 a1, .int .i64 a2, .slice A x.length c], .int .i64 key, .int .i64 by_] w (RetCl w ((0, 0, 0, []), false)) := by
    intro u v z hu hv hz hno
    refine Calls.mono ?_ retCl_no
    cases u
    case' true =>
      cases v
      case' true => cases z
    all_goals
      first
      | (exfalso; revert hno; decide)
      | (go_enter Try.func39, Try.ntmps39
         go_wp2_with fail
         refine (iValidCells_any a0 a1 a2 A c x _ h0 h1 h2 (HX.out.below (below_a2 _ _ _)) hn WE.out).mono ?_
         rw [hu]
         rintro e w1 ⟨rfl, hb⟩
         obtain ⟨d0, d1, d2, d3⟩ := (R0.out.below hb).cells4
         have f0 := (R0.out.below hb).frozen 0
         have f1 := (R0.out.below hb).frozen 1
         have f2 := (R0.out.below hb).frozen 2
         have f3 := (R0.out.below hb).frozen 3
         have S1 := below_call (below_a2 _ _ _) hb
         clear hb B0 R0 hu hno
         go_wp2_with (first | (go_at_call 97; refine (within_any _ _ _ _).mono ?_; rintro e w' ⟨rfl, rfl⟩) | (go_at_call 63; refine (IsKey_any _ _).mono ?_; rintro e w' ⟨rfl, rfl⟩))
         refine bodyPost_ret (v := .tuple #[.agg #[.int .i64 0, .int .i64 0, .int .i64 0, .slice none 0 0], .bool false]) (by simp [results, Try.results39, go_sem, d0, d1, d2, d3]) rfl ⟨rfl, ?_⟩
         exact (((S1.out.setCell (by simp) _).setCell (by simp) _).setCell (by simp) _).setCell (by simp) _)
  cases hgo : (vCells a0 a1 a2 x && inB key 0 4294967295 && inB by_ 0 1000000) with
  | false =>
    have hp : pPutCareful a0 a1 a2 x key by_ = ((0, 0, 0, []), false) := by simp only [pPutCareful, hgo]; rfl
    rw [hp]
    exact key_ _ _ _ rfl rfl rfl hgo
  | true =>
  have hp : pPutCareful a0 a1 a2 x key by_ = giveP a0 a1 a2 (stepL (fCar (minAtM 1000000000000 x (cellsL a0.toNat a2.toNat key.toNat a1.toNat) + by_)) x (cellsL a0.toNat a2.toNat key.toNat a1.toNat) a1.toNat) := by simp only [pPutCareful, hgo]; rfl
  rw [hp]
  simp only [Bool.and_eq_true] at hgo
  obtain ⟨⟨hv, hk⟩, hby⟩ := hgo
  obtain ⟨⟨hw1, hw2⟩, ⟨hd1, hd2⟩, ⟨hs1, hs2⟩, hl, hbd⟩ := vCells_iff' hv
  obtain ⟨hk1, hk2⟩ := inB_iff.1 hk
  obtain ⟨hby1, hby2⟩ := inB_iff.1 hby
  obtain ⟨wd, rfl⟩ := Int.eq_ofNat_of_zero_le (show 0 ≤ a0 by omega)
  obtain ⟨dp, rfl⟩ := Int.eq_ofNat_of_zero_le (show 0 ≤ a1 by omega)
  obtain ⟨s, rfl⟩ := Int.eq_ofNat_of_zero_le hs1
  obtain ⟨key, rfl⟩ := Int.eq_ofNat_of_zero_le hk1
  simp only [Int.toNat_natCast] at hp ⊢
  have hl' : x.length = wd * dp := by rw [← Int.natCast_mul] at hl; omega
  have HL := hid hl'
  have hlx : x.length ≤ 384 := by rw [hl']; have := Nat.mul_le_mul (show wd ≤ 64 by omega) (show dp ≤ 6 by omega); omega
  have hlp : 0 < x.length := by rw [hl']; exact Nat.mul_pos (by omega) (by omega)
  have HBD := hid hbd
  have HV := hid hv
  clear hl hl' hbd hp hv key_
  have hml := minAtM_le 1000000000000 x (cellsL wd s key dp)
  have hmg := minAtM_ge (lo := -1000000000000) (M := 1000000000000) (x := x) (l := cellsL wd s key dp) (by omega) (by omega) (fun y hy => (HBD.out y hy).1)
  have hFb : ∀ k u, (fCar (minAtM 1000000000000 x (cellsL wd s key dp) + by_)) k u ≤ max u 1000000000000 + 1000000 ∧ min u (-1000000000000) - 1000000 ≤ (fCar (minAtM 1000000000000 x (cellsL wd s key dp) + by_)) k u := fCar_bound (by omega)
  obtain ⟨goal, hge⟩ : ∃ goal, goal = minAtM 1000000000000 x (cellsL wd s key dp) + by_ := ⟨_, rfl⟩
  have HGE := hid hge
  have hge1 : -1000000000000 ≤ goal := by omega
  have hge2 : goal ≤ 1000001000000 := by omega
  rw [← hge] at hFb ⊢
  clear hml hmg hge
  have HFB := hid (stepL_bound (l := cellsL wd s key dp) HBD.out (by omega) hFb)
  obtain ⟨F, hF⟩ : ∃ F, F = fCar goal := ⟨_, rfl⟩
  have HF := hid hF
  rw [← hF] at HFB ⊢
  clear hFb hF
  go_enter Try.func39, Try.ntmps39
  go_wp2_with fail
  refine (iValidCells_any wd dp s A c x _ h0 h1 h2 (HX.out.below (below_a2 _ _ _)) hn WE.out).mono ?_
  rw [HV.out]
  rintro e w1 ⟨rfl, hb⟩
  have B1 := hid (B0.out.below hb)
  have R1 := hid (R0.out.below hb)
  have S1 := below_call (below_a2 _ _ _) hb
  have hl1 : w.heap.size + 2 ≤ w1.heap.size := by have := hb.size; simp at this; omega
  clear hb B0 R0
  obtain ⟨k0, k1, k2, k3⟩ := B1.out.cells4
  go_wp2_with (first | (go_at_call 97; refine (within_any _ _ _ _).mono ?_; rintro e w' ⟨rfl, rfl⟩) | (go_at_call 63; refine (IsKey_any _ _).mono ?_; rintro e w' ⟨rfl, rfl⟩))
  refine (copyCells_any wd dp s A c x _ (HX.out.below S1.out) hn).mono ?_
  rintro e w2 ⟨A1, c1, rfl, ho, hb⟩
  clear k0 k1 k2 k3 hk hby
  have ho' : OwnS (Value.int .i64) w2 (w.heap.size + 2) 2 A1 x := ho.mono hl1
  obtain ⟨g, ex, rfl, hgB, hgb⟩ := ho' (by rintro rfl; simp at hlp)
  have hgl := hgb.lt
  have hl2 := hb.size
  obtain ⟨wq, hwc⟩ : ∃ wq, wq = w2.alloc (.cells #[.int .i64 wd, .int .i64 dp, .int .i64 s, .slice (some ⟨g, 0, none⟩) x.length c1] 37) := ⟨_, rfl⟩
  obtain ⟨q, hq⟩ : ∃ q, q = w2.heap.size := ⟨_, rfl⟩
  have HQ : Hid (Blk wq q 37 [.int .i64 wd, .int .i64 dp, .int .i64 s, .slice (some ⟨g, 0, none⟩) x.length c1]) := by rw [hwc, hq]; exact Blk.new _ _ _
  have HO : Hid (OwnS (Value.int .i64) wq (w.heap.size + 2) 2 (some ⟨g, 0, none⟩) x) := by rw [hwc]; exact ho'.below (below_a1 _ _)
  have S2 : Hid (Below w.heap.size w wq) := by rw [hwc]; exact (S1.out.trans (hb.mono (by omega))).alloc (by omega) _
  have B2 : Hid (Blk wq w.heap.size 37 [.int .i64 wd, .int .i64 dp, .int .i64 s, .slice A x.length c]) := by rw [hwc]; exact (B1.out.below hb).below (below_a1 _ _)
  have R2 : Hid (Blk wq (w.heap.size + 1) 37 [.int .i64 0, .int .i64 0, .int .i64 0, .slice none 0 0]) := by rw [hwc]; exact (R1.out.below hb).below (below_a1 _ _)
  have X2 : Hid (RdL (Value.int .i64) wq A x) := HX.out.below S2.out
  have hszq : wq.heap.size = q + 1 := by rw [hwc, hq]; simp
  have hgq : g ≠ q := by omega
  have hqg := Ne.symm hgq
  have hgw : g ≠ w.heap.size := by omega
  have hwg := Ne.symm hgw
  clear hgb hb ho ho' R1 B1
  obtain ⟨k0, k1, k2, k3⟩ := B2.out.cells4
  rw [hwc] at k0 k1 k2 k3
  go_wp2_with fail
  rw [← hwc, ← hq]
  clear hwc hq k0 k1 k2 k3
  refine (iat_any wd dp s key c A x _ X2.out (by omega) (by omega) (by omega) (by omega) (by omega) (by omega) HL.out).mono ?_
  rintro e wq' ⟨rfl, hb⟩
  have HQ' := hid (HQ.out.below hb)
  have HO' := hid (HO.out.below hb)
  have S2' := hid (S2.out.trans (hb.mono S2.out.size))
  have R2' := hid (R2.out.below hb)
  have hszq' : q + 1 ≤ wq'.heap.size := by have := hb.size; omega
  clear hb HQ HO S2 R2 B2 X2 hszq
  have hml := minAtM_le 1000000000000 x (cellsL wd s key dp)
  have hmg := minAtM_ge (lo := -1000000000000) (M := 1000000000000) (x := x) (l := cellsL wd s key dp) (by omega) (by omega) (fun y hy => (HBD.out y hy).1)
  have HGE' := HGE.out
  obtain ⟨mn, hmn⟩ : ∃ mn, mn = minAtM 1000000000000 x (cellsL wd s key dp) := ⟨_, rfl⟩
  rw [← hmn] at hml hmg HGE' ⊢
  obtain rfl : mn = goal - by_ := by omega
  clear hmn HGE'
  have egoal : IntKind.i64.wrap (goal - by_ + by_) = goal := by rw [IntKind.wrap_i64]; omega
  have egoal2 : goal - by_ + by_ = goal := by omega
  obtain ⟨wq, hwq⟩ : ∃ wq, wq = wq' := ⟨_, rfl⟩
  subst hwq
  have HQ := HQ'
  have HO := HO'
  have S2 := S2'
  have R2 := R2'
  clear HQ' HO' S2' R2'
  obtain ⟨k0, k1, k2, k3⟩ := HQ.out.cells4
  go_wp2_with fail
  refine (places_any wd dp s key x.length c1 _ _ (by omega) (by omega) (by omega) (by omega) (by omega)).mono ?_
  rintro e w3 ⟨A3, c3, rfl, hoP, hbP⟩
  have HP := hid hoP
  have O3 := hid (HO.out.below hbP)
  have Q3 := hid (HQ.out.below hbP)
  have R3 := hid (R2.out.below hbP)
  have S3 : Hid (Below w.heap.size w w3) := S2.out.trans (hbP.mono S2.out.size)
  have hl3 : wq.heap.size ≤ w3.heap.size := hbP.size
  have HA := hid (OwnS.apart_lt HO.out hoP (Nat.le_refl _))
  have hPl := cellsL_length wd s key dp
  have hmem : Hid (∀ p ∈ cellsL wd s key dp, ∃ m : Nat, p = m ∧ m < x.length) := fun p hp' => by rw [HL.out]; exact cellsL_mem (by omega) hp'
  obtain ⟨P, hPe⟩ : ∃ P, P = cellsL wd s key dp := ⟨_, rfl⟩
  rw [← hPe] at HA HP hPl hmem HFB ⊢
  have hP8 : P.length ≤ 6 := by omega
  have HPe := hid hPe
  clear hPe hoP hbP k0 k1 k2 k3
  go_wp2
  go_loopw [11, 37] (fun ia j wi => ∃ m : Nat, m ≤ P.length ∧ j = .int .i64 m ∧ Hid (OwnS (Value.int .i64) wi (w.heap.size + 2) 2 (some ⟨g, 0, none⟩) (stepL F x P m)) ∧ Hid (TouchAll w3 wi [(some ⟨g, 0, none⟩, x.length)])) (fun ia j _ => P.length - (intOf j).toNat)
  case atStart => exact ⟨0, Nat.zero_le _, rfl, O3, touchAll_refl _ _⟩
  case round =>
    obtain ⟨m, hmr, rfl, hom, hTm⟩ := hrel
    have hszr : w3.heap.size ≤ wr.heap.size := hTm.out.size
    have QR := hid (Q3.out.touchAll hTm.out (by intro p hp; simp at hp; subst hp; exact .inr fun o e => by injection e with e; injection e with e; omega))
    by_cases hlm : m < P.length
    · have him : (m : Int) < (P.length : Int) := by omega
      obtain ⟨b3, o3, p, rfl, hcp, hpk⟩ := (HP.out.touchAll hTm.out (by intro p hp; simp at hp; subst hp; exact HA.out)).rd.at_ hlm
      obtain ⟨n, rfl, hnx⟩ := hmem.out p (List.mem_of_getElem? hpk.out)
      have hlen := stepL_length F x P m
      obtain ⟨g', u, hg', hgB', hcy, hfy, hym, hput⟩ := hom.out.put (j := n) (by omega)
      injection hg' with hg'; injection hg' with hg'
      subst hg'
      have hbu := HFB.out m u (List.mem_of_getElem? hym.out)
      obtain ⟨q0, q1, q2, q3⟩ := QR.out.cells4
      have hn' : (n : Int) < (x.length : Int) := by omega
      have hn0 : (0 : Int) ≤ (n : Int) := by omega
      have hub1 : -1000006000000 ≤ u := by omega
      have hub2 : u ≤ 1000006000000 := by omega
      have hFk : F m u = max u goal := by rw [HF.out]; rfl
      have hO2 := hput (F m u)
      rw [stepL_succ hpk hym, hFk] at hO2
      have hT2 := hid (touchAll_set hTm.out (show 0 < x.length by omega) n (.int .i64 (F m u)))
      rw [hFk] at hT2
      clear hput hlen hgB' hbu hym hFk q0 q1 q2
      by_cases huv : goal ≤ u
      · rw [show max u goal = u by omega] at hO2 hT2
        go_wp2
        go_region
        all_goals
          go_wp2
          exact ⟨⟨m + 1, by omega, by go_num, hO2, ⟨hT2.out.os, hT2.out.tape, hT2.out.output, hT2.out.size, hT2.out.block⟩⟩, by simp [intOf]; omega⟩
      · rw [show max u goal = goal by omega] at hO2 hT2
        go_wp2
        go_region
        all_goals
          go_wp2
          exact ⟨⟨m + 1, by omega, by go_num, hO2, ⟨hT2.out.os, hT2.out.tape, hT2.out.output, hT2.out.size, hT2.out.block⟩⟩, by simp [intOf]; omega⟩
    · obtain rfl : m = P.length := by omega
      have him : ¬ (P.length : Int) < (P.length : Int) := by omega
      have R4 := hid (R3.out.touchAll hTm.out (by intro p hp; simp at hp; subst hp; exact .inr fun o e => by injection e with e; injection e with e; omega))
      have hw3 : w.heap.size ≤ w3.heap.size := S3.out.size
      have hgB3 : w.heap.size ≤ g := by omega
      have S4 : Hid (Below w.heap.size w wr) := S3.out.trans (hTm.out.below1 (B := w.heap.size) hw3 hgB3)
      clear HP hmem HA
      clear Q3 R3 S3 O3 hl3
      have Q3 := QR
      have R3 := R4
      have S3 := S4
      have O3 := hom
      have hl3 : w.heap.size + 2 ≤ wr.heap.size := by have := R3.out.lt; omega
      have hyl : (stepL F x P P.length).length = x.length := stepL_length _ _ _ _
      have HYL := hid hyl
      have HBU : Hid (∀ y ∈ stepL F x P P.length, W64 y) := fun y hy => by
        have h1 := HFB.out P.length y hy
        exact w64_of_bounds (by omega)
      clear hyl
      obtain ⟨c0, c1', c2, c3⟩ := Q3.out.cells4
      go_wp2_with fail
      refine (ifCells_any wd dp s _ x.length c1 (stepL F x P P.length) _ h0 h1 h2 HYL.out O3.out.rd hn HBU.out).mono ?_
      rintro e w4 ⟨b0, b1, b2, A', n', c', t, rfl, hG, hb⟩
      have S4 := hid (S3.out.trans (hb.mono S3.out.size))
      have O4 := hid (O3.out.below hb)
      obtain ⟨d0, d1, d2, d3⟩ := (R3.out.below hb).cells4
      have f0 := (R3.out.below hb).frozen 0
      have f1 := (R3.out.below hb).frozen 1
      have f2 := (R3.out.below hb).frozen 2
      have f3 := (R3.out.below hb).frozen 3
      clear hb c0 c1' c2 c3 Q3 R3 O3
      go_wp2
      have hPP := HPe.out
      clear HPe
      subst hPP
      rw [cellsL_length] at hG O4 HYL
      refine bodyPost_ret (v := .tuple #[.agg #[.int .i64 b0, .int .i64 b1, .int .i64 b2, .slice A' n' c'], .bool t]) (by simp [results, Try.results39, go_sem, d0, d1, d2, d3]) rfl (retCl_give hG.out ?_ HYL.out hn ?_)
      · exact ((((O4.out.setFar (by simp <;> omega) _).setFar (by simp <;> omega) _).setFar (by simp <;> omega) _).setFar (by simp <;> omega) _).mono (by omega)
      · exact (((S4.out.setCell (by simp <;> omega) _).setCell (by simp <;> omega) _).setCell (by simp <;> omega) _).setCell (by simp <;> omega) _
end Go.Proofs.Ytmmolicodlmlkaa
namespace Go.Proofs.Ytmmolicodlmlkaa
open Go.RowKit
set_option linter.unusedVariables false

/-- Two cells are valid and have equal sides and salts. -/
def alikeC (a0 a1 a2 : Int) (x : List Int) (b0 b1 b2 : Int) (y : List Int) : Bool := vCells a0 a1 a2 x && vCells b0 b1 b2 y && (a0 == b0) && (a1 == b1) && (a2 == b2)
theorem alikeC_iff {a0 a1 a2 : Int} {x : List Int} {b0 b1 b2 : Int} {y : List Int} (h : alikeC a0 a1 a2 x b0 b1 b2 y = true) : vCells a0 a1 a2 x = true ∧ vCells b0 b1 b2 y = true ∧ a0 = b0 ∧ a1 = b1 ∧ a2 = b2 := by
  simp only [alikeC, Bool.and_eq_true, beq_iff_eq] at h
  exact ⟨h.1.1.1.1, h.1.1.1.2, h.1.1.2, h.1.2, h.2⟩
/-- What MergeCells returns. -/
def pMergeCells (a0 a1 a2 : Int) (x : List Int) (b0 b1 b2 : Int) (y : List Int) : (Int × Int × Int × List Int) × Bool :=
  if alikeC a0 a1 a2 x b0 b1 b2 y = true then giveP a0 a1 a2 (List.zipWith (fun a b => a + b) x y) else ((0, 0, 0, []), false)
theorem pMergeCells_no {a0 a1 a2 : Int} {x : List Int} {b0 b1 b2 : Int} {y : List Int} (h : alikeC a0 a1 a2 x b0 b1 b2 y = false) : pMergeCells a0 a1 a2 x b0 b1 b2 y = ((0, 0, 0, []), false) := by simp [pMergeCells, h]
theorem pMergeCells_yes {a0 a1 a2 : Int} {x : List Int} {b0 b1 b2 : Int} {y : List Int} (h : alikeC a0 a1 a2 x b0 b1 b2 y = true) : pMergeCells a0 a1 a2 x b0 b1 b2 y = giveP a0 a1 a2 (List.zipWith (fun a b => a + b) x y) := by simp [pMergeCells, h]
theorem zipI_at {f : Int → Int → Int} {x y : List Int} {k : Nat} {a b : Int} (h : Hid (x[k]? = some a)) (h' : Hid (y[k]? = some b)) : (List.zipWith f x y)[k]? = some (f a b) := by
  rw [List.getElem?_zipWith, h.out, h'.out]
theorem zipAdd_w64 {x y : List Int} (hx : ∀ z ∈ x, -1000000000000 ≤ z ∧ z ≤ 1000000000000) (hy : ∀ z ∈ y, -1000000000000 ≤ z ∧ z ≤ 1000000000000) : ∀ z ∈ List.zipWith (fun a b => a + b) x y, W64 z := by
  intro z hz
  rw [List.mem_iff_getElem?] at hz
  obtain ⟨i, hi⟩ := hz
  rw [List.getElem?_zipWith] at hi
  cases hxa : x[i]? with
  | none => rw [hxa] at hi; cases hi
  | some a =>
    cases hyb : y[i]? with
    | none => rw [hxa, hyb] at hi; cases hi
    | some b =>
      rw [hxa, hyb] at hi
      injection hi with hi
      have h1 := hx a (List.mem_of_getElem? hxa)
      have h2 := hy b (List.mem_of_getElem? hyb)
      subst hi
      exact w64_of_bounds (by omega)

set_option maxRecDepth 100000 in
set_option maxHeartbeats 3200000 in
theorem alike_any (a0 a1 a2 : Int) (A : Option Addr) (c : Nat) (x : List Int) (b0 b1 b2 : Int) (A' : Option Addr) (c' : Nat) (y : List Int) (w : World) (h0 : W64 a0) (h1 : W64 a1) (h2 : W64 a2) (hx : RdL (Value.int .i64) w A x) (hn : x.length ≤ 1048576) (we : ∀ y ∈ x, W64 y) (h0' : W64 b0) (h1' : W64 b1) (h2' : W64 b2) (hy : RdL (Value.int .i64) w A' y) (hn' : y.length ≤ 1048576) (we' : ∀ z ∈ y, W64 z) :
    Calls Try.prog 100 #[.agg #[.int .i64 a0, .int .i64 a1, .int .i64 a2, .slice A x.length c], .agg #[.int .i64 b0, .int .i64 b1, .int .i64 b2, .slice A' y.length c']] w fun e w' => e = .returned (.bool (alikeC a0 a1 a2 x b0 b1 b2 y)) ∧ Below w.heap.size w w' := by
  have HX := hid hx
  have HY := hid hy
  have WX := hid we
  have WY := hid we'
  clear hx hy we we'
  have BA0 := hid ((Blk.new w 37 [.int .i64 a0, .int .i64 a1, .int .i64 a2, .slice A x.length c]).alloc (.cells #[.int .i64 b0, .int .i64 b1, .int .i64 b2, .slice A' y.length c'] 37))
  have BB0 := hid (Blk.new2 w (.cells #[.int .i64 a0, .int .i64 a1, .int .i64 a2, .slice A x.length c] 37) 37 [.int .i64 b0, .int .i64 b1, .int .i64 b2, .slice A' y.length c'])
  cases ha : vCells a0 a1 a2 x with
  | false =>
    have hv := hid (show alikeC a0 a1 a2 x b0 b1 b2 y = false by simp [alikeC, ha])
    go_enter Try.func100, Try.ntmps100
    go_wp2_with fail
    refine (iValidCells_any a0 a1 a2 A c x _ h0 h1 h2 (HX.out.below (below_a2 _ _ _)) hn WX.out).mono ?_
    rintro e w1 ⟨rfl, hb⟩
    have S1 := below_call (below_a2 _ _ _) hb
    clear hb
    go_wp2
    go_ret
    exact ⟨ret_bool hv.out.symm, S1.out⟩
  | true =>
  have key : ∀ b u v z : Bool, vCells b0 b1 b2 y = b → (a0 == b0) = u → (a1 == b1) = v → (a2 == b2) = z →
      Calls Try.prog 100 #[.agg #[.int .i64 a0, .int .i64 a1, .int .i64 a2, .slice A x.length c], .agg #[.int .i64 b0, .int .i64 b1, .int .i64 b2, .slice A' y.length c']] w fun e w' => e = .returned (.bool (b && u && v && z)) ∧ Below w.heap.size w w' := by
    intro b u v z hb0 hu hv hz
    cases b
    case' true =>
      cases u
      case' true =>
        cases v
        case' true => cases z
    all_goals
      go_enter Try.func100, Try.ntmps100
      go_wp2_with fail
      refine (iValidCells_any a0 a1 a2 A c x _ h0 h1 h2 (HX.out.below (below_a2 _ _ _)) hn WX.out).mono ?_
      rw [ha]
      rintro e w1 ⟨rfl, hb⟩
      have BA1 := hid (BA0.out.below hb)
      have BB1 := hid (BB0.out.below hb)
      have S1 := below_call (below_a2 _ _ _) hb
      clear hb
      obtain ⟨l0, l1, l2, l3⟩ := BB1.out.cells4
      go_wp2_with fail
      refine (iValidCells_any b0 b1 b2 A' c' y _ h0' h1' h2' (HY.out.below S1.out) hn' WY.out).mono ?_
      rw [hb0]
      rintro e w2 ⟨rfl, hb⟩
      clear l0 l1 l2 l3
      obtain ⟨k0, k1, k2, k3⟩ := (BA1.out.below hb).cells4
      obtain ⟨l0, l1, l2, l3⟩ := (BB1.out.below hb).cells4
      have S2 := hid (S1.out.trans (hb.mono S1.out.size))
      clear hb
      go_wp2
      go_ret
      exact ⟨by simp, S2.out⟩
  have := key _ _ _ _ rfl rfl rfl rfl
  simp only [alikeC, ha, Bool.true_and]
  exact this


set_option maxRecDepth 100000 in
set_option maxHeartbeats 3200000 in
theorem iMergeCells_any (a0 a1 a2 : Int) (A : Option Addr) (c : Nat) (x : List Int) (b0 b1 b2 : Int) (A' : Option Addr) (c' : Nat) (y : List Int) (w : World) (h0 : W64 a0) (h1 : W64 a1) (h2 : W64 a2) (hx : RdL (Value.int .i64) w A x) (hn : x.length ≤ 1048576) (we : ∀ y ∈ x, W64 y) (h0' : W64 b0) (h1' : W64 b1) (h2' : W64 b2) (hy : RdL (Value.int .i64) w A' y) (hn' : y.length ≤ 1048576) (we' : ∀ z ∈ y, W64 z) :
    Calls Try.prog 40 #[.agg #[.int .i64 a0, .int .i64 a1, .int .i64 a2, .slice A x.length c], .agg #[.int .i64 b0, .int .i64 b1, .int .i64 b2, .slice A' y.length c']] w (RetCl w (pMergeCells a0 a1 a2 x b0 b1 b2 y)) := by
  have HX := hid hx
  have HY := hid hy
  have WX := hid we
  have WY := hid we'
  clear hx hy we we'
  cases hal : alikeC a0 a1 a2 x b0 b1 b2 y with
  | false =>
    rw [pMergeCells_no hal]
    refine Calls.mono ?_ retCl_no
    obtain ⟨k0, k1, k2, k3⟩ := (((Blk.new w 37 [.int .i64 a0, .int .i64 a1, .int .i64 a2, .slice A x.length c]).alloc (.cells #[.int .i64 b0, .int .i64 b1, .int .i64 b2, .slice A' y.length c'] 37)).alloc (.cells #[.int .i64 0, .int .i64 0, .int .i64 0, .slice none 0 0] 37)).cells4
    obtain ⟨l0, l1, l2, l3⟩ := ((Blk.new2 w (.cells #[.int .i64 a0, .int .i64 a1, .int .i64 a2, .slice A x.length c] 37) 37 [.int .i64 b0, .int .i64 b1, .int .i64 b2, .slice A' y.length c']).alloc (.cells #[.int .i64 0, .int .i64 0, .int .i64 0, .slice none 0 0] 37)).cells4
    go_enter Try.func40, Try.ntmps40
    go_wp2_with fail
    refine (alike_any a0 a1 a2 A c x b0 b1 b2 A' c' y _ h0 h1 h2 (HX.out.below (below_a3 _ _ _ _)) hn WX.out h0' h1' h2' (HY.out.below (below_a3 _ _ _ _)) hn' WY.out).mono ?_
    rintro e w1 ⟨rfl, hb⟩
    have R1 := hid ((Blk.new3 w (.cells #[.int .i64 a0, .int .i64 a1, .int .i64 a2, .slice A x.length c] 37) (.cells #[.int .i64 b0, .int .i64 b1, .int .i64 b2, .slice A' y.length c'] 37) 37 [.int .i64 0, .int .i64 0, .int .i64 0, .slice none 0 0]).below hb)
    have S1 := below_call (below_a3 _ _ _ _) hb
    clear hb k0 k1 k2 k3 l0 l1 l2 l3
    obtain ⟨d0, d1, d2, d3⟩ := R1.out.cells4
    have f0 := R1.out.frozen 0
    have f1 := R1.out.frozen 1
    have f2 := R1.out.frozen 2
    have f3 := R1.out.frozen 3
    go_wp2
    refine bodyPost_ret (v := .tuple #[.agg #[.int .i64 0, .int .i64 0, .int .i64 0, .slice none 0 0], .bool false]) (by simp [results, Try.results40, go_sem, d0, d1, d2, d3]) rfl ⟨rfl, ?_⟩
    exact (((S1.out.setCell (by simp <;> omega) _).setCell (by simp <;> omega) _).setCell (by simp <;> omega) _).setCell (by simp <;> omega) _
  | true =>
  obtain ⟨hv, hv', rfl, rfl, rfl⟩ := alikeC_iff hal
  obtain ⟨⟨hw1, hw2⟩, ⟨hd1, hd2⟩, ⟨hs1, hs2⟩, hl, hbd⟩ := vCells_iff' hv
  obtain ⟨_, _, _, hl', hbd'⟩ := vCells_iff' hv'
  have hxy1 : x.length ≤ y.length := by omega
  have hxy2 : y.length ≤ x.length := by omega
  have hm1 := (mul_sides (inB_iff.2 ⟨hw1, hw2⟩) (inB_iff.2 ⟨hd1, hd2⟩)).1
  have hlp : 0 < x.length := by omega
  have HBD := hid hbd
  have HBD' := hid hbd'
  have HAL := hid hal
  have HZW := hid (zipAdd_w64 hbd hbd')
  have HYL : Hid ((List.zipWith (fun a b => a + b) x y).length = x.length) := by show _ = _; rw [List.length_zipWith]; omega
  rw [pMergeCells_yes hal]
  clear hl hl' hbd hbd' hal hv hv' hm1
  have BA0 := hid (((Blk.new w 37 [.int .i64 a0, .int .i64 a1, .int .i64 a2, .slice A x.length c]).alloc (.cells #[.int .i64 a0, .int .i64 a1, .int .i64 a2, .slice A' y.length c'] 37)).alloc (.cells #[.int .i64 0, .int .i64 0, .int .i64 0, .slice none 0 0] 37))
  have BB0 := hid ((Blk.new2 w (.cells #[.int .i64 a0, .int .i64 a1, .int .i64 a2, .slice A x.length c] 37) 37 [.int .i64 a0, .int .i64 a1, .int .i64 a2, .slice A' y.length c']).alloc (.cells #[.int .i64 0, .int .i64 0, .int .i64 0, .slice none 0 0] 37))
  have R0 := hid (Blk.new3 w (.cells #[.int .i64 a0, .int .i64 a1, .int .i64 a2, .slice A x.length c] 37) (.cells #[.int .i64 a0, .int .i64 a1, .int .i64 a2, .slice A' y.length c'] 37) 37 [.int .i64 0, .int .i64 0, .int .i64 0, .slice none 0 0])
  obtain ⟨k0, k1, k2, k3⟩ := BA0.out.cells4
  obtain ⟨l0, l1, l2, l3⟩ := BB0.out.cells4
  go_enter Try.func40, Try.ntmps40
  go_wp2_with fail
  refine (alike_any a0 a1 a2 A c x a0 a1 a2 A' c' y _ h0 h1 h2 (HX.out.below (below_a3 _ _ _ _)) hn WX.out h0 h1 h2 (HY.out.below (below_a3 _ _ _ _)) hn' WY.out).mono ?_
  rintro e w1 ⟨rfl, hb⟩
  rw [HAL.out]
  clear k0 k1 k2 k3 l0 l1 l2 l3
  have BA1 := hid (BA0.out.below hb)
  have BB1 := hid (BB0.out.below hb)
  have R1 := hid (R0.out.below hb)
  have S1 := below_call (below_a3 _ _ _ _) hb
  have hl1 : w.heap.size + 3 ≤ w1.heap.size := by have := hb.size; simp at this; omega
  clear hb BA0 BB0 R0
  obtain ⟨k0, k1, k2, k3⟩ := BA1.out.cells4
  go_wp2_with fail
  refine (copyCells_any a0 a1 a2 A c x _ (HX.out.below S1.out) hn).mono ?_
  rintro e w2 ⟨A1, c1, rfl, ho, hb⟩
  clear k0 k1 k2 k3
  have ho' : OwnS (Value.int .i64) w2 (w.heap.size + 3) 2 A1 x := ho.mono hl1
  obtain ⟨g, ex, rfl, hgB, hgb⟩ := ho' (by rintro rfl; simp at hlp)
  have hgl := hgb.lt
  have hl2 := hb.size
  have S2 : Hid (Below w.heap.size w w2) := S1.out.trans (hb.mono (by omega))
  have O2 := hid (ho'.below (below_a1 w2 (.cells #[.int .i64 a0, .int .i64 a1, .int .i64 a2, .slice (some ⟨g, 0, none⟩) x.length c1] 37)))
  have Q2 := hid (Blk.new w2 37 [.int .i64 a0, .int .i64 a1, .int .i64 a2, .slice (some ⟨g, 0, none⟩) x.length c1])
  have BB2 := hid ((BB1.out.below hb).below (below_a1 w2 (.cells #[.int .i64 a0, .int .i64 a1, .int .i64 a2, .slice (some ⟨g, 0, none⟩) x.length c1] 37)))
  have R2 := hid ((R1.out.below hb).below (below_a1 w2 (.cells #[.int .i64 a0, .int .i64 a1, .int .i64 a2, .slice (some ⟨g, 0, none⟩) x.length c1] 37)))
  clear hgb hb ho ho' BA1 BB1 R1
  obtain ⟨l0, l1, l2, l3⟩ := BB2.out.cells4
  obtain ⟨q0, q1, q2, q3⟩ := Q2.out.cells4
  have na : w.heap.size + 1 < w2.heap.size := by omega
  have nb : w.heap.size < w2.heap.size := by omega
  go_wp2
  go_loopw [19] (fun i wr => ∃ k : Nat, k ≤ x.length ∧ i = .int .i64 k ∧ Hid (OwnS (Value.int .i64) wr (w.heap.size + 3) 2 (some ⟨g, 0, none⟩) (fillUp k (List.zipWith (fun a b => a + b) x y) x)) ∧ Hid (Touch (w2.alloc (.cells #[.int .i64 a0, .int .i64 a1, .int .i64 a2, .slice (some ⟨g, 0, none⟩) x.length c1] 37)) wr (some ⟨g, 0, none⟩) x.length)) (fun i _ => x.length - (intOf i).toNat)
  case atStart => exact ⟨0, Nat.zero_le _, rfl, by rw [fillUp_zero]; exact O2, Touch.refl⟩
  case round =>
    obtain ⟨k, hkr, rfl, hok, hT⟩ := hrel
    have T1 := hid (hT.out.below O2.out)
    have SR := hid ((S2.out.alloc (by omega) _).trans (T1.out.mono (by omega)))
    clear l0 l1 l2 l3 q0 q1 q2 q3
    obtain ⟨l0, l1, l2, l3⟩ := (BB2.out.touch hT.out (by omega)).cells4
    obtain ⟨q0, q1, q2, q3⟩ := (Q2.out.touch hT.out (by omega)).cells4
    by_cases hlt : k < x.length
    · have hi : (k : Int) < (x.length : Int) := by omega
      have hiy : (k : Int) < (y.length : Int) := by omega
      obtain ⟨by', oy, v, hA', hcy, hyk⟩ := (HY.out.below SR.out).at_ (k := k) (by omega)
      obtain ⟨by2, oy2, _, hA2', hcy2, _⟩ := HY.out.at_ (k := k) (by omega)
      have hby : by' < w.heap.size := by
        have := World.block_lt_of_cell? w _ hcy2
        rw [hA'] at hA2'; injection hA2' with h; injection h with h; simp at this; omega
      subst hA'
      clear hA2' hcy2
      have hfl' : (fillUp k (List.zipWith (fun a b => a + b) x y) x).length = x.length := fillUp_length (by rw [HYL.out]; omega) (by omega)
      have hfl : k < (fillUp k (List.zipWith (fun a b => a + b) x y) x).length := by omega
      obtain ⟨g', u, hg', hgB', hcg, hfg, htm, hput⟩ := hok.out.put hfl
      injection hg' with hg'; injection hg' with hg'
      subst hg'
      have hxu : Hid (x[k]? = some u) := by
        have := htm.out
        rw [fillUp_at (by rw [HYL.out]; omega)] at this
        exact this
      have hz := zipI_at (f := fun a b => a + b) hxu hyk
      have hu := HBD.out u (List.mem_of_getElem? hxu.out)
      have hv := HBD'.out v (List.mem_of_getElem? hyk.out)
      have hu1 := hu.1
      have hu2 := hu.2
      have hv1 := hv.1
      have hv2 := hv.2
      have hO2 : Hid (OwnS (Value.int .i64) (wr.setCell ⟨g, k, none⟩ (.int .i64 (u + v))) (w.heap.size + 3) 2 (some ⟨g, 0, none⟩) (fillUp (k + 1) (List.zipWith (fun a b => a + b) x y) x)) := by
        have h := hput (u + v)
        rw [fillUp_step hz (by omega)] at h
        exact h
      have hT2 := hid (hT.out.set_ (by omega) k (.int .i64 (u + v)))
      have e1 : IntKind.i64.wrap (u + v) = u + v := by rw [IntKind.wrap_i64]; omega
      have n1 : by' ≠ g := by omega
      have n2 : w.heap.size + 1 ≠ g := by omega
      have n3 : w2.heap.size ≠ g := by omega
      have n1' := Ne.symm n1
      have n2' := Ne.symm n2
      have n3' := Ne.symm n3
      clear hput l0 l1 l2 q0 q1 q2 hfl hfl' hgB' hz hu hv hxu htm
      go_wp2
      exact ⟨⟨k + 1, by omega, by go_num, hO2, ⟨hT2.out.os, hT2.out.tape, hT2.out.output, hT2.out.size, hT2.out.block⟩⟩, by simp [intOf]; omega⟩
    · have hi : ¬ (k : Int) < (x.length : Int) := by omega
      have hiy : ¬ (k : Int) < (y.length : Int) := by omega
      have he := hok.out
      rw [fillUp_all (by rw [HYL.out]; omega) (by omega)] at he
      have O4 := hid he
      have R4 := hid (R2.out.touch hT.out (by omega))
      clear he
      go_wp2_with fail
      refine (ifCells_any a0 a1 a2 _ x.length c1 (List.zipWith (fun a b => a + b) x y) _ h0 h1 h2 HYL.out O4.out.rd hn HZW.out).mono ?_
      rintro e w4 ⟨d0', d1', d2', A', n', c', t, rfl, hG, hb⟩
      have S5 := hid (SR.out.trans (hb.mono SR.out.size))
      have O5 := hid (O4.out.below hb)
      obtain ⟨d0, d1, d2, d3⟩ := (R4.out.below hb).cells4
      have f0 := (R4.out.below hb).frozen 0
      have f1 := (R4.out.below hb).frozen 1
      have f2 := (R4.out.below hb).frozen 2
      have f3 := (R4.out.below hb).frozen 3
      clear hb q0 q1 q2 q3 l0 l1 l2 l3
      go_wp2
      refine bodyPost_ret (v := .tuple #[.agg #[.int .i64 d0', .int .i64 d1', .int .i64 d2', .slice A' n' c'], .bool t]) (by simp [results, Try.results40, go_sem, d0, d1, d2, d3]) rfl (retCl_give hG.out ?_ HYL.out hn ?_)
      · exact ((((O5.out.setFar (by simp <;> omega) _).setFar (by simp <;> omega) _).setFar (by simp <;> omega) _).setFar (by simp <;> omega) _).mono (by omega)
      · exact (((S5.out.setCell (by simp <;> omega) _).setCell (by simp <;> omega) _).setCell (by simp <;> omega) _).setCell (by simp <;> omega) _

end Go.Proofs.Ytmmolicodlmlkaa
