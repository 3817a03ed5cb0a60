/-
  Parts of the proof: Words for memory of my own: a slice that reads as a list, a block that is known whole, a slice of the call's own; no program in sight. What a function hands back that builds a slice of its own. One element appended to a slice of the call's own. Small functions on numbers, by their contracts: bounds, keys. From data to lists: what an argument of a law reads as. Hashes of keys, reference and program, by contracts. The places of a key: the reference's l04Places and the program's spots, by contracts. The laws' own helpers over plain slices, by their contracts: size, copy, compare, mark, look for t No condition.
-/
import Derived.WalkKit
import Derived.WalkSpells
import Derived.WalkLawsBesides
import Derived.Deep.Draws
import Derived.Deep.QuietTactic
import Derived.BigQuiet
import Derived.Deep.RegionHeld3
import Derived.Deep.OwnRows
import Derived.Test.YtmmolicodlmlkaaProg
import Derived.Maps.AppendAt
import Derived.Deep.AppendLies
import Derived.ProofKit
import Derived.OpenShut
import Derived.Deep.Grids
import Derived.Lib.SmallJoins
import Derived.Lib.SliceRun
import Derived.Laws.FloatArith
import Derived.Laws.Cover2
import Derived.Deep.CutRange
import Derived.Deep.RegionLaw
import Derived.Sort.Defs
import Derived.Sort.Row
import Derived.Sort.Grow
set_option linter.unusedVariables false
set_option linter.unusedSimpArgs false
namespace Go.Proofs.Ytmmolicodlmlkaa
open Go.RowKit

theorem hid {p : Prop} (h : p) : Hid p := h

theorem below_drewN {B : Nat} {a w : World} (h : Below B a w) (n : Nat) : Below B a (w.drewN n) := ⟨h.os, h.tape, h.output, h.size, h.block⟩
theorem below_a2 (w : World) (o o' : Obj) : Below w.heap.size w ((w.alloc o).alloc o') := ((Below.refl _ _).alloc (Nat.le_refl _) o).alloc (by simp) o'
theorem below_a1 (w : World) (o : Obj) : Below w.heap.size w (w.alloc o) := (Below.refl _ _).alloc (Nat.le_refl _) _
theorem below_drew1 {B : Nat} {a w : World} (h : Below B a w) : Below B a w.drew := ⟨h.os, h.tape, h.output, h.size, h.block⟩
theorem below_alloc_ {W c : World} (h : Below W.heap.size W c) (o : Obj) : Below W.heap.size W (c.alloc o) := h.alloc h.size o
theorem below_next {B : Nat} {W c w' : World} (h : Below B W c) (hb : Below c.heap.size c w') (hB : B ≤ W.heap.size := by exact Nat.le_refl _) : Hid (Below B W w') := h.trans (hb.mono (Nat.le_trans hB h.size))
/-- The slice whose address is A reads, in w, as the list xs (f: how an element lies in its cell). -/
def RdL {α : Type} (f : α → Value) (w : World) (A : Option Addr) (xs : List α) : Prop :=
  ∀ j (h : j < xs.length), ∃ b o, A = some ⟨b, o, none⟩ ∧ w.cell? ⟨b, o + j, none⟩ = some (f xs[j])

section
variable {α : Type} {f : α → Value} {w w' : World} {A : Option Addr} {xs : List α}
theorem RdL.nil : RdL f w A [] := fun j h => absurd h (by simp)
theorem RdL.below (h : RdL f w A xs) (hb : Below w.heap.size w w') : RdL f w' A xs := fun j hj => by
  obtain ⟨b, o, hA, hc⟩ := h j hj
  have hlt := World.block_lt_of_cell? w _ hc
  exact ⟨b, o, hA, (hb.cell (p := ⟨b, o + j, none⟩) hlt).trans hc⟩
theorem RdL.drewN (h : RdL f w A xs) (n : Nat) : RdL f (w.drewN n) A xs := h
theorem RdL.at_ (h : RdL f w A xs) {k : Nat} (hk : k < xs.length) :
    ∃ b o x, A = some ⟨b, o, none⟩ ∧ w.cell? ⟨b, o + k, none⟩ = some (f x) ∧ Hid (xs[k]? = some x) := by
  obtain ⟨b, o, hA, hc⟩ := h k hk
  exact ⟨b, o, xs[k], hA, hc, by show xs[k]? = _; exact List.getElem?_eq_getElem hk⟩
end

/-- Block g is just the cells cs, of element type t, none of them frozen. -/
def Blk (w : World) (g : Nat) (t : TypeId) (cs : List Value) : Prop := w.heap[g]? = some (.cells cs.toArray t (0, 0))

section
variable {w w' : World} {g : Nat} {t : TypeId} {cs : List Value}
theorem Blk.lt (h : Blk w g t cs) : g < w.heap.size := (Array.getElem?_eq_some_iff.1 h).1
theorem Blk.cell (h : Blk w g t cs) {i : Nat} {v : Value} (hi : cs[i]? = some v) : w.cell? ⟨g, i, none⟩ = some v := by
  rw [cell_of_row w g i cs.toArray t (0, 0) h]; simpa using hi
theorem Blk.frozen (h : Blk w g t cs) (i : Nat) : w.frozen? ⟨g, i, none⟩ = false := by
  unfold Blk at h; simp [World.frozen?, h]
theorem Blk.cells3 {v0 v1 v2 : Value} (h : Blk w g t [v0, v1, v2]) : w.cell? ⟨g, 0, none⟩ = some v0 ∧ w.cell? ⟨g, 1, none⟩ = some v1 ∧ w.cell? ⟨g, 2, none⟩ = some v2 := ⟨h.cell rfl, h.cell rfl, h.cell rfl⟩
theorem Blk.new (w : World) (t : TypeId) (cs : List Value) : Blk (w.alloc (.cells cs.toArray t)) w.heap.size t cs := heap_alloc_new w _
theorem madeCells_one (z : Value) (n : Nat) : madeCells #[z] n = (List.replicate n z).toArray := by
  apply Array.ext
  · simp [size_madeCells]
  · intro i h1 h2
    simp [madeCells, Nat.mod_one]
theorem Blk.made (w : World) (t : TypeId) (z : Value) (n : Nat) : Blk (w.alloc (.cells (madeCells #[z] n) t)) w.heap.size t (List.replicate n z) := by
  rw [madeCells_one]; exact Blk.new w t _
theorem Blk.drewN (h : Blk w g t cs) (n : Nat) : Blk (w.drewN n) g t cs := h
theorem Blk.alloc (h : Blk w g t cs) (o : Obj) : Blk (w.alloc o) g t cs := (Below.heap_alloc w o g h.lt).trans h
theorem Blk.set_ (h : Blk w g t cs) (i : Nat) (u : Value) : Blk (w.setCell ⟨g, i, none⟩ u) g t (cs.set i u) := by
  unfold Blk at h ⊢
  simp [World.setCell, Array.getElem?_modify, h]
theorem Blk.far (h : Blk w g t cs) {p : Addr} (hp : g ≠ p.block) (u : Value) : Blk (w.setCell p u) g t cs := (Below.heap_setCell w p u g hp).trans h
theorem Blk.below (h : Blk w g t cs) (hb : Below w.heap.size w w') : Blk w' g t cs := (hb.block g h.lt).trans h
theorem Blk.rd {α : Type} {f : α → Value} {xs : List α} {ex : List Value} (h : Blk w g t (xs.map f ++ ex)) : RdL f w (some ⟨g, 0, none⟩) xs := fun j hj => by
  refine ⟨g, 0, rfl, ?_⟩
  rw [Nat.zero_add]
  exact h.cell (by rw [List.getElem?_append_left (by simpa using hj)]; simp [hj])
end

/-- The slice at A holds the list xs in a block of the call's own (from block B on), which may be written. -/
def OwnS {α : Type} (f : α → Value) (w : World) (B : Nat) (t : TypeId) (A : Option Addr) (xs : List α) : Prop :=
  xs ≠ [] → ∃ g ex, A = some ⟨g, 0, none⟩ ∧ B ≤ g ∧ Blk w g t (xs.map f ++ ex)

/-- Only the block of the slice (A, n elements) may have changed. -/
structure Touch (w w' : World) (A : Option Addr) (n : Nat) : Prop where
  os : w'.os = w.os
  tape : w'.tape = w.tape
  output : w'.output = w.output
  size : w'.heap.size = w.heap.size
  block : ∀ b, (n = 0 ∨ ∀ o, A ≠ some ⟨b, o, none⟩) → w'.heap[b]? = w.heap[b]?

section
variable {α : Type} {f : α → Value} {w w' w'' : World} {A : Option Addr} {xs : List α} {B : Nat} {t : TypeId} {n : Nat}
theorem OwnS.nil : OwnS f w B t A [] := fun h => absurd rfl h
theorem OwnS.rd (h : OwnS f w B t A xs) : RdL f w A xs := by
  rcases List.eq_nil_or_concat xs with rfl | ⟨_, _, rfl⟩
  · exact RdL.nil
  · obtain ⟨g, ex, rfl, _, hb⟩ := h (by simp)
    exact hb.rd
theorem OwnS.below (h : OwnS f w B t A xs) (hb : Below w.heap.size w w') : OwnS f w' B t A xs := fun hn => by
  obtain ⟨g, ex, hA, hB, hg⟩ := h hn
  exact ⟨g, ex, hA, hB, hg.below hb⟩
theorem OwnS.mono (h : OwnS f w B t A xs) {B' : Nat} (hB : B' ≤ B) : OwnS f w B' t A xs := fun hn => by
  obtain ⟨g, ex, hA, hg, hb⟩ := h hn
  exact ⟨g, ex, hA, by omega, hb⟩
theorem OwnS.of_blk {g : Nat} (h : Blk w g t (xs.map f)) (hB : B ≤ g) : OwnS f w B t (some ⟨g, 0, none⟩) xs := fun _ => ⟨g, [], rfl, hB, by simpa using h⟩
theorem Touch.refl : Touch w w A n := ⟨rfl, rfl, rfl, rfl, fun _ _ => rfl⟩
theorem Touch.trans (h : Touch w w' A n) (k : Touch w' w'' A n) : Touch w w'' A n :=
  ⟨k.os.trans h.os, k.tape.trans h.tape, k.output.trans h.output, k.size.trans h.size, fun b hb => (k.block b hb).trans (h.block b hb)⟩
theorem Touch.drewN (h : Touch w w' A n) (k : Nat) : Touch w (w'.drewN k) A n := ⟨h.os, h.tape, h.output, h.size, h.block⟩
theorem Touch.set_ {g : Nat} (h : Touch w w' (some ⟨g, 0, none⟩) n) (hn : 0 < n) (i : Nat) (u : Value) : Touch w (w'.setCell ⟨g, i, none⟩ u) (some ⟨g, 0, none⟩) n :=
  h.trans ⟨rfl, rfl, rfl, by simp, fun b hb => Below.heap_setCell _ _ _ _ (by
    rintro rfl
    rcases hb with hb | hb
    · omega
    · exact hb 0 rfl)⟩
theorem Touch.below (h : Touch w w' A xs.length) (ho : OwnS f w B t A xs) : Below B w w' :=
  ⟨h.os, h.tape, h.output, Nat.le_of_eq h.size.symm, fun k hk => h.block k (by
    rcases List.eq_nil_or_concat xs with rfl | ⟨_, _, rfl⟩
    · exact .inl rfl
    · obtain ⟨g, ex, rfl, hB, _⟩ := ho (by simp)
      exact .inr fun o e => by
        injection e with e; injection e with e; omega)⟩
end

/-- Two slices do not share a block. -/
def Apart (A : Option Addr) (n : Nat) (A' : Option Addr) (m : Nat) : Prop := n = 0 ∨ m = 0 ∨ ∀ g o g' o', A = some ⟨g, o, none⟩ → A' = some ⟨g', o', none⟩ → g ≠ g'
theorem Apart.symm {A A' : Option Addr} {n m : Nat} (h : Apart A n A' m) : Apart A' m A n := by
  rcases h with h | h | h
  · exact .inr (.inl h)
  · exact .inl h
  · exact .inr (.inr fun g o g' o' h1 h2 e => h g' o' g o h2 h1 e.symm)

/-- Only the blocks of the listed slices, and new ones, may have changed. -/
structure TouchAll (w w' : World) (l : List (Option Addr × Nat)) : Prop where
  os : w'.os = w.os
  tape : w'.tape = w.tape
  output : w'.output = w.output
  size : w.heap.size ≤ w'.heap.size
  block : ∀ b, b < w.heap.size → (∀ p ∈ l, p.2 = 0 ∨ ∀ o, p.1 ≠ some ⟨b, o, none⟩) → w'.heap[b]? = w.heap[b]?

section
variable {α : Type} {f : α → Value} {w w' w'' : World} {A A' : Option Addr} {xs : List α} {B : Nat} {t : TypeId} {n : Nat} {l : List (Option Addr × Nat)}
theorem TouchAll.alloc (w : World) (o : Obj) (l : List (Option Addr × Nat)) : TouchAll w (w.alloc o) l := ⟨rfl, rfl, rfl, by simp, fun b hb _ => Below.heap_alloc _ _ _ hb⟩
theorem TouchAll.trans (h : TouchAll w w' [(A, n)]) (k : Touch w' w'' A n) : TouchAll w w'' [(A, n)] :=
  ⟨k.os.trans h.os, k.tape.trans h.tape, k.output.trans h.output, Nat.le_trans h.size (Nat.le_of_eq k.size.symm), fun b hb hp => (k.block b (hp (A, n) (by simp))).trans (h.block b hb hp)⟩
theorem TouchAll.snoc (h : TouchAll w w' l) (k : Touch w' w'' A n) : TouchAll w w'' (l ++ [(A, n)]) :=
  ⟨k.os.trans h.os, k.tape.trans h.tape, k.output.trans h.output, Nat.le_trans h.size (Nat.le_of_eq k.size.symm), fun b hb hp => (k.block b (hp (A, n) (by simp))).trans (h.block b hb fun p hp' => hp p (by simp [hp']))⟩
end
theorem ret_bool {a b : Bool} (h : a = b) : Ending.returned (.bool a) = .returned (.bool b) := by rw [h]
theorem ret_int {k : IntKind} {a b : Int} (h : a = b) : Ending.returned (.int k a) = .returned (.int k b) := by rw [h]

section
variable {α : Type} {k : Nat} {xs zs : List α} {v : α}
end

/-- At place j of a slice of the call's own: the cell is there and may be written; what is written lies there. -/
theorem OwnS.put {α : Type} {f : α → Value} {w : World} {B : Nat} {t : TypeId} {A : Option Addr} {ys : List α} (h : OwnS f w B t A ys) {j : Nat} (hj : j < ys.length) :
    ∃ g u, A = some ⟨g, 0, none⟩ ∧ B ≤ g ∧ w.cell? ⟨g, j, none⟩ = some (f u) ∧ w.frozen? ⟨g, j, none⟩ = false ∧ Hid (ys[j]? = some u) ∧
      ∀ x, Hid (OwnS f (w.setCell ⟨g, j, none⟩ (f x)) B t A (ys.set j x)) := by
  obtain ⟨g, ex, rfl, hB, hb⟩ := h (by rintro rfl; simp at hj)
  refine ⟨g, ys[j], rfl, hB, hb.cell (by rw [List.getElem?_append_left (by simpa using hj)]; simp [hj]), hb.frozen j, by show ys[j]? = _; simp [hj], fun x _ => ⟨g, ex, rfl, hB, ?_⟩⟩
  have := hb.set_ j (f x)
  rw [List.set_append_left _ _ (by simpa using hj), ← List.map_set] at this
  exact this

end Go.Proofs.Ytmmolicodlmlkaa
namespace Go.Proofs.Ytmmolicodlmlkaa
open Go.RowKit

theorem Try.infoI : (Try.prog.info? 2).map (fun i => (i.zero, i.size, i.bytes)) = some (some (.int .i64 0), 1, 8) := by kernel_rfl

/-- It hands back a slice of its own that holds xs; nothing that was there has changed. -/
def RetL {α : Type} (f : α → Value) (t : TypeId) (w : World) (xs : List α) (e : Ending) (w' : World) : Prop :=
  ∃ A c, e = .returned (.slice A xs.length c) ∧ OwnS f w' w.heap.size t A xs ∧ Below w.heap.size w w'

/-- A slice built by append, as a slice of the call's own. -/
theorem ownS_of_row {α : Type} {f : α → Value} {w : World} {B : Nat} {e : TypeId} {v : Value} {n : Nat} {xs : List α} (h : w.ownsRow B e 1 v n (xs.map f)) (hl : xs.length = n) :
    ∃ A c, v = .slice A xs.length c ∧ OwnS f w B e A xs := by
  subst hl
  obtain ⟨hn, h | ⟨g, cap, cur, hv, hB, hg, hc, hm, hs, ht⟩⟩ := h
  · obtain ⟨rfl, h0⟩ := h
    obtain rfl : xs = [] := List.eq_nil_of_length_eq_zero h0
    exact ⟨none, 0, rfl, OwnS.nil⟩
  · refine ⟨some ⟨g, 0, none⟩, cap, hv, fun _ => ⟨g, cur.toList.drop xs.length, rfl, hB, ?_⟩⟩
    unfold Blk
    rw [hg]
    have : xs.map f ++ cur.toList.drop xs.length = cur.toList := by
      rw [← ht, Nat.mul_one, List.take_append_drop]
    rw [this]


end Go.Proofs.Ytmmolicodlmlkaa
namespace Go.Proofs.Ytmmolicodlmlkaa
open Go.RowKit
set_option linter.unusedVariables false

/-- v is a slice of the call's own (from block B on) that holds xs, as append leaves it. -/
def OwnV (w : World) (B : Nat) (v : Value) (xs : List Int) : Prop := w.ownsRow B 2 1 v xs.length (xs.map (Value.int .i64))
theorem OwnV.made (w : World) {B : Nat} (hB : B ≤ w.heap.size) : OwnV (w.alloc (.cells #[] 2)) B (.slice (some ⟨w.heap.size, 0, none⟩) 0 0) [] := World.ownsRow_made w #[] 0 hB (Nat.zero_le _) rfl
theorem OwnV.drewN {w : World} {B : Nat} {v : Value} {xs : List Int} (h : OwnV w B v xs) (n : Nat) : OwnV (w.drewN n) B v xs := h
theorem OwnV.below {w w' : World} {B : Nat} {v : Value} {xs : List Int} (h : OwnV w B v xs) (hb : Below w.heap.size w w') : OwnV w' B v xs := by
  obtain ⟨hn, h | ⟨g, cap, cur, hv, hB, hg, hc, hm, hs, ht⟩⟩ := h
  · exact ⟨hn, .inl h⟩
  · refine ⟨hn, .inr ⟨g, cap, cur, hv, hB, ?_, hc, hm, hs, ht⟩⟩
    exact (hb.block g (Array.getElem?_eq_some_iff.1 hg).1).trans hg
theorem OwnV.mono {w : World} {B B' : Nat} {v : Value} {xs : List Int} (h : OwnV w B v xs) (hB : B' ≤ B) : OwnV w B' v xs := by
  obtain ⟨hn, h | ⟨g, cap, cur, hv, h1, hg, hc, hm, hs, ht⟩⟩ := h
  · exact ⟨hn, .inl h⟩
  · exact ⟨hn, .inr ⟨g, cap, cur, hv, by omega, hg, hc, hm, hs, ht⟩⟩
theorem OwnV.ownS {w : World} {B : Nat} {v : Value} {xs : List Int} (h : OwnV w B v xs) : ∃ A c, v = .slice A xs.length c ∧ OwnS (Value.int .i64) w B 2 A xs := ownS_of_row h rfl

/-- Two such slices lie in different blocks. -/
def AptV (v u : Value) : Prop := ∀ g, v.ownBlock = some g → u.ownBlock ≠ some g
theorem AptV.symm {v u : Value} (h : AptV v u) : AptV u v := fun g h1 h2 => h g h2 h1
/-- What an append to v, which became v', has left of other slices of the call's own. -/
def Keeps (w : World) (B : Nat) (v : Value) (w' : World) (v' : Value) : Prop := ∀ u ys, OwnV w B u ys → AptV v u → OwnV w' B u ys ∧ AptV v' u
theorem OwnV.lt {w : World} {B : Nat} {v : Value} {xs : List Int} (h : OwnV w B v xs) (g : Nat) (hg : v.ownBlock = some g) : g < w.heap.size ∧ B ≤ g := by
  have := World.ownsRow.lt h g hg
  omega
theorem OwnV.grown {w w' : World} {B : Nat} {u : Value} {ys : List Int} {row : Option Nat} (h : OwnV w B u ys) (hg : w.grownBy w' row) (hne : ∀ g, u.ownBlock = some g → some g ≠ row) : OwnV w' B u ys := by
  obtain ⟨hn, h | ⟨g, cap, cur, hv, hB, hgg, hc, hm, hs, ht⟩⟩ := h
  · exact ⟨hn, .inl h⟩
  · refine ⟨hn, .inr ⟨g, cap, cur, hv, hB, ?_, hc, hm, hs, ht⟩⟩
    exact (hg.block g (Array.getElem?_eq_some_iff.1 hgg).1 (hne g (by rw [hv]; rfl))).trans hgg

/-- At place j: the cell is there and may be written; what is written lies there. -/
theorem OwnV.put {w : World} {B : Nat} {v : Value} {xs : List Int} (h : OwnV w B v xs) {j : Nat} (hj : j < xs.length) :
    ∃ g c u, v = .slice (some ⟨g, 0, none⟩) xs.length c ∧ B ≤ g ∧ g < w.heap.size ∧ w.cell? ⟨g, j, none⟩ = some (.int .i64 u) ∧ w.frozen? ⟨g, j, none⟩ = false ∧ Hid (xs[j]? = some u) ∧
      ∀ x, Hid (OwnV (w.setCell ⟨g, j, none⟩ (.int .i64 x)) B v (xs.set j x)) := by
  obtain ⟨hn, h | ⟨g, cap, cur, hv, hB, hg, hc, hm, hs, ht⟩⟩ := h
  · omega
  · rw [Nat.mul_one] at ht hs
    have hjc : j < cur.size := by omega
    have hlt : g < w.heap.size := (Array.getElem?_eq_some_iff.1 hg).1
    have hcj : cur[j]? = some (.int .i64 xs[j]) := by
      have h1 : (cur.toList.take xs.length)[j]? = some (.int .i64 xs[j]) := by rw [ht, List.getElem?_map, List.getElem?_eq_getElem hj]; rfl
      rw [List.getElem?_take_of_lt hj] at h1
      simpa using h1
    refine ⟨g, cap, xs[j], hv, hB, hlt, ?_, ?_, by show xs[j]? = _; simp [hj], fun x => hid ?_⟩
    · rw [cell_of_row w g j cur 2 (0, 0) hg]; exact hcj
    · simp [World.frozen?, hg]
    · unfold OwnV
      rw [List.length_set]
      refine ⟨by simp, .inr ⟨g, cap, cur.setIfInBounds j (.int .i64 x), hv, hB, ?_, hc, hm, by simpa using hs, ?_⟩⟩
      · simp [World.setCell, Array.getElem?_modify, hg]
      · rw [Nat.mul_one, Array.toList_setIfInBounds, List.take_set, ht, List.map_set]
theorem app_int {ops : Array Oper} {rest : List Oper} {o : Oper} {a : Act} {Q : Exit → Act → World → Prop} (hgd : o.guard = none) (s x : Operand)
    (ho : o.op = .call { callee := .builtin .append, args := #[s, x], argTypes := #[22, 22] })
    (y : Int) {w0 wr : World} {B : Nat} {v : Value} {xs : List Int} (hown : OwnV wr B v xs) (hB : Below B w0 wr) (hs : a.eval s = v) (hx : a.eval x = .slice (some ⟨wr.heap.size, 0, none⟩) 1 1)
    (hl : xs.length ≤ 1048577) (hsz : B ≤ wr.heap.size)
    (h : ∀ v' w', Hid (OwnV w' B v' (xs ++ [y])) → Hid (Below B w0 w') → Hid (wr.heap.size + 1 ≤ w'.heap.size) → Hid (Keeps wr B v w' v') → wpList Try.prog ops Q rest (a.put o.dst v') w') :
    wpList Try.prog ops Q (o :: rest) a (wr.alloc (.cells #[.int .i64 y] 2)) := by
  obtain ⟨i0, hi0, hz0, hz1, hz2⟩ := info_parts Try.infoI
  refine wpList_append_own_at (wr.alloc (.cells #[.int .i64 y] 2)) hgd s x 22 ho B 2 i0 (.int .i64 0) 1 8 Try.underlying22 hi0 hz0 hz1 hz2 rfl (by decide) v xs.length _ hs (World.ownsRow.alloc hown _) ⟨wr.heap.size, 0, none⟩ 1 1 [.int .i64 y] hx rfl (cell_one_new _ _ _) ?_ ?_ ?_ ?_ ?_
  · intro u hu; simp at hu; subst hu; rfl
  · simp only [maxLen]; omega
  · omega
  · simp; omega
  · intro v' w1 hown' hgrow _ hat
    refine h v' w1 ?_ ?_ ?_ ?_
    · have e : (xs ++ [y]).length = xs.length + 1 := by simp
      unfold OwnV
      rw [e, List.map_append]; exact hown'
    · exact (hB.alloc hsz _).grown hgrow (by simp; omega) (fun g hg => (World.ownsRow.lt (World.ownsRow.alloc hown (.cells #[.int .i64 y] 2)) g hg).1)
    · have := hgrow.size; simp at this; exact this
    · intro u ys hu hap
      have hu' : OwnV (wr.alloc (.cells #[.int .i64 y] 2)) B u ys := hu.below (Below.alloc (Below.refl _ _) (Nat.le_refl _) _)
      refine ⟨hu'.grown hgrow fun g hg e => hap g e.symm hg, fun g hg => ?_⟩
      rcases hat with hat | hat
      · exact hap g (hat ▸ hg)
      · intro e
        rw [hat] at hg
        injection hg with hg
        have := (hu.lt g e).1
        simp at hg
        omega
end Go.Proofs.Ytmmolicodlmlkaa
namespace Go.Proofs.Ytmmolicodlmlkaa
open Go.RowKit

/-- n lies from lo to hi. -/
def inB (n lo hi : Int) : Bool := decide (lo ≤ n) && decide (n ≤ hi)
theorem inB_iff {n lo hi : Int} : inB n lo hi = true ↔ lo ≤ n ∧ n ≤ hi := by simp [inB]
theorem within_any (n lo hi : Int) (w : World) :
    Calls Try.prog 97 #[.int .i64 n, .int .i64 lo, .int .i64 hi] w fun e w' => e = .returned (.bool (inB n lo hi)) ∧ w = w' := by
  by_cases h1 : lo ≤ n <;> by_cases h2 : n ≤ hi <;>
  · go_enter Try.func97, Try.ntmps97
    go_wp2
    go_ret
    exact ⟨by simp [inB]; omega, rfl⟩

theorem IsKey_any (n : Int) (w : World) :
    Calls Try.prog 63 #[.int .i64 n] w fun e w' => e = .returned (.bool (inB n 0 4294967295)) ∧ w = w' := by
  go_enter Try.func63, Try.ntmps63
  go_wp2_with (go_at_call 97; refine (within_any _ _ _ _).mono ?_; rintro e w' ⟨rfl, rfl⟩)
  go_ret
  exact ⟨rfl, rfl⟩


end Go.Proofs.Ytmmolicodlmlkaa
namespace Go.Proofs.Ytmmolicodlmlkaa
open Go.ChangeShapes Go.WideShapes Go.ChangeAt Go.RowKit Go.Deep

/-- The number fits an int64. -/
def W64 (a : Int) : Prop := (Lit.int .i64 a).wf = true
theorem W64.bounds {a : Int} (h : W64 a) : -9223372036854775808 ≤ a ∧ a ≤ 9223372036854775807 := by
  simpa [W64, Lit.wf, IntKind.min, IntKind.max, IntKind.signed, IntKind.bits] using h

section
variable {H : Type} {enc : TypeId × Value → H} {P : Program} {w : World}

end

end Go.Proofs.Ytmmolicodlmlkaa
namespace Go.Proofs.Ytmmolicodlmlkaa
open Go.RowKit
set_option linter.unusedVariables false

def mixA (x : Nat) : Nat := (x ^^^ x / 1073741824) * 13787848793156543929 % 18446744073709551616
def mixB (x : Nat) : Nat := (x ^^^ x / 134217728) * 10723151780598845931 % 18446744073709551616
def mixC (x : Nat) : Nat := x ^^^ x / 2147483648
/-- All digits are mixed. -/
def mixU (x : Nat) : Nat := mixC (mixB (mixA x))
theorem mixC_lt {x : Nat} (hx : x < 18446744073709551616) : mixC x < 18446744073709551616 :=
  Nat.xor_lt_two_pow (n := 64) hx (Nat.lt_of_le_of_lt (Nat.div_le_self _ _) hx)
theorem mixA_lt (x : Nat) : mixA x < 18446744073709551616 := Nat.mod_lt _ (by omega)
theorem mixB_lt (x : Nat) : mixB x < 18446744073709551616 := Nat.mod_lt _ (by omega)
theorem mixU_lt (x : Nat) : mixU x < 18446744073709551616 := mixC_lt (mixB_lt _)
theorem mixA_eq (x : Nat) (hx : x < 18446744073709551616) : IntKind.u64.wrap (bits .xor .u64 (x : Int) ((x : Int) / 1073741824) * 13787848793156543929) = (mixA x : Int) := mixStep_u64 x 1073741824 13787848793156543929 hx
theorem mixB_eq (x : Nat) (hx : x < 18446744073709551616) : IntKind.u64.wrap (bits .xor .u64 (x : Int) ((x : Int) / 134217728) * 10723151780598845931) = (mixB x : Int) := mixStep_u64 x 134217728 10723151780598845931 hx
theorem mixC_eq (x : Nat) (hx : x < 18446744073709551616) : bits .xor .u64 (x : Int) ((x : Int) / 2147483648) = (mixC x : Int) := xorShift_u64 x 2147483648 hx
/-- The hash of a key with a salt. -/
def hashN (k s : Nat) : Nat := mixU ((k + s * 4294967296 + 11400714819323198485) % 18446744073709551616) / 4294967296
theorem hashN_lt (k s : Nat) : hashN k s < 4294967296 := by
  unfold hashN
  have := mixU_lt ((k + s * 4294967296 + 11400714819323198485) % 18446744073709551616)
  omega
/-- A number below n. -/
def belowN (k s n : Nat) : Nat := hashN k s * n / 4294967296
theorem belowN_lt (k s n : Nat) (hn : 0 < n) : belowN k s n < n := by
  unfold belowN
  rw [Nat.div_lt_iff_lt_mul (by omega), Nat.mul_comm]
  exact Nat.mul_lt_mul_of_pos_left (hashN_lt k s) hn
theorem below_mul_lt (k s n : Nat) (hn : n ≤ 4294967296) : hashN k s * n < 18446744073709551616 := by
  have h1 := hashN_lt k s
  have h2 : hashN k s * n ≤ 4294967295 * 4294967296 := Nat.mul_le_mul (by omega) hn
  omega

theorem hash_arg' (k s : Nat) : IntKind.u64.wrap ((k : Int) + 4294967296 * (s : Int) + 11400714819323198485) = (((k + s * 4294967296 + 11400714819323198485) % 18446744073709551616 : Nat) : Int) := by
  rw [IntKind.wrap_u64]; omega

theorem MixHash_any (x : Nat) (w : World) (hx : x < 18446744073709551616) :
    Calls Try.prog 66 #[.int .u64 x] w fun e w' => e = .returned (.int .u64 (mixU x)) ∧ w = w' := by
  go_enter Try.func66, Try.ntmps66
  go_wp2
  go_ret
  exact ⟨ret_int (by rw [mixA_eq x hx, mixB_eq _ (mixA_lt x)]; exact mixC_eq _ (mixB_lt _)), rfl⟩
theorem ihash_any (k s : Nat) (w : World) (hk : k < 4294967296) (hs : s < 4294967296) :
    Calls Try.prog 111 #[.int .i64 k, .int .i64 s] w fun e w' => e = .returned (.int .i64 (hashN k s)) ∧ w = w' := by
  go_enter Try.func111, Try.ntmps111
  go_wp2_with fail
  rw [hash_arg']
  have hlt := mixU_lt ((k + s * 4294967296 + 11400714819323198485) % 18446744073709551616)
  obtain ⟨m, hm⟩ : ∃ m, m = mixU ((k + s * 4294967296 + 11400714819323198485) % 18446744073709551616) := ⟨_, rfl⟩
  have HM := hid hm
  refine (MixHash_any _ _ (Nat.mod_lt _ (by omega))).mono ?_
  rintro e w' ⟨rfl, rfl⟩
  rw [← hm] at hlt ⊢
  clear hm
  have hh : hashN k s = m / 4294967296 := by rw [HM.out]; rfl
  have HH := hid hh
  clear hh
  go_wp2
  go_ret
  exact ⟨ret_int (by rw [HH.out]; omega), rfl⟩
theorem ibelow_any (k s n : Nat) (w : World) (hk : k < 4294967296) (hs : s < 4294967296) (hn : n ≤ 4294967296) :
    Calls Try.prog 110 #[.int .i64 k, .int .i64 s, .int .i64 n] w fun e w' => e = .returned (.int .i64 (belowN k s n)) ∧ w = w' := by
  have hb := below_mul_lt k s n hn
  have hh := hashN_lt k s
  go_enter Try.func110, Try.ntmps110
  go_wp2_with (go_at_call 111; refine (ihash_any k s _ hk hs).mono ?_; rintro e w' ⟨rfl, rfl⟩)
  go_ret
  exact ⟨ret_int (by unfold belowN; rw [Int.natCast_ediv, Int.natCast_mul]; rfl), rfl⟩
end Go.Proofs.Ytmmolicodlmlkaa
namespace Go.Proofs.Ytmmolicodlmlkaa
open Go.RowKit
set_option linter.unusedVariables false

end Go.Proofs.Ytmmolicodlmlkaa
namespace Go.Proofs.Ytmmolicodlmlkaa
open Go.RowKit

end Go.Proofs.Ytmmolicodlmlkaa
namespace Go.Proofs.Ytmmolicodlmlkaa
open Go.RowKit
set_option linter.unusedVariables false

/-- The first index of an element with p; -1 where there is none. -/
def idxP (p : Int → Bool) (xs : List Int) : Int := match xs.findIdx? p with | some i => i | none => -1
theorem idxP_at {p : Int → Bool} {xs : List Int} {k : Nat} {x : Int} (h : Hid ((xs.take k).any p = false)) (hx : Hid (xs[k]? = some x)) (hp : p x = true) : idxP p xs = k := by
  have hk : k < xs.length := by
    rcases Nat.lt_or_ge k xs.length with h1 | h1
    · exact h1
    · have := hx.out; rw [List.getElem?_eq_none h1] at this; cases this
  have hs : xs = xs.take k ++ x :: xs.drop (k + 1) := by
    have hx' := hx.out
    rw [List.getElem?_eq_getElem hk] at hx'
    injection hx' with hx'
    rw [← hx']
    conv => lhs; rw [← List.take_append_drop k xs, List.drop_eq_getElem_cons hk]
  have h1 : (xs.take k).findIdx? p = none := by
    rw [List.findIdx?_eq_none_iff]
    have := h.out
    simpa using this
  unfold idxP
  rw [hs, List.findIdx?_append, h1, List.findIdx?_cons]
  simp [hp]
  omega
theorem idxP_none {p : Int → Bool} {xs : List Int} (h : xs.any p = false) : idxP p xs = -1 := by
  have h1 : xs.findIdx? p = none := by
    rw [List.findIdx?_eq_none_iff]
    simpa using h
  unfold idxP
  rw [h1]
theorem any_snoc {p : Int → Bool} {xs : List Int} {k : Nat} {x : Int} (h : Hid ((xs.take k).any p = false)) (hx : Hid (xs[k]? = some x)) (hp : p x = false) : (xs.take (k + 1)).any p = false := by
  rw [List.take_add_one, hx.out]
  simp only [Option.toList_some, List.any_append, h.out, List.any_cons, hp, List.any_nil, Bool.or_self]
theorem mem_of_at {xs : List Int} {k : Nat} {x : Int} (hx : Hid (xs[k]? = some x)) : x ∈ xs := List.mem_of_getElem? hx.out
theorem idxP_ge {p : Int → Bool} {xs : List Int} : decide (0 ≤ idxP p xs) = xs.any p := by
  cases h : xs.any p with
  | false => rw [idxP_none h]; rfl
  | true =>
    unfold idxP
    cases h1 : xs.findIdx? p with
    | some i => simp
    | none =>
      rw [List.findIdx?_eq_none_iff] at h1
      obtain ⟨x, hx, hp⟩ := List.any_eq_true.1 h
      rw [h1 x hx] at hp
      cases hp

set_option maxHeartbeats 400000 in
theorem IndexFuncK_any (A : Option Addr) (c : Nat) (xs : List Int) (p : Int → Bool) (w : World) (hx : RdL (Value.int .i64) w A xs) (hn : xs.length ≤ 1048576)
    (hcall : ∀ x ∈ xs, Calls Try.prog 124 #[.int .i64 x] w fun e w' => e = .returned (.bool (p x)) ∧ w = w') :
    Calls Try.prog 139 #[.slice A xs.length c, .func (.func 124) #[] #[]] w fun e w' => e = .returned (.int .i64 (idxP p xs)) ∧ w = w' := by
  have HX := hid hx
  have HC := hid hcall
  clear hx hcall
  go_enter Try.func139, Try.ntmps139
  go_wp2
  go_loop [8] (fun i => ∃ k : Nat, k ≤ xs.length ∧ i = .int .i64 k ∧ Hid ((xs.take k).any p = false)) (fun i => xs.length - (intOf i).toNat)
  case atStart => exact ⟨0, Nat.zero_le _, rfl, by show (xs.take 0).any p = false; simp⟩
  case round =>
    obtain ⟨k, hk, rfl, hh⟩ := hrel
    by_cases hlt : k < xs.length
    · have hi : (k : Int) < (xs.length : Int) := by omega
      obtain ⟨b, o, x, rfl, hc, hxk⟩ := HX.out.at_ hlt
      go_wp2_with fail
      refine (HC.out x (mem_of_at hxk)).mono ?_
      rintro e w' ⟨rfl, rfl⟩
      cases hp : p x with
      | true =>
        have he := hid (idxP_at hh hxk hp)
        clear hp
        go_wp2
        go_ret
        exact ⟨ret_int he.out.symm, rfl⟩
      | false =>
        have he := hid (any_snoc hh hxk hp)
        clear hp
        go_wp2
        exact ⟨⟨k + 1, by omega, by go_num, he⟩, by simp [intOf]; omega⟩
    · have hi : ¬ (k : Int) < (xs.length : Int) := by omega
      go_wp2
      go_ret
      have he := hh.out
      rw [List.take_of_length_le (by omega)] at he
      exact ⟨ret_int (idxP_none he).symm, rfl⟩
theorem ContainsFuncK_any (A : Option Addr) (c : Nat) (xs : List Int) (p : Int → Bool) (w : World) (hx : RdL (Value.int .i64) w A xs) (hn : xs.length ≤ 1048576)
    (hcall : ∀ x ∈ xs, Calls Try.prog 124 #[.int .i64 x] w fun e w' => e = .returned (.bool (p x)) ∧ w = w') :
    Calls Try.prog 123 #[.slice A xs.length c, .func (.func 124) #[] #[]] w fun e w' => e = .returned (.bool (xs.any p)) ∧ w = w' := by
  have HX := hid hx
  have HC := hid hcall
  clear hx hcall
  go_enter Try.func123, Try.ntmps123
  go_wp2_with fail
  refine (IndexFuncK_any A c xs  p _ HX.out hn HC.out).mono ?_
  rintro e w' ⟨rfl, rfl⟩
  go_wp2
  go_ret
  exact ⟨ret_bool idxP_ge, rfl⟩
end Go.Proofs.Ytmmolicodlmlkaa
namespace Go.Proofs.Ytmmolicodlmlkaa
open Go.RowKit
set_option linter.unusedVariables false

/-- All elements lie from lo to hi. -/
def allB (xs : List Int) (lo hi : Int) : Bool := xs.all fun x => inB x lo hi
theorem allB_not_any {xs : List Int} {lo hi : Int} : (!xs.any fun x => !inB x lo hi) = allB xs lo hi := by
  unfold allB
  rw [List.all_eq_not_any_not]
theorem areAllKeys1_any (x : Int) (w : World) :
    Calls Try.prog 124 #[.int .i64 x] w fun e w' => e = .returned (.bool (!inB x 0 4294967295)) ∧ w = w' := by
  go_enter Try.func124, Try.ntmps124
  go_wp2_with (go_at_call 63; refine (IsKey_any _ _).mono ?_; rintro e w' ⟨rfl, rfl⟩)
  go_ret
  exact ⟨rfl, rfl⟩
theorem areAllKeys_any (A : Option Addr) (c : Nat) (xs : List Int) (w : World) (hx : RdL (Value.int .i64) w A xs) (hn : xs.length ≤ 1048576) :
    Calls Try.prog 79 #[.slice A xs.length c] w fun e w' => e = .returned (.bool (allB xs 0 4294967295)) ∧ w = w' := by
  have hmf : ∀ (fn : Fn) (first cap : Array Value) (w : World), (Instr.makeFunc fn first cap).run Try.prog w = .ok (.func fn first cap) w := fun _ _ _ _ => rfl
  have HX := hid hx
  clear hx
  go_enter Try.func79, Try.ntmps79
  go_wp2_with fail
  refine (ContainsFuncK_any A c xs (fun x => !inB x 0 4294967295) _ HX.out hn (fun x _ => areAllKeys1_any x _)).mono ?_
  rintro e w' ⟨rfl, rfl⟩
  go_wp2
  go_ret
  exact ⟨ret_bool allB_not_any, rfl⟩
end Go.Proofs.Ytmmolicodlmlkaa
namespace Go.Proofs.Ytmmolicodlmlkaa
open Go.RowKit
set_option linter.unusedVariables false

end Go.Proofs.Ytmmolicodlmlkaa
namespace Go.Proofs.Ytmmolicodlmlkaa
open Go.RowKit
set_option linter.unusedVariables false

end Go.Proofs.Ytmmolicodlmlkaa
namespace Go.Proofs.Ytmmolicodlmlkaa
open Go.RowKit
set_option linter.unusedVariables false

end Go.Proofs.Ytmmolicodlmlkaa
namespace Go.Proofs.Ytmmolicodlmlkaa
open Go.RowKit
set_option linter.unusedVariables false
set_option linter.unusedSimpArgs false

/-- All are bytes. -/
def Byt (x : List Int) : Prop := ∀ y ∈ x, 0 ≤ y ∧ y ≤ 255
/-- A slice of the call's own behind a block that is written. -/
theorem OwnV.touchQ {w w' : World} {B q n : Nat} {v : Value} {xs : List Int} (h : OwnV w B v xs) (ht : Touch w w' (some ⟨q, 0, none⟩) n) (hq : q < B) : OwnV w' B v xs := by
  obtain ⟨hn, h | ⟨g, cap, cur, hv, hB, hgg, hc, hm, hs, hh⟩⟩ := h
  · exact ⟨hn, .inl h⟩
  · exact ⟨hn, .inr ⟨g, cap, cur, hv, hB, (ht.block g (.inr fun o e => by injection e with e; injection e with e; omega)).trans hgg, hc, hm, hs, hh⟩⟩
theorem wrapU_nn (z : Int) : 0 ≤ IntKind.u64.wrap z := by
  rw [IntKind.wrap_u64]
  omega
theorem wrapU_lt (z : Int) : IntKind.u64.wrap z < 18446744073709551616 := by
  rw [IntKind.wrap_u64]
  omega
/-- The byte that is taken of it. -/
theorem byte_of {m : Nat} (h : m < 18446744073709551616) : 0 ≤ wrap64 (bits .and .u64 ((m : Int) / 1099511627776) 255) ∧ wrap64 (bits .and .u64 ((m : Int) / 1099511627776) 255) ≤ 255 := by
  have e : bits .and .u64 ((m : Int) / 1099511627776) 255 = (((m / 1099511627776) &&& 255 : Nat) : Int) := by
    rw [show ((m : Int) / 1099511627776) = ((m / 1099511627776 : Nat) : Int) by omega]
    exact bits_and_u64_nat _ 255 (by omega) (by decide)
  have h2 : (m / 1099511627776) &&& 255 ≤ 255 := Nat.and_le_right
  rw [e]
  unfold wrap64
  omega
theorem touch_two (w : World) (q m n : Nat) (u v : Value) : Touch w ((((w.drewN m).setCell ⟨q, 1, none⟩ u).setCell ⟨q, 2, none⟩ v).drewN n) (some ⟨q, 0, none⟩) 3 := by
  refine ⟨rfl, rfl, rfl, by simp, fun b hb => ?_⟩
  have hbq : b ≠ q := by
    rcases hb with h | h
    · omega
    · rintro rfl; exact h 0 rfl
  exact (Below.heap_setCell _ ⟨q, 2, none⟩ v b hbq).trans (Below.heap_setCell _ ⟨q, 1, none⟩ u b hbq)
/-- The source's box. -/
def SrcB (w : World) (q : Nat) (A : Option Addr) (n c : Nat) (at_ sd : Int) : Prop := Blk w q 129 [.slice A n c, .int .i64 at_, .int .u64 sd]
set_option maxHeartbeats 1600000 in
theorem next_any (q : Nat) (A : Option Addr) (c : Nat) (x : List Int) (at_ sd : Int) (w : World) (hs : SrcB w q A x.length c at_ sd) (hx : RdL (Value.int .u8) w A x) (hb : Byt x) (hn : x.length ≤ 1048576) (ha0 : 0 ≤ at_) (ha1 : at_ ≤ 1000000) (hA : ∀ g o, A = some ⟨g, o, none⟩ → x ≠ [] → g ≠ q) :
    Calls Try.prog 130 #[.pointer (some ⟨q, 0, none⟩)] w fun e w' => ∃ v sd', (e = .returned (.int .i64 v) ∧ 0 ≤ v ∧ v ≤ 255) ∧ SrcB w' q A x.length c (at_ + 1) sd' ∧ Touch w w' (some ⟨q, 0, none⟩) 3 := by
  have HS := hid hs
  have HX := hid hx
  have HB := hid hb
  obtain ⟨k, rfl⟩ := Int.eq_ofNat_of_zero_le ha0
  obtain ⟨c0, c1, c2⟩ := Blk.cells3 hs
  have f0 := Blk.frozen hs 0
  have f1 := Blk.frozen hs 1
  have f2 := Blk.frozen hs 2
  clear hs hx hb
  have v1 : IntKind.i64.wrap ((k : Int) + 1) = (k : Int) + 1 := by rw [IntKind.wrap_i64]; omega
  by_cases hlt : k < x.length
  · have hi : (k : Int) < (x.length : Int) := by omega
    have hi2 : (k : Int) + 1 ≤ (x.length : Int) := by omega
    obtain ⟨b, o, y, rfl, hc, hy⟩ := HX.out.at_ hlt
    have hyb := HB.out y (List.mem_of_getElem? hy.out)
    have hbq := hA b o rfl (by rintro rfl; simp at hlt)
    have v2 : IntKind.i64.wrap y = y := by rw [IntKind.wrap_i64]; omega
    go_enter Try.func130, Try.ntmps130
    go_wp2
    go_quiet (fail)
    go_wp2
    go_quiet (fail)
    go_wp2
    go_quiet (fail)
    go_wp2
    go_ret
    exact ⟨_, _, ⟨rfl, hyb.1, hyb.2⟩, ((Blk.drewN HS.out _).set_ 1 _).set_ 2 _, touch_two _ _ _ _ _ _⟩
  · have hi : ¬ (k : Int) < (x.length : Int) := by omega
    have hi2 : ¬ (k : Int) + 1 ≤ (x.length : Int) := by omega
    go_enter Try.func130, Try.ntmps130
    go_wp2
    go_quiet (fail)
    go_wp2
    go_quiet (fail)
    go_wp2
    go_ret
    obtain ⟨m, hm⟩ := Int.eq_ofNat_of_zero_le (wrapU_nn (IntKind.u64.wrap (IntKind.u64.wrap (sd * 6364136223846793005)) + 1442695040888963407))
    have hml : m < 18446744073709551616 := by have := wrapU_lt (IntKind.u64.wrap (IntKind.u64.wrap (sd * 6364136223846793005)) + 1442695040888963407); omega
    refine ⟨_, _, ⟨rfl, ?_, ?_⟩, ((Blk.drewN HS.out _).set_ 1 _).set_ 2 _, touch_two _ _ _ _ _ _⟩
    · rw [hm]; exact (byte_of hml).1
    · rw [hm]; exact (byte_of hml).2
set_option maxHeartbeats 1600000 in
theorem l00From_any (A : Option Addr) (n c : Nat) (w : World) : Calls Try.prog 95 #[.slice A n c] w fun e w' => e = .returned (.pointer (some ⟨w.heap.size, 0, none⟩)) ∧ w' = w.alloc (.cells #[.slice A n c, .int .i64 0, .int .u64 0] 129) := by
  go_enter Try.func95, Try.ntmps95
  go_wp2
  go_ret
  exact ⟨rfl, rfl⟩
end Go.Proofs.Ytmmolicodlmlkaa
namespace Go.Proofs.Ytmmolicodlmlkaa
open Go.RowKit
set_option linter.unusedVariables false
set_option linter.unusedSimpArgs false

set_option maxHeartbeats 800000 in
theorem r8Long_any (A A' : Option Addr) (n n' c c' : Nat) (w : World) : Calls Try.prog 50 #[.slice A n c, .slice A' n' c'] w fun e w' => e = .returned (.bool (decide (48 < n ∨ 48 < n'))) ∧ w = w' := by
  by_cases h : (48 : Int) < (n : Int)
  · have hd : decide (48 < n ∨ 48 < n') = true := decide_eq_true (.inl (by omega))
    rw [hd]
    clear hd
    go_enter Try.func50, Try.ntmps50
    go_wp2
    go_ret
    exact ⟨rfl, rfl⟩
  · by_cases h' : (48 : Int) < (n' : Int)
    · have hd : decide (48 < n ∨ 48 < n') = true := decide_eq_true (.inr (by omega))
      rw [hd]
      clear hd
      go_enter Try.func50, Try.ntmps50
      go_wp2
      go_ret
      exact ⟨rfl, rfl⟩
    · have hd : decide (48 < n ∨ 48 < n') = false := decide_eq_false (by omega)
      rw [hd]
      clear hd
      go_enter Try.func50, Try.ntmps50
      go_wp2
      go_ret
      exact ⟨rfl, rfl⟩
set_option maxHeartbeats 800000 in
theorem r8At_any (A : Option Addr) (c : Nat) (x : List Int) (i n : Int) (w : World) (hx : RdL (Value.int .u8) w A x) (hb : Byt x) (hn : x.length ≤ 1048576) (hi0 : 0 ≤ i) (hi1 : i ≤ 1000) (hn1 : 1 < n) (hn2 : n ≤ 256) :
    Calls Try.prog 51 #[.slice A x.length c, .int .i64 i, .int .i64 n] w fun e w' => (∃ r, e = .returned (.int .i64 r) ∧ 0 ≤ r ∧ r < n) ∧ w = w' := by
  have HX := hid hx
  have HB := hid hb
  clear hx hb
  obtain ⟨k, rfl⟩ := Int.eq_ofNat_of_zero_le hi0
  have hn1' : ¬ n ≤ 1 := by omega
  have hnz : (n == 0) = false := beq_eq_false_iff_ne.2 (by omega)
  have hnz' : n ≠ 0 := by omega
  by_cases hlt : k < x.length
  · have hi : ¬ (x.length : Int) ≤ (k : Int) := by omega
    have hi2 : (k : Int) < (x.length : Int) := by omega
    obtain ⟨b, o, y, rfl, hc, hy⟩ := HX.out.at_ hlt
    have hyb := HB.out y (List.mem_of_getElem? hy.out)
    have v1 : IntKind.i64.wrap y = y := by rw [IntKind.wrap_i64]; omega
    go_enter Try.func51, Try.ntmps51
    go_wp2
    go_ret
    exact ⟨⟨_, rfl, Int.emod_nonneg _ hnz', Int.emod_lt_of_pos _ (by omega)⟩, rfl⟩
  · have hi : (x.length : Int) ≤ (k : Int) := by omega
    go_enter Try.func51, Try.ntmps51
    go_wp2
    go_ret
    exact ⟨⟨_, rfl, by omega, by omega⟩, rfl⟩
end Go.Proofs.Ytmmolicodlmlkaa
namespace Go.Proofs.Ytmmolicodlmlkaa
open Go.RowKit
set_option linter.unusedVariables false
set_option linter.unusedSimpArgs false

theorem Touch.two {w w1 w2 : World} {A : Option Addr} {n : Nat} (h : Touch w w1 A n) (k : Touch w1 w2 A n) : Touch w w2 A n :=
  ⟨k.os.trans h.os, k.tape.trans h.tape, k.output.trans h.output, by rw [k.size]; exact h.size, fun b hb => (k.block b hb).trans (h.block b hb)⟩
theorem RdL.touchP {f : Int → Value} {w w' : World} {A : Option Addr} {x : List Int} {q n : Nat} (h : RdL f w A x) (ht : Touch w w' (some ⟨q, 0, none⟩) n) (hA : ∀ g o, A = some ⟨g, o, none⟩ → x ≠ [] → g ≠ q) : RdL f w' A x := fun j hj => by
  obtain ⟨b, o, hb, hc⟩ := h j hj
  refine ⟨b, o, hb, ?_⟩
  have hne : b ≠ q := hA b o hb (by rintro rfl; simp at hj)
  have e := ht.block b (.inr fun o' e => by injection e with e; injection e with e; exact hne e.symm)
  rw [← hc]
  simp only [World.cell?, e]
theorem below_touchQ {B q n : Nat} {a w w' : World} (h : Below B a w) (ht : Touch w w' (some ⟨q, 0, none⟩) n) (hq : B ≤ q) : Below B a w' :=
  ⟨ht.os.trans h.os, ht.tape.trans h.tape, ht.output.trans h.output, by rw [ht.size]; exact h.size, fun b hb => (ht.block b (.inr fun o e => by injection e with e; injection e with e; omega)).trans (h.block b hb)⟩
set_option maxHeartbeats 1600000 in
theorem pickS_any (q : Nat) (A : Option Addr) (c : Nat) (x : List Int) (at_ sd m : Int) (w : World) (hs : SrcB w q A x.length c at_ sd) (hx : RdL (Value.int .u8) w A x) (hb : Byt x) (hn : x.length ≤ 1048576) (ha0 : 0 ≤ at_) (ha1 : at_ ≤ 1000) (hA : ∀ g o, A = some ⟨g, o, none⟩ → x ≠ [] → g ≠ q) (hm0 : 2 ≤ m) (hm1 : m ≤ 200) :
    Calls Try.prog 96 #[.pointer (some ⟨q, 0, none⟩), .int .i64 m] w fun e w' => ∃ v sd', (e = .returned (.int .i64 v) ∧ 0 ≤ v ∧ v ≤ 200) ∧ SrcB w' q A x.length c (at_ + 1) sd' ∧ Touch w w' (some ⟨q, 0, none⟩) 3 := by
  have C := hid (next_any q A c x at_ sd w hs hx hb hn ha0 (by omega) hA)
  clear hs hx hb hA
  have g1 : ¬ m ≤ 1 := by omega
  have g2 : ¬ (200 : Int) < m := by omega
  have hnz : (m == 0) = false := beq_eq_false_iff_ne.2 (by omega)
  have hnz' : m ≠ 0 := by omega
  go_enter Try.func96, Try.ntmps96
  go_wp2_with fail
  refine C.out.mono ?_
  rintro e w' ⟨v, sd', ⟨rfl, hv0, hv1⟩, hS, hT⟩
  have HS := hid hS
  have HT := hid hT
  clear hS hT C
  go_wp2
  go_ret
  exact ⟨_, _, ⟨rfl, by have := Int.emod_nonneg v hnz'; omega, by have := Int.emod_lt_of_pos v (show 0 < m by omega); omega⟩, HS.out, HT.out⟩
set_option maxHeartbeats 1600000 in
theorem pickK_any (q : Nat) (A : Option Addr) (c : Nat) (x : List Int) (at_ sd : Int) (w : World) (hs : SrcB w q A x.length c at_ sd) (hx : RdL (Value.int .u8) w A x) (hb : Byt x) (hn : x.length ≤ 1048576) (ha0 : 0 ≤ at_) (ha1 : at_ ≤ 1000) (hA : ∀ g o, A = some ⟨g, o, none⟩ → x ≠ [] → g ≠ q) :
    Calls Try.prog 96 #[.pointer (some ⟨q, 0, none⟩), .int .i64 4294967296] w fun e w' => ∃ v sd', (e = .returned (.int .i64 v) ∧ 0 ≤ v ∧ v ≤ 65535) ∧ SrcB w' q A x.length c (at_ + 1 + 1) sd' ∧ Touch w w' (some ⟨q, 0, none⟩) 3 := by
  have C := hid (next_any q A c x at_ sd w hs hx hb hn ha0 (by omega) hA)
  have HX := hid hx
  have HB := hid hb
  have HA := hid hA
  clear hs hx hb hA
  go_enter Try.func96, Try.ntmps96
  go_wp2_with fail
  refine C.out.mono ?_
  rintro e w' ⟨v, sd', ⟨rfl, hv0, hv1⟩, hS, hT⟩
  have C2 := hid (next_any q A c x (at_ + 1) sd' w' hS (HX.out.touchP hT HA.out) HB.out hn (by omega) (by omega) HA.out)
  have HT := hid hT
  clear hS hT C
  go_wp2_with fail
  refine C2.out.mono ?_
  rintro e w2 ⟨v2, sd2, ⟨rfl, hv20, hv21⟩, hS, hT⟩
  have HS2 := hid hS
  have HT2 := hid hT
  clear hS hT C2
  go_wp2
  go_ret
  exact ⟨_, _, ⟨rfl, by omega, by omega⟩, HS2.out, HT.out.two HT2.out⟩
set_option maxHeartbeats 1600000 in
theorem one3_any (q : Nat) (A : Option Addr) (c : Nat) (x : List Int) (at_ sd : Int) (w : World) (hs : SrcB w q A x.length c at_ sd) (hx : RdL (Value.int .u8) w A x) (hb : Byt x) (hn : x.length ≤ 1048576) (ha0 : 0 ≤ at_) (ha1 : at_ ≤ 1000) (hA : ∀ g o, A = some ⟨g, o, none⟩ → x ≠ [] → g ≠ q) :
    Calls Try.prog 108 #[.pointer (some ⟨q, 0, none⟩), .int .i64 3] w fun e w' => ∃ v sd', e = .returned (.bool v) ∧ SrcB w' q A x.length c (at_ + 1) sd' ∧ Touch w w' (some ⟨q, 0, none⟩) 3 := by
  have C := hid (pickS_any q A c x at_ sd 3 w hs hx hb hn ha0 ha1 hA (by decide) (by decide))
  clear hs hx hb hA
  go_enter Try.func108, Try.ntmps108
  go_wp2_with fail
  refine C.out.mono ?_
  rintro e w' ⟨v, sd', ⟨rfl, hv0, hv1⟩, hS, hT⟩
  have HS := hid hS
  have HT := hid hT
  clear hS hT C
  go_wp2
  go_ret
  exact ⟨_, _, rfl, HS.out, HT.out⟩
set_option maxRecDepth 100000 in
set_option maxHeartbeats 3200000 in
theorem r8Keys_any (A : Option Addr) (c : Nat) (x : List Int) (n : Int) (w : World) (hx : RdL (Value.int .u8) w A x) (hb : Byt x) (hn : x.length ≤ 1048576) (hn0 : 0 ≤ n) (hn1 : n ≤ 100) :
    Calls Try.prog 52 #[.slice A x.length c, .int .i64 n] w fun e w' => ∃ v K, e = .returned v ∧ OwnV w' w.heap.size v K ∧ (K.length : Int) = n ∧ (∀ y ∈ K, 0 ≤ y ∧ y ≤ 65535) ∧ Below w.heap.size w w' := by
  have HX := hid hx
  have HB := hid hb
  clear hx hb
  have HA : Hid (∀ g o, A = some ⟨g, o, none⟩ → x ≠ [] → g ≠ w.heap.size) := by
    intro g o hA hne hg
    obtain ⟨b, o', y, hA', hc, _⟩ := HX.out.at_ (k := 0) (List.length_pos_iff.2 hne)
    rw [hA] at hA'; injection hA' with hA'; injection hA' with h1 h2
    have := World.block_lt_of_cell? w _ hc
    simp at this
    omega
  go_enter Try.func52, Try.ntmps52
  go_wp2_with fail
  refine (l00From_any A x.length c w).mono ?_
  rintro e w1 ⟨rfl, hw1⟩
  have hq1 : w.heap.size < w1.heap.size := by rw [hw1]; simp
  have S1 : Hid (Below w.heap.size w w1) := by rw [hw1]; exact below_a1 _ _
  have B1 : Hid (SrcB w1 w.heap.size A x.length c 0 0) := by rw [hw1]; exact Blk.new _ _ _
  clear hw1
  have B2 : Hid (SrcB (w1.alloc (.cells #[] 2)) w.heap.size A x.length c 0 0) := B1.out.alloc _
  have O2 : Hid (OwnV (w1.alloc (.cells #[] 2)) w1.heap.size (.slice (some ⟨w1.heap.size, 0, none⟩) 0 0) []) := OwnV.made w1 (Nat.le_refl _)
  have W2 := hid (S1.out.alloc (Nat.le_of_lt hq1) (.cells #[] 2))
  have hsz2 : w1.heap.size ≤ (w1.alloc (.cells #[] 2)).heap.size := by simp
  clear S1 B1
  go_wp2
  go_loopw [1, 6, 7] (fun t v u wr => ∃ (k : Nat) (K : List Int) (sd a : Int), (k : Int) ≤ n ∧ t = .int .i64 (n - (k : Int)) ∧ 0 ≤ a ∧ a ≤ 4 * (k : Int) ∧ Hid (K.length = k) ∧ Hid (∀ y ∈ K, 0 ≤ y ∧ y ≤ 65535) ∧ Hid (OwnV wr w1.heap.size v K) ∧ Hid (SrcB wr w.heap.size A x.length c a sd) ∧ Hid (Below w.heap.size w wr) ∧ w1.heap.size ≤ wr.heap.size) (fun t _ _ _ => (intOf t).toNat)
  case atStart => exact ⟨0, [], 0, 0, by omega, by simp, by omega, by omega, rfl, by show ∀ y ∈ [], _; simp, O2, B2, W2, hsz2⟩
  case round =>
    obtain ⟨k, K, sd, a, hk, rfl, ha0, ha1, hKl, hKb, hO, hS, hW, hsz⟩ := hrel
    by_cases hlt : (k : Int) < n
    · have hpos : (0 : Int) < n - (k : Int) := by omega
      have hKn : K.length ≤ 1048577 := by rw [hKl.out]; omega
      clear B2 O2 W2
      have C := hid (pickS_any w.heap.size A c x a sd 30 wr hS.out (HX.out.below hW.out) HB.out hn ha0 (by omega) HA.out (by decide) (by decide))
      clear hS
      go_wp2_with fail
      refine C.out.mono ?_
      rintro e w2 ⟨v, sd2, ⟨rfl, hv0, hv1⟩, hS2, hT2⟩
      have S2 := hid hS2
      have W2 := hid (below_touchQ hW.out hT2 (Nat.le_refl _))
      have O2 := hid (OwnV.touchQ hO.out hT2 hq1)
      have hz2 : w1.heap.size ≤ w2.heap.size := by rw [hT2.size]; exact hsz
      clear hS2 hT2 C hO hW
      have C := hid (one3_any w.heap.size A c x (a + 1) sd2 w2 S2.out (HX.out.below W2.out) HB.out hn (by omega) (by omega) HA.out)
      clear S2
      go_wp2_with fail
      refine C.out.mono ?_
      rintro e w3 ⟨yes, sd3, rfl, hS2, hT2⟩
      have S3 := hid hS2
      have W3 := hid (below_touchQ W2.out hT2 (Nat.le_refl _))
      have O3 := hid (OwnV.touchQ O2.out hT2 hq1)
      have hz3 : w1.heap.size ≤ w3.heap.size := by rw [hT2.size]; exact hz2
      clear hS2 hT2 C W2 O2 hsz hz2
      cases yes with
      | true =>
        have C := hid (pickK_any w.heap.size A c x (a + 1 + 1) sd3 w3 S3.out (HX.out.below W3.out) HB.out hn (by omega) (by omega) HA.out)
        clear S3
        go_wp2_with fail
        refine C.out.mono ?_
        rintro e w4 ⟨u, sd4, ⟨rfl, hu0, hu1⟩, hS2, hT2⟩
        have S4 := hid hS2
        have W4 := hid (below_touchQ W3.out hT2 (Nat.le_refl _))
        have O4 := hid (OwnV.touchQ O3.out hT2 hq1)
        have hz4 : w1.heap.size ≤ w4.heap.size := by rw [hT2.size]; exact hz3
        clear hS2 hT2 C W3 O3 hz3
        go_wp2_with (at_builtin; refine app_int rfl _ _ rfl u O4.out (Below.refl w1.heap.size w4) rfl rfl hKn hz4 ?_)
        intro v' w' O5 W5 hg5 KP
        have S5 : Hid (SrcB w' w.heap.size A x.length c (a + 1 + 1 + 1 + 1) sd4) := (W5.out.block w.heap.size hq1).trans S4.out
        have W6 := hid (W4.out.trans (W5.out.mono (Nat.le_of_lt hq1)))
        have hsz5 : w1.heap.size ≤ w'.heap.size := by have := hg5.out; omega
        have hb2 : Hid (∀ y ∈ K ++ [u], 0 ≤ y ∧ y ≤ 65535) := fun y hy => by
          rcases List.mem_append.1 hy with h | h
          · exact hKb.out y h
          · simp at h; subst h; omega
        have hl2 : Hid ((K ++ [u]).length = k + 1) := by show _ = _; rw [List.length_append, hKl.out]; rfl
        clear KP W5 W4 O4 S4
        go_wp2
        exact ⟨⟨k + 1, _, sd4, _, by omega, by go_num, by omega, by omega, hl2, hb2, O5, S5, W6, hsz5⟩, by simp [intOf]; omega⟩
      | false =>
        go_wp2_with (at_builtin; refine app_int rfl _ _ rfl v O3.out (Below.refl w1.heap.size w3) rfl rfl hKn hz3 ?_)
        intro v' w' O5 W5 hg5 KP
        have S5 : Hid (SrcB w' w.heap.size A x.length c (a + 1 + 1) sd3) := (W5.out.block w.heap.size hq1).trans S3.out
        have W6 := hid (W3.out.trans (W5.out.mono (Nat.le_of_lt hq1)))
        have hsz5 : w1.heap.size ≤ w'.heap.size := by have := hg5.out; omega
        have hb2 : Hid (∀ y ∈ K ++ [v], 0 ≤ y ∧ y ≤ 65535) := fun y hy => by
          rcases List.mem_append.1 hy with h | h
          · exact hKb.out y h
          · simp at h; subst h; omega
        have hl2 : Hid ((K ++ [v]).length = k + 1) := by show _ = _; rw [List.length_append, hKl.out]; rfl
        clear KP W5 W3 O3 S3
        go_wp2
        exact ⟨⟨k + 1, _, sd3, _, by omega, by go_num, by omega, by omega, hl2, hb2, O5, S5, W6, hsz5⟩, by simp [intOf]; omega⟩
    · have hpos : ¬ (0 : Int) < n - (k : Int) := by omega
      have hkn : Hid ((K.length : Int) = n) := by show _ = _; rw [hKl.out]; omega
      go_wp2
      go_ret
      exact ⟨_, rfl, K, hO.out.mono (Nat.le_of_lt hq1), hkn.out, hKb.out, hW.out⟩
end Go.Proofs.Ytmmolicodlmlkaa
namespace Go.Proofs.Ytmmolicodlmlkaa
open Go.RowKit Ieee

/-- Its word is no NaN, and its sign is s. -/
def Sg (f : Format) (s : Bool) (b : Nat) : Prop := (∃ m e, f.read b = .number s m e) ∨ f.read b = .infinity s
/-- Its word is no NaN. -/
def NN (f : Format) (b : Nat) : Prop := ∃ s, Sg f s b

theorem word_div (f : Format) (s : Bool) {r : Nat} (h : r < f.signWeight) : (f.word s r / f.signWeight % 2 == 1) = s ∧ f.word s r % f.signWeight = r := by
  have hp : 0 < f.signWeight := Nat.pow_pos (by omega)
  unfold Format.word
  cases s with
  | true =>
    have h1 : (f.signWeight + r) / f.signWeight = 1 := by
      rw [Nat.add_div_left _ hp, Nat.div_eq_of_lt h]
    simp [h1, Nat.mod_eq_of_lt h]
  | false => simp [Nat.div_eq_of_lt h, Nat.mod_eq_of_lt h]
theorem infRung_lt' (f : Format) : f.infRung < f.signWeight := f.infRung_lt
theorem read_word_lt (f : Format) (s : Bool) {r : Nat} (h : r < f.infRung) : ∃ m e, f.read (f.word s r) = .number s m e := by
  obtain ⟨h1, h2⟩ := word_div f s (Nat.lt_trans h (infRung_lt' f))
  unfold Format.read
  simp only [h1, h2]
  by_cases hb : r < f.binade
  · exact ⟨_, _, by rw [if_pos hb]⟩
  · exact ⟨_, _, by rw [if_neg hb, if_pos h]⟩
theorem read_word_inf (f : Format) (s : Bool) (hb : f.binade ≤ f.infRung) : f.read (f.word s f.infRung) = .infinity s := by
  obtain ⟨h1, h2⟩ := word_div f s (infRung_lt' f)
  unfold Format.read
  simp only [h1, h2]
  rw [if_neg (by omega), if_neg (by omega)]
  simp
theorem nearest_form (f : Format) (s : Bool) (m : Nat) (p : Int) : ∃ r, r ≤ f.infRung ∧ f.nearest s m p = f.word s r ∧ (m = 0 → r = 0) := by
  unfold Format.nearest
  by_cases h : m = 0
  · exact ⟨0, Nat.zero_le _, by rw [if_pos h], fun _ => rfl⟩
  · exact ⟨_, Nat.min_le_right _ _, by rw [if_neg h], fun h' => absurd h' h⟩
theorem write_sg (f : Format) (hb : f.binade ≤ f.infRung) (s : Bool) (m : Nat) (p : Int) : Sg f s (f.write (.number s m p)) := by
  obtain ⟨r, hr, he, _⟩ := nearest_form f s m p
  show Sg f s (f.nearest s m p)
  rw [he]
  rcases Nat.lt_or_ge r f.infRung with h | h
  · exact .inl (read_word_lt f s h)
  · obtain rfl : r = f.infRung := by omega
    exact .inr (read_word_inf f s hb)
theorem write_inf_sg (f : Format) (hb : f.binade ≤ f.infRung) (s : Bool) : Sg f s (f.write (.infinity s)) := .inr (read_word_inf f s hb)
theorem single_bi : single.binade ≤ single.infRung := by decide
theorem double_bi : double.binade ≤ double.infRung := by decide

/-- A sum of two numbers that are not below 0. -/
theorem add_pos {x y : Nat} (hx : Sg single false x) (hy : Sg single false y) : ∃ r, floatBits .add .f32 x y = some r ∧ Sg single false r := by
  show ∃ r, single.add x y = some r ∧ _
  unfold Format.add
  rcases hx with ⟨m, e, hx⟩ | hx <;> rcases hy with ⟨n, j, hy⟩ | hy <;> rw [hx, hy]
  · simp only [Datum.sum, Option.map_some]
    refine ⟨_, rfl, ?_⟩
    have h1 : ∀ a b : Nat, (if signed false m a + signed false n b = 0 then (false && false) else decide (signed false m a + signed false n b < 0)) = false := by
      intro a b
      have h2 : 0 ≤ signed false m a := Int.natCast_nonneg (m <<< a)
      have h3 : 0 ≤ signed false n b := Int.natCast_nonneg (n <<< b)
      split
      · rfl
      · simp; omega
    rw [h1]
    exact write_sg _ single_bi _ _ _
  · exact ⟨_, rfl, write_inf_sg _ single_bi _⟩
  · exact ⟨_, rfl, write_inf_sg _ single_bi _⟩
  · exact ⟨_, rfl, write_inf_sg _ single_bi _⟩
/-- A difference of two finite numbers. -/
theorem sub_nn {x y : Nat} (hx : ∃ s m e, single.read x = .number s m e) (hy : ∃ s m e, single.read y = .number s m e) : ∃ r, floatBits .sub .f32 x y = some r ∧ NN single r := by
  obtain ⟨s, m, e, hx⟩ := hx
  obtain ⟨t, n, j, hy⟩ := hy
  show ∃ r, single.sub x y = some r ∧ _
  unfold Format.sub
  rw [hx, hy]
  simp only [Datum.opposite, Datum.sum, Option.map_some]
  exact ⟨_, rfl, _, write_sg _ single_bi _ _ _⟩
/-- A square. -/
theorem sq_pos {x : Nat} (hx : NN single x) : ∃ r, floatBits .mul .f32 x x = some r ∧ Sg single false r := by
  obtain ⟨s, hx⟩ := hx
  show ∃ r, single.mul x x = some r ∧ _
  unfold Format.mul
  rcases hx with ⟨m, e, hx⟩ | hx
  · rw [hx]
    simp only [Datum.product, Option.map_some, Bool.xor_self]
    exact ⟨_, rfl, write_sg _ single_bi _ _ _⟩
  · rw [hx]
    simp only [Datum.product, Option.map_some, Bool.xor_self]
    exact ⟨_, rfl, write_inf_sg _ single_bi _⟩
/-- A quotient by a finite number that is not 0. -/
theorem quo_sg {s t : Bool} {x y : Nat} (hx : Sg single s x) (hy : ∃ n j, single.read y = .number t n j ∧ n ≠ 0) : ∃ r, floatBits .quo .f32 x y = some r ∧ Sg single (s ^^ t) r := by
  obtain ⟨n, j, hy, hn⟩ := hy
  show ∃ r, single.div x y = some r ∧ _
  unfold Format.div
  rcases hx with ⟨m, e, hx⟩ | hx <;> rw [hx, hy]
  · simp only [Datum.quotient, if_neg hn, Option.map_some]
    exact ⟨_, rfl, write_sg _ single_bi _ _ _⟩
  · simp only [Datum.quotient, Option.map_some]
    exact ⟨_, rfl, write_inf_sg _ single_bi _⟩

theorem log2_lt_of {m k : Nat} (h : m < 2 ^ k) (hk : 0 < k) : m.log2 < k := by
  by_cases hm : m = 0
  · subst hm; simpa using hk
  · exact (Nat.log2_lt hm).2 h
/-- What the single format reads. -/
theorem read_single_bounds {b : Nat} {s : Bool} {m : Nat} {e : Int} (h : single.read b = .number s m e) : m < 16777216 ∧ -149 ≤ e ∧ e ≤ 104 := by
  have hw : single.signWeight = 2147483648 := by decide
  have hi : single.infRung = 2139095040 := by decide
  have hb : single.binade = 8388608 := by decide
  have hl : single.leastPlace = -149 := by decide
  unfold Format.read at h
  simp only [hw, hi, hb, hl] at h
  split at h
  · injection h with h1 h2 h3
    omega
  · split at h
    · injection h with h1 h2 h3
      omega
    · split at h <;> cases h
theorem cut_even_zero (neg : Bool) (n : Nat) : Toward.even.cut neg n 0 = n := by
  unfold Toward.cut
  simp [Nat.mod_one]
theorem rung_lt {L K : Nat} (h : L ≤ 1149) (h' : K < 9007199254740992) : min (L * 4503599627370496 + K) 9218868437227405312 < 9218868437227405312 := by
  have h7 : L * 4503599627370496 ≤ 1149 * 4503599627370496 := Nat.mul_le_mul_right _ h
  omega
/-- A finite single number is a finite double one. -/
theorem widen {b : Nat} (h : NN single b) : ∃ r, floatToFloatBits .f32 b .f64 = some r ∧ NN double r := by
  obtain ⟨s, ⟨m, e, h⟩ | h⟩ := h
  · obtain ⟨hm, he1, he2⟩ := read_single_bounds h
    have hlt : double.nearest s m e = double.word s 0 ∨ ∃ r, r < double.infRung ∧ double.nearest s m e = double.word s r := by
      by_cases h0 : m = 0
      · exact .inl (by unfold Format.nearest; rw [if_pos h0])
      · refine .inr ?_
        have hl : double.leastPlace = -1074 := by decide
        have hb : double.binade = 4503599627370496 := by decide
        have hi : double.infRung = 9218868437227405312 := by decide
        have hf : double.fractionBits = 52 := rfl
        have hlog := log2_lt_of (k := 24) (m := m) (by omega) (by omega)
        unfold Format.nearest
        rw [if_neg h0]
        simp only [hl, hb, hi, hf]
        have hmax : max (e + (m.log2 : Int) - ((52 : Nat) : Int)) (-1074) = e + (m.log2 : Int) - 52 := by omega
        rw [hmax]
        have h1 : (e + (m.log2 : Int) - 52 - e).toNat = 0 := by omega
        have h2 : (e - (e + (m.log2 : Int) - 52)).toNat = 52 - m.log2 := by omega
        rw [h1, h2, cut_even_zero]
        have h3 : m <<< (52 - m.log2) < 9007199254740992 := by
          rw [Nat.shiftLeft_eq]
          have h4 : m < 2 ^ (m.log2 + 1) := Nat.lt_log2_self
          have h5 : m * 2 ^ (52 - m.log2) < 2 ^ (m.log2 + 1) * 2 ^ (52 - m.log2) := Nat.mul_lt_mul_of_pos_right h4 (Nat.pow_pos (by omega))
          rw [← Nat.pow_add, show m.log2 + 1 + (52 - m.log2) = 53 by omega] at h5
          exact h5
        refine ⟨_, ?_, rfl⟩
        have h6 : (e + (m.log2 : Int) - 52 - -1074).toNat ≤ 1149 := by omega
        exact rung_lt h6 h3
    have hrd : ∃ m' e', double.read (double.nearest s m e) = .number s m' e' := by
      rcases hlt with h1 | ⟨r, hr, h1⟩
      · rw [h1]; exact read_word_lt _ _ (by decide)
      · rw [h1]; exact read_word_lt _ _ hr
    obtain ⟨m', e', hrd⟩ := hrd
    refine ⟨double.nearest s m e, ?_, s, .inl ⟨m', e', hrd⟩⟩
    have hd : FloatKind.f32.decode b = .number s m e := h
    have hni : (FloatKind.f64.decode (FloatKind.f64.encode (.number s m e))).isInfinity = false := by
      show (double.read (double.nearest s m e)).isInfinity = false
      rw [hrd]; rfl
    unfold floatToFloatBits
    rw [if_neg (by decide), hd]
    simp only [hni]
    rfl
  · refine ⟨double.write (.infinity s), ?_, s, write_inf_sg _ double_bi _⟩
    have hd : FloatKind.f32.decode b = .infinity s := h
    unfold floatToFloatBits
    rw [if_neg (by decide), hd]
    rfl
theorem read_single (r : Nat) (h1 : 8388608 ≤ r) (h2 : r < 2139095040) : single.read r = .number false (8388608 + r % 8388608) (-149 + ((r / 8388608 - 1 : Nat) : Int)) := by
  have hw : single.signWeight = 2147483648 := by decide
  have hi : single.infRung = 2139095040 := by decide
  have hb : single.binade = 8388608 := by decide
  have hl : single.leastPlace = -149 := by decide
  have d : r / 2147483648 = 0 := Nat.div_eq_of_lt (by omega)
  have e : r % 2147483648 = r := Nat.mod_eq_of_lt (by omega)
  unfold Format.read
  simp only [hw, hi, hb, hl, d, e]
  rw [if_neg (by omega), if_pos h2]
  rfl
theorem word_false (f : Format) (r : Nat) : f.word false r = r := by
  unfold Format.word
  simp
theorem shl_log {n : Nat} (h0 : n ≠ 0) (h : n < 16777216) : 8388608 ≤ n <<< (23 - n.log2) ∧ n <<< (23 - n.log2) < 16777216 := by
  have hlog := log2_lt_of (k := 24) (m := n) (by omega) (by omega)
  rw [Nat.shiftLeft_eq]
  have h4 : n < 2 ^ (n.log2 + 1) := Nat.lt_log2_self
  have h5 : n * 2 ^ (23 - n.log2) < 2 ^ (n.log2 + 1) * 2 ^ (23 - n.log2) := Nat.mul_lt_mul_of_pos_right h4 (Nat.pow_pos (by omega))
  have h6 : 2 ^ n.log2 ≤ n := Nat.log2_self_le h0
  have h7 : 2 ^ n.log2 * 2 ^ (23 - n.log2) ≤ n * 2 ^ (23 - n.log2) := Nat.mul_le_mul_right _ h6
  rw [← Nat.pow_add] at h5 h7
  rw [show n.log2 + 1 + (23 - n.log2) = 24 by omega] at h5
  rw [show n.log2 + (23 - n.log2) = 23 by omega] at h7
  exact ⟨h7, h5⟩
theorem rung_small {L K : Nat} (h : L ≤ 149) (h1 : 8388608 ≤ K) (h2 : K < 16777216) : min (L * 8388608 + K) 2139095040 = L * 8388608 + K ∧ 8388608 ≤ L * 8388608 + K ∧ L * 8388608 + K < 2139095040 ∧ (L * 8388608 + K) / 8388608 = L + 1 ∧ (L * 8388608 + K) % 8388608 = K - 8388608 := by
  have h7 : L * 8388608 ≤ 149 * 8388608 := Nat.mul_le_mul_right _ h
  refine ⟨by omega, by omega, by omega, by omega, by omega⟩
/-- An integer that is exact in the single format. -/
theorem ofInt_read {n : Nat} (hn : n < 16777216) : ∃ m e, single.read (floatOfInt .f32 (n : Int)) = .number false m e ∧ (0 < n → m ≠ 0 ∧ m < 16777216 ∧ 8388608 ≤ m ∧ e = (n.log2 : Int) - 23) ∧ (n = 0 → m = 0) := by
  have hfo : floatOfInt .f32 (n : Int) = single.nearest false n 0 := by
    show single.nearest (decide ((n : Int) < 0)) (n : Int).natAbs 0 = _
    rw [show decide ((n : Int) < 0) = false by simp]
    rfl
  rw [hfo]
  by_cases h0 : n = 0
  · subst h0
    exact ⟨0, single.leastPlace, by decide +kernel, fun h => absurd h (by omega), fun _ => rfl⟩
  · have hl : single.leastPlace = -149 := by decide
    have hb : single.binade = 8388608 := by decide
    have hi : single.infRung = 2139095040 := by decide
    have hf : single.fractionBits = 23 := rfl
    have hlog := log2_lt_of (k := 24) (m := n) (by omega) (by omega)
    obtain ⟨hK1, hK2⟩ := shl_log h0 hn
    obtain ⟨r1, r2, r3, r4, r5⟩ := rung_small (L := n.log2 + 126) (by omega) hK1 hK2
    have hnr : single.nearest false n 0 = (n.log2 + 126) * 8388608 + n <<< (23 - n.log2) := by
      unfold Format.nearest
      rw [if_neg h0]
      simp only [hl, hb, hi, hf]
      have hmax : max ((0 : Int) + (n.log2 : Int) - ((23 : Nat) : Int)) (-149) = (n.log2 : Int) - 23 := by omega
      rw [hmax]
      have h1 : ((n.log2 : Int) - 23 - 0).toNat = 0 := by omega
      have h2 : (0 - ((n.log2 : Int) - 23)).toNat = 23 - n.log2 := by omega
      have h8 : ((n.log2 : Int) - 23 - -149).toNat = n.log2 + 126 := by omega
      rw [h1, h2, cut_even_zero, h8, word_false, r1]
    rw [hnr, read_single _ r2 r3, r4, r5]
    exact ⟨_, _, rfl, fun _ => ⟨by omega, by omega, by omega, by omega⟩, fun h => absurd h h0⟩

/-- It is a number that is not below 0 and not above 2 ^ (L + 1). -/
def Lg (b : Nat) (L : Int) : Prop := ∃ m e, single.read b = .number false m e ∧ (m.log2 : Int) + e ≤ L
theorem Lg.sg {b : Nat} {L : Int} (h : Lg b L) : Sg single false b := by
  obtain ⟨m, e, h, _⟩ := h
  exact .inl ⟨m, e, h⟩
theorem Sg.nn {f : Format} {s : Bool} {b : Nat} (h : Sg f s b) : NN f b := ⟨s, h⟩
theorem Lg.mono {b : Nat} {L L' : Int} (h : Lg b L) (hl : L ≤ L') : Lg b L' := by
  obtain ⟨m, e, h, h2⟩ := h
  exact ⟨m, e, h, by omega⟩
theorem cut_even_le (n d : Nat) : Toward.even.cut false n d ≤ n / 2 ^ d + 1 := by
  have h1 : n / (1 <<< min d (n.log2 + 2)) ≤ n / 2 ^ d := by
    rw [Nat.shiftLeft_eq, Nat.one_mul]
    rcases Nat.le_total d (n.log2 + 2) with h | h
    · rw [Nat.min_eq_left h]; exact Nat.le_refl _
    · rw [Nat.min_eq_right h]
      have h2 : n < 2 ^ (n.log2 + 1) := Nat.lt_log2_self
      have h3 : 2 ^ (n.log2 + 1) ≤ 2 ^ (n.log2 + 2) := Nat.pow_le_pow_right (by omega) (by omega)
      rw [Nat.div_eq_of_lt (by omega)]
      exact Nat.zero_le _
  unfold Toward.cut
  simp only
  have h4 : ∀ b : Bool, b.toNat ≤ 1 := Bool.toNat_le
  exact Nat.add_le_add h1 (h4 _)
theorem div_pow_lt {M d : Nat} (h : M.log2 ≤ d + 23) : M / 2 ^ d < 16777216 := by
  have h2 : M < 2 ^ (M.log2 + 1) := Nat.lt_log2_self
  have h3 : 2 ^ (M.log2 + 1) ≤ 2 ^ (d + 24) := Nat.pow_le_pow_right (by omega) (by omega)
  rw [Nat.div_lt_iff_lt_mul (Nat.pow_pos (by omega))]
  have h4 : 2 ^ (d + 24) = 16777216 * 2 ^ d := by rw [Nat.pow_add, Nat.mul_comm]
  omega
theorem shl_lt {M k : Nat} (h : M.log2 + k ≤ 23) : M <<< k < 16777216 := by
  rw [Nat.shiftLeft_eq]
  have h4 : M < 2 ^ (M.log2 + 1) := Nat.lt_log2_self
  have h5 : M * 2 ^ k < 2 ^ (M.log2 + 1) * 2 ^ k := Nat.mul_lt_mul_of_pos_right h4 (Nat.pow_pos (by omega))
  rw [← Nat.pow_add] at h5
  have h6 : 2 ^ (M.log2 + 1 + k) ≤ 2 ^ 24 := Nat.pow_le_pow_right (by omega) (by omega)
  omega
theorem rung_bound {L K : Nat} (h : L ≤ 250) (h2 : K ≤ 16777216) : min (L * 8388608 + K) 2139095040 = L * 8388608 + K ∧ L * 8388608 + K < 2139095040 ∧ (L * 8388608 + K) / 8388608 ≤ L + 2 := by
  have h7 : L * 8388608 ≤ 250 * 8388608 := Nat.mul_le_mul_right _ h
  refine ⟨by omega, by omega, ?_⟩
  have h8 : (L + 2) * 8388608 = L * 8388608 + 16777216 := by rw [Nat.add_mul]
  exact Nat.le_of_lt_succ ((Nat.div_lt_iff_lt_mul (by omega)).2 (by rw [Nat.succ_mul]; omega))
theorem read_low (r : Nat) (h1 : r < 8388608) : single.read r = .number false r (-149) := by
  have hw : single.signWeight = 2147483648 := by decide
  have hb : single.binade = 8388608 := by decide
  have hl : single.leastPlace = -149 := by decide
  have d : r / 2147483648 = 0 := Nat.div_eq_of_lt (by omega)
  have e : r % 2147483648 = r := Nat.mod_eq_of_lt (by omega)
  unfold Format.read
  simp only [hw, hb, hl, d, e]
  rw [if_pos h1]
  rfl
theorem read_lg {r L : Nat} (h1 : r < 2139095040) (h2 : r / 8388608 ≤ L + 2) : Lg r ((L : Int) - 125) := by
  rcases Nat.lt_or_ge r 8388608 with h | h
  · refine ⟨r, -149, read_low r h, ?_⟩
    have := log2_lt_of (k := 23) (m := r) (by omega) (by omega)
    omega
  · refine ⟨_, _, read_single r h h1, ?_⟩
    have h3 : r % 8388608 < 8388608 := Nat.mod_lt _ (by omega)
    have h5 : 8388608 + r % 8388608 < 2 ^ 24 := by omega
    have h4 := log2_lt_of (k := 24) (m := 8388608 + r % 8388608) h5 (by omega)
    have h6 : 1 ≤ r / 8388608 := (Nat.le_div_iff_mul_le (by omega)).2 (by omega)
    omega
/-- The nearest word of a number that is not great. -/
theorem nearest_lg {M : Nat} {p L : Int} (h : M ≠ 0 → (M.log2 : Int) + p ≤ L) (h1 : -100 ≤ L) (h2 : L ≤ 100) : Lg (single.nearest false M p) (L + 1) := by
  have hl : single.leastPlace = -149 := by decide
  have hb : single.binade = 8388608 := by decide
  have hi : single.infRung = 2139095040 := by decide
  have hf : single.fractionBits = 23 := rfl
  by_cases h0 : M = 0
  · subst h0
    have e : single.nearest false 0 p = 0 := by unfold Format.nearest; rw [if_pos rfl, word_false]
    rw [e]
    exact (read_lg (L := 0) (by omega) (by omega)).mono (by omega)
  · have h3 := h h0
    obtain ⟨last, hla⟩ : ∃ last : Int, last = max (p + (M.log2 : Int) - ((23 : Nat) : Int)) (-149) := ⟨_, rfl⟩
    obtain ⟨N, hN⟩ : ∃ N, N = (last - -149).toNat := ⟨_, rfl⟩
    have hNb : (N : Int) - 125 ≤ L + 1 ∧ N ≤ 250 := by omega
    have hk : Toward.even.cut false (M <<< (p - last).toNat) (last - p).toNat ≤ 16777216 := by
      rcases Int.le_total last p with h4 | h4
      · rw [show (last - p).toNat = 0 by omega, cut_even_zero]
        exact Nat.le_of_lt (shl_lt (by omega))
      · rw [show (p - last).toNat = 0 by omega, Nat.shiftLeft_zero]
        have h5 := cut_even_le M (last - p).toNat
        have h6 := div_pow_lt (M := M) (d := (last - p).toNat) (by omega)
        omega
    obtain ⟨K, hK⟩ : ∃ K, K = Toward.even.cut false (M <<< (p - last).toNat) (last - p).toNat := ⟨_, rfl⟩
    rw [← hK] at hk
    obtain ⟨r1, r2, r3⟩ := rung_bound (L := N) (K := K) hNb.2 hk
    have hnr : single.nearest false M p = N * 8388608 + K := by
      unfold Format.nearest
      rw [if_neg h0]
      simp only [hl, hb, hi, hf]
      rw [← hla, ← hK, ← hN, word_false, r1]
    rw [hnr]
    exact (read_lg r2 r3).mono hNb.1
/-- A share. -/
theorem quo_lg {n k : Nat} (hn : n ≤ k) (hk : 0 < k) (hk2 : k < 16777216) : ∃ r, floatBits .quo .f32 (floatOfInt .f32 (n : Int)) (floatOfInt .f32 (k : Int)) = some r ∧ Lg r 1 := by
  obtain ⟨m, e, hx, hx1, hx0⟩ := ofInt_read (n := n) (by omega)
  obtain ⟨d, j, hy, hy1, _⟩ := ofInt_read (n := k) hk2
  obtain ⟨hd0, hd2, hd1, hj⟩ := hy1 hk
  show ∃ r, single.div _ _ = some r ∧ _
  unfold Format.div
  rw [hx, hy]
  simp only [Datum.quotient, if_neg hd0, Option.map_some, Bool.xor_self]
  refine ⟨_, rfl, ?_⟩
  show Lg (single.nearest false _ _) (0 + 1)
  refine nearest_lg (fun hM => ?_) (by omega) (by omega)
  have hld : d.log2 = 23 := by
    have h1 := log2_lt_of (k := 24) (m := d) (by omega) (by omega)
    have h2 := (Nat.le_log2 hd0 (k := 23)).2 (by omega)
    omega
  by_cases hn0 : n = 0
  · have hm0 := hx0 hn0
    subst hm0
    exfalso
    apply hM
    simp
  · obtain ⟨hm0, hm2, hm1, he⟩ := hx1 (by omega)
    have hlm : m.log2 = 23 := by
      have h1 := log2_lt_of (k := 24) (m := m) (by omega) (by omega)
      have h2 := (Nat.le_log2 hm0 (k := 23)).2 (by omega)
      omega
    have hlog : n.log2 ≤ k.log2 := by
      have h1 : n < 2 ^ (k.log2 + 1) := by have : k < 2 ^ (k.log2 + 1) := Nat.lt_log2_self; omega
      have := (Nat.log2_lt hn0).2 h1
      omega
    have hmore : single.fractionBits + 2 + d.log2 - m.log2 = 25 := by rw [hld, hlm]; rfl
    rw [hmore] at hM ⊢
    have hdiv : m <<< 25 / d < 67108864 := by
      rw [Nat.shiftLeft_eq, Nat.div_lt_iff_lt_mul (by omega)]
      have : 67108864 * 8388608 ≤ 67108864 * d := Nat.mul_le_mul_left _ hd1
      omega
    have hb : ∀ b : Bool, b.toNat ≤ 1 := Bool.toNat_le
    have hb1 := hb (m <<< 25 % d != 0)
    have hlg := (Nat.log2_lt hM (k := 27)).2 (by omega)
    omega
/-- The share of n of k, as the program's floats tell it. -/
def shareB (n k : Nat) : Nat := (floatBits .quo .f32 (floatOfInt .f32 (n : Int)) (floatOfInt .f32 (k : Int))).getD 0
theorem shareB_spec {n k : Nat} (hn : n ≤ k) (hk : 0 < k) (hk2 : k < 16777216) : floatBits .quo .f32 (floatOfInt .f32 (n : Int)) (floatOfInt .f32 (k : Int)) = some (shareB n k) ∧ Lg (shareB n k) 1 := by
  obtain ⟨r, h1, h2⟩ := quo_lg hn hk hk2
  unfold shareB
  rw [h1]
  exact ⟨rfl, h2⟩
end Go.Proofs.Ytmmolicodlmlkaa
namespace Go.Proofs.Ytmmolicodlmlkaa
open Go.RowKit Ieee
set_option linter.unusedVariables false

/-- It is a normal number, not below 0, of 24 digits, from 2 ^ a up to less than 2 ^ (b + 1). -/
def Nm (x : Nat) (a b : Int) : Prop := ∃ m e, single.read x = .number false m e ∧ 8388608 ≤ m ∧ m < 16777216 ∧ a ≤ e + 23 ∧ e + 23 ≤ b
theorem Nm.sg {x : Nat} {a b : Int} (h : Nm x a b) : Sg single false x := by
  obtain ⟨m, e, h, _⟩ := h
  exact .inl ⟨m, e, h⟩
theorem Nm.mono {x : Nat} {a b a' b' : Int} (h : Nm x a b) (ha : a' ≤ a) (hb : b ≤ b') : Nm x a' b' := by
  obtain ⟨m, e, h, h1, h2, h3, h4⟩ := h
  exact ⟨m, e, h, h1, h2, by omega, by omega⟩
theorem cut_even_ge (n d : Nat) (h : d ≤ n.log2 + 2) : n / 2 ^ d ≤ Toward.even.cut false n d := by
  unfold Toward.cut
  simp only
  rw [Nat.min_eq_left h, Nat.shiftLeft_eq, Nat.one_mul]
  exact Nat.le_add_right _ _
theorem div_pow_ge {M d : Nat} (h0 : M ≠ 0) (h : M.log2 = d + 23) : 8388608 ≤ M / 2 ^ d := by
  have h2 : 2 ^ M.log2 ≤ M := Nat.log2_self_le h0
  rw [Nat.le_div_iff_mul_le (Nat.pow_pos (by omega))]
  have h4 : 2 ^ (d + 23) = 8388608 * 2 ^ d := by rw [Nat.pow_add, Nat.mul_comm]
  rw [h, h4] at h2
  exact h2
theorem shl_ge {M k : Nat} (h0 : M ≠ 0) (h : M.log2 + k = 23) : 8388608 ≤ M <<< k := by
  rw [Nat.shiftLeft_eq]
  have h2 : 2 ^ M.log2 ≤ M := Nat.log2_self_le h0
  have h3 : 2 ^ M.log2 * 2 ^ k ≤ M * 2 ^ k := Nat.mul_le_mul_right _ h2
  rw [← Nat.pow_add, h] at h3
  exact h3
theorem rung_norm {L K : Nat} (h : L ≤ 250) (h1 : 8388608 ≤ K) (h2 : K ≤ 16777216) : 8388608 ≤ L * 8388608 + K ∧ ((K = 16777216 ∧ (L * 8388608 + K) / 8388608 = L + 2 ∧ (L * 8388608 + K) % 8388608 = 0) ∨ (K < 16777216 ∧ (L * 8388608 + K) / 8388608 = L + 1 ∧ (L * 8388608 + K) % 8388608 = K - 8388608)) := by
  refine ⟨by omega, ?_⟩
  rcases (show K = 16777216 ∨ K < 16777216 by omega) with h3 | h3
  · exact .inl ⟨h3, by omega, by omega⟩
  · exact .inr ⟨h3, by omega, by omega⟩
/-- The nearest word of a number that is neither small nor great. -/
theorem nearest_nm {M : Nat} {p : Int} (h0 : M ≠ 0) (h1 : -100 ≤ (M.log2 : Int) + p) (h2 : (M.log2 : Int) + p ≤ 99) : Nm (single.nearest false M p) ((M.log2 : Int) + p) ((M.log2 : Int) + p + 1) := by
  have hl : single.leastPlace = -149 := by decide
  have hb : single.binade = 8388608 := by decide
  have hi : single.infRung = 2139095040 := by decide
  have hf : single.fractionBits = 23 := rfl
  obtain ⟨last, hla⟩ : ∃ last : Int, last = max (p + (M.log2 : Int) - ((23 : Nat) : Int)) (-149) := ⟨_, rfl⟩
  obtain ⟨N, hN⟩ : ∃ N, N = (last - -149).toNat := ⟨_, rfl⟩
  have hlast : last = p + (M.log2 : Int) - 23 := by omega
  have hNb : (N : Int) = last + 149 ∧ N ≤ 250 := by omega
  have hk : 8388608 ≤ Toward.even.cut false (M <<< (p - last).toNat) (last - p).toNat ∧ Toward.even.cut false (M <<< (p - last).toNat) (last - p).toNat ≤ 16777216 := by
    rcases Int.le_total last p with h4 | h4
    · rw [show (last - p).toNat = 0 by omega, cut_even_zero]
      exact ⟨shl_ge h0 (by omega), Nat.le_of_lt (shl_lt (by omega))⟩
    · rw [show (p - last).toNat = 0 by omega, Nat.shiftLeft_zero]
      have h5 := cut_even_le M (last - p).toNat
      have h6 := div_pow_lt (M := M) (d := (last - p).toNat) (by omega)
      have h7 := cut_even_ge M (last - p).toNat (by omega)
      have h8 := div_pow_ge (M := M) (d := (last - p).toNat) h0 (by omega)
      omega
  obtain ⟨K, hK⟩ : ∃ K, K = Toward.even.cut false (M <<< (p - last).toNat) (last - p).toNat := ⟨_, rfl⟩
  rw [← hK] at hk
  obtain ⟨r1, r2, r3⟩ := rung_bound (L := N) (K := K) hNb.2 hk.2
  obtain ⟨q1, q2⟩ := rung_norm (L := N) hNb.2 hk.1 hk.2
  have hnr : single.nearest false M p = N * 8388608 + K := by
    unfold Format.nearest
    rw [if_neg h0]
    simp only [hl, hb, hi, hf]
    rw [← hla, ← hK, ← hN, word_false, r1]
  rw [hnr]
  have hNl := hNb.1
  clear hK hla hN hnr r1 r3
  rcases q2 with ⟨h3, h4, h5⟩ | ⟨h3, h4, h5⟩
  · refine ⟨_, _, read_single _ q1 r2, ?_⟩
    rw [h4, h5]
    omega
  · refine ⟨_, _, read_single _ q1 r2, ?_⟩
    rw [h4, h5]
    omega
/-- An integer that is not 0. -/
theorem ofInt_nm {n : Nat} (h0 : n ≠ 0) (hn : n.log2 ≤ 90) : Nm (floatOfInt .f32 (n : Int)) (n.log2 : Int) ((n.log2 : Int) + 1) := by
  have hfo : floatOfInt .f32 (n : Int) = single.nearest false n 0 := by
    show single.nearest (decide ((n : Int) < 0)) (n : Int).natAbs 0 = _
    rw [show decide ((n : Int) < 0) = false by simp]
    rfl
  rw [hfo]
  exact (nearest_nm (p := 0) h0 (by omega) (by omega)).mono (by omega) (by omega)
/-- A quotient. -/
theorem quo_nm {x y : Nat} {a b c d : Int} (hx : Nm x a b) (hy : Nm y c d) (h1 : -90 ≤ a - d) (h2 : b - c ≤ 90) : ∃ r, floatBits .quo .f32 x y = some r ∧ Nm r (a - d - 1) (b - c + 1) := by
  obtain ⟨m, e, hx, m1, m2, m3, m4⟩ := hx
  obtain ⟨n, j, hy, n1, n2, n3, n4⟩ := hy
  have hn0 : n ≠ 0 := by omega
  have hm0 : m ≠ 0 := by omega
  have hlm : m.log2 = 23 := by
    have h1 := log2_lt_of (k := 24) (m := m) (by omega) (by omega)
    have h2 := (Nat.le_log2 hm0 (k := 23)).2 (by omega)
    omega
  have hln : n.log2 = 23 := by
    have h1 := log2_lt_of (k := 24) (m := n) (by omega) (by omega)
    have h2 := (Nat.le_log2 hn0 (k := 23)).2 (by omega)
    omega
  have hmore : single.fractionBits + 2 + n.log2 - m.log2 = 25 := by rw [hln, hlm]; rfl
  have hd1 : m <<< 25 / n < 67108864 := by
    rw [Nat.shiftLeft_eq, Nat.div_lt_iff_lt_mul (by omega)]
    have : 67108864 * 8388608 ≤ 67108864 * n := Nat.mul_le_mul_left _ n1
    omega
  have hd2 : 16777216 ≤ m <<< 25 / n := by
    rw [Nat.shiftLeft_eq, Nat.le_div_iff_mul_le (by omega)]
    exact Nat.le_trans (Nat.mul_le_mul_left 16777216 (show n ≤ 16777216 by omega)) (Nat.le_trans (by decide) (Nat.mul_le_mul_right (2 ^ 25) m1))
  show ∃ r, single.div x y = some r ∧ _
  unfold Format.div
  rw [hx, hy]
  simp only [Datum.quotient, if_neg hn0, Option.map_some, Bool.xor_self, hmore]
  refine ⟨_, rfl, ?_⟩
  have hbt : ∀ b : Bool, b.toNat ≤ 1 := Bool.toNat_le
  have hb1 := hbt (m <<< 25 % n != 0)
  obtain ⟨M, hM⟩ : ∃ M, M = 2 * (m <<< 25 / n) + (m <<< 25 % n != 0).toNat := ⟨_, rfl⟩
  have hM0 : M ≠ 0 := by omega
  have hM1 : M < 2 ^ 27 := by omega
  have hM2 : 2 ^ 25 ≤ M := by omega
  have hlg := (Nat.log2_lt hM0 (k := 27)).2 hM1
  have hlg2 := (Nat.le_log2 hM0 (k := 25)).2 hM2
  show Nm (single.nearest false (2 * (m <<< 25 / n) + (m <<< 25 % n != 0).toNat) (e - j - ((25 : Nat) : Int) - 1)) _ _
  rw [← hM]
  clear hM hb1 hbt hd1 hd2
  exact (nearest_nm hM0 (by omega) (by omega)).mono (by omega) (by omega)
end Go.Proofs.Ytmmolicodlmlkaa
namespace Go.Proofs.Ytmmolicodlmlkaa
open Go.RowKit
set_option linter.unusedVariables false

end Go.Proofs.Ytmmolicodlmlkaa
namespace Go.Proofs.Ytmmolicodlmlkaa
open Go.RowKit Ieee
set_option linter.unusedVariables false
set_option linter.unusedSimpArgs false

end Go.Proofs.Ytmmolicodlmlkaa
namespace Go.Proofs.Ytmmolicodlmlkaa
open Go.RowKit Ieee
set_option linter.unusedVariables false
set_option linter.unusedSimpArgs false

theorem getD_of {x : List Int} {k : Nat} {y : Int} (h : Hid (x[k]? = some y)) : x.getD k 0 = y := by rw [List.getD_eq_getElem?_getD, h.out]; rfl
/-- It is a number, not below 0. -/
def Fin0 (r : Nat) : Prop := ∃ m e, single.read r = .number false m e
theorem Fin0.nn {r : Nat} (h : Fin0 r) : NN single r := by
  obtain ⟨m, e, h⟩ := h
  exact ⟨false, .inl ⟨m, e, h⟩⟩
theorem log2_le_of {n k : Nat} (h : n < 2 ^ (k + 1)) : n.log2 ≤ k := by
  have := log2_lt_of h (by omega)
  omega
end Go.Proofs.Ytmmolicodlmlkaa
namespace Go.Proofs.Ytmmolicodlmlkaa
open Go.RowKit Ieee
set_option linter.unusedVariables false
set_option linter.unusedSimpArgs false

end Go.Proofs.Ytmmolicodlmlkaa
namespace Go.Proofs.Ytmmolicodlmlkaa
open Go.RowKit
set_option linter.unusedVariables false

theorem w64_of_bounds {a : Int} (h : -9223372036854775808 ≤ a ∧ a ≤ 9223372036854775807) : W64 a := by
  simpa [W64, Lit.wf, IntKind.min, IntKind.max, IntKind.signed, IntKind.bits] using h
end Go.Proofs.Ytmmolicodlmlkaa
namespace Go.Proofs.Ytmmolicodlmlkaa
open Go.RowKit

/-- d is added at all listed places. -/
def addAt (d : Int) (x l : List Int) : List Int := l.foldl (fun x p => x.set p.toNat (x.getD p.toNat 0 + d)) x
theorem addAt_length (d : Int) (x l : List Int) : (addAt d x l).length = x.length := by
  unfold addAt
  induction l generalizing x with
  | nil => rfl
  | cons a l ih => rw [List.foldl_cons, ih]; simp
theorem addAt_zero (d : Int) (x l : List Int) : addAt d x (l.take 0) = x := by simp [addAt]
theorem addAt_succ {d : Int} {x l : List Int} {k m : Nat} {u : Int} (h : Hid (l[k]? = some (m : Int))) (hu : Hid ((addAt d x (l.take k))[m]? = some u)) : (addAt d x (l.take k)).set m (u + d) = addAt d x (l.take (k + 1)) := by
  have hu' := hu.out
  unfold addAt at hu' ⊢
  rw [List.take_add_one, h.out, List.foldl_append]
  simp only [Option.toList_some, List.foldl_cons, List.foldl_nil, Int.toNat_natCast]
  rw [List.getD_eq_getElem?_getD, hu']
  rfl
theorem addAt_bound {lo hi D d : Int} {x l : List Int} (hx : ∀ y ∈ x, lo ≤ y ∧ y ≤ hi) (hd : -D ≤ d ∧ d ≤ D) (hD : 0 ≤ D) : ∀ y ∈ addAt d x l, lo - D * (l.length : Int) ≤ y ∧ y ≤ hi + D * (l.length : Int) := by
  induction l generalizing x lo hi with
  | nil =>
    intro y hy
    have := hx y hy
    simp only [List.length_nil, Int.natCast_zero, Int.mul_zero]
    omega
  | cons a l ih =>
    have h1 : ∀ y ∈ x.set a.toNat (x.getD a.toNat 0 + d), lo - D ≤ y ∧ y ≤ hi + D := by
      intro y hy
      by_cases hlt : a.toNat < x.length
      · rcases List.mem_or_eq_of_mem_set hy with h | h
        · have := hx y h; omega
        · subst h
          have hm : x.getD a.toNat 0 ∈ x := by rw [List.getD_eq_getElem?_getD, List.getElem?_eq_getElem hlt]; simp
          have := hx _ hm
          omega
      · rw [List.set_eq_of_length_le (by omega)] at hy
        have := hx y hy; omega
    intro y hy
    have h2 := ih h1 y (by simpa [addAt] using hy)
    have h3 : D * ((l.length + 1 : Nat) : Int) = D * (l.length : Int) + D := by rw [Int.natCast_add]; simp [Int.mul_add]
    rw [List.length_cons, h3]
    omega
end Go.Proofs.Ytmmolicodlmlkaa
namespace Go.Proofs.Ytmmolicodlmlkaa
open Go.RowKit
set_option linter.unusedVariables false

end Go.Proofs.Ytmmolicodlmlkaa
namespace Go.Proofs.Ytmmolicodlmlkaa
open Go.RowKit
set_option linter.unusedVariables false

theorem AreKeys_any (A : Option Addr) (c : Nat) (xs : List Int) (w : World) (hx : RdL (Value.int .i64) w A xs) (hn : xs.length ≤ 1048576) :
    Calls Try.prog 65 #[.slice A xs.length c] w fun e w' => e = .returned (.bool (decide ((xs.length : Int) ≤ 256) && allB xs 0 4294967295)) ∧ w = w' := by
  have HX := hid hx
  clear hx
  by_cases h : (xs.length : Int) ≤ 256
  · go_enter Try.func65, Try.ntmps65
    go_wp2_with fail
    refine (areAllKeys_any A c xs _ HX.out hn).mono ?_
    rintro e w' ⟨rfl, rfl⟩
    go_wp2
    go_ret
    exact ⟨by simp [h], rfl⟩
  · go_enter Try.func65, Try.ntmps65
    go_wp2
    go_ret
    exact ⟨by simp; omega, rfl⟩
end Go.Proofs.Ytmmolicodlmlkaa
namespace Go.Proofs.Ytmmolicodlmlkaa
open Go.RowKit
set_option linter.unusedVariables false

end Go.Proofs.Ytmmolicodlmlkaa
namespace Go.Proofs.Ytmmolicodlmlkaa
open Go.RowKit
set_option linter.unusedVariables false

end Go.Proofs.Ytmmolicodlmlkaa
namespace Go.Proofs.Ytmmolicodlmlkaa
open Go.RowKit
set_option linter.unusedVariables false

end Go.Proofs.Ytmmolicodlmlkaa
namespace Go.Proofs.Ytmmolicodlmlkaa
open Go.RowKit
set_option linter.unusedVariables false

end Go.Proofs.Ytmmolicodlmlkaa
namespace Go.Proofs.Ytmmolicodlmlkaa
open Go.RowKit
set_option linter.unusedVariables false

/-- The least one; 0 if there is none. -/
def minL : List Int → Int
  | [] => 0
  | a :: l => l.foldl min a
theorem minL_snoc {l : List Int} (a : Int) (h : l ≠ []) : minL (l ++ [a]) = min (minL l) a := by
  cases l with
  | nil => exact absurd rfl h
  | cons b l => simp [minL, List.foldl_append]
set_option maxHeartbeats 1000000 in
theorem slMin_any (A : Option Addr) (c : Nat) (x : List Int) (w : World) (hx : RdL (Value.int .i64) w A x) (hn : x.length ≤ 1048576) (hp : 0 < x.length) :
    Calls Try.prog 104 #[.slice A x.length c] w fun e w' => e = .returned (.int .i64 (minL x)) ∧ w = w' := by
  have HX := hid hx
  clear hx
  obtain ⟨b, o, y0, rfl, hy0, hym0⟩ := HX.out.at_ hp
  have hs : Hid (minL (x.take 1) = y0) := by
    show _ = _
    rw [show x.take 1 = x.take (0 + 1) from rfl, List.take_add_one, hym0.out]
    simp [minL]
  have hy0' : w.cell? ⟨b, o, none⟩ = some (.int .i64 y0) := by simpa using hy0
  go_enter Try.func104, Try.ntmps104
  go_wp2
  go_loop [3, 4] (fun v i => ∃ k : Nat, 1 ≤ k ∧ k ≤ x.length ∧ i = .int .i64 k ∧ ∃ z : Int, v = .int .i64 z ∧ Hid (minL (x.take k) = z)) (fun v i => x.length - (intOf i).toNat)
  case atStart => exact ⟨1, Nat.le_refl _, hp, rfl, _, rfl, hs⟩
  case round =>
    obtain ⟨k, hk1, hk, rfl, z, rfl, hh⟩ := hrel
    by_cases hlt : k < x.length
    · have hi : (k : Int) < (x.length : Int) := by omega
      obtain ⟨b', o', y, hA', hcy, hym⟩ := HX.out.at_ hlt
      obtain ⟨rfl, rfl⟩ : b = b' ∧ o = o' := by injection hA' with hA'; injection hA' with h1 h2; exact ⟨h1, h2⟩
      have hne : x.take k ≠ [] := by
        intro h
        have h2 : (x.take k).length = k := by simp; omega
        rw [h] at h2; simp at h2; omega
      have he : Hid (minL (x.take (k + 1)) = min z y) := by
        show _ = _
        rw [List.take_add_one, hym.out, Option.toList_some, minL_snoc y hne, hh.out]
      clear hA' hne
      by_cases hzy : z ≤ y
      · rw [show min z y = z by omega] at he
        go_wp2
        exact ⟨⟨k + 1, by omega, by omega, by go_num, _, rfl, he⟩, by simp [intOf]; omega⟩
      · rw [show min z y = y by omega] at he
        have hyz : y < z := by omega
        clear hzy
        go_wp2
        exact ⟨⟨k + 1, by omega, by omega, by go_num, _, rfl, he⟩, by simp [intOf]; omega⟩
    · have hi : ¬ (k : Int) < (x.length : Int) := by omega
      go_wp2
      go_ret
      have he := hh.out
      rw [List.take_of_length_le (by omega)] at he
      exact ⟨ret_int he.symm, rfl⟩
end Go.Proofs.Ytmmolicodlmlkaa
namespace Go.Proofs.Ytmmolicodlmlkaa
open Go.RowKit
set_option linter.unusedVariables false
set_option linter.unusedSimpArgs false

theorem below_drewX {B m : Nat} {w w' : World} (h : Below B w w') : Below B w (w'.drewN m) := ⟨h.os, h.tape, h.output, h.size, h.block⟩
theorem allB_iff {x : List Int} {lo hi : Int} (h : allB x lo hi = true) : ∀ y ∈ x, lo ≤ y ∧ y ≤ hi := fun y hy => by
  unfold allB at h
  rw [List.all_eq_true] at h
  exact inB_iff.1 (h y hy)

end Go.Proofs.Ytmmolicodlmlkaa
namespace Go.Proofs.Ytmmolicodlmlkaa
open Go.RowKit Ieee
set_option linter.unusedVariables false
set_option linter.unusedSimpArgs false

/-- The hash of the key at place k. -/
def hashAt (x : List Int) (salt k : Nat) : Nat := hashN (x.getD k 0).toNat salt
/-- The first index of the least hash of the first n keys. -/
def leastTo (x : List Int) (salt : Nat) : Nat → Nat
  | 0 => 0
  | n + 1 => if hashAt x salt n < hashAt x salt (leastTo x salt n) then n else leastTo x salt n
theorem leastTo_one (x : List Int) (salt : Nat) : leastTo x salt 1 = 0 := by
  unfold leastTo leastTo
  split <;> rfl
theorem leastTo_lt (x : List Int) (salt : Nat) {n : Nat} (h : 0 < n) : leastTo x salt n < n := by
  induction n with
  | zero => omega
  | succ n ih =>
    unfold leastTo
    split
    · omega
    · rcases (show n = 0 ∨ 0 < n by omega) with rfl | h1
      · unfold leastTo; omega
      · have := ih h1; omega
/-- No hash is less, and those before it are greater. -/
theorem leastTo_spec (x : List Int) (salt : Nat) : ∀ n k, k < n → hashAt x salt (leastTo x salt n) ≤ hashAt x salt k ∧ (k < leastTo x salt n → hashAt x salt (leastTo x salt n) < hashAt x salt k) := by
  intro n
  induction n with
  | zero => intro k hk; omega
  | succ n ih =>
    intro k hk
    rw [leastTo]
    split
    · rename_i h
      rcases (show k = n ∨ k < n by omega) with rfl | h1
      · exact ⟨Nat.le_refl _, fun h2 => absurd h2 (by omega)⟩
      · have := (ih k h1).1
        exact ⟨by omega, fun _ => by omega⟩
    · rename_i h
      rcases (show k = n ∨ k < n by omega) with rfl | h1
      · refine ⟨by omega, fun h2 => ?_⟩
        rcases (show k = 0 ∨ 0 < k by omega) with rfl | h3
        · unfold leastTo at h2; omega
        · have := leastTo_lt x salt h3; omega
      · exact ih k h1

/-- The hashes of the first n keys. -/
def rowH (x : List Int) (salt n : Nat) : List Int := (List.range n).map fun k => (hashAt x salt k : Int)
theorem rowH_succ (x : List Int) (salt n : Nat) : rowH x salt (n + 1) = rowH x salt n ++ [(hashAt x salt n : Int)] := by simp [rowH, List.range_succ]
theorem rowH_length (x : List Int) (salt n : Nat) : (rowH x salt n).length = n := by simp [rowH]
theorem rowH_at {x : List Int} {salt n k : Nat} (h : k < n) : (rowH x salt n)[k]? = some (hashAt x salt k : Int) := by simp [rowH, h]
theorem rowH_min (x : List Int) (salt : Nat) {n : Nat} (h : 0 < n) : minL (rowH x salt n) = (hashAt x salt (leastTo x salt n) : Int) := by
  induction n with
  | zero => omega
  | succ n ih =>
    rcases (show n = 0 ∨ 0 < n by omega) with rfl | h1
    · rw [leastTo_one]; rfl
    · rw [rowH_succ, minL_snoc _ (by intro h2; have h3 := congrArg List.length h2; rw [rowH_length] at h3; simp at h3; omega), ih h1, leastTo]
      split <;> omega
set_option maxRecDepth 100000 in
set_option maxHeartbeats 1600000 in
theorem hashRow_any (A : Option Addr) (c : Nat) (x : List Int) (salt : Nat) (w : World) (hx : RdL (Value.int .i64) w A x) (hn : x.length ≤ 256) (hbd : ∀ y ∈ x, 0 ≤ y ∧ y ≤ 4294967295) (hs : salt < 4294967296) :
    Calls Try.prog 83 #[.slice A x.length c, .int .i64 salt] w (RetL (Value.int .i64) 2 w (rowH x salt x.length)) := by
  obtain ⟨i0, hi0, hz0, hz1, hz2⟩ := info_parts Try.infoI
  have HX := hid hx
  have HBD := hid hbd
  clear hx hbd
  go_enter Try.func83, Try.ntmps83
  go_wp2
  go_loopw [5, 7, 11] (fun v e_ i wr => ∃ k : Nat, k ≤ x.length ∧ i = .int .i64 k ∧ Hid (wr.ownsRow w.heap.size 2 1 v k ((rowH x salt k).map (Value.int .i64))) ∧ Hid (Below w.heap.size w wr)) (fun _ e_ i _ => x.length - (intOf i).toNat)
  case atStart => exact ⟨0, Nat.zero_le _, rfl, World.ownsRow_made w #[] 0 (Nat.le_refl _) (Nat.zero_le _) rfl, below_a1 _ _⟩
  case round =>
    obtain ⟨k, hkr, rfl, hown, hW⟩ := hrel
    by_cases hlt : k < x.length
    · have hi : (k : Int) < (x.length : Int) := by omega
      obtain ⟨b, o, y, rfl, hcy, hyk⟩ := (HX.out.below hW.out).at_ hlt
      have hyb := HBD.out y (List.mem_of_getElem? hyk.out)
      obtain ⟨yn, rfl⟩ := Int.eq_ofNat_of_zero_le hyb.1
      have hyl : yn < 4294967296 := by omega
      obtain ⟨hv, hve⟩ : ∃ h, h = hashN yn salt := ⟨_, rfl⟩
      have HV : Hid (hashAt x salt k = hv) := by show _ = _; unfold hashAt; rw [getD_of hyk, hve]; simp
      have C1 : Hid (∀ w, Calls Try.prog 111 #[.int .i64 (yn : Int), .int .i64 (salt : Int)] w fun e w'' => e = .returned (.int .i64 hv) ∧ w = w'') := fun w => (ihash_any yn salt w hyl hs).mono fun _ _ ⟨h, h'⟩ => ⟨by rw [h, hve], h'⟩
      clear hve hyb
      go_wp2_with (first | (go_at_call 111; refine (C1.out _).mono ?_; rintro e w' ⟨rfl, rfl⟩) | (at_builtin; refine wpList_append_own _ rfl _ _ 22 rfl w.heap.size 2 i0 (.int .i64 0) 1 8 Try.underlying22 hi0 hz0 hz1 hz2 rfl (by decide) _ _ _ rfl (hown.out.alloc _) ⟨wr.heap.size, 0, none⟩ 1 1 [.int .i64 hv] rfl rfl ?c1 ?c2 ?c3 ?c4 ?c5 ?_))
      case c1 => exact cell_one_new _ _ _
      case c2 => intro u hu; simp at hu; subst hu; rfl
      case c3 => simp only [maxLen]; omega
      case c4 => omega
      case c5 => have := hW.out.size; simp; omega
      intro v' w1 hown' hgrow _
      have hd : (rowH x salt k).map (Value.int .i64) ++ [Value.int .i64 hv] = (rowH x salt (k + 1)).map (Value.int .i64) := by rw [rowH_succ, HV.out]; simp
      rw [hd] at hown'
      have O1 := hid hown'
      have W1 : Hid (Below w.heap.size w w1) := (hW.out.alloc hW.out.size _).grown hgrow (by have := hW.out.size; simp; omega) (fun g hg => (hown.out.alloc (.cells #[.int .i64 hv] 2)).lt g hg |>.1)
      clear hown' hgrow hd
      go_wp2
      exact ⟨⟨k + 1, by omega, by go_num, O1, W1⟩, by simp [intOf]; omega⟩
    · have hi : ¬ (k : Int) < (x.length : Int) := by omega
      obtain rfl : k = x.length := by omega
      go_wp2
      go_ret
      obtain ⟨A', c', hv, ho⟩ := ownS_of_row hown.out (rowH_length _ _ _)
      exact ⟨A', c', congrArg Ending.returned hv, ho, hW.out⟩
set_option maxHeartbeats 1600000 in
theorem slIndex_any (A : Option Addr) (c : Nat) (x : List Int) (v : Int) (k0 : Nat) (w : World) (hx : RdL (Value.int .i64) w A x) (hn : x.length ≤ 1048576) (h0 : x[k0]? = some v) (hmin : ∀ k, k < k0 → x[k]? ≠ some v) :
    Calls Try.prog 132 #[.slice A x.length c, .int .i64 v] w fun e w' => e = .returned (.int .i64 k0) ∧ w = w' := by
  have HX := hid hx
  have H0 := hid h0
  have HM := hid hmin
  have hk0 : k0 < x.length := by
    rcases Nat.lt_or_ge k0 x.length with h | h
    · exact h
    · rw [List.getElem?_eq_none h] at h0; cases h0
  clear hx h0 hmin
  go_enter Try.func132, Try.ntmps132
  go_wp2
  go_loop [5, 8] (fun e_ i => ∃ k : Nat, k ≤ k0 ∧ i = .int .i64 k) (fun e_ i => k0 - (intOf i).toNat)
  case atStart => exact ⟨0, Nat.zero_le _, rfl⟩
  case round =>
    obtain ⟨k, hk, rfl⟩ := hrel
    have hi : (k : Int) < (x.length : Int) := by omega
    obtain ⟨b, o, y, rfl, hcy, hyk⟩ := HX.out.at_ (k := k) (by omega)
    by_cases hke : k = k0
    · subst hke
      obtain rfl : y = v := by have h1 := hyk.out; rw [H0.out] at h1; injection h1 with h1; exact h1.symm
      go_wp2
      go_ret
      exact ⟨rfl, rfl⟩
    · have hne : (v == y) = false := by
        have h1 := HM.out k (by omega)
        have h2 := hyk.out
        cases h3 : (v == y) with
        | false => rfl
        | true => exact absurd (by rw [h2, beq_iff_eq.1 h3]) h1
      go_wp2
      exact ⟨⟨k + 1, by omega, by go_num⟩, by simp [intOf]; omega⟩
set_option maxHeartbeats 1600000 in
theorem least_any (A : Option Addr) (c : Nat) (x : List Int) (salt : Nat) (w : World) (hx : RdL (Value.int .i64) w A x) (hn : x.length ≤ 256) (hp : 0 < x.length) (hbd : ∀ y ∈ x, 0 ≤ y ∧ y ≤ 4294967295) (hs : salt < 4294967296) :
    Calls Try.prog 109 #[.slice A x.length c, .int .i64 salt] w fun e w' => e = .returned (.tuple #[.int .i64 (hashAt x salt (leastTo x salt x.length)), .int .i64 (leastTo x salt x.length)]) ∧ Below w.heap.size w w' := by
  have HX := hid hx
  have HBD := hid hbd
  clear hx hbd
  have hL := leastTo_lt x salt hp
  have HSP := hid (leastTo_spec x salt x.length)
  have HMN := hid (rowH_min x salt hp)
  obtain ⟨kL, hkL⟩ : ∃ k, k = leastTo x salt x.length := ⟨_, rfl⟩
  rw [← hkL] at hL HSP HMN ⊢
  obtain ⟨hh, hhe⟩ : ∃ h, h = hashAt x salt kL := ⟨_, rfl⟩
  have HHE := hid hhe
  rw [← hhe] at HMN ⊢
  clear hkL hhe
  go_enter Try.func109, Try.ntmps109
  go_wp2_with fail
  refine (hashRow_any A c x salt _ HX.out hn HBD.out hs).mono ?_
  rintro e w1 ⟨A1, c1, rfl, ho, hb⟩
  have HO := hid ho.rd
  have S1 := hid hb
  clear ho hb
  go_wp2_with fail
  refine (slMin_any A1 c1 (rowH x salt x.length) _ HO.out (by rw [rowH_length]; omega) (by rw [rowH_length]; omega)).mono ?_
  rw [HMN.out]
  rintro e w2 ⟨rfl, rfl⟩
  go_wp2_with fail
  refine (slIndex_any A1 c1 (rowH x salt x.length) hh kL _ HO.out (by rw [rowH_length]; omega) (by rw [rowH_at hL, HHE.out]) (fun k hk e => by
    rw [rowH_at (by omega)] at e
    injection e with e
    have h1 := ((HSP.out k (by omega)).2 hk)
    rw [← HHE.out] at h1
    omega)).mono ?_
  rintro e w2 ⟨rfl, rfl⟩
  go_wp2
  go_ret2
  exact ⟨rfl, S1.out⟩
end Go.Proofs.Ytmmolicodlmlkaa
namespace Go.Proofs.Ytmmolicodlmlkaa
open Go.RowKit
set_option linter.unusedVariables false
set_option linter.unusedSimpArgs false

/-- At most 256 keys. -/
def keysQ (x : List Int) : Bool := decide ((x.length : Int) ≤ 256) && allB x 0 4294967295
theorem keysQ_iff {x : List Int} (h : keysQ x = true) : x.length ≤ 256 ∧ ∀ y ∈ x, 0 ≤ y ∧ y ≤ 4294967295 := by
  simp only [keysQ, Bool.and_eq_true, decide_eq_true_eq] at h
  refine ⟨by omega, fun y hy => ?_⟩
  have := h.2
  unfold allB at this
  rw [List.all_eq_true] at this
  exact inB_iff.1 (this y hy)
theorem AreKeys_q (A : Option Addr) (c : Nat) (xs : List Int) (w : World) (hx : RdL (Value.int .i64) w A xs) (hn : xs.length ≤ 1048576) :
    Calls Try.prog 65 #[.slice A xs.length c] w fun e w' => e = .returned (.bool (keysQ xs)) ∧ w = w' := by
  have HX := hid hx
  clear hx
  by_cases h : (xs.length : Int) ≤ 256
  · go_enter Try.func65, Try.ntmps65
    go_wp2_with fail
    refine (areAllKeys_any A c xs _ HX.out hn).mono ?_
    rintro e w' ⟨rfl, rfl⟩
    go_wp2
    go_ret
    exact ⟨by simp [keysQ, h], rfl⟩
  · go_enter Try.func65, Try.ntmps65
    go_wp2
    go_ret
    exact ⟨by simp [keysQ]; omega, rfl⟩
end Go.Proofs.Ytmmolicodlmlkaa
namespace Go.Proofs.Ytmmolicodlmlkaa
open Go.RowKit
set_option linter.unusedVariables false

/-- It hands back a slice of its own and a bool. -/
def RetLB {α : Type} (f : α → Value) (t : TypeId) (w : World) (r : List α × Bool) (e : Ending) (w' : World) : Prop :=
  ∃ A c, e = .returned (.tuple #[.slice A r.1.length c, .bool r.2]) ∧ OwnS f w' w.heap.size t A r.1 ∧ r.1.length ≤ 1048576 ∧ Below w.heap.size w w'
end Go.Proofs.Ytmmolicodlmlkaa
namespace Go.Proofs.Ytmmolicodlmlkaa
open Go.RowKit
set_option linter.unusedVariables false
set_option linter.unusedSimpArgs false

/-- What HashRow returns. -/
def pHashRow (x : List Int) (salt : Int) : List Int × Bool := if (keysQ x && inB salt 0 4294967295) = true then (rowH x salt.toNat x.length, true) else ([], false)
set_option maxRecDepth 100000 in
set_option maxHeartbeats 1600000 in
theorem iHashRow_any (A : Option Addr) (c : Nat) (x : List Int) (salt : Int) (w : World) (hx : RdL (Value.int .i64) w A x) (hn : x.length ≤ 1048576) :
    Calls Try.prog 53 #[.slice A x.length c, .int .i64 salt] w (RetLB (Value.int .i64) 2 w (pHashRow x salt)) := by
  have HX := hid hx
  clear hx
  cases hk : keysQ x with
  | false =>
    have hp : pHashRow x salt = ([], false) := by simp [pHashRow, hk]
    rw [hp]
    clear hp
    go_enter Try.func53, Try.ntmps53
    go_wp2_with (go_at_call 65; refine (AreKeys_q A c x _ HX.out hn).mono ?_; rw [hk]; rintro e w' ⟨rfl, rfl⟩)
    go_ret2
    exact ⟨none, 0, rfl, OwnS.nil, by simp, Below.refl _ _⟩
  | true =>
  cases hs : inB salt 0 4294967295 with
  | false =>
    have hp : pHashRow x salt = ([], false) := by simp [pHashRow, hs]
    rw [hp]
    clear hp
    go_enter Try.func53, Try.ntmps53
    go_wp2_with (first | (go_at_call 65; refine (AreKeys_q A c x _ HX.out hn).mono ?_; rw [hk]; rintro e w' ⟨rfl, rfl⟩) | (go_at_call 63; refine (IsKey_any _ _).mono ?_; rw [hs]; rintro e w' ⟨rfl, rfl⟩))
    go_ret2
    exact ⟨none, 0, rfl, OwnS.nil, by simp, Below.refl _ _⟩
  | true =>
    have hp : pHashRow x salt = (rowH x salt.toNat x.length, true) := by simp [pHashRow, hk, hs]
    rw [hp]
    clear hp
    obtain ⟨hl, hbd⟩ := keysQ_iff hk
    obtain ⟨hs1, hs2⟩ := inB_iff.1 hs
    obtain ⟨s, rfl⟩ := Int.eq_ofNat_of_zero_le hs1
    have C1 := hid (hashRow_any A c x s w HX.out hl hbd (by omega))
    obtain ⟨L, hL⟩ : ∃ L, L = rowH x s x.length := ⟨_, rfl⟩
    have hLl : L.length ≤ 1048576 := by rw [hL, rowH_length]; exact hn
    rw [Int.toNat_natCast]
    rw [← hL] at C1 ⊢
    have HL := hid hLl
    clear hbd hL hLl
    go_enter Try.func53, Try.ntmps53
    go_wp2_with (first | (go_at_call 65; refine (AreKeys_q A c x _ HX.out hn).mono ?_; rw [hk]; rintro e w' ⟨rfl, rfl⟩) | (go_at_call 63; refine (IsKey_any _ _).mono ?_; rw [hs]; rintro e w' ⟨rfl, rfl⟩))
    refine C1.out.mono ?_
    rintro e w1 ⟨A1, c1, rfl, ho, hb⟩
    have H1 := hid ho
    have H2 := hid hb
    clear ho hb C1 hk hs
    go_wp2
    go_ret2
    exact ⟨A1, c1, rfl, H1.out, HL.out, H2.out⟩
end Go.Proofs.Ytmmolicodlmlkaa
namespace Go.Proofs.Ytmmolicodlmlkaa
set_option linter.unusedVariables false
variable {α : Type}
/-- Where x comes to lie, when it is led down from place k of L past all greater ones. -/
def posR (lt : α → α → Bool) (x : α) (L : List α) : Nat → Nat
  | 0 => 0
  | k + 1 => match L[k]? with
    | some y => if lt x y then posR lt x L k else k + 1
    | none => posR lt x L k
theorem posR_le (lt : α → α → Bool) (x : α) (L : List α) (k : Nat) : posR lt x L k ≤ k := by
  induction k with
  | zero => exact Nat.le_refl _
  | succ k ih =>
    unfold posR
    split
    · split <;> omega
    · omega
theorem posR_go {lt : α → α → Bool} {x y : α} {L : List α} {k : Nat} (hy : L[k]? = some y) (h : lt x y = true) : posR lt x L (k + 1) = posR lt x L k := by
  rw [posR, hy]; simp [h]
theorem posR_stop {lt : α → α → Bool} {x y : α} {L : List α} {k : Nat} (hy : L[k]? = some y) (h : lt x y = false) : posR lt x L (k + 1) = k + 1 := by
  rw [posR, hy]; simp [h]
/-- x put into L: behind the last one that is not greater. -/
def insR (lt : α → α → Bool) (L : List α) (x : α) : List α := L.take (posR lt x L L.length) ++ x :: L.drop (posR lt x L L.length)
theorem insR_length (lt : α → α → Bool) (L : List α) (x : α) : (insR lt L x).length = L.length + 1 := by
  have := posR_le lt x L L.length
  simp [insR]; omega
/-- Sorted by insertion. -/
def isrt (lt : α → α → Bool) (l : List α) : List α := l.foldl (insR lt) []
theorem isrt_snoc (lt : α → α → Bool) (l : List α) (x : α) : isrt lt (l ++ [x]) = insR lt (isrt lt l) x := by simp [isrt]
theorem isrt_at {lt : α → α → Bool} {l : List α} {k : Nat} {x : α} (h : l[k]? = some x) : isrt lt (l.take (k + 1)) = insR lt (isrt lt (l.take k)) x := by
  rw [List.take_add_one, h]; exact isrt_snoc _ _ _
theorem isrt_length (lt : α → α → Bool) (l : List α) : (isrt lt l).length = l.length := by
  suffices h : ∀ (l a : List α), (l.foldl (insR lt) a).length = a.length + l.length by simpa [isrt] using h l []
  intro l
  induction l with
  | nil => simp
  | cons y l ih => intro a; rw [List.foldl_cons, ih, insR_length, List.length_cons]; omega
theorem isrt_take_length (lt : α → α → Bool) {l : List α} {k : Nat} (h : k ≤ l.length) : (isrt lt (l.take k)).length = k := by
  rw [isrt_length, List.length_take]; omega
/-- The list while element x is being led down: it stands at place j. -/
def midR (L : List α) (x : α) (j : Nat) (rest : List α) : List α := L.take j ++ x :: L.drop j ++ rest
theorem midR_eq (L : List α) (x : α) (j : Nat) (rest : List α) : midR L x j rest = L.take j ++ (x :: (L.drop j ++ rest)) := by simp [midR]
theorem midR_length {L : List α} {x : α} {j : Nat} {rest : List α} (hj : j ≤ L.length) : (midR L x j rest).length = L.length + 1 + rest.length := by simp [midR]; omega
theorem midR_at {L : List α} {x : α} {j : Nat} {rest : List α} (hj : j ≤ L.length) : (midR L x j rest)[j]? = some x := by
  unfold midR
  rw [List.append_assoc, List.getElem?_append_right (by simp; omega)]
  simp [Nat.min_eq_left hj]
theorem midR_below {L : List α} {x y : α} {j : Nat} {rest : List α} (hy : L[j]? = some y) : (midR L x (j + 1) rest)[j]? = some y := by
  obtain ⟨h, e⟩ := List.getElem?_eq_some_iff.1 hy
  unfold midR
  rw [List.append_assoc, List.getElem?_append_left (by simp; omega)]
  rw [List.getElem?_take_of_lt (by omega)]; exact hy
theorem midR_top (L : List α) (x : α) (rest : List α) : midR L x L.length rest = L ++ x :: rest := by simp [midR]
theorem midR_swap {L : List α} {x y : α} {j : Nat} {rest : List α} (hy : L[j]? = some y) : ((midR L x (j + 1) rest).set (j + 1) y).set j x = midR L x j rest := by
  obtain ⟨h, e⟩ := List.getElem?_eq_some_iff.1 hy
  apply List.ext_getElem?
  intro i
  have hl : (midR L x (j + 1) rest).length = L.length + 1 + rest.length := midR_length (by omega)
  rw [List.getElem?_set, List.getElem?_set, List.length_set, hl]
  by_cases h1 : j = i
  · subst h1
    rw [if_pos rfl, if_pos (by omega), midR_at (by omega)]
  · rw [if_neg h1]
    by_cases h2 : j + 1 = i
    · subst h2
      rw [if_pos rfl, if_pos (by omega)]
      unfold midR
      rw [List.append_assoc, List.getElem?_append_right (by simp; omega)]
      simp only [List.length_take, Nat.min_eq_left (show j ≤ L.length by omega), List.cons_append]
      rw [show j + 1 - j = 0 + 1 by omega, List.getElem?_cons_succ, List.drop_eq_getElem_cons h, e]
      simp
    · rw [if_neg h2]
      rw [midR_eq, midR_eq]
      by_cases h3 : i < j
      · rw [List.getElem?_append_left (by simp; omega), List.getElem?_append_left (by simp; omega), List.getElem?_take_of_lt (by omega), List.getElem?_take_of_lt (by omega)]
      · rw [List.getElem?_append_right (by simp; omega), List.getElem?_append_right (by simp; omega)]
        simp only [List.length_take, Nat.min_eq_left (show j ≤ L.length by omega), Nat.min_eq_left (show j + 1 ≤ L.length by omega)]
        obtain ⟨m, rfl⟩ : ∃ m, i = j + 2 + m := ⟨i - (j + 2), by omega⟩
        rw [show j + 2 + m - (j + 1) = m + 1 by omega, show j + 2 + m - j = m + 1 + 1 by omega, List.getElem?_cons_succ, List.getElem?_cons_succ, List.drop_eq_getElem_cons h, List.cons_append, List.getElem?_cons_succ]
theorem midR_end {lt : α → α → Bool} {L : List α} {x : α} {j : Nat} {rest : List α} (h : posR lt x L L.length = j) : midR L x j rest = insR lt L x ++ rest := by
  subst h; rfl

section
variable {α : Type} [Inhabited α]
open Go.Sort
end
end Go.Proofs.Ytmmolicodlmlkaa
namespace Go.Proofs.Ytmmolicodlmlkaa
set_option linter.unusedVariables false
set_option linter.unusedVariables false
set_option linter.unusedSimpArgs false
variable {α : Type}

/-! ### swaps -/
theorem at_mid' {A : List α} {b : α} {C : List α} {n : Nat} (h : A.length = n) : (A ++ b :: C)[n]? = some b := by subst h; simp
theorem set_mid {A : List α} {b : α} {C : List α} {n : Nat} (h : A.length = n) (v : α) : (A ++ b :: C).set n v = A ++ v :: C := by
  subst h
  rw [List.set_append_right _ _ (Nat.le_refl _), Nat.sub_self]; rfl
theorem set_two {A B C : List α} {a b : α} {i j : Nat} (hi : A.length = i) (hj : i + 1 + B.length = j) : ((A ++ a :: (B ++ b :: C)).set i b).set j a = A ++ b :: (B ++ a :: C) := by
  rw [set_mid hi]
  have e : A ++ b :: (B ++ b :: C) = (A ++ b :: B) ++ b :: C := by simp
  rw [e, set_mid (by simp; omega)]; simp
theorem set_two' {A B C : List α} {a b : α} {i j : Nat} (hi : A.length = i) (hj : i + 1 + B.length = j) : ((A ++ a :: (B ++ b :: C)).set j a).set i b = A ++ b :: (B ++ a :: C) := by
  rw [List.set_comm _ _ (by omega), set_two hi hj]
/-- A range while it is swapped with another one: k places are done. -/
def srL (A U B V C : List α) (k : Nat) : List α := A ++ V.take k ++ (U.drop k ++ (B ++ U.take k ++ (V.drop k ++ C)))
theorem srL_zero (A U B V C : List α) : srL A U B V C 0 = A ++ (U ++ (B ++ (V ++ C))) := by simp [srL]
theorem srL_all {A U B V C : List α} {n : Nat} (hu : U.length = n) (hv : V.length = n) : srL A U B V C n = A ++ (V ++ (B ++ (U ++ C))) := by
  simp [srL, List.take_of_length_le, List.drop_of_length_le, hu, hv]
theorem srL_length {A U B V C : List α} {n : Nat} (hu : U.length = n) (hv : V.length = n) {k : Nat} (hk : k ≤ n) : (srL A U B V C k).length = A.length + n + B.length + n + C.length := by
  simp [srL, hu, hv]; omega
theorem srL_one {A U B V C : List α} {n : Nat} (hu : U.length = n) (hv : V.length = n) {k : Nat} (hk : k < n) :
    ∃ u v, (srL A U B V C k)[A.length + k]? = some u ∧ (srL A U B V C k)[A.length + n + B.length + k]? = some v ∧ ((srL A U B V C k).set (A.length + k) v).set (A.length + n + B.length + k) u = srL A U B V C (k + 1) := by
  have hku : k < U.length := by omega
  have hkv : k < V.length := by omega
  have hU : U.drop k = U[k] :: U.drop (k + 1) := List.drop_eq_getElem_cons hku
  have hV : V.drop k = V[k] :: V.drop (k + 1) := List.drop_eq_getElem_cons hkv
  have hU' : U.take (k + 1) = U.take k ++ [U[k]] := by rw [List.take_add_one, List.getElem?_eq_getElem hku]; rfl
  have hV' : V.take (k + 1) = V.take k ++ [V[k]] := by rw [List.take_add_one, List.getElem?_eq_getElem hkv]; rfl
  have l1 : (A ++ V.take k).length = A.length + k := by simp; omega
  have e1 : srL A U B V C k = (A ++ V.take k) ++ U[k] :: ((U.drop (k + 1) ++ (B ++ U.take k)) ++ V[k] :: (V.drop (k + 1) ++ C)) := by
    unfold srL
    rw [hU, hV]; simp only [List.append_assoc, List.cons_append, List.nil_append]
  have l2 : A.length + k + 1 + (U.drop (k + 1) ++ (B ++ U.take k)).length = A.length + n + B.length + k := by simp; omega
  refine ⟨U[k], V[k], ?_, ?_, ?_⟩
  · rw [e1]; exact at_mid' l1
  · have e2 : srL A U B V C k = ((A ++ V.take k) ++ U[k] :: (U.drop (k + 1) ++ (B ++ U.take k))) ++ V[k] :: (V.drop (k + 1) ++ C) := by rw [e1]; simp
    rw [e2]; exact at_mid' (by simp; omega)
  · rw [e1, set_two l1 l2]
    unfold srL
    rw [hU', hV']; simp only [List.append_assoc, List.cons_append, List.nil_append]

/-! ### what a merge makes -/
section
variable (lt : α → α → Bool) (R : α → α → Prop)
/-- An element that stood ahead of another one: the test tells which of the two comes first. -/
def Cr (a b : α) : Prop := (lt b a = true → R b a) ∧ (lt b a = false → R a b)
/-- All elements of one list, which stood ahead, with those of another one. -/
def Cross (L M : List α) : Prop := ∀ a ∈ L, ∀ b ∈ M, Cr lt R a b
/-- Sorted, of just these elements. -/
def Mg (X M : List α) : Prop := M.Perm X ∧ M.Pairwise R
end
section
variable {lt : α → α → Bool} {R : α → α → Prop}
theorem Cross.sub {L M L' M' : List α} (h : Cross lt R L M) (h1 : ∀ a ∈ L', a ∈ L) (h2 : ∀ a ∈ M', a ∈ M) : Cross lt R L' M' := fun a ha b hb => h a (h1 a ha) b (h2 b hb)
/-- The place of one element in a sorted list behind it. -/
theorem mg_one_left {l : α} {M1 M2 : List α} (hs : (M1 ++ M2).Pairwise R) (h1 : ∀ y ∈ M1, R y l) (h2 : ∀ y ∈ M2, R l y) : Mg R (l :: (M1 ++ M2)) (M1 ++ l :: M2) := by
  refine ⟨List.perm_middle, ?_⟩
  rw [List.pairwise_append] at hs ⊢
  refine ⟨hs.1, List.pairwise_cons.2 ⟨h2, hs.2.1⟩, fun a ha b hb => ?_⟩
  rcases List.mem_cons.1 hb with rfl | hb
  · exact h1 a ha
  · exact hs.2.2 a ha b hb
theorem mg_join {L1 L2 R1 R2 M1 M2 : List α} (h1 : Mg R (L1 ++ R1) M1) (h2 : Mg R (L2 ++ R2) M2) (hc : ∀ y ∈ L1 ++ R1, ∀ z ∈ L2 ++ R2, R y z) : Mg R ((L1 ++ L2) ++ (R1 ++ R2)) (M1 ++ M2) := by
  refine ⟨?_, List.pairwise_append.2 ⟨h1.2, h2.2, fun a ha b hb => hc a (h1.1.mem_iff.1 ha) b (h2.1.mem_iff.1 hb)⟩⟩
  refine (h1.1.append h2.1).trans ?_
  have e1 : (L1 ++ R1) ++ (L2 ++ R2) = L1 ++ (R1 ++ L2) ++ R2 := by simp
  have e2 : (L1 ++ L2) ++ (R1 ++ R2) = L1 ++ (L2 ++ R1) ++ R2 := by simp
  rw [e1, e2]
  exact ((List.perm_append_comm).append_left L1).append_right R2
/-- Sorted halves, parted so that what comes to the left is ahead of what comes to the right. -/
theorem cross_all {L1 L2 R1 R2 : List α} (tr : ∀ a b c, R a b → R b c → R a c) (hL : (L1 ++ L2).Pairwise R) (hR : (R1 ++ R2).Pairwise R)
    (h1 : ∀ y ∈ L1.getLast?, ∀ z ∈ R2.head?, R y z) (h2 : ∀ y ∈ R1.getLast?, ∀ z ∈ L2.head?, R y z) : ∀ y ∈ L1 ++ R1, ∀ z ∈ L2 ++ R2, R y z := by
  have ends : ∀ {X Y : List α}, X.Pairwise R → Y.Pairwise R → (∀ y ∈ X.getLast?, ∀ z ∈ Y.head?, R y z) → ∀ y ∈ X, ∀ z ∈ Y, R y z := by
    intro X Y hX hY hb y hy z hz
    rcases List.eq_nil_or_concat X with rfl | ⟨X', e, rfl⟩
    · simp at hy
    · cases Y with
      | nil => simp at hz
      | cons f Y =>
        have hef : R e f := hb e (by simp) f (by simp)
        have hye : y = e ∨ R y e := by
          rw [List.concat_eq_append, List.mem_append] at hy
          rcases hy with hy | hy
          · rw [List.concat_eq_append, List.pairwise_append] at hX
            exact .inr (hX.2.2 y hy e (by simp))
          · exact .inl (by simpa using hy)
        have hfz : z = f ∨ R f z := by
          rcases List.mem_cons.1 hz with hz | hz
          · exact .inl hz
          · exact .inr ((List.pairwise_cons.1 hY).1 z hz)
        rcases hye with rfl | hye <;> rcases hfz with rfl | hfz
        · exact hef
        · exact tr _ _ _ hef hfz
        · exact tr _ _ _ hye hef
        · exact tr _ _ _ (tr _ _ _ hye hef) hfz
  rw [List.pairwise_append] at hL hR
  intro y hy z hz
  rw [List.mem_append] at hy hz
  rcases hy with hy | hy <;> rcases hz with hz | hz
  · exact hL.2.2 y hy z hz
  · exact ends hL.1 hR.2.1 h1 y hy z hz
  · exact ends hR.1 hL.2.1 h2 y hy z hz
  · exact hR.2.2 y hy z hz
/-- By insertion: the list sorted so far and the next element. -/
theorem insR_mg {S : List α} {e : α} (tr : ∀ a b c, R a b → R b c → R a c) (hs : S.Pairwise R) (hc : ∀ a ∈ S, Cr lt R a e) : Mg R (S ++ [e]) (insR lt S e) := by
  have hp := posR_le lt e S S.length
  obtain ⟨p, hpe⟩ : ∃ p, p = posR lt e S S.length := ⟨_, rfl⟩
  rw [← hpe] at hp
  have hgt : ∀ (k : Nat), k ≤ S.length → posR lt e S k = p → ∀ j, p ≤ j → j < k → ∀ y, S[j]? = some y → lt e y = true := by
    intro k
    induction k with
    | zero => intro _ _ j _ h; omega
    | succ k ih =>
      intro hk hpk j hj hjk y hy
      have hk' : S[k]? = some S[k] := List.getElem?_eq_getElem (by omega)
      cases hl : lt e S[k] with
      | false => rw [posR_stop hk' hl] at hpk; omega
      | true =>
        rw [posR_go hk' hl] at hpk
        by_cases h : j = k
        · subst h; rw [hk'] at hy; injection hy with hy; rw [← hy]; exact hl
        · exact ih (by omega) hpk j hj (by omega) y hy
  have hle : ∀ (k : Nat), k ≤ S.length → posR lt e S k = p → 0 < p → ∀ y, S[p - 1]? = some y → lt e y = false := by
    intro k
    induction k with
    | zero => intro _ h hp0; rw [posR] at h; omega
    | succ k ih =>
      intro hk hpk hp0 y hy
      have hk' : S[k]? = some S[k] := List.getElem?_eq_getElem (by omega)
      cases hl : lt e S[k] with
      | false =>
        rw [posR_stop hk' hl] at hpk
        rw [show p - 1 = k by omega, hk'] at hy
        injection hy with hy; rw [← hy]; exact hl
      | true => rw [posR_go hk' hl] at hpk; exact ih (by omega) hpk hp0 y hy
  unfold insR
  rw [← hpe]
  have hsp : S = S.take p ++ S.drop p := (List.take_append_drop p S).symm
  have hm := mg_one_left (l := e) (M1 := S.take p) (M2 := S.drop p) (R := R) (by rw [← hsp]; exact hs) (fun y hy => ?_) (fun y hy => ?_)
  · refine ⟨hm.1.trans ?_, hm.2⟩
    rw [← hsp]
    exact (List.perm_append_comm (l₁ := [e]) (l₂ := S))
  · obtain ⟨j, hj⟩ := List.mem_iff_getElem?.1 hy
    have hjp : j < p := by
      have := (List.getElem?_eq_some_iff.1 hj).1
      simp at this; omega
    rw [List.getElem?_take_of_lt hjp] at hj
    have hl : S[p - 1]? = some S[p - 1] := List.getElem?_eq_getElem (by omega)
    have h0 := hle S.length (Nat.le_refl _) hpe.symm (by omega) _ hl
    have h1 := (hc _ (List.mem_of_getElem? hl)).2 h0
    by_cases h : j = p - 1
    · subst h; rw [hl] at hj; injection hj with hj; rw [← hj]; exact h1
    · refine tr _ _ _ ?_ h1
      obtain ⟨hj1, rfl⟩ := List.getElem?_eq_some_iff.1 hj
      exact List.pairwise_iff_getElem.1 hs j (p - 1) hj1 (by omega) (by omega)
  · obtain ⟨j, hj⟩ := List.mem_iff_getElem?.1 hy
    rw [List.getElem?_drop] at hj
    have h0 := hgt S.length (Nat.le_refl _) hpe.symm (p + j) (by omega) (List.getElem?_eq_some_iff.1 hj).1 y hj
    exact (hc y (List.mem_of_getElem? hj)).1 h0
theorem isrt_mg (tr : ∀ a b c, R a b → R b c → R a c) (x : List α) (hx : x.Pairwise (Cr lt R)) : Mg R x (isrt lt x) := by
  obtain ⟨n, hn⟩ : ∃ n, n = x.length := ⟨_, rfl⟩
  induction n generalizing x with
  | zero =>
    obtain rfl := List.length_eq_zero_iff.1 hn.symm
    exact ⟨List.Perm.refl _, List.Pairwise.nil⟩
  | succ n ih =>
    obtain rfl | ⟨l, e, rfl⟩ := List.eq_nil_or_concat x
    · simp at hn
    rw [List.concat_eq_append] at hx hn ⊢
    rw [List.pairwise_append] at hx
    have h := hx
    have h1 := ih l h.1 (by simp at hn; omega)
    rw [isrt_snoc]
    have h2 := insR_mg (lt := lt) (R := R) (S := isrt lt l) (e := e) tr h1.2 (fun a ha => h.2.2 a (h1.1.mem_iff.1 ha) e (by simp))
    exact ⟨h2.1.trans (h1.1.append_right _), h2.2⟩
/-- There is one such list. -/
theorem mg_unique {X M M' : List α} (asy : ∀ a b, R a b → R b a → False) (h : Mg R X M) (h' : Mg R X M') : M = M' := by
  have hp : M.Perm M' := h.1.trans h'.1.symm
  exact hp.eq_of_pairwise (fun a b _ _ h1 h2 => (asy a b h1 h2).elim) h.2 h'.2
theorem mg_isrt {x M : List α} (tr : ∀ a b c, R a b → R b c → R a c) (asy : ∀ a b, R a b → R b a → False) (hx : x.Pairwise (Cr lt R)) (h : Mg R x M) : M = isrt lt x :=
  mg_unique asy h (isrt_mg tr x hx)
end

/-! ### blocks -/
/-- All blocks but the last have bs elements; the last has some, at most bs. -/
def Chunk (bs : Nat) : List (List α) → Prop
  | [] => True
  | t :: T => (T = [] ∧ 0 < t.length ∧ t.length ≤ bs) ∨ (T ≠ [] ∧ t.length = bs ∧ Chunk bs T)
section
variable {lt : α → α → Bool} {R : α → α → Prop}
/-- Sorted blocks, one behind the other as they stood. -/
def Blks (lt : α → α → Bool) (R : α → α → Prop) (T : List (List α)) : Prop := (∀ t ∈ T, t.Pairwise R) ∧ T.Pairwise (Cross lt R)
theorem Chunk.two {bs : Nat} {T : List (List α)} (h : Chunk bs T) (hb : 0 < bs) (hl : 2 * bs ≤ T.flatten.length) : ∃ t1 t2 T', T = t1 :: t2 :: T' ∧ t1.length = bs ∧ t2.length = bs ∧ Chunk bs T' := by
  cases T with
  | nil => simp at hl; omega
  | cons t T =>
    rcases h with ⟨rfl, h1, h2⟩ | ⟨h1, h2, h3⟩
    · simp at hl; omega
    · cases T with
      | nil => exact absurd rfl h1
      | cons t2 T =>
        rcases h3 with ⟨rfl, h4, h5⟩ | ⟨h4, h5, h6⟩
        · refine ⟨t, t2, [], rfl, h2, ?_, trivial⟩
          simp at hl; omega
        · exact ⟨t, t2, T, rfl, h2, h5, h6⟩
/-- Fewer than two blocks' elements are left: none, one block, or one and a shorter one. -/
theorem Chunk.left {bs : Nat} {T : List (List α)} (h : Chunk bs T) (hl : T.flatten.length < 2 * bs) : T = [] ∨ (∃ t, T = [t] ∧ 0 < t.length ∧ t.length ≤ bs) ∨ ∃ t1 t2, T = [t1, t2] ∧ t1.length = bs ∧ 0 < t2.length ∧ t2.length < bs := by
  cases T with
  | nil => exact .inl rfl
  | cons t T =>
    rcases h with ⟨rfl, h1, h2⟩ | ⟨h1, h2, h3⟩
    · exact .inr (.inl ⟨t, rfl, h1, h2⟩)
    · cases T with
      | nil => exact absurd rfl h1
      | cons t2 T =>
        rcases h3 with ⟨rfl, h4, h5⟩ | ⟨h4, h5, h6⟩
        · refine .inr (.inr ⟨t, t2, rfl, h2, h4, ?_⟩)
          simp at hl; omega
        · cases T with
          | nil => exact absurd rfl h4
          | cons t3 T => simp at hl; omega
theorem Chunk.snoc {bs : Nat} : ∀ {D : List (List α)} {t : List α}, (∀ d ∈ D, d.length = bs) → 0 < t.length → t.length ≤ bs → Chunk bs (D ++ [t])
  | [], t, _, h1, h2 => .inl ⟨rfl, h1, h2⟩
  | d :: D, t, h, h1, h2 => .inr ⟨by simp, h d (by simp), Chunk.snoc (fun e he => h e (List.mem_cons_of_mem _ he)) h1 h2⟩
theorem Chunk.all {bs : Nat} (hb : 0 < bs) : ∀ {D : List (List α)}, (∀ d ∈ D, d.length = bs) → Chunk bs D
  | [], _ => trivial
  | [d], h => .inl ⟨rfl, by rw [h d (by simp)]; exact hb, Nat.le_of_eq (h d (by simp))⟩
  | d :: e :: D, h => .inr ⟨by simp, h d (by simp), Chunk.all hb (fun x hx => h x (List.mem_cons_of_mem _ hx))⟩
/-- One block: all is sorted. -/
theorem Chunk.one {bs : Nat} {T : List (List α)} (h : Chunk bs T) (hb : 0 < bs) (hl : T.flatten.length ≤ bs) : T = [] ∨ ∃ t, T = [t] := by
  cases T with
  | nil => exact .inl rfl
  | cons t T =>
    rcases h with ⟨rfl, h1, h2⟩ | ⟨h1, h2, h3⟩
    · exact .inr ⟨t, rfl⟩
    · cases T with
      | nil => exact absurd rfl h1
      | cons t2 T =>
        exfalso
        have : 0 < t2.length := by
          rcases h3 with ⟨_, h4, _⟩ | ⟨_, h5, _⟩
          · exact h4
          · simp at hl; omega
        simp at hl; omega
/-- Two neighbouring blocks become one. -/
theorem Blks.merge {D T : List (List α)} {t1 t2 M : List α} (h : Blks lt R (D ++ t1 :: t2 :: T)) (hm : Mg R (t1 ++ t2) M) : Blks lt R (D ++ M :: T) := by
  obtain ⟨h1, h2⟩ := h
  have mem : ∀ a ∈ M, a ∈ t1 ∨ a ∈ t2 := fun a ha => List.mem_append.1 (hm.1.mem_iff.1 ha)
  rw [List.pairwise_append] at h2
  obtain ⟨p1, p2, p3⟩ := h2
  rw [List.pairwise_cons, List.pairwise_cons] at p2
  refine ⟨fun t ht => ?_, ?_⟩
  · rcases List.mem_append.1 ht with ht | ht
    · exact h1 t (List.mem_append_left _ ht)
    · rcases List.mem_cons.1 ht with rfl | ht
      · exact hm.2
      · exact h1 t (List.mem_append_right _ (by simp [ht]))
  · rw [List.pairwise_append, List.pairwise_cons]
    refine ⟨p1, ⟨fun t ht a ha b hb => ?_, p2.2.2⟩, fun t ht s hs => ?_⟩
    · rcases mem a ha with ha | ha
      · exact p2.1 t (by simp [ht]) a ha b hb
      · exact p2.2.1 t ht a ha b hb
    · rcases List.mem_cons.1 hs with rfl | hs
      · intro a ha b hb
        rcases mem b hb with hb | hb
        · exact p3 t ht t1 (by simp) a ha b hb
        · exact p3 t ht t2 (by simp) a ha b hb
      · exact p3 t ht s (by simp [hs])
theorem Blks.two {D T : List (List α)} {t1 t2 : List α} (h : Blks lt R (D ++ t1 :: t2 :: T)) : t1.Pairwise R ∧ t2.Pairwise R ∧ Cross lt R t1 t2 := by
  obtain ⟨h1, h2⟩ := h
  rw [List.pairwise_append] at h2
  have h3 := List.pairwise_cons.1 h2.2.1
  exact ⟨h1 t1 (by simp), h1 t2 (by simp), h3.1 t2 (by simp)⟩
end
end Go.Proofs.Ytmmolicodlmlkaa
