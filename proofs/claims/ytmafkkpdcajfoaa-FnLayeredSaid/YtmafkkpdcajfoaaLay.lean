/-
  A slice of cells (structs with a slice in each) of the call's own: words for its memory.
-/
import Derived.Test.YtmafkkpdcajfoaaRet
import Derived.Maps.AppendAt
namespace Go.Proofs.Ytmafkkpdcajfoaa
open Go.RowKit
set_option linter.unusedVariables false

/-- One of a slice of cells: its integers, and where its counts lie. -/
structure Lay where
  a : Int
  b : Int
  s : Int
  A : Option Addr
  c : Nat
  x : List Int
/-- What it holds, without places. -/
def Lay.plain (e : Lay) : Int × Int × Int × List Int := (e.a, e.b, e.s, e.x)
def Lay.cells (e : Lay) : List Value := [.int .i64 e.a, .int .i64 e.b, .int .i64 e.s, .slice e.A e.x.length e.c]
def flatL (L : List Lay) : List Value := L.flatMap Lay.cells
theorem flatL_length (L : List Lay) : (flatL L).length = 4 * L.length := by
  induction L with
  | nil => rfl
  | cons e L ih => simp only [flatL, List.flatMap_cons, List.length_append, List.length_cons] at ih ⊢; rw [ih]; simp [Lay.cells]; omega
theorem flatL_append (L L' : List Lay) : flatL (L ++ L') = flatL L ++ flatL L' := by simp [flatL]
theorem flatL_one (e : Lay) : flatL [e] = e.cells := by simp [flatL]
theorem flatL_at {L : List Lay} {i : Nat} {e : Lay} (h : L[i]? = some e) {j : Nat} (hj : j < 4) : (flatL L)[4 * i + j]? = e.cells[j]? := by
  obtain ⟨hi, rfl⟩ := List.getElem?_eq_some_iff.1 h
  have h1 : L = L.take i ++ L[i] :: L.drop (i + 1) := by rw [← List.drop_eq_getElem_cons hi, List.take_append_drop]
  have h2 : flatL L = flatL (L.take i) ++ (L[i].cells ++ flatL (L.drop (i + 1))) := by
    conv => lhs; rw [h1]
    rw [flatL_append, ← List.singleton_append, flatL_append, flatL_one]
  have hl : (flatL (L.take i)).length = 4 * i := by rw [flatL_length, List.length_take]; congr 1; omega
  rw [h2, List.getElem?_append_right (by omega), hl, List.getElem?_append_left (by simp [Lay.cells]; omega)]
  congr 1; omega
theorem flatL_set {L : List Lay} {i : Nat} {e e' : Lay} (h : L[i]? = some e) {j : Nat} (hj : j < 4) {u : Value} (he : e.cells.set j u = e'.cells) : (flatL L).set (4 * i + j) u = flatL (L.set i e') := by
  obtain ⟨hi, rfl⟩ := List.getElem?_eq_some_iff.1 h
  have h1 : L = L.take i ++ L[i] :: L.drop (i + 1) := by rw [← List.drop_eq_getElem_cons hi, List.take_append_drop]
  have h2 : flatL L = flatL (L.take i) ++ (L[i].cells ++ flatL (L.drop (i + 1))) := by
    conv => lhs; rw [h1]
    rw [flatL_append, ← List.singleton_append, flatL_append, flatL_one]
  have h3 : L.set i e' = L.take i ++ e' :: L.drop (i + 1) := by
    apply List.ext_getElem?
    intro k
    rw [List.getElem?_set]
    by_cases hk : i = k
    · subst hk
      rw [if_pos rfl, if_pos hi, List.getElem?_append_right (by simp; omega)]
      simp [Nat.min_eq_left (Nat.le_of_lt hi)]
    · rw [if_neg hk]
      conv => lhs; rw [h1]
      by_cases hk2 : k < i
      · rw [List.getElem?_append_left (by simp; omega), List.getElem?_append_left (by simp; omega)]
      · rw [List.getElem?_append_right (by simp; omega), List.getElem?_append_right (by simp; omega)]
        simp only [List.length_take, Nat.min_eq_left (Nat.le_of_lt hi)]
        obtain ⟨m, rfl⟩ : ∃ m, k = i + 1 + m := ⟨k - (i + 1), by omega⟩
        rw [show i + 1 + m - i = m + 1 by omega, List.getElem?_cons_succ, List.getElem?_cons_succ]
  have hl : (flatL (L.take i)).length = 4 * i := by rw [flatL_length, List.length_take]; congr 1; omega
  rw [h2, h3, flatL_append, ← List.singleton_append, flatL_append, flatL_one, List.set_append_right _ _ (by omega), hl, show 4 * i + j - 4 * i = j by omega, List.set_append_left _ _ (by simp [Lay.cells]; omega), he]

/-- The slice of cells at A reads as L. -/
def RdC (w : World) (A : Option Addr) (L : List Lay) : Prop :=
  ∀ (i : Nat) (e : Lay), L[i]? = some e → (∃ g o, A = some ⟨g, o, none⟩ ∧ w.cell? ⟨g, o + i * 4, none⟩ = some (.int .i64 e.a) ∧ w.cell? ⟨g, o + i * 4 + 1, none⟩ = some (.int .i64 e.b) ∧ w.cell? ⟨g, o + i * 4 + 2, none⟩ = some (.int .i64 e.s) ∧
    w.cell? ⟨g, o + i * 4 + 3, none⟩ = some (.slice e.A e.x.length e.c)) ∧ RdL (Value.int .i64) w e.A e.x
theorem RdC.below {w w' : World} {A : Option Addr} {L : List Lay} (h : RdC w A L) (hb : Below w.heap.size w w') : RdC w' A L := fun i e he => by
  obtain ⟨⟨g, o, hA, h0, h1, h2, h3⟩, h4⟩ := h i e he
  have hlt : g < w.heap.size := World.block_lt_of_cell? w _ h0
  have := fun p => (bcell hb).1 g p hlt
  exact ⟨⟨g, o, hA, by rw [this]; exact h0, by rw [this]; exact h1, by rw [this]; exact h2, by rw [this]; exact h3⟩, h4.below hb⟩

/-- A slice of cells of the call's own, from block B on: block and counts. -/
structure OwnC (w : World) (B : Nat) (A : Option Addr) (L : List Lay) : Prop where
  blk : L ≠ [] → ∃ g ex, A = some ⟨g, 0, none⟩ ∧ B ≤ g ∧ Blk w g 46 (flatL L ++ ex)
  own : ∀ (i : Nat) (e : Lay), L[i]? = some e → OwnS (Value.int .i64) w B 2 e.A e.x
  apart : ∀ (i j : Nat) (e e' : Lay), i ≠ j → L[i]? = some e → L[j]? = some e' → Apart e.A e.x.length e'.A e'.x.length

section
variable {w w' : World} {B : Nat} {A : Option Addr} {L : List Lay}
theorem OwnC.rd (h : OwnC w B A L) : RdC w A L := fun i e he => by
  have hne : L ≠ [] := by rintro rfl; simp at he
  obtain ⟨g, ex, rfl, hB, hb⟩ := h.blk hne
  have hlt : i < L.length := (List.getElem?_eq_some_iff.1 he).1
  have hc : ∀ j u, j < 4 → e.cells[j]? = some u → w.cell? ⟨g, 4 * i + j, none⟩ = some u := fun j u hj hu => hb.cell (by rw [List.getElem?_append_left (by rw [flatL_length]; omega), flatL_at he hj, hu])
  refine ⟨⟨g, 0, rfl, ?_, ?_, ?_, ?_⟩, (h.own i e he).rd⟩
  · rw [Nat.zero_add, Nat.mul_comm]; exact hc 0 _ (by omega) rfl
  · rw [Nat.zero_add, Nat.mul_comm]; exact hc 1 _ (by omega) rfl
  · rw [Nat.zero_add, Nat.mul_comm]; exact hc 2 _ (by omega) rfl
  · rw [Nat.zero_add, Nat.mul_comm]; exact hc 3 _ (by omega) rfl
theorem OwnC.below (h : OwnC w B A L) (hb : Below w.heap.size w w') : OwnC w' B A L := by
  refine ⟨fun hn => ?_, fun i e he => (h.own i e he).below hb, h.apart⟩
  obtain ⟨g, ex, hA, hB, hg⟩ := h.blk hn
  exact ⟨g, ex, hA, hB, hg.below hb⟩
theorem OwnC.mono (h : OwnC w B A L) {B' : Nat} (hB : B' ≤ B) : OwnC w B' A L := by
  refine ⟨fun hn => ?_, fun i e he => (h.own i e he).mono hB, h.apart⟩
  obtain ⟨g, ex, hA, hg, hb⟩ := h.blk hn
  exact ⟨g, ex, hA, by omega, hb⟩
/-- A cell of element i: it is there and may be written; what is written lies there. -/
theorem OwnC.put (h : OwnC w B A L) {i : Nat} {e : Lay} (he : L[i]? = some e) {j : Nat} (hj : j < 4) {v u : Value} {e' : Lay} (hv : e.cells[j]? = some v) (hu : e.cells.set j u = e'.cells) (hA' : e'.A = e.A) (hx : e'.x = e.x) :
    ∃ g, A = some ⟨g, 0, none⟩ ∧ B ≤ g ∧ w.cell? ⟨g, i * 4 + j, none⟩ = some v ∧ w.frozen? ⟨g, i * 4 + j, none⟩ = false ∧ OwnC (w.setCell ⟨g, i * 4 + j, none⟩ u) B A (L.set i e') := by
  rw [Nat.mul_comm i 4]
  have hne : L ≠ [] := by rintro rfl; simp at he
  obtain ⟨g, ex, rfl, hB, hb⟩ := h.blk hne
  have hlt : i < L.length := (List.getElem?_eq_some_iff.1 he).1
  have hla : (L.set i e')[i]? = some e' := by simp [hlt]
  refine ⟨g, rfl, hB, hb.cell (by rw [List.getElem?_append_left (by rw [flatL_length]; omega), flatL_at he hj, hv]), hb.frozen _, ⟨fun _ => ⟨g, ex, rfl, hB, ?_⟩, fun k f hk => ?_, fun k l f f' hkl hk hl => ?_⟩⟩
  · have := hb.set_ (4 * i + j) u
    rw [List.set_append_left _ _ (by rw [flatL_length]; omega), flatL_set he hj hu] at this
    exact this
  · by_cases hki : k = i
    · subst hki
      rw [hla] at hk
      injection hk with hk
      subst hk
      rw [hA', hx]
      exact (h.own k e he).setOther hb (by decide) _ _
    · rw [List.getElem?_set_ne (fun q => hki q.symm)] at hk
      exact (h.own k f hk).setOther hb (by decide) _ _
  · have key : ∀ (k : Nat) (f : Lay), (L.set i e')[k]? = some f → ∃ f0 : Lay, L[k]? = some f0 ∧ f.A = f0.A ∧ f.x = f0.x := fun k f hk => by
      by_cases hki : k = i
      · subst hki
        rw [hla] at hk
        injection hk with hk
        subst hk
        exact ⟨e, he, hA', hx⟩
      · rw [List.getElem?_set_ne (fun q => hki q.symm)] at hk
        exact ⟨f, hk, rfl, rfl⟩
    obtain ⟨f0, h1, h2, h3⟩ := key k f hk
    obtain ⟨f1, h4, h5, h6⟩ := key l f' hl
    rw [h2, h3, h5, h6]
    exact h.apart k l f0 f1 hkl h1 h4
/-- The counts of element i, written. -/
theorem OwnC.counts (h : OwnC w B A L) {i : Nat} {e e' : Lay} (he : L[i]? = some e) (ht : Touch w w' e.A e.x.length) (ho : OwnS (Value.int .i64) w' B 2 e'.A e'.x) (hc : e'.cells = e.cells) (hA' : e'.A = e.A) (hx : e'.x.length = e.x.length) : OwnC w' B A (L.set i e') := by
  have hlt : i < L.length := (List.getElem?_eq_some_iff.1 he).1
  have hla : (L.set i e')[i]? = some e' := by simp [hlt]
  refine ⟨fun _ => ?_, fun k f hk => ?_, fun k l f f' hkl hk hl => ?_⟩
  · have hne : L ≠ [] := by rintro rfl; simp at he
    obtain ⟨g, ex, rfl, hB, hb⟩ := h.blk hne
    refine ⟨g, ex, rfl, hB, ?_⟩
    have h1 : flatL (L.set i e') = flatL L := by
      have := flatL_set he (j := 0) (by omega) (u := .int .i64 e.a) (e' := e') (by rw [hc]; rfl)
      rw [← this]
      have h5 : (flatL L)[4 * i + 0]? = some (Value.int .i64 e.a) := by rw [flatL_at he (by omega)]; rfl
      apply List.ext_getElem?
      intro k
      rw [List.getElem?_set]
      by_cases hk : 4 * i + 0 = k
      · subst hk; rw [if_pos rfl, if_pos (List.getElem?_eq_some_iff.1 h5).1, h5]
      · rw [if_neg hk]
    rw [h1]
    exact (ht.block g ((h.own i e he).other hb (by decide))).trans hb
  · by_cases hki : k = i
    · subst hki
      rw [hla] at hk
      injection hk with hk
      subst hk
      exact ho
    · rw [List.getElem?_set_ne (fun q => hki q.symm)] at hk
      exact (h.own k f hk).touch ht (h.apart i k e f (fun q => hki q.symm) he hk)
  · have key : ∀ (k : Nat) (f : Lay), (L.set i e')[k]? = some f → ∃ f0 : Lay, L[k]? = some f0 ∧ f.A = f0.A ∧ f.x.length = f0.x.length := fun k f hk => by
      by_cases hki : k = i
      · subst hki
        rw [hla] at hk
        injection hk with hk
        subst hk
        exact ⟨e, he, hA', hx⟩
      · rw [List.getElem?_set_ne (fun q => hki q.symm)] at hk
        exact ⟨f, hk, rfl, rfl⟩
    obtain ⟨f0, h1, h2, h3⟩ := key k f hk
    obtain ⟨f1, h4, h5, h6⟩ := key l f' hl
    rw [h2, h3, h5, h6]
    exact h.apart k l f0 f1 hkl h1 h4
end
end Go.Proofs.Ytmafkkpdcajfoaa
