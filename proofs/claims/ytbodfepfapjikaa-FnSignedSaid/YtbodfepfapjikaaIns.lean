/-
  Insertion from the right: where an element comes to lie, the list while it is led down, the list so sorted, and that the library's insertion sort makes it: plain, no program in sight.
-/
import Derived.Test.YtbodfepfapjikaaMem
import Derived.Sort.Defs
import Derived.Sort.Row
import Derived.Sort.Grow
namespace Go.Proofs.Ytbodfepfapjikaa
set_option linter.unusedVariables false
variable {α : Type}
/-- Where x comes to lie, when it is led down from place k of L past all greater ones. -/
def posR (lt : α → α → Bool) (x : α) (L : List α) : Nat → Nat
  | 0 => 0
  | k + 1 => match L[k]? with
    | some y => if lt x y then posR lt x L k else k + 1
    | none => posR lt x L k
theorem posR_le (lt : α → α → Bool) (x : α) (L : List α) (k : Nat) : posR lt x L k ≤ k := by
  induction k with
  | zero => exact Nat.le_refl _
  | succ k ih =>
    unfold posR
    split
    · split <;> omega
    · omega
theorem posR_go {lt : α → α → Bool} {x y : α} {L : List α} {k : Nat} (hy : L[k]? = some y) (h : lt x y = true) : posR lt x L (k + 1) = posR lt x L k := by
  rw [posR, hy]; simp [h]
theorem posR_stop {lt : α → α → Bool} {x y : α} {L : List α} {k : Nat} (hy : L[k]? = some y) (h : lt x y = false) : posR lt x L (k + 1) = k + 1 := by
  rw [posR, hy]; simp [h]
/-- x put into L: behind the last one that is not greater. -/
def insR (lt : α → α → Bool) (L : List α) (x : α) : List α := L.take (posR lt x L L.length) ++ x :: L.drop (posR lt x L L.length)
theorem insR_length (lt : α → α → Bool) (L : List α) (x : α) : (insR lt L x).length = L.length + 1 := by
  have := posR_le lt x L L.length
  simp [insR]; omega
/-- Sorted by insertion. -/
def isrt (lt : α → α → Bool) (l : List α) : List α := l.foldl (insR lt) []
theorem isrt_snoc (lt : α → α → Bool) (l : List α) (x : α) : isrt lt (l ++ [x]) = insR lt (isrt lt l) x := by simp [isrt]
theorem isrt_at {lt : α → α → Bool} {l : List α} {k : Nat} {x : α} (h : l[k]? = some x) : isrt lt (l.take (k + 1)) = insR lt (isrt lt (l.take k)) x := by
  rw [List.take_add_one, h]; exact isrt_snoc _ _ _
theorem isrt_length (lt : α → α → Bool) (l : List α) : (isrt lt l).length = l.length := by
  suffices h : ∀ (l a : List α), (l.foldl (insR lt) a).length = a.length + l.length by simpa [isrt] using h l []
  intro l
  induction l with
  | nil => simp
  | cons y l ih => intro a; rw [List.foldl_cons, ih, insR_length, List.length_cons]; omega
theorem isrt_take_length (lt : α → α → Bool) {l : List α} {k : Nat} (h : k ≤ l.length) : (isrt lt (l.take k)).length = k := by
  rw [isrt_length, List.length_take]; omega
/-- The list while element x is being led down: it stands at place j. -/
def midR (L : List α) (x : α) (j : Nat) (rest : List α) : List α := L.take j ++ x :: L.drop j ++ rest
theorem midR_eq (L : List α) (x : α) (j : Nat) (rest : List α) : midR L x j rest = L.take j ++ (x :: (L.drop j ++ rest)) := by simp [midR]
theorem midR_length {L : List α} {x : α} {j : Nat} {rest : List α} (hj : j ≤ L.length) : (midR L x j rest).length = L.length + 1 + rest.length := by simp [midR]; omega
theorem midR_at {L : List α} {x : α} {j : Nat} {rest : List α} (hj : j ≤ L.length) : (midR L x j rest)[j]? = some x := by
  unfold midR
  rw [List.append_assoc, List.getElem?_append_right (by simp; omega)]
  simp [Nat.min_eq_left hj]
theorem midR_below {L : List α} {x y : α} {j : Nat} {rest : List α} (hy : L[j]? = some y) : (midR L x (j + 1) rest)[j]? = some y := by
  obtain ⟨h, e⟩ := List.getElem?_eq_some_iff.1 hy
  unfold midR
  rw [List.append_assoc, List.getElem?_append_left (by simp; omega)]
  rw [List.getElem?_take_of_lt (by omega)]; exact hy
theorem midR_top (L : List α) (x : α) (rest : List α) : midR L x L.length rest = L ++ x :: rest := by simp [midR]
theorem midR_swap {L : List α} {x y : α} {j : Nat} {rest : List α} (hy : L[j]? = some y) : ((midR L x (j + 1) rest).set (j + 1) y).set j x = midR L x j rest := by
  obtain ⟨h, e⟩ := List.getElem?_eq_some_iff.1 hy
  apply List.ext_getElem?
  intro i
  have hl : (midR L x (j + 1) rest).length = L.length + 1 + rest.length := midR_length (by omega)
  rw [List.getElem?_set, List.getElem?_set, List.length_set, hl]
  by_cases h1 : j = i
  · subst h1
    rw [if_pos rfl, if_pos (by omega), midR_at (by omega)]
  · rw [if_neg h1]
    by_cases h2 : j + 1 = i
    · subst h2
      rw [if_pos rfl, if_pos (by omega)]
      unfold midR
      rw [List.append_assoc, List.getElem?_append_right (by simp; omega)]
      simp only [List.length_take, Nat.min_eq_left (show j ≤ L.length by omega), List.cons_append]
      rw [show j + 1 - j = 0 + 1 by omega, List.getElem?_cons_succ, List.drop_eq_getElem_cons h, e]
      simp
    · rw [if_neg h2]
      rw [midR_eq, midR_eq]
      by_cases h3 : i < j
      · rw [List.getElem?_append_left (by simp; omega), List.getElem?_append_left (by simp; omega), List.getElem?_take_of_lt (by omega), List.getElem?_take_of_lt (by omega)]
      · rw [List.getElem?_append_right (by simp; omega), List.getElem?_append_right (by simp; omega)]
        simp only [List.length_take, Nat.min_eq_left (show j ≤ L.length by omega), Nat.min_eq_left (show j + 1 ≤ L.length by omega)]
        obtain ⟨m, rfl⟩ : ∃ m, i = j + 2 + m := ⟨i - (j + 2), by omega⟩
        rw [show j + 2 + m - (j + 1) = m + 1 by omega, show j + 2 + m - j = m + 1 + 1 by omega, List.getElem?_cons_succ, List.getElem?_cons_succ, List.drop_eq_getElem_cons h, List.cons_append, List.getElem?_cons_succ]
theorem midR_end {lt : α → α → Bool} {L : List α} {x : α} {j : Nat} {rest : List α} (h : posR lt x L L.length = j) : midR L x j rest = insR lt L x ++ rest := by
  subst h; rfl

section
variable {α : Type} [Inhabited α]
open Go.Sort
theorem getI {l : List α} {j : Nat} {y : α} (h : l[j]? = some y) : l.toArray[j]! = y := by
  obtain ⟨hj, rfl⟩ := List.getElem?_eq_some_iff.1 h
  rw [getElem!_pos l.toArray j (by simpa using hj)]; simp
theorem insInner_eq (lt : α → α → Bool) (L : List α) (x : α) (rest : List α) (j : Nat) (hj : j ≤ L.length) (hp : posR lt x L j = posR lt x L L.length) :
    insInner lt 0 j (midR L x j rest).toArray = (insR lt L x ++ rest).toArray := by
  induction j with
  | zero => rw [insInner, midR_end (by rw [← hp]; rfl)]
  | succ j ih =>
    have hy : L[j]? = some L[j] := List.getElem?_eq_getElem hj
    have e1 : (midR L x (j + 1) rest).toArray[j + 1]! = x := getI (midR_at hj)
    have e2 : (midR L x (j + 1) rest).toArray[j]! = L[j] := getI (midR_below hy)
    rw [insInner, e1, e2]
    cases hl : lt x L[j] with
    | true =>
      have hsw : swp (midR L x (j + 1) rest).toArray (j + 1) j = (midR L x j rest).toArray := by
        unfold swp
        rw [e1, e2]
        apply Array.toList_inj.1
        simp only [Array.toList_setIfInBounds]
        exact midR_swap hy
      rw [if_pos (by simp), hsw]
      exact ih (by omega) (by rw [← hp, posR_go hy hl])
    | false =>
      rw [if_neg (by simp)]
      rw [midR_end (by rw [← hp, posR_stop hy hl])]
theorem insOuter_eq (lt : α → α → Bool) (l : List α) (n i : Nat) (hn : n = l.length - i) (hi : i ≤ l.length) :
    insOuter lt 0 l.length i (isrt lt (l.take i) ++ l.drop i).toArray = (isrt lt l).toArray := by
  induction n generalizing i with
  | zero =>
    have : i = l.length := by omega
    subst this
    rw [insOuter, if_neg (by omega)]; simp
  | succ n ih =>
    obtain ⟨x, hx⟩ : ∃ x, l[i]? = some x := ⟨_, List.getElem?_eq_getElem (by omega)⟩
    have hlen := isrt_take_length lt (l := l) (k := i) hi
    rw [insOuter, if_pos (by omega)]
    have hd : l.drop i = x :: l.drop (i + 1) := by
      obtain ⟨h, rfl⟩ := List.getElem?_eq_some_iff.1 hx
      exact List.drop_eq_getElem_cons h
    have h1 := midR_top (isrt lt (l.take i)) x (l.drop (i + 1))
    rw [hlen] at h1
    rw [hd, ← h1, insInner_eq lt _ _ _ _ (by omega) (by rw [hlen]), ← isrt_at hx]
    exact ih (i + 1) (by omega) (by omega)
theorem insertionSort_eq (lt : α → α → Bool) (l : List α) (h : 0 < l.length) : insertionSort lt l.toArray 0 l.length = (isrt lt l).toArray := by
  have h0 : isrt lt (l.take 1) ++ l.drop 1 = l := by
    cases l with
    | nil => simp at h
    | cons a l => simp [isrt, insR, posR]
  have := insOuter_eq lt l (l.length - 1) 1 rfl (by omega)
  rw [h0] at this
  exact this
end
open Go.Sort in
theorem putCells_all {α : Type} [Inhabited α] (enc : α → Value) (ys : List α) (xs ex : List Value) (h : xs.length = ys.length) : putCells enc 0 ys.toArray (xs ++ ex).toArray = (ys.map enc ++ ex).toArray := by
  unfold putCells
  apply Array.ext
  · simp [h]
  · intro i h1 h2
    rw [Array.getElem_mapIdx]
    by_cases hi : i < ys.length
    · rw [if_pos ⟨Nat.zero_le _, by simpa using hi⟩]
      simp only [Nat.sub_zero, List.getElem_toArray]
      rw [List.getElem_append_left (by simpa using hi), getElem!_pos ys.toArray i (by simpa using hi)]
      simp
    · rw [if_neg (by simp; omega)]
      simp only [List.getElem_toArray]
      rw [List.getElem_append_right (by omega), List.getElem_append_right (by simp; omega)]
      simp [h]
end Go.Proofs.Ytbodfepfapjikaa
