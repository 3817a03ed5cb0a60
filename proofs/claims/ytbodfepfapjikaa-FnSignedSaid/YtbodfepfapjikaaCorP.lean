/-
  Corrected cells, plain: their floats are numbers; where an element comes to lie when the list is shifted. No program in sight.
-/
import Derived.Test.YtbodfepfapjikaaFloatList
import Derived.Test.YtbodfepfapjikaaCellRow
namespace Go.Proofs.Ytbodfepfapjikaa
open Go.RowKit Go.Shelf Go.Sort Ieee
set_option linter.unusedVariables false

theorem int_fb {n : Int} (h : -1125899906842624 ≤ n ∧ n ≤ 1125899906842624) : Fb single (floatOfInt .f32 n) 50 := by
  refine (nearest_fs (s := decide (n < 0)) (M := n.natAbs) (p := 0) (k := 1) (C := 1) (L := 50) (by decide) (by decide) (by decide) ?_ (by decide) (by decide)).fb
  rw [Nat.one_mul, show ((50 : Int) - 0).toNat = 50 by decide]
  omega
/-- One corrected cell. -/
def corX (cell row : Int) (wd : Nat) : Nat := sS (floatOfInt .f32 cell) (sQ (floatOfInt .f32 (row - cell)) (floatOfInt .f32 ((wd : Int) - 1)))
theorem corX_spec {cell row : Int} {wd : Nat} (h1 : -1000000000000 ≤ cell ∧ cell ≤ 1000000000000) (h2 : -100000000000000 ≤ row ∧ row ≤ 100000000000000) (h3 : 2 ≤ wd) (h4 : wd ≤ 64) :
    floatBits .quo .f32 (floatOfInt .f32 (row - cell)) (floatOfInt .f32 ((wd : Int) - 1)) = some (sQ (floatOfInt .f32 (row - cell)) (floatOfInt .f32 ((wd : Int) - 1))) ∧ floatBits .sub .f32 (floatOfInt .f32 cell) (sQ (floatOfInt .f32 (row - cell)) (floatOfInt .f32 ((wd : Int) - 1))) = some (corX cell row wd) ∧ Fb single (corX cell row wd) 51 := by
  have hw : ((wd : Int) - 1) = ((wd - 1 : Nat) : Int) := by omega
  obtain ⟨q1, q2, q3, q4⟩ := ofInt_read' (n := wd - 1) (by omega) (by omega)
  obtain ⟨s, hb⟩ := int_fb (n := row - cell) (by omega)
  have hq : floatBits .quo .f32 (floatOfInt .f32 (row - cell)) (floatOfInt .f32 ((wd : Int) - 1)) = some (sQ (floatOfInt .f32 (row - cell)) (floatOfInt .f32 ((wd : Int) - 1))) ∧ Fb single (sQ (floatOfInt .f32 (row - cell)) (floatOfInt .f32 ((wd : Int) - 1))) 50 := by
    refine some_getD (p := fun r => Fb single r 50) ?_
    rw [hw]
    obtain ⟨r, h5, h6⟩ := quo_fs (k := 1) (c := ((wd - 1).log2 : Int)) (by decide) (by decide) hb q1 (by omega) (by omega) (by rw [show (((wd - 1).log2 : Int) - (((wd - 1).log2 : Int) - 23)).toNat = 23 by omega]; exact q2) (by rw [show (((wd - 1).log2 : Int) - (((wd - 1).log2 : Int) - 23)).toNat = 23 by omega]; exact q3) (by omega) (by omega)
    exact ⟨r, h5, _, h6.mono (by omega)⟩
  have hs : floatBits .sub .f32 (floatOfInt .f32 cell) (sQ (floatOfInt .f32 (row - cell)) (floatOfInt .f32 ((wd : Int) - 1))) = some (corX cell row wd) ∧ Fb single (corX cell row wd) (max 50 50 + 1) := some_getD (sub_fb (int_fb (by omega)) hq.2 (by decide) (by decide))
  exact ⟨hq.1, hs.1, hs.2⟩
/-- The corrected cells of a key. -/
def corL (x : List Int) (wd s key n : Nat) : List Nat := (List.range n).map fun i => corX (x.getD (placeN wd s key i) 0) (rowL x wd i).sum wd
theorem corL_length (x : List Int) (wd s key n : Nat) : (corL x wd s key n).length = n := by simp [corL]
theorem corL_succ {x : List Int} {wd s key n : Nat} {u : Int} (h : Hid (x[placeN wd s key n]? = some u)) : corL x wd s key (n + 1) = corL x wd s key n ++ [corX u (rowL x wd n).sum wd] := by
  simp only [corL, List.range_succ, List.map_append, List.map_cons, List.map_nil]
  rw [List.getD_eq_getElem?_getD, h.out]; rfl
theorem row_bd {x : List Int} {wd i : Nat} (h4 : wd ≤ 64) (hbd : ∀ y ∈ x, -1000000000000 ≤ y ∧ y ≤ 1000000000000) : -100000000000000 ≤ (rowL x wd i).sum ∧ (rowL x wd i).sum ≤ 100000000000000 := by
  have h := sum_bound (l := rowL x wd i) (M := 1000000000000) (by omega) (fun y hy => hbd y (rowL_mem hy)) 64
  rw [List.take_of_length_le (by simp only [rowL, List.length_take]; omega)] at h
  omega
theorem corL_fb {x : List Int} {wd s key n : Nat} (h3 : 2 ≤ wd) (h4 : wd ≤ 64) (hbd : ∀ y ∈ x, -1000000000000 ≤ y ∧ y ≤ 1000000000000) : ∀ z ∈ corL x wd s key n, Fb single z 51 := by
  intro z hz
  obtain ⟨i, _, rfl⟩ := List.mem_map.1 hz
  refine (corX_spec ?_ (row_bd h4 hbd) h3 h4).2.2
  rw [List.getD_eq_getElem?_getD]
  cases h : x[placeN wd s key i]? with
  | none => simp
  | some y => exact hbd y (List.mem_of_getElem? h)
theorem insR_mem {lt : Nat → Nat → Bool} {L : List Nat} {x z : Nat} (h : z ∈ insR lt L x) : z = x ∨ z ∈ L := by
  unfold insR at h
  rcases List.mem_append.1 h with h | h
  · exact .inr (List.mem_of_mem_take h)
  · rcases List.mem_cons.1 h with h | h
    · exact .inl h
    · exact .inr (List.mem_of_mem_drop h)
theorem isrt_mem {lt : Nat → Nat → Bool} : ∀ (l : List Nat) {z : Nat}, z ∈ isrt lt l → z ∈ l := by
  intro l
  suffices h : ∀ (l a : List Nat) (z : Nat), z ∈ l.foldl (insR lt) a → z ∈ l ∨ z ∈ a by
    intro z hz
    rcases h l [] z hz with h | h
    · exact h
    · simp at h
  intro l
  induction l with
  | nil => intro a z hz; exact .inr hz
  | cons y l ih =>
    intro a z hz
    rcases ih _ z hz with h | h
    · exact .inl (List.mem_cons_of_mem _ h)
    · rcases insR_mem h with h | h
      · subst h; exact .inl List.mem_cons_self
      · exact .inr h
theorem medF_mem {l : List Nat} (h : 0 < l.length) : medF l ∈ l := isrt_mem l (List.mem_of_getElem? (medF_at l h))
/-- Two numbers, held against each other from both sides. -/
theorem ord_swap {a b : Nat} {L L' : Int} (ha : Fb single a L) (hb : Fb single b L') : (single.order b a == some .gt) = ltF a b := by
  obtain ⟨s, m, e, ha, _⟩ := ha
  obtain ⟨t, n, j, hb, _⟩ := hb
  unfold ltF
  rw [order_num32 hb ha, order_num32 ha hb, Int.min_comm j e]
  generalize signed s m (e - min e j).toNat = p
  generalize signed t n (j - min e j).toNat = q
  rcases Int.lt_trichotomy p q with h | h | h
  · rw [cmp_lt' h, cmp_gt' h]; rfl
  · subst h; simp
  · rw [cmp_lt' h, cmp_gt' h]; rfl
/-- What CorrectedAt returns. -/
def pCorrectedAt (a0 a1 a2 : Int) (x : List Int) (key : Int) : Nat × Bool :=
  if (vCells a0 a1 a2 x && inB key 0 4294967295) = true then (medF (corL x a0.toNat a2.toNat key.toNat a1.toNat), true) else (0, false)
theorem nn_CorrectedAt (a0 a1 a2 : Int) (x : List Int) (key : Int) : NN single (pCorrectedAt a0 a1 a2 x key).1 := by
  unfold pCorrectedAt
  split
  · rename_i h
    simp only [Bool.and_eq_true] at h
    obtain ⟨⟨hw1, hw2⟩, ⟨hd1, hd2⟩, ⟨hs1, hs2⟩, hl, hbd⟩ := vCells_iff h.1
    refine fb_nn (corL_fb (x := x) (wd := a0.toNat) (s := a2.toNat) (key := key.toNat) (n := a1.toNat) (by omega) (by omega) hbd _ (medF_mem ?_))
    rw [corL_length]; omega
  · exact nn_zero
/-- The list while it is shifted: from place k on all lie one further. -/
def shR (L : List Nat) (k : Nat) : List Nat := (L ++ [0]).take (k + 1) ++ L.drop k
theorem shR_length {L : List Nat} {k : Nat} (h : k ≤ L.length) : (shR L k).length = L.length + 1 := by
  simp [shR]; omega
theorem shR_top (L : List Nat) : shR L L.length = L ++ [0] := by
  rw [shR, List.take_of_length_le (by simp), List.drop_length, List.append_nil]
theorem shR_low {L : List Nat} {k j : Nat} (hj : j ≤ k) (h : k ≤ L.length) : (shR L k)[j]? = (L ++ [0])[j]? := by
  unfold shR
  rw [List.getElem?_append_left (by simp; omega), List.getElem?_take_of_lt (by omega)]
theorem shR_step {L : List Nat} {m z : Nat} (h : L[m]? = some z) : (shR L (m + 1)).set (m + 1) z = shR L m := by
  obtain ⟨hm, rfl⟩ := List.getElem?_eq_some_iff.1 h
  apply List.ext_getElem?
  intro i
  rw [List.getElem?_set, shR_length (by omega)]
  by_cases h1 : m + 1 = i
  · subst h1
    rw [if_pos rfl, if_pos (by omega)]
    unfold shR
    rw [List.getElem?_append_right (by simp; omega)]
    simp only [List.length_take, List.length_append, List.length_cons, List.length_nil]
    rw [show m + 1 - min (m + 1) (L.length + (0 + 1)) = 0 by omega, List.drop_eq_getElem_cons hm]
    rfl
  · rw [if_neg h1]
    by_cases h2 : i ≤ m
    · rw [shR_low (by omega) (by omega), shR_low h2 (by omega)]
    · unfold shR
      rw [List.getElem?_append_right (by simp; omega), List.getElem?_append_right (by simp; omega)]
      simp only [List.length_take, List.length_append, List.length_cons, List.length_nil, List.getElem?_drop]
      congr 1
      omega
theorem shR_put {L : List Nat} {p x : Nat} (h : p ≤ L.length) : (shR L p).set p x = L.take p ++ x :: L.drop p := by
  apply List.ext_getElem?
  intro i
  rw [List.getElem?_set, shR_length h]
  have hl : (L.take p).length = p := by rw [List.length_take]; omega
  by_cases h1 : p = i
  · subst h1
    rw [if_pos rfl, if_pos (by omega), List.getElem?_append_right (by omega), hl, Nat.sub_self]; rfl
  · rw [if_neg h1]
    by_cases h2 : i < p
    · rw [shR_low (by omega) h, List.getElem?_append_left (by omega), List.getElem?_append_left (by omega), List.getElem?_take_of_lt h2]
    · unfold shR
      rw [List.getElem?_append_right (by simp; omega), List.getElem?_append_right (by omega), hl]
      obtain ⟨m, rfl⟩ : ∃ m, i = p + 1 + m := ⟨i - (p + 1), by omega⟩
      rw [show p + 1 + m - p = m + 1 by omega, List.getElem?_cons_succ]
      simp only [List.length_take, List.length_append, List.length_cons, List.length_nil]
      congr 1
      omega
end Go.Proofs.Ytbodfepfapjikaa
