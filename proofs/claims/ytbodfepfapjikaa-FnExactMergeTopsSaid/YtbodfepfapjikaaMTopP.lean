/-
  Tops that are merged: plain. No program in sight.
-/
import Derived.Test.YtbodfepfapjikaaTopsB
import Derived.Test.YtbodfepfapjikaaOrdP
namespace Go.Proofs.Ytbodfepfapjikaa
open Go.RowKit
set_option linter.unusedVariables false

/-- The first n of the second list, behind the first list, where they are not there yet. -/
def unT (a b : List Int) : Nat → List Int
  | 0 => a
  | n + 1 => if hasI (unT a b n) (b.getD n 0) = true then unT a b n else unT a b n ++ [b.getD n 0]
theorem unT_yes {a b : List Int} {n : Nat} {y : Int} (hy : Hid (b[n]? = some y)) (h : hasI (unT a b n) y = true) : unT a b (n + 1) = unT a b n := by
  have e : unT a b (n + 1) = if hasI (unT a b n) (b.getD n 0) = true then unT a b n else unT a b n ++ [b.getD n 0] := rfl
  rw [e, getD_at hy, if_pos h]
theorem unT_no {a b : List Int} {n : Nat} {y : Int} (hy : Hid (b[n]? = some y)) (h : hasI (unT a b n) y = false) : unT a b (n + 1) = unT a b n ++ [y] := by
  have e : unT a b (n + 1) = if hasI (unT a b n) (b.getD n 0) = true then unT a b n else unT a b n ++ [b.getD n 0] := rfl
  rw [e, getD_at hy, h]; rfl
theorem unT_length (a b : List Int) (n : Nat) : (unT a b n).length ≤ a.length + n := by
  induction n with
  | zero => exact Nat.le_refl _
  | succ n ih =>
    have e : unT a b (n + 1) = if hasI (unT a b n) (b.getD n 0) = true then unT a b n else unT a b n ++ [b.getD n 0] := rfl
    rw [e]
    split
    · omega
    · rw [List.length_append]; simp; omega
theorem unT_sub {a b : List Int} {n : Nat} {z : Int} (h : z ∈ unT a b n) (hn : n ≤ b.length) : z ∈ a ∨ z ∈ b := by
  induction n with
  | zero => exact .inl h
  | succ n ih =>
    have e : unT a b (n + 1) = if hasI (unT a b n) (b.getD n 0) = true then unT a b n else unT a b n ++ [b.getD n 0] := rfl
    rw [e] at h
    split at h
    · exact ih h (by omega)
    · rcases List.mem_append.1 h with h | h
      · exact ih h (by omega)
      · rw [List.mem_singleton] at h
        subst h
        rw [List.getD_eq_getElem?_getD, List.getElem?_eq_getElem (by omega)]
        exact .inr (List.getElem_mem _)
theorem unT_nodup {a b : List Int} (h : a.Nodup) (n : Nat) : (unT a b n).Nodup := by
  induction n with
  | zero => exact h
  | succ n ih =>
    have e : unT a b (n + 1) = if hasI (unT a b n) (b.getD n 0) = true then unT a b n else unT a b n ++ [b.getD n 0] := rfl
    rw [e]
    split
    · exact ih
    · rename_i hh
      rw [List.nodup_append]
      refine ⟨ih, by simp, fun x hx y hy => ?_⟩
      rw [List.mem_singleton] at hy
      subst hy
      rintro rfl
      apply hh
      rw [hasI_contains, List.contains_iff_mem]
      exact hx
/-- One element stands ahead of another one in a list. -/
def Bef (l : List Int) (x y : Int) : Prop := ∃ i j : Nat, i < j ∧ l[i]? = some x ∧ l[j]? = some y
theorem nodup_at {l : List Int} (h : l.Nodup) {i j : Nat} {x : Int} (hi : l[i]? = some x) (hj : l[j]? = some x) : i = j := by
  obtain ⟨h1, e1⟩ := List.getElem?_eq_some_iff.1 hi
  obtain ⟨h2, e2⟩ := List.getElem?_eq_some_iff.1 hj
  rcases Nat.lt_trichotomy i j with h3 | h3 | h3
  · exact absurd (e1.trans e2.symm) (List.pairwise_iff_getElem.1 h i j h1 h2 h3)
  · exact h3
  · exact absurd (e2.trans e1.symm) (List.pairwise_iff_getElem.1 h j i h2 h1 h3)
section
variable (up : Int → Int)
/-- The greater one comes first. -/
def ltU (x y : Int) : Bool := decide (up y < up x)
def RelU (l : List Int) (x y : Int) : Prop := up y < up x ∨ (up x = up y ∧ Bef l x y)
end
theorem RelU.tr {up : Int → Int} {l : List Int} (h : l.Nodup) : ∀ a b c, RelU up l a b → RelU up l b c → RelU up l a c := by
  intro a b c h1 h2
  rcases h1 with h1 | ⟨h1, i, j, hij, hi, hj⟩ <;> rcases h2 with h2 | ⟨h2, i', j', hij', hi', hj'⟩
  · exact .inl (by omega)
  · exact .inl (by omega)
  · exact .inl (by omega)
  · have := nodup_at h hj hi'
    subst this
    exact .inr ⟨by omega, i, j', by omega, hi, hj'⟩
theorem RelU.as {up : Int → Int} {l : List Int} (h : l.Nodup) : ∀ a b, RelU up l a b → RelU up l b a → False := by
  intro a b h1 h2
  rcases h1 with h1 | ⟨h1, i, j, hij, hi, hj⟩ <;> rcases h2 with h2 | ⟨h2, i', j', hij', hi', hj'⟩
  · omega
  · omega
  · omega
  · have := nodup_at h hj hi'
    have := nodup_at h hi hj'
    omega
theorem cr_nodup {up : Int → Int} {l : List Int} : l.Pairwise (Cr (ltU up) (RelU up l)) := by
  rw [List.pairwise_iff_getElem]
  intro i j hi hj hij
  refine ⟨fun h => ?_, fun h => ?_⟩
  · have := of_decide_eq_true h; exact .inl this
  · have := of_decide_eq_false h
    by_cases h2 : up l[j] < up l[i]
    · exact .inl h2
    · exact .inr ⟨by omega, i, j, hij, List.getElem?_eq_getElem hi, List.getElem?_eq_getElem hj⟩
/-- The keys, the greater ones first. -/
def srtU (up : Int → Int) (l : List Int) : List Int := isrt (ltU up) l
theorem srtU_of {up : Int → Int} {l M : List Int} (h : l.Nodup) (hm : Mg (RelU up l) l M) : M = srtU up l := mg_isrt (RelU.tr h) (RelU.as h) cr_nodup hm
theorem srtU_mem {up : Int → Int} {l : List Int} (h : l.Nodup) {z : Int} : z ∈ srtU up l ↔ z ∈ l := (isrt_mg (RelU.tr h) l (cr_nodup (up := up))).1.mem_iff
theorem cfU_lt (up : Int → Int) (x y : Int) : decide (cmpI (up y) (up x) < 0) = ltU up x y := by
  unfold ltU cmpI
  by_cases h : up y < up x
  · rw [if_pos h, decide_eq_true h]; rfl
  · rw [if_neg h, decide_eq_false h]
    by_cases h2 : up x < up y
    · rw [if_pos h2]; rfl
    · rw [if_neg h2]; rfl

/-! ### the bounds -/
theorem bndT_bd {r : Int} {k c e : List Int} (hv : vTops r k c e = true) (key : Int) : 0 ≤ (bndT r k c e key).1 ∧ (bndT r k c e key).1 ≤ 1000000000000 ∧ 0 ≤ (bndT r k c e key).2 ∧ (bndT r k c e key).2 ≤ 1000000000000 := by
  have hv' := hv
  simp only [vTops, Bool.and_eq_true, Bool.not_eq_true', decide_eq_false_iff_not, beq_iff_eq] at hv'
  obtain ⟨⟨⟨⟨h1, h2⟩, h3⟩, h4⟩, h5⟩ := hv'
  rw [topAt_all k c e h3] at h5
  simp only [Bool.and_eq_true, decide_eq_true_eq, List.all_eq_true, List.mem_range, topCE] at h5
  obtain ⟨⟨h5, _⟩, _⟩ := h5
  obtain ⟨⟨g1, g2⟩, g3, g4, g5, g6, g7, g8, g9⟩ := vTops_iff hv
  rcases idxP_cases (fun y => y == key) k with ⟨i, hi, he⟩ | he
  · have hu : Hid (c[i]? = some (c[i]'(by omega))) := List.getElem?_eq_getElem (by omega)
    have hz : Hid (e[i]? = some (e[i]'(by omega))) := List.getElem?_eq_getElem (by omega)
    rw [bndT_hit he hu hz]
    have h6 := h5 i (by omega)
    rw [getD_at hu, getD_at hz] at h6
    have h7 := inB_iff.1 h6.1
    have h8 := inB_iff.1 h6.2
    simp only
    omega
  · by_cases hr : (k.length : Int) < r
    · rw [bndT_room he hr]; simp
    · rw [bndT_full he hr]
      have hp : 0 < c.length := by omega
      have h6 := lowN_min c hp
      have h7 := g6 _ (List.mem_of_getElem? h6)
      simp only
      omega
/-- What MergeTops returns. -/
def upT (ra : Int) (ka ca ea : List Int) (rb : Int) (kb cb eb : List Int) (key : Int) : Int := (bndT ra ka ca ea key).2 + (bndT rb kb cb eb key).2
def erT (ra : Int) (ka ca ea : List Int) (rb : Int) (kb cb eb : List Int) (key : Int) : Int := upT ra ka ca ea rb kb cb eb key - (bndT ra ka ca ea key).1 - (bndT rb kb cb eb key).1
def giveT (r : Int) (k c e : List Int) : (Int × List Int × List Int × List Int) × Bool := if vTops r k c e = true then ((r, k, c, e), true) else ((0, [], [], []), false)
def pMergeTops (ra : Int) (ka ca ea : List Int) (rb : Int) (kb cb eb : List Int) : (Int × List Int × List Int × List Int) × Bool :=
  if (vTops ra ka ca ea && vTops rb kb cb eb && (ra == rb)) = true then
    giveT ra ((srtU (upT ra ka ca ea rb kb cb eb) (unT ka kb kb.length)).take ra.toNat)
      (((srtU (upT ra ka ca ea rb kb cb eb) (unT ka kb kb.length)).take ra.toNat).map (upT ra ka ca ea rb kb cb eb))
      (((srtU (upT ra ka ca ea rb kb cb eb) (unT ka kb kb.length)).take ra.toNat).map (erT ra ka ca ea rb kb cb eb))
  else ((0, [], [], []), false)

/-! ### a list that is shifted from a place on -/
section
variable {α : Type} (z0 : α)
/-- The list while it is shifted: from place k on all lie one further. -/
def shG (L : List α) (k : Nat) : List α := (L ++ [z0]).take (k + 1) ++ L.drop k
variable {z0}
theorem shG_length {L : List α} {k : Nat} (h : k ≤ L.length) : (shG z0 L k).length = L.length + 1 := by
  simp [shG]; omega
theorem shG_top (L : List α) : shG z0 L L.length = L ++ [z0] := by
  rw [shG, List.take_of_length_le (by simp), List.drop_length, List.append_nil]
theorem shG_low {L : List α} {k j : Nat} (hj : j ≤ k) (h : k ≤ L.length) : (shG z0 L k)[j]? = (L ++ [z0])[j]? := by
  unfold shG
  rw [List.getElem?_append_left (by simp; omega), List.getElem?_take_of_lt (by omega)]
theorem shG_step {L : List α} {m : Nat} {z : α} (h : L[m]? = some z) : (shG z0 L (m + 1)).set (m + 1) z = shG z0 L m := by
  obtain ⟨hm, rfl⟩ := List.getElem?_eq_some_iff.1 h
  apply List.ext_getElem?
  intro i
  rw [List.getElem?_set, shG_length (by omega)]
  by_cases h1 : m + 1 = i
  · subst h1
    rw [if_pos rfl, if_pos (by omega)]
    unfold shG
    rw [List.getElem?_append_right (by simp; omega)]
    simp only [List.length_take, List.length_append, List.length_cons, List.length_nil]
    rw [show m + 1 - min (m + 1) (L.length + (0 + 1)) = 0 by omega, List.drop_eq_getElem_cons hm]
    rfl
  · rw [if_neg h1]
    by_cases h2 : i ≤ m
    · rw [shG_low (by omega) (by omega), shG_low h2 (by omega)]
    · unfold shG
      rw [List.getElem?_append_right (by simp; omega), List.getElem?_append_right (by simp; omega)]
      simp only [List.length_take, List.length_append, List.length_cons, List.length_nil, List.getElem?_drop]
      congr 1
      omega
theorem shG_put {L : List α} {p : Nat} {x : α} (h : p ≤ L.length) : (shG z0 L p).set p x = L.take p ++ x :: L.drop p := by
  apply List.ext_getElem?
  intro i
  rw [List.getElem?_set, shG_length h]
  have hl : (L.take p).length = p := by rw [List.length_take]; omega
  by_cases h1 : p = i
  · subst h1
    rw [if_pos rfl, if_pos (by omega), List.getElem?_append_right (by omega), hl, Nat.sub_self]; rfl
  · rw [if_neg h1]
    by_cases h2 : i < p
    · rw [shG_low (by omega) h, List.getElem?_append_left (by omega), List.getElem?_append_left (by omega), List.getElem?_take_of_lt h2]
    · unfold shG
      rw [List.getElem?_append_right (by simp; omega), List.getElem?_append_right (by omega), hl]
      obtain ⟨m, rfl⟩ : ∃ m, i = p + 1 + m := ⟨i - (p + 1), by omega⟩
      rw [show p + 1 + m - p = m + 1 by omega, List.getElem?_cons_succ]
      simp only [List.length_take, List.length_append, List.length_cons, List.length_nil]
      congr 1
      omega
end
end Go.Proofs.Ytbodfepfapjikaa
