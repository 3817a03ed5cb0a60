/-
  Valid tops: plain, no program in sight.
-/
import Derived.Test.YtbodfepfapjikaaAsc
import Derived.Test.YtbodfepfapjikaaNum
import Derived.Test.YtbodfepfapjikaaWithin
import Derived.Lib.SlicesCompact
namespace Go.Proofs.Ytbodfepfapjikaa
set_option linter.unusedVariables false
theorem insA_len_in {n : Int} {l : List Int} (h : Asc l) (hn : n ∈ l) : (insA n l).length = l.length := by
  induction l with
  | nil => simp at hn
  | cons y l ih =>
    rw [asc_cons] at h
    simp only [insA]
    simp only [List.mem_cons] at hn
    rcases hn with rfl | hn
    · simp
    · have := h.1 _ hn
      rw [if_neg (by omega)]
      simp [ih h.2 hn]
theorem insA_len_out {n : Int} {l : List Int} (hn : n ∉ l) : (insA n l).length = l.length + 1 := by
  induction l with
  | nil => simp [insA]
  | cons y l ih =>
    simp only [List.mem_cons, not_or] at hn
    simp only [insA]
    by_cases h : n ≤ y
    · rw [if_pos h, if_pos (by omega)]; simp
    · rw [if_neg h, List.length_cons, ih hn.2]; simp
theorem ascOf_len_iff (l : List Int) : (ascOf l).length = l.length ↔ l.Nodup := by
  suffices h : ∀ k, k ≤ l.length → ((ascOf (l.take k)).length = k ↔ (l.take k).Nodup) by
    have := h l.length (Nat.le_refl _)
    rwa [List.take_length] at this
  intro k
  induction k with
  | zero => intro _; simp [ascOf]
  | succ k ih =>
    intro hk
    have hy : l[k]? = some l[k] := List.getElem?_eq_getElem hk
    have hs := ascOf_spec (l.take k)
    have hle := ascOf_length (l.take k)
    simp only [List.length_take] at hle
    rw [ascOf_at hy, List.take_add_one, hy, Option.toList_some, List.nodup_append]
    have ih := ih (by omega)
    by_cases hm : l[k] ∈ l.take k
    · have h1 := insA_len_in hs.1 ((hs.2 _).2 hm)
      constructor
      · intro h; omega
      · intro h; exact absurd rfl (h.2.2 _ hm l[k] (by simp))
    · have h1 := insA_len_out (fun h => hm ((hs.2 _).1 h))
      rw [h1]
      constructor
      · intro h
        refine ⟨ih.1 (by omega), by simp, fun a ha b hb e => ?_⟩
        simp only [List.mem_singleton] at hb
        subst hb; subst e; exact hm ha
      · intro h; rw [ih.2 h.1]
/-- Entry i of tops is good. -/
def topAt (k c e : List Int) (i : Nat) : Bool := inB (k.getD i 0) 0 4294967295 && !hasI (k.take i) (k.getD i 0) && inB (c.getD i 0) 1 1000000000000 && inB (e.getD i 0) 0 (c.getD i 0 - 1)
/-- The tops are valid. -/
def vTops (r : Int) (k c e : List Int) : Bool := inB r 1 32 && !decide ((k.length : Int) > r) && (c.length == k.length) && (e.length == k.length) && (List.range k.length).all (topAt k c e)
/-- Count and error of entry i are good. -/
def topCE (c e : List Int) (i : Nat) : Bool := inB (c.getD i 0) 1 1000000000000 && inB (e.getD i 0) 0 (c.getD i 0 - 1)
theorem nodup_take {k : List Int} : k.Nodup ↔ ∀ i, i < k.length → (k.take i).contains (k.getD i 0) = false := by
  rw [List.Nodup, List.pairwise_iff_getElem]
  constructor
  · intro h i hi
    rw [Bool.eq_false_iff]
    intro hc
    rw [List.contains_iff_mem] at hc
    obtain ⟨j, hj, e⟩ := List.mem_iff_getElem.1 hc
    rw [List.getElem_take, List.getD_eq_getElem?_getD, List.getElem?_eq_getElem hi] at e
    exact h j i (by simp at hj; omega) hi (by simp at hj; omega) e
  · intro h i j hi hj hij e
    have h1 := h j hj
    rw [Bool.eq_false_iff] at h1
    apply h1
    rw [List.contains_iff_mem, List.getD_eq_getElem?_getD, List.getElem?_eq_getElem hj]
    refine List.mem_iff_getElem.2 ⟨i, by simp; omega, ?_⟩
    rw [List.getElem_take]; exact e
theorem topAt_all (k c e : List Int) (hc : c.length = k.length) : (List.range k.length).all (topAt k c e) = ((List.range c.length).all (topCE c e) && allB k 0 4294967295 && decide (k.Nodup)) := by
  rw [Bool.eq_iff_iff]
  simp only [Bool.and_eq_true, decide_eq_true_eq, List.all_eq_true, List.mem_range, topAt, topCE, allB, nodup_take, hc, Bool.not_eq_true', hasI_contains]
  constructor
  · intro h
    refine ⟨⟨fun i hi => ⟨(h i hi).1.2, (h i hi).2⟩, fun x hx => ?_⟩, fun i hi => (h i hi).1.1.2⟩
    obtain ⟨i, hi, rfl⟩ := List.mem_iff_getElem.1 hx
    have := (h i hi).1.1.1
    rwa [List.getD_eq_getElem?_getD, List.getElem?_eq_getElem hi] at this
  · rintro ⟨⟨h1, h2⟩, h3⟩ i hi
    refine ⟨⟨⟨?_, h3 i hi⟩, (h1 i hi).1⟩, (h1 i hi).2⟩
    rw [List.getD_eq_getElem?_getD, List.getElem?_eq_getElem hi]
    exact h2 _ (List.getElem_mem hi)
/-- How many elements Compact leaves of an ordered list. -/
theorem compact_take (l : List Int) (h : l.Pairwise (· ≤ ·)) (m : Nat) (hm : m ≤ l.length) : (Go.Lib.compactUpTo l.toArray m).length = (grp (l.take m)).length := by
  induction m with
  | zero => simp [Go.Lib.compactUpTo, grp]
  | succ m ih =>
    have hy : l[m]? = some l[m] := List.getElem?_eq_getElem (by omega)
    have e : Go.Lib.compactUpTo l.toArray (m + 1) = Go.Lib.compactUpTo l.toArray m ++ (if Go.Lib.keeps l.toArray m then [l.toArray[m]!] else []) := by
      unfold Go.Lib.compactUpTo
      rw [List.range_succ, List.filter_append, List.map_append]
      congr 1
      by_cases hk : Go.Lib.keeps l.toArray m <;> simp [hk]
    rw [e, List.length_append, ih (by omega), grp_at hy]
    have hk : Go.Lib.keeps l.toArray m = true ↔ ¬ (grp (l.take m)).getLast? = some l[m] := by
      rw [(grp_spec m h).2.2]
      cases m with
      | zero => simp [Go.Lib.keeps]
      | succ m =>
        rw [List.getLast?_eq_getElem?]
        simp only [List.length_take, Nat.min_eq_left (show m + 1 ≤ l.length by omega), Nat.add_sub_cancel]
        rw [List.getElem?_take_of_lt (by omega), List.getElem?_eq_getElem (by omega)]
        have e1 : l.toArray[m + 1]! = l[m + 1] := by rw [getElem!_pos l.toArray (m + 1) (by simpa using (by omega : m + 1 < l.length))]; simp
        have e2 : l.toArray[m]! = l[m] := by rw [getElem!_pos l.toArray m (by simpa using (by omega : m < l.length))]; simp
        simp only [Go.Lib.keeps, Nat.add_sub_cancel, e1, e2]
        simp
        constructor
        · intro h1 h2; exact h1 h2.symm
        · intro h1 h2; exact h1 h2.symm
    by_cases hc : (grp (l.take m)).getLast? = some l[m]
    · rw [if_neg (fun h => hk.1 h hc), if_pos hc]; simp
    · rw [if_pos (hk.2 hc), if_neg hc]; simp
theorem compact_sorted (l : List Int) : (Go.Lib.compactUpTo (sortI l).toArray (sortI l).length).length = (ascOf l).length := by
  rw [compact_take _ (sortI_pw l) _ (Nat.le_refl _), List.take_length, grp_sort]
end Go.Proofs.Ytbodfepfapjikaa
