/-
  Ascending lists without repeats, how often a member stands in a list, the sorted list: plain, no program in sight.
-/
import Derived.Test.YtbodfepfapjikaaMem
namespace Go.Proofs.Ytbodfepfapjikaa
set_option linter.unusedVariables false
/-- Whether v lies in the list. -/
def hasI (x : List Int) (v : Int) : Bool := x.any fun y => y == v
theorem hasI_contains (x : List Int) (v : Int) : hasI x v = x.contains v := by
  unfold hasI
  induction x with
  | nil => rfl
  | cons y x ih =>
    rw [List.contains_cons, List.any_cons, ih]
    congr 1
    by_cases h : v = y
    · subst h; simp
    · rw [beq_eq_false_iff_ne.2 h, beq_eq_false_iff_ne.2 (Ne.symm h)]
/-- Strictly ascending. -/
def Asc (l : List Int) : Prop := l.Pairwise (· < ·)
theorem asc_cons {x : Int} {l : List Int} : Asc (x :: l) ↔ (∀ z ∈ l, x < z) ∧ Asc l := List.pairwise_cons
theorem asc_ext {a b : List Int} (ha : Asc a) (hb : Asc b) (h : ∀ z, z ∈ a ↔ z ∈ b) : a = b := by
  induction a generalizing b with
  | nil =>
    cases b with
    | nil => rfl
    | cons y b => exact absurd ((h y).2 (by simp)) (by simp)
  | cons x a ih =>
    cases b with
    | nil => exact absurd ((h x).1 (by simp)) (by simp)
    | cons y b =>
      rw [asc_cons] at ha hb
      have hxy : x = y := by
        have h1 := (h x).1 (by simp)
        have h2 := (h y).2 (by simp)
        simp only [List.mem_cons] at h1 h2
        rcases h1 with h1 | h1
        · exact h1
        · rcases h2 with h2 | h2
          · exact h2.symm
          · have := hb.1 _ h1; have := ha.1 _ h2; omega
      subst hxy
      rw [ih ha.2 hb.2 (fun z => ?_)]
      constructor <;> intro hz
      · have h1 := (h z).1 (by simp [hz])
        simp only [List.mem_cons] at h1
        rcases h1 with rfl | h1
        · have := ha.1 _ hz; omega
        · exact h1
      · have h1 := (h z).2 (by simp [hz])
        simp only [List.mem_cons] at h1
        rcases h1 with rfl | h1
        · have := hb.1 _ hz; omega
        · exact h1
/-- Insertion, where it is not yet there. -/
def insA (n : Int) : List Int → List Int
  | [] => [n]
  | y :: l => if n ≤ y then (if n < y then n :: y :: l else y :: l) else y :: insA n l
theorem insA_mem {n : Int} {l : List Int} {z : Int} : z ∈ insA n l ↔ z = n ∨ z ∈ l := by
  induction l with
  | nil => simp [insA]
  | cons y l ih =>
    simp only [insA]
    split
    · split
      · simp
      · have : n = y := by omega
        subst this; simp
    · simp only [List.mem_cons, ih]
      constructor
      · rintro (h | h | h) <;> simp [h]
      · rintro (h | h | h) <;> simp [h]
theorem insA_asc {n : Int} {l : List Int} (h : Asc l) : Asc (insA n l) := by
  induction l with
  | nil => simp [insA, Asc]
  | cons y l ih =>
    rw [asc_cons] at h
    simp only [insA]
    split
    · split
      · rw [asc_cons, asc_cons]
        refine ⟨fun z hz => ?_, h⟩
        simp only [List.mem_cons] at hz
        rcases hz with rfl | hz
        · assumption
        · have := h.1 _ hz; omega
      · rw [asc_cons]; exact h
    · rw [asc_cons]
      refine ⟨fun z hz => ?_, ih h.2⟩
      rw [insA_mem] at hz
      rcases hz with rfl | hz
      · omega
      · exact h.1 _ hz
theorem insA_length {n : Int} {l : List Int} : (insA n l).length ≤ l.length + 1 := by
  induction l with
  | nil => simp [insA]
  | cons y l ih => simp only [insA]; split <;> (try split) <;> simp_all <;> omega
/-- The state of the loop of an insertion: what has been copied, and whether n has been passed. -/
def putSt (n : Int) (s : List Int × Bool) (y : Int) : List Int × Bool :=
  if s.2 = false ∧ n ≤ y then ((if n < y then s.1 ++ [n] else s.1) ++ [y], true) else (s.1 ++ [y], s.2)
theorem putSt_true (n : Int) (l acc : List Int) : l.foldl (putSt n) (acc, true) = (acc ++ l, true) := by
  induction l generalizing acc with
  | nil => simp
  | cons y l ih => rw [List.foldl_cons, show putSt n (acc, true) y = (acc ++ [y], true) by simp [putSt], ih]; simp
theorem putSt_end (n : Int) (l acc : List Int) : (if (l.foldl (putSt n) (acc, false)).2 then (l.foldl (putSt n) (acc, false)).1 else (l.foldl (putSt n) (acc, false)).1 ++ [n]) = acc ++ insA n l := by
  induction l generalizing acc with
  | nil => simp [insA]
  | cons y l ih =>
    rw [List.foldl_cons]
    by_cases h : n ≤ y
    · rw [show putSt n (acc, false) y = ((if n < y then acc ++ [n] else acc) ++ [y], true) by simp [putSt, h], putSt_true]
      simp only [insA, if_pos h, if_true]
      split <;> simp
    · rw [show putSt n (acc, false) y = (acc ++ [y], false) by simp [putSt, h], ih]
      simp [insA, h]
theorem putSt_len (n : Int) (l : List Int) : (l.foldl (putSt n) ([], false)).1.length ≤ l.length + 1 := by
  have h := putSt_end n l []
  have h2 := @insA_length n l
  rw [List.nil_append] at h
  rw [← h] at h2
  split at h2
  · exact h2
  · simp at h2; omega
theorem putSt_len2 (n : Int) (l : List Int) : (l.foldl (putSt n) ([], false)).2 = false → (l.foldl (putSt n) ([], false)).1.length ≤ l.length := by
  intro hf
  have h := putSt_end n l []
  have h2 := @insA_length n l
  rw [List.nil_append, hf] at h
  simp only [Bool.false_eq_true, if_false] at h
  rw [← h] at h2
  simpa using h2
/-- The different members, ascending. -/
def ascOf (l : List Int) : List Int := l.foldl (fun a n => insA n a) []
theorem ascOf_snoc (l : List Int) (n : Int) : ascOf (l ++ [n]) = insA n (ascOf l) := by simp [ascOf]
theorem ascOf_spec (l : List Int) : Asc (ascOf l) ∧ ∀ z, z ∈ ascOf l ↔ z ∈ l := by
  suffices h : ∀ (l a : List Int), Asc a → Asc (l.foldl (fun a n => insA n a) a) ∧ ∀ z, z ∈ l.foldl (fun a n => insA n a) a ↔ z ∈ a ∨ z ∈ l by
    have := h l [] List.Pairwise.nil
    exact ⟨this.1, fun z => by rw [ascOf, this.2]; simp⟩
  intro l
  induction l with
  | nil => intro a ha; exact ⟨ha, by simp⟩
  | cons y l ih =>
    intro a ha
    have := ih _ (insA_asc (n := y) ha)
    refine ⟨this.1, fun z => ?_⟩
    rw [List.foldl_cons, this.2, insA_mem, List.mem_cons]
    constructor
    · rintro ((h | h) | h) <;> simp [h]
    · rintro (h | h | h) <;> simp [h]
theorem ascOf_length (l : List Int) : (ascOf l).length ≤ l.length := by
  suffices h : ∀ (l a : List Int), (l.foldl (fun a n => insA n a) a).length ≤ a.length + l.length by simpa [ascOf] using h l []
  intro l
  induction l with
  | nil => simp
  | cons y l ih => intro a; have := ih (insA y a); have := @insA_length y a; simp only [List.foldl_cons, List.length_cons]; omega
theorem ascOf_at {l : List Int} {k : Nat} {y : Int} (h : l[k]? = some y) : ascOf (l.take (k + 1)) = insA y (ascOf (l.take k)) := by
  rw [List.take_add_one, h]; exact ascOf_snoc _ _
/-- An ordered list's different members, as the program gathers them. -/
def grp (l : List Int) : List Int := l.foldl (fun a n => if a.getLast? = some n then a else a ++ [n]) []
theorem grp_snoc (l : List Int) (n : Int) : grp (l ++ [n]) = if (grp l).getLast? = some n then grp l else grp l ++ [n] := by
  unfold grp; rw [List.foldl_append]; rfl
theorem grp_at {l : List Int} {k : Nat} {y : Int} (h : l[k]? = some y) : grp (l.take (k + 1)) = if (grp (l.take k)).getLast? = some y then grp (l.take k) else grp (l.take k) ++ [y] := by
  rw [List.take_add_one, h]; exact grp_snoc _ _
theorem grp_spec (k : Nat) {l : List Int} (h : l.Pairwise (· ≤ ·)) : Asc (grp (l.take k)) ∧ (∀ z, z ∈ grp (l.take k) ↔ z ∈ l.take k) ∧ ((grp (l.take k)).getLast? = (l.take k).getLast?) := by
  induction k with
  | zero => simp [grp, Asc]
  | succ k ih =>
    cases hy : l[k]? with
    | none =>
      rw [List.take_add_one, hy]; simpa using ih
    | some y =>
      have hp : ∀ z ∈ l.take k, z ≤ y := by
        intro z hz
        obtain ⟨i, hi, rfl⟩ := List.mem_iff_getElem.1 hz
        obtain ⟨hk, rfl⟩ := List.getElem?_eq_some_iff.1 hy
        rw [List.getElem_take]
        simp at hi
        exact List.pairwise_iff_getElem.1 h i k (by omega) hk (by omega)
      rw [grp_at hy, List.take_add_one, hy]
      simp only [Option.toList_some, List.getLast?_append, List.getLast?_singleton, Option.some_or]
      split
      · next hl =>
        refine ⟨ih.1, fun z => ?_, hl⟩
        rw [ih.2.1, List.mem_append, List.mem_singleton]
        rw [ih.2.2] at hl
        constructor
        · exact Or.inl
        · rintro (h | rfl)
          · exact h
          · exact List.mem_of_getLast? hl
      · next hl =>
        refine ⟨?_, fun z => ?_, by simp⟩
        · show List.Pairwise _ _
          rw [List.pairwise_append]
          refine ⟨ih.1, by simp, fun z hz q hq => ?_⟩
          simp only [List.mem_singleton] at hq
          subst hq
          have h1 := hp z ((ih.2.1 z).1 hz)
          rcases Int.lt_or_eq_of_le h1 with h2 | h2
          · exact h2
          · exfalso
            subst h2
            -- z is in the strictly ascending list, and no element is greater: it is the last
            apply hl
            have hne : grp (l.take k) ≠ [] := by intro e; rw [e] at hz; simp at hz
            obtain ⟨v, hv⟩ : ∃ v, (grp (l.take k)).getLast? = some v := ⟨_, List.getLast?_eq_some_getLast hne⟩
            have hvm := List.mem_of_getLast? hv
            have hvz := hp v ((ih.2.1 v).1 hvm)
            rw [hv]
            obtain ⟨i, hi, hzi⟩ := List.mem_iff_getElem.1 hz
            rw [List.getLast?_eq_getElem?] at hv
            obtain ⟨hj, hv⟩ := List.getElem?_eq_some_iff.1 hv
            by_cases hij : i = (grp (l.take k)).length - 1
            · subst hij; rw [← hv, hzi]
            · have := List.pairwise_iff_getElem.1 ih.1 i _ hi hj (by omega)
              rw [hzi, hv] at this; omega
        · rw [List.mem_append, List.mem_append, ih.2.1]; 
theorem grp_all {l : List Int} (h : l.Pairwise (· ≤ ·)) : Asc (grp l) ∧ ∀ z, z ∈ grp l ↔ z ∈ l := by
  have := grp_spec l.length h
  rw [List.take_length] at this
  exact ⟨this.1, this.2.1⟩
/-- How often. -/
def cnts (d l : List Int) : List Int := d.map fun z => (l.count z : Int)
theorem cnts_length (d l : List Int) : (cnts d l).length = d.length := by simp [cnts]
theorem cnts_nil (d : List Int) : cnts d [] = List.replicate d.length 0 := by
  simp only [cnts, List.count_nil]
  induction d with
  | nil => rfl
  | cons x d ih => simp_all [List.replicate_succ]
theorem asc_inj {d : List Int} (h : Asc d) {i j : Nat} {z : Int} (hi : d[i]? = some z) (hj : d[j]? = some z) : i = j := by
  obtain ⟨h1, e1⟩ := List.getElem?_eq_some_iff.1 hi
  obtain ⟨h2, e2⟩ := List.getElem?_eq_some_iff.1 hj
  rcases Nat.lt_trichotomy i j with h3 | h3 | h3
  · have := List.pairwise_iff_getElem.1 h i j h1 h2 h3; omega
  · exact h3
  · have := List.pairwise_iff_getElem.1 h j i h2 h1 h3; omega
theorem cnts_at {d l : List Int} {i : Nat} {z : Int} (hi : d[i]? = some z) : (cnts d l)[i]? = some (l.count z : Int) := by simp [cnts, hi]
theorem cnts_step {d l : List Int} (h : Asc d) {i : Nat} {z : Int} (hi : d[i]? = some z) : (cnts d l).set i ((l.count z : Int) + 1) = cnts d (l ++ [z]) := by
  apply List.ext_getElem?
  intro j
  rw [List.getElem?_set, cnts_length]
  obtain ⟨h1, e1⟩ := List.getElem?_eq_some_iff.1 hi
  by_cases hj : i = j
  · subst hj
    rw [if_pos rfl, if_pos h1, cnts_at hi]; simp
  · rw [if_neg hj]
    cases hz : d[j]? with
    | none => simp [cnts, hz]
    | some y =>
      rw [cnts_at hz, cnts_at hz]
      have : y ≠ z := by rintro rfl; exact hj (asc_inj h hi hz)
      simp [List.count_append, Ne.symm this]
theorem cnts_new {d l : List Int} {z : Int} (h : z ∉ l) : cnts (d ++ [z]) l = cnts d l ++ [0] := by
  simp [cnts, List.count_eq_zero.2 h]
theorem cnts_perm {l l' : List Int} (d : List Int) (h : l.Perm l') : cnts d l = cnts d l' := by
  simp only [cnts]
  congr 1; funext z
  rw [h.count_eq]
/-- The list, sorted. -/
def sortI (l : List Int) : List Int := l.mergeSort fun x y => decide (x ≤ y)
theorem sortI_pw (l : List Int) : (sortI l).Pairwise (· ≤ ·) := by
  have := List.pairwise_mergeSort (le := fun x y : Int => decide (x ≤ y)) (fun a b c h1 h2 => by have h1 := of_decide_eq_true h1; have h2 := of_decide_eq_true h2; exact decide_eq_true (by omega)) (fun a b => by rw [Bool.or_eq_true]; exact (Int.le_total a b).imp decide_eq_true decide_eq_true) l
  exact this.imp (fun h => of_decide_eq_true h)
theorem sortI_perm (l : List Int) : (sortI l).Perm l := List.mergeSort_perm _ _
theorem sortI_length (l : List Int) : (sortI l).length = l.length := List.length_mergeSort _
theorem grp_sort (l : List Int) : grp (sortI l) = ascOf l := by
  have h := grp_all (sortI_pw l)
  exact asc_ext h.1 (ascOf_spec l).1 fun z => by rw [h.2, (ascOf_spec l).2, (sortI_perm l).mem_iff]
theorem sort_filter {l : List Int} (h : l.Nodup) : sortI l = ascOf l := by
  refine asc_ext ?_ (ascOf_spec l).1 fun z => by rw [(ascOf_spec l).2, (sortI_perm l).mem_iff]
  have h1 := sortI_pw l
  have h2 : (sortI l).Nodup := (sortI_perm l).nodup_iff.2 h
  have h3 := h1.and h2
  exact h3.imp (by rintro a b ⟨h1, h2⟩; omega)
theorem grp_length {l : List Int} (k : Nat) : (grp (l.take k)).length ≤ k := by
  induction k with
  | zero => simp [grp]
  | succ k ih =>
    cases hy : l[k]? with
    | none => rw [List.take_add_one, hy]; simp; omega
    | some y =>
      rw [grp_at hy]
      by_cases hc : (grp (l.take k)).getLast? = some y
      · rw [if_pos hc]; omega
      · rw [if_neg hc, List.length_append, List.length_singleton]; omega
end Go.Proofs.Ytbodfepfapjikaa
