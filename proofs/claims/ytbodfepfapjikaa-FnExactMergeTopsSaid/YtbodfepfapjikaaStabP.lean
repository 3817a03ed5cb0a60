/-
  The library's stable sort, plain: swaps of ranges, rotations, merging by halves, blocks; that the outcome is a permutation, sorted by a relation that tells all elements apart. No program in sight.
-/
import Derived.Test.YtbodfepfapjikaaIns
namespace Go.Proofs.Ytbodfepfapjikaa
set_option linter.unusedVariables false
set_option linter.unusedVariables false
set_option linter.unusedSimpArgs false
variable {α : Type}

/-! ### swaps -/
/-- Two places change their elements. -/
def swL (x : List α) (i j : Nat) (u v : α) : List α := (x.set i v).set j u
theorem at_mid (A : List α) (b : α) (C : List α) : (A ++ b :: C)[A.length]? = some b := by simp
theorem at_mid' {A : List α} {b : α} {C : List α} {n : Nat} (h : A.length = n) : (A ++ b :: C)[n]? = some b := by subst h; simp
theorem set_mid {A : List α} {b : α} {C : List α} {n : Nat} (h : A.length = n) (v : α) : (A ++ b :: C).set n v = A ++ v :: C := by
  subst h
  rw [List.set_append_right _ _ (Nat.le_refl _), Nat.sub_self]; rfl
theorem set_two {A B C : List α} {a b : α} {i j : Nat} (hi : A.length = i) (hj : i + 1 + B.length = j) : ((A ++ a :: (B ++ b :: C)).set i b).set j a = A ++ b :: (B ++ a :: C) := by
  rw [set_mid hi]
  have e : A ++ b :: (B ++ b :: C) = (A ++ b :: B) ++ b :: C := by simp
  rw [e, set_mid (by simp; omega)]; simp
theorem set_two' {A B C : List α} {a b : α} {i j : Nat} (hi : A.length = i) (hj : i + 1 + B.length = j) : ((A ++ a :: (B ++ b :: C)).set j a).set i b = A ++ b :: (B ++ a :: C) := by
  rw [List.set_comm _ _ (by omega), set_two hi hj]
/-- A range while it is swapped with another one: k places are done. -/
def srL (A U B V C : List α) (k : Nat) : List α := A ++ V.take k ++ (U.drop k ++ (B ++ U.take k ++ (V.drop k ++ C)))
theorem srL_zero (A U B V C : List α) : srL A U B V C 0 = A ++ (U ++ (B ++ (V ++ C))) := by simp [srL]
theorem srL_all {A U B V C : List α} {n : Nat} (hu : U.length = n) (hv : V.length = n) : srL A U B V C n = A ++ (V ++ (B ++ (U ++ C))) := by
  simp [srL, List.take_of_length_le, List.drop_of_length_le, hu, hv]
theorem srL_length {A U B V C : List α} {n : Nat} (hu : U.length = n) (hv : V.length = n) {k : Nat} (hk : k ≤ n) : (srL A U B V C k).length = A.length + n + B.length + n + C.length := by
  simp [srL, hu, hv]; omega
theorem srL_one {A U B V C : List α} {n : Nat} (hu : U.length = n) (hv : V.length = n) {k : Nat} (hk : k < n) :
    ∃ u v, (srL A U B V C k)[A.length + k]? = some u ∧ (srL A U B V C k)[A.length + n + B.length + k]? = some v ∧ ((srL A U B V C k).set (A.length + k) v).set (A.length + n + B.length + k) u = srL A U B V C (k + 1) := by
  have hku : k < U.length := by omega
  have hkv : k < V.length := by omega
  have hU : U.drop k = U[k] :: U.drop (k + 1) := List.drop_eq_getElem_cons hku
  have hV : V.drop k = V[k] :: V.drop (k + 1) := List.drop_eq_getElem_cons hkv
  have hU' : U.take (k + 1) = U.take k ++ [U[k]] := by rw [List.take_add_one, List.getElem?_eq_getElem hku]; rfl
  have hV' : V.take (k + 1) = V.take k ++ [V[k]] := by rw [List.take_add_one, List.getElem?_eq_getElem hkv]; rfl
  have l1 : (A ++ V.take k).length = A.length + k := by simp; omega
  have e1 : srL A U B V C k = (A ++ V.take k) ++ U[k] :: ((U.drop (k + 1) ++ (B ++ U.take k)) ++ V[k] :: (V.drop (k + 1) ++ C)) := by
    unfold srL
    rw [hU, hV]; simp only [List.append_assoc, List.cons_append, List.nil_append]
  have l2 : A.length + k + 1 + (U.drop (k + 1) ++ (B ++ U.take k)).length = A.length + n + B.length + k := by simp; omega
  refine ⟨U[k], V[k], ?_, ?_, ?_⟩
  · rw [e1]; exact at_mid' l1
  · have e2 : srL A U B V C k = ((A ++ V.take k) ++ U[k] :: (U.drop (k + 1) ++ (B ++ U.take k))) ++ V[k] :: (V.drop (k + 1) ++ C) := by rw [e1]; simp
    rw [e2]; exact at_mid' (by simp; omega)
  · rw [e1, set_two l1 l2]
    unfold srL
    rw [hU', hV']; simp only [List.append_assoc, List.cons_append, List.nil_append]

/-! ### what a merge makes -/
section
variable (lt : α → α → Bool) (R : α → α → Prop)
/-- An element that stood ahead of another one: the test tells which of the two comes first. -/
def Cr (a b : α) : Prop := (lt b a = true → R b a) ∧ (lt b a = false → R a b)
/-- All elements of one list, which stood ahead, with those of another one. -/
def Cross (L M : List α) : Prop := ∀ a ∈ L, ∀ b ∈ M, Cr lt R a b
/-- Sorted, of just these elements. -/
def Mg (X M : List α) : Prop := M.Perm X ∧ M.Pairwise R
end
section
variable {lt : α → α → Bool} {R : α → α → Prop}
theorem Cross.sub {L M L' M' : List α} (h : Cross lt R L M) (h1 : ∀ a ∈ L', a ∈ L) (h2 : ∀ a ∈ M', a ∈ M) : Cross lt R L' M' := fun a ha b hb => h a (h1 a ha) b (h2 b hb)
/-- The place of one element in a sorted list behind it. -/
theorem mg_one_left {l : α} {M1 M2 : List α} (hs : (M1 ++ M2).Pairwise R) (h1 : ∀ y ∈ M1, R y l) (h2 : ∀ y ∈ M2, R l y) : Mg R (l :: (M1 ++ M2)) (M1 ++ l :: M2) := by
  refine ⟨List.perm_middle, ?_⟩
  rw [List.pairwise_append] at hs ⊢
  refine ⟨hs.1, List.pairwise_cons.2 ⟨h2, hs.2.1⟩, fun a ha b hb => ?_⟩
  rcases List.mem_cons.1 hb with rfl | hb
  · exact h1 a ha
  · exact hs.2.2 a ha b hb
theorem mg_join {L1 L2 R1 R2 M1 M2 : List α} (h1 : Mg R (L1 ++ R1) M1) (h2 : Mg R (L2 ++ R2) M2) (hc : ∀ y ∈ L1 ++ R1, ∀ z ∈ L2 ++ R2, R y z) : Mg R ((L1 ++ L2) ++ (R1 ++ R2)) (M1 ++ M2) := by
  refine ⟨?_, List.pairwise_append.2 ⟨h1.2, h2.2, fun a ha b hb => hc a (h1.1.mem_iff.1 ha) b (h2.1.mem_iff.1 hb)⟩⟩
  refine (h1.1.append h2.1).trans ?_
  have e1 : (L1 ++ R1) ++ (L2 ++ R2) = L1 ++ (R1 ++ L2) ++ R2 := by simp
  have e2 : (L1 ++ L2) ++ (R1 ++ R2) = L1 ++ (L2 ++ R1) ++ R2 := by simp
  rw [e1, e2]
  exact ((List.perm_append_comm).append_left L1).append_right R2
/-- Sorted halves, parted so that what comes to the left is ahead of what comes to the right. -/
theorem cross_all {L1 L2 R1 R2 : List α} (tr : ∀ a b c, R a b → R b c → R a c) (hL : (L1 ++ L2).Pairwise R) (hR : (R1 ++ R2).Pairwise R)
    (h1 : ∀ y ∈ L1.getLast?, ∀ z ∈ R2.head?, R y z) (h2 : ∀ y ∈ R1.getLast?, ∀ z ∈ L2.head?, R y z) : ∀ y ∈ L1 ++ R1, ∀ z ∈ L2 ++ R2, R y z := by
  have ends : ∀ {X Y : List α}, X.Pairwise R → Y.Pairwise R → (∀ y ∈ X.getLast?, ∀ z ∈ Y.head?, R y z) → ∀ y ∈ X, ∀ z ∈ Y, R y z := by
    intro X Y hX hY hb y hy z hz
    rcases List.eq_nil_or_concat X with rfl | ⟨X', e, rfl⟩
    · simp at hy
    · cases Y with
      | nil => simp at hz
      | cons f Y =>
        have hef : R e f := hb e (by simp) f (by simp)
        have hye : y = e ∨ R y e := by
          rw [List.concat_eq_append, List.mem_append] at hy
          rcases hy with hy | hy
          · rw [List.concat_eq_append, List.pairwise_append] at hX
            exact .inr (hX.2.2 y hy e (by simp))
          · exact .inl (by simpa using hy)
        have hfz : z = f ∨ R f z := by
          rcases List.mem_cons.1 hz with hz | hz
          · exact .inl hz
          · exact .inr ((List.pairwise_cons.1 hY).1 z hz)
        rcases hye with rfl | hye <;> rcases hfz with rfl | hfz
        · exact hef
        · exact tr _ _ _ hef hfz
        · exact tr _ _ _ hye hef
        · exact tr _ _ _ (tr _ _ _ hye hef) hfz
  rw [List.pairwise_append] at hL hR
  intro y hy z hz
  rw [List.mem_append] at hy hz
  rcases hy with hy | hy <;> rcases hz with hz | hz
  · exact hL.2.2 y hy z hz
  · exact ends hL.1 hR.2.1 h1 y hy z hz
  · exact ends hR.1 hL.2.1 h2 y hy z hz
  · exact hR.2.2 y hy z hz
/-- By insertion: the list sorted so far and the next element. -/
theorem insR_mg {S : List α} {e : α} (tr : ∀ a b c, R a b → R b c → R a c) (hs : S.Pairwise R) (hc : ∀ a ∈ S, Cr lt R a e) : Mg R (S ++ [e]) (insR lt S e) := by
  have hp := posR_le lt e S S.length
  obtain ⟨p, hpe⟩ : ∃ p, p = posR lt e S S.length := ⟨_, rfl⟩
  rw [← hpe] at hp
  have hgt : ∀ (k : Nat), k ≤ S.length → posR lt e S k = p → ∀ j, p ≤ j → j < k → ∀ y, S[j]? = some y → lt e y = true := by
    intro k
    induction k with
    | zero => intro _ _ j _ h; omega
    | succ k ih =>
      intro hk hpk j hj hjk y hy
      have hk' : S[k]? = some S[k] := List.getElem?_eq_getElem (by omega)
      cases hl : lt e S[k] with
      | false => rw [posR_stop hk' hl] at hpk; omega
      | true =>
        rw [posR_go hk' hl] at hpk
        by_cases h : j = k
        · subst h; rw [hk'] at hy; injection hy with hy; rw [← hy]; exact hl
        · exact ih (by omega) hpk j hj (by omega) y hy
  have hle : ∀ (k : Nat), k ≤ S.length → posR lt e S k = p → 0 < p → ∀ y, S[p - 1]? = some y → lt e y = false := by
    intro k
    induction k with
    | zero => intro _ h hp0; rw [posR] at h; omega
    | succ k ih =>
      intro hk hpk hp0 y hy
      have hk' : S[k]? = some S[k] := List.getElem?_eq_getElem (by omega)
      cases hl : lt e S[k] with
      | false =>
        rw [posR_stop hk' hl] at hpk
        rw [show p - 1 = k by omega, hk'] at hy
        injection hy with hy; rw [← hy]; exact hl
      | true => rw [posR_go hk' hl] at hpk; exact ih (by omega) hpk hp0 y hy
  unfold insR
  rw [← hpe]
  have hsp : S = S.take p ++ S.drop p := (List.take_append_drop p S).symm
  have hm := mg_one_left (l := e) (M1 := S.take p) (M2 := S.drop p) (R := R) (by rw [← hsp]; exact hs) (fun y hy => ?_) (fun y hy => ?_)
  · refine ⟨hm.1.trans ?_, hm.2⟩
    rw [← hsp]
    exact (List.perm_append_comm (l₁ := [e]) (l₂ := S))
  · obtain ⟨j, hj⟩ := List.mem_iff_getElem?.1 hy
    have hjp : j < p := by
      have := (List.getElem?_eq_some_iff.1 hj).1
      simp at this; omega
    rw [List.getElem?_take_of_lt hjp] at hj
    have hl : S[p - 1]? = some S[p - 1] := List.getElem?_eq_getElem (by omega)
    have h0 := hle S.length (Nat.le_refl _) hpe.symm (by omega) _ hl
    have h1 := (hc _ (List.mem_of_getElem? hl)).2 h0
    by_cases h : j = p - 1
    · subst h; rw [hl] at hj; injection hj with hj; rw [← hj]; exact h1
    · refine tr _ _ _ ?_ h1
      obtain ⟨hj1, rfl⟩ := List.getElem?_eq_some_iff.1 hj
      exact List.pairwise_iff_getElem.1 hs j (p - 1) hj1 (by omega) (by omega)
  · obtain ⟨j, hj⟩ := List.mem_iff_getElem?.1 hy
    rw [List.getElem?_drop] at hj
    have h0 := hgt S.length (Nat.le_refl _) hpe.symm (p + j) (by omega) (List.getElem?_eq_some_iff.1 hj).1 y hj
    exact (hc y (List.mem_of_getElem? hj)).1 h0
theorem isrt_mg (tr : ∀ a b c, R a b → R b c → R a c) (x : List α) (hx : x.Pairwise (Cr lt R)) : Mg R x (isrt lt x) := by
  obtain ⟨n, hn⟩ : ∃ n, n = x.length := ⟨_, rfl⟩
  induction n generalizing x with
  | zero =>
    obtain rfl := List.length_eq_zero_iff.1 hn.symm
    exact ⟨List.Perm.refl _, List.Pairwise.nil⟩
  | succ n ih =>
    obtain rfl | ⟨l, e, rfl⟩ := List.eq_nil_or_concat x
    · simp at hn
    rw [List.concat_eq_append] at hx hn ⊢
    rw [List.pairwise_append] at hx
    have h := hx
    have h1 := ih l h.1 (by simp at hn; omega)
    rw [isrt_snoc]
    have h2 := insR_mg (lt := lt) (R := R) (S := isrt lt l) (e := e) tr h1.2 (fun a ha => h.2.2 a (h1.1.mem_iff.1 ha) e (by simp))
    exact ⟨h2.1.trans (h1.1.append_right _), h2.2⟩
/-- There is one such list. -/
theorem mg_unique {X M M' : List α} (as : ∀ a b, R a b → R b a → False) (h : Mg R X M) (h' : Mg R X M') : M = M' := by
  have hp : M.Perm M' := h.1.trans h'.1.symm
  exact hp.eq_of_pairwise (fun a b _ _ h1 h2 => (as a b h1 h2).elim) h.2 h'.2
theorem mg_isrt {x M : List α} (tr : ∀ a b c, R a b → R b c → R a c) (as : ∀ a b, R a b → R b a → False) (hx : x.Pairwise (Cr lt R)) (h : Mg R x M) : M = isrt lt x :=
  mg_unique as h (isrt_mg tr x hx)
end

/-! ### blocks -/
/-- All blocks but the last have bs elements; the last has some, at most bs. -/
def Chunk (bs : Nat) : List (List α) → Prop
  | [] => True
  | t :: T => (T = [] ∧ 0 < t.length ∧ t.length ≤ bs) ∨ (T ≠ [] ∧ t.length = bs ∧ Chunk bs T)
section
variable {lt : α → α → Bool} {R : α → α → Prop}
/-- Sorted blocks, one behind the other as they stood. -/
def Blks (lt : α → α → Bool) (R : α → α → Prop) (T : List (List α)) : Prop := (∀ t ∈ T, t.Pairwise R) ∧ T.Pairwise (Cross lt R)
theorem Chunk.two {bs : Nat} {T : List (List α)} (h : Chunk bs T) (hb : 0 < bs) (hl : 2 * bs ≤ T.flatten.length) : ∃ t1 t2 T', T = t1 :: t2 :: T' ∧ t1.length = bs ∧ t2.length = bs ∧ Chunk bs T' := by
  cases T with
  | nil => simp at hl; omega
  | cons t T =>
    rcases h with ⟨rfl, h1, h2⟩ | ⟨h1, h2, h3⟩
    · simp at hl; omega
    · cases T with
      | nil => exact absurd rfl h1
      | cons t2 T =>
        rcases h3 with ⟨rfl, h4, h5⟩ | ⟨h4, h5, h6⟩
        · refine ⟨t, t2, [], rfl, h2, ?_, trivial⟩
          simp at hl; omega
        · exact ⟨t, t2, T, rfl, h2, h5, h6⟩
/-- Fewer than two blocks' elements are left: none, one block, or one and a shorter one. -/
theorem Chunk.left {bs : Nat} {T : List (List α)} (h : Chunk bs T) (hl : T.flatten.length < 2 * bs) : T = [] ∨ (∃ t, T = [t] ∧ 0 < t.length ∧ t.length ≤ bs) ∨ ∃ t1 t2, T = [t1, t2] ∧ t1.length = bs ∧ 0 < t2.length ∧ t2.length < bs := by
  cases T with
  | nil => exact .inl rfl
  | cons t T =>
    rcases h with ⟨rfl, h1, h2⟩ | ⟨h1, h2, h3⟩
    · exact .inr (.inl ⟨t, rfl, h1, h2⟩)
    · cases T with
      | nil => exact absurd rfl h1
      | cons t2 T =>
        rcases h3 with ⟨rfl, h4, h5⟩ | ⟨h4, h5, h6⟩
        · refine .inr (.inr ⟨t, t2, rfl, h2, h4, ?_⟩)
          simp at hl; omega
        · cases T with
          | nil => exact absurd rfl h4
          | cons t3 T => simp at hl; omega
theorem Chunk.snoc {bs : Nat} : ∀ {D : List (List α)} {t : List α}, (∀ d ∈ D, d.length = bs) → 0 < t.length → t.length ≤ bs → Chunk bs (D ++ [t])
  | [], t, _, h1, h2 => .inl ⟨rfl, h1, h2⟩
  | d :: D, t, h, h1, h2 => .inr ⟨by simp, h d (by simp), Chunk.snoc (fun e he => h e (List.mem_cons_of_mem _ he)) h1 h2⟩
theorem Chunk.all {bs : Nat} (hb : 0 < bs) : ∀ {D : List (List α)}, (∀ d ∈ D, d.length = bs) → Chunk bs D
  | [], _ => trivial
  | [d], h => .inl ⟨rfl, by rw [h d (by simp)]; exact hb, Nat.le_of_eq (h d (by simp))⟩
  | d :: e :: D, h => .inr ⟨by simp, h d (by simp), Chunk.all hb (fun x hx => h x (List.mem_cons_of_mem _ hx))⟩
theorem flat_len {bs : Nat} : ∀ {D : List (List α)}, (∀ d ∈ D, d.length = bs) → D.flatten.length = D.length * bs
  | [], _ => by simp
  | d :: D, h => by
    rw [List.flatten_cons, List.length_append, flat_len (fun x hx => h x (List.mem_cons_of_mem _ hx)), h d (by simp), List.length_cons, Nat.succ_mul]; omega
/-- One block: all is sorted. -/
theorem Chunk.one {bs : Nat} {T : List (List α)} (h : Chunk bs T) (hb : 0 < bs) (hl : T.flatten.length ≤ bs) : T = [] ∨ ∃ t, T = [t] := by
  cases T with
  | nil => exact .inl rfl
  | cons t T =>
    rcases h with ⟨rfl, h1, h2⟩ | ⟨h1, h2, h3⟩
    · exact .inr ⟨t, rfl⟩
    · cases T with
      | nil => exact absurd rfl h1
      | cons t2 T =>
        exfalso
        have : 0 < t2.length := by
          rcases h3 with ⟨_, h4, _⟩ | ⟨_, h5, _⟩
          · exact h4
          · simp at hl; omega
        simp at hl; omega
/-- Two neighbouring blocks become one. -/
theorem Blks.merge {D T : List (List α)} {t1 t2 M : List α} (h : Blks lt R (D ++ t1 :: t2 :: T)) (hm : Mg R (t1 ++ t2) M) : Blks lt R (D ++ M :: T) := by
  obtain ⟨h1, h2⟩ := h
  have mem : ∀ a ∈ M, a ∈ t1 ∨ a ∈ t2 := fun a ha => List.mem_append.1 (hm.1.mem_iff.1 ha)
  rw [List.pairwise_append] at h2
  obtain ⟨p1, p2, p3⟩ := h2
  rw [List.pairwise_cons, List.pairwise_cons] at p2
  refine ⟨fun t ht => ?_, ?_⟩
  · rcases List.mem_append.1 ht with ht | ht
    · exact h1 t (List.mem_append_left _ ht)
    · rcases List.mem_cons.1 ht with rfl | ht
      · exact hm.2
      · exact h1 t (List.mem_append_right _ (by simp [ht]))
  · rw [List.pairwise_append, List.pairwise_cons]
    refine ⟨p1, ⟨fun t ht a ha b hb => ?_, p2.2.2⟩, fun t ht s hs => ?_⟩
    · rcases mem a ha with ha | ha
      · exact p2.1 t (by simp [ht]) a ha b hb
      · exact p2.2.1 t ht a ha b hb
    · rcases List.mem_cons.1 hs with rfl | hs
      · intro a ha b hb
        rcases mem b hb with hb | hb
        · exact p3 t ht t1 (by simp) a ha b hb
        · exact p3 t ht t2 (by simp) a ha b hb
      · exact p3 t ht s (by simp [hs])
theorem Blks.two {D T : List (List α)} {t1 t2 : List α} (h : Blks lt R (D ++ t1 :: t2 :: T)) : t1.Pairwise R ∧ t2.Pairwise R ∧ Cross lt R t1 t2 := by
  obtain ⟨h1, h2⟩ := h
  rw [List.pairwise_append] at h2
  have h3 := List.pairwise_cons.1 h2.2.1
  exact ⟨h1 t1 (by simp), h1 t2 (by simp), h3.1 t2 (by simp)⟩
end
end Go.Proofs.Ytbodfepfapjikaa
