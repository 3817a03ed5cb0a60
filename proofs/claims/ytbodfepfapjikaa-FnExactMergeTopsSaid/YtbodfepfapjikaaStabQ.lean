/-
  Merging by halves, plain: where the halves are parted. No program in sight.
-/
import Derived.Test.YtbodfepfapjikaaStabP
namespace Go.Proofs.Ytbodfepfapjikaa
set_option linter.unusedVariables false
set_option linter.unusedSimpArgs false
variable {α : Type} {lt : α → α → Bool} {R : α → α → Prop}

theorem cross_idx {L M : List α} {i j : Nat} (tr : ∀ a b c, R a b → R b c → R a c) (hL : L.Pairwise R) (hM : M.Pairwise R) (hi : i ≤ L.length) (hj : j ≤ M.length)
    (h1 : ∀ y z, 0 < i → L[i - 1]? = some y → M[j]? = some z → R y z) (h2 : ∀ y z, 0 < j → M[j - 1]? = some y → L[i]? = some z → R y z) : ∀ y ∈ L.take i ++ M.take j, ∀ z ∈ L.drop i ++ M.drop j, R y z := by
  have last : ∀ {X : List α} {k : Nat}, k ≤ X.length → ∀ y, y ∈ (X.take k).getLast? → 0 < k ∧ X[k - 1]? = some y := by
    intro X k hk y hy
    rcases Nat.eq_zero_or_pos k with rfl | hp
    · simp at hy
    · refine ⟨hp, ?_⟩
      have h3 : (X.take k).length = k := by simp; omega
      rw [Option.mem_def, List.getLast?_eq_getElem?, h3, List.getElem?_take_of_lt (by omega)] at hy
      exact hy
  refine cross_all tr (by rw [List.take_append_drop]; exact hL) (by rw [List.take_append_drop]; exact hM) ?_ ?_
  · intro y hy z hz
    obtain ⟨hp, hy'⟩ := last hi y hy
    rw [Option.mem_def, List.head?_drop] at hz
    exact h1 y z hp hy' hz
  · intro y hy z hz
    obtain ⟨hp, hy'⟩ := last hj y hy
    rw [Option.mem_def, List.head?_drop] at hz
    exact h2 y z hp hy' hz
theorem seg1 {A L M C : List α} {a k : Nat} (ha : A.length = a) (h1 : a ≤ k) (h2 : k < a + L.length) : (A ++ (L ++ (M ++ C)))[k]? = L[k - a]? := by
  subst ha
  rw [List.getElem?_append_right h1, List.getElem?_append_left (by omega)]
theorem seg2 {A L M C : List α} {m k : Nat} (hm : A.length + L.length = m) (h1 : m ≤ k) (h2 : k < m + M.length) : (A ++ (L ++ (M ++ C)))[k]? = M[k - m]? := by
  subst hm
  rw [List.getElem?_append_right (by omega), List.getElem?_append_right (by omega), List.getElem?_append_left (by omega)]
  congr 1
  omega
/-- Where the halves are parted. -/
theorem sym_split {A L M C : List α} {a m b mid s : Nat} (tr : ∀ a b c, R a b → R b c → R a c) (ha : A.length = a) (hm : a + L.length = m) (hb : m + M.length = b) (hL : L.Pairwise R) (hM : M.Pairwise R) (hX : Cross lt R L M)
    (hs1 : a ≤ s) (hs2 : s ≤ m) (hs3 : s ≤ mid) (hs4 : mid + m ≤ s + b)
    (h1 : s = a ∨ mid + m - s = b ∨ ∀ u v, (A ++ (L ++ (M ++ C)))[mid + m - s]? = some u → (A ++ (L ++ (M ++ C)))[s - 1]? = some v → lt u v = false)
    (h2 : s = m ∨ s = mid ∨ ∀ u v, (A ++ (L ++ (M ++ C)))[mid + m - 1 - s]? = some u → (A ++ (L ++ (M ++ C)))[s]? = some v → lt u v = true) :
    ∀ y ∈ L.take (s - a) ++ M.take (mid - s), ∀ z ∈ L.drop (s - a) ++ M.drop (mid - s), R y z := by
  refine cross_idx tr hL hM (by omega) (by omega) ?_ ?_
  · intro y z hp hy hz
    have hzl := (List.getElem?_eq_some_iff.1 hz).1
    rcases h1 with h | h | h
    · omega
    · omega
    · refine (hX y (List.mem_of_getElem? hy) z (List.mem_of_getElem? hz)).2 (h z y ?_ ?_)
      · rw [seg2 (m := m) (by omega) (by omega) (by omega), show mid + m - s - m = mid - s by omega]; exact hz
      · rw [seg1 ha (by omega) (by omega), show s - 1 - a = s - a - 1 by omega]; exact hy
  · intro y z hp hy hz
    have hzl := (List.getElem?_eq_some_iff.1 hz).1
    have hyl := (List.getElem?_eq_some_iff.1 hy).1
    rcases h2 with h | h | h
    · omega
    · omega
    · refine (hX z (List.mem_of_getElem? hz) y (List.mem_of_getElem? hy)).1 (h y z ?_ ?_)
      · rw [seg2 (m := m) (by omega) (by omega) (by omega), show mid + m - 1 - s - m = mid - s - 1 by omega]; exact hy
      · rw [seg1 ha (by omega) (by omega)]; exact hz
/-- One element and a sorted list behind it. -/
theorem one_left {l : α} {M : List α} {i : Nat} (tr : ∀ a b c, R a b → R b c → R a c) (hM : M.Pairwise R) (hX : Cross lt R [l] M) (hi : i ≤ M.length) (h1 : ∀ u, 0 < i → M[i - 1]? = some u → lt u l = true) (h2 : ∀ u, M[i]? = some u → lt u l = false) :
    Mg R ([l] ++ M) (M.take i ++ l :: M.drop i) := by
  have c1 := cross_idx (L := [l]) (M := M) (i := 1) (j := i) tr (by simp) hM (by simp) hi (fun y z _ hy hz => by
    simp at hy; subst hy
    exact (hX l (by simp) z (List.mem_of_getElem? hz)).2 (h2 z hz)) (fun y z _ _ hz => by simp at hz)
  have c2 := cross_idx (L := [l]) (M := M) (i := 0) (j := i) tr (by simp) hM (by simp) hi (fun y z h _ _ => by omega) (fun y z hp hy hz => by
    simp at hz; subst hz
    exact (hX l (by simp) y (List.mem_of_getElem? hy)).1 (h1 y hp hy))
  have h := mg_one_left (l := l) (M1 := M.take i) (M2 := M.drop i) (R := R) (by rw [List.take_append_drop]; exact hM) (fun y hy => c2 y (by simp [hy]) l (by simp)) (fun y hy => c1 l (by simp) y (by simp [hy]))
  rw [List.take_append_drop] at h
  exact h
/-- A sorted list and one element behind it. -/
theorem one_right {r : α} {L : List α} {i : Nat} (tr : ∀ a b c, R a b → R b c → R a c) (hL : L.Pairwise R) (hX : Cross lt R L [r]) (hi : i ≤ L.length) (h1 : ∀ u, 0 < i → L[i - 1]? = some u → lt r u = false) (h2 : ∀ u, L[i]? = some u → lt r u = true) :
    Mg R (L ++ [r]) (L.take i ++ r :: L.drop i) := by
  have c1 := cross_idx (L := L) (M := [r]) (i := i) (j := 0) tr hL (by simp) hi (by simp) (fun y z hp hy hz => by
    simp at hz; subst hz
    exact (hX y (List.mem_of_getElem? hy) r (by simp)).2 (h1 y hp hy)) (fun y z h _ _ => by omega)
  have c2 := cross_idx (L := L) (M := [r]) (i := i) (j := 1) tr hL (by simp) hi (by simp) (fun y z _ _ hz => by simp at hz) (fun y z _ hy hz => by
    simp at hy; subst hy
    exact (hX z (List.mem_of_getElem? hz) r (by simp)).1 (h2 z hz))
  have h := mg_one_left (l := r) (M1 := L.take i) (M2 := L.drop i) (R := R) (by rw [List.take_append_drop]; exact hL) (fun y hy => c1 y (by simp [hy]) r (by simp)) (fun y hy => c2 r (by simp) y (by simp [hy]))
  rw [List.take_append_drop] at h
  exact ⟨h.1.trans (List.perm_append_comm (l₁ := [r]) (l₂ := L)), h.2⟩
theorem mg_nil_left {M : List α} (hM : M.Pairwise R) : Mg R ([] ++ M) M := ⟨List.Perm.refl _, hM⟩
theorem mg_nil_right {L : List α} (hL : L.Pairwise R) : Mg R (L ++ []) L := ⟨by simp, hL⟩
theorem mg_either {L M : List α} (hL : L.Pairwise R) (hM : M.Pairwise R) (h : L = [] ∨ M = []) : Mg R (L ++ M) (L ++ M) := by
  rcases h with rfl | rfl
  · exact mg_nil_left hM
  · exact ⟨List.Perm.refl _, by simpa using hL⟩
end Go.Proofs.Ytbodfepfapjikaa
