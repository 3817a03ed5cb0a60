/-
  Homes and places that are swapped: plain. No program in sight.
-/
import Derived.Test.YtbodfepfapjikaaMem
namespace Go.Proofs.Ytbodfepfapjikaa

/-- f, m times. -/
def iterN (f : Nat → Nat) : Nat → Nat → Nat
  | 0, k => k
  | m + 1, k => f (iterN f m k)
theorem iterN_add (f : Nat → Nat) (a b k : Nat) : iterN f (a + b) k = iterN f a (iterN f b k) := by
  induction a with
  | zero => rw [Nat.zero_add]; rfl
  | succ a ih => rw [Nat.succ_add]; show f _ = f _; rw [ih]
theorem iterN_lt {f : Nat → Nat} {N : Nat} (hf : ∀ x, x < N → f x < N) {k : Nat} (hk : k < N) (m : Nat) : iterN f m k < N := by
  induction m with
  | zero => exact hk
  | succ m ih => exact hf _ ih
theorem nodup_length {N : Nat} : ∀ l : List Nat, l.Nodup → (∀ x ∈ l, x < N) → l.length ≤ N := by
  induction N with
  | zero =>
    intro l _ h
    cases l with
    | nil => simp
    | cons a l => exact absurd (h a (by simp)) (by omega)
  | succ N ih =>
    intro l hn h
    have h1 := ih (l.erase N) (hn.erase N) (fun x hx => by
      have h2 := h x (List.mem_of_mem_erase hx)
      have h3 : x ≠ N := fun e => by
        subst e
        exact (hn.not_mem_erase) hx
      omega)
    rw [List.length_erase] at h1
    split at h1 <;> omega
/-- Two of more than N numbers below N are equal. -/
theorem pigeon {f : Nat → Nat} {N : Nat} (hf : ∀ i, f i < N) : ∃ i j, i < j ∧ f i = f j := by
  by_cases h : ∃ i j, i < j ∧ f i = f j
  · exact h
  · exfalso
    have hn : ((List.range (N + 1)).map f).Nodup := by
      unfold List.Nodup
      rw [List.pairwise_map]
      refine List.Pairwise.imp (fun {a b} (hab : a < b) e => h ⟨a, b, hab, e⟩) List.pairwise_lt_range
    have := nodup_length _ hn (fun x hx => by
      obtain ⟨i, _, rfl⟩ := List.mem_map.1 hx
      exact hf i)
    simp at this
    omega
/-- A permutation leads back below n. -/
theorem comes_below {f g : Nat → Nat} {N n k : Nat} (hf : ∀ x, x < N → f x < N) (hg : ∀ x, x < N → g (f x) = x) (hn : n ≤ N) (hk : k < n) : ∃ m, iterN f (m + 1) k < n := by
  obtain ⟨i, j, hij, e⟩ := pigeon (f := fun i => iterN f i k) (N := N) (fun i => iterN_lt hf (by omega) i)
  have key : ∀ i d, iterN f i k = iterN f (i + d) k → iterN f d k = k := by
    intro i
    induction i with
    | zero => intro d e; rw [Nat.zero_add] at e; exact e.symm
    | succ i ih =>
      intro d e
      refine ih d ?_
      have e1 : f (iterN f i k) = f (iterN f (i + d) k) := by
        have : i + 1 + d = (i + d) + 1 := by omega
        rw [this] at e
        exact e
      have e2 := congrArg g e1
      rwa [hg _ (iterN_lt hf (by omega) _), hg _ (iterN_lt hf (by omega) _)] at e2
  have e3 := key i (j - i) (by rw [show i + (j - i) = j by omega]; exact e)
  refine ⟨j - i - 1, ?_⟩
  rw [show j - i - 1 + 1 = j - i by omega, e3]
  exact hk
/-- p is the first below n that f leads to from k. -/
def Lands (f : Nat → Nat) (n k p : Nat) : Prop := ∃ m, iterN f (m + 1) k = p ∧ p < n ∧ ∀ i, i < m → n ≤ iterN f (i + 1) k
theorem Lands.uniq {f : Nat → Nat} {n k p q : Nat} (h : Lands f n k p) (h' : Lands f n k q) : p = q := by
  obtain ⟨m, e1, l1, a1⟩ := h
  obtain ⟨m', e2, l2, a2⟩ := h'
  rcases Nat.lt_trichotomy m m' with hlt | rfl | hlt
  · have := a2 m hlt; omega
  · omega
  · have := a1 m' hlt; omega
theorem lands_of {f : Nat → Nat} {n k m : Nat} (h : iterN f (m + 1) k < n) : ∃ p, Lands f n k p := by
  induction m using Nat.strongRecOn with
  | _ m ih =>
    by_cases hx : ∃ i, i < m ∧ iterN f (i + 1) k < n
    · obtain ⟨i, hi, hl⟩ := hx
      exact ih i hi hl
    · exact ⟨_, m, rfl, h, fun i hi => by
        rcases Nat.lt_or_ge (iterN f (i + 1) k) n with h1 | h1
        · exact absurd ⟨i, hi, h1⟩ hx
        · exact h1⟩
/-- What leads forth leads back. -/
theorem Lands.back {f g : Nat → Nat} {N n k p : Nat} (hf : ∀ x, x < N → f x < N) (hg : ∀ x, x < N → g (f x) = x) (hn : n ≤ N) (hk : k < n) (h : Lands f n k p) : Lands g n p k := by
  obtain ⟨m, rfl, l1, a1⟩ := h
  have key : ∀ i, i ≤ m + 1 → iterN g i (iterN f (m + 1) k) = iterN f (m + 1 - i) k := by
    intro i
    induction i with
    | zero => intro _; rfl
    | succ i ih =>
      intro hi
      show g _ = _
      rw [ih (by omega), show m + 1 - i = (m + 1 - (i + 1)) + 1 by omega]
      exact hg _ (iterN_lt hf (by omega) _)
  refine ⟨m, ?_, hk, fun i hi => ?_⟩
  · rw [key (m + 1) (Nat.le_refl _), Nat.sub_self]; rfl
  · rw [key (i + 1) (by omega), show m + 1 - (i + 1) = (m - i - 1) + 1 by omega]
    exact a1 _ (by omega)

/-! ### The rounds -/
section
variable (hash : Nat → Nat → Nat) (s M : Nat)
/-- The number with which round i joins a half. -/
def rndH (r i : Nat) : Nat := hash r ((s + i) % 4294967296) % M
/-- The halves behind i rounds. -/
def swH (k : Nat) : Nat → Nat × Nat
  | 0 => (k / M, k % M)
  | i + 1 => ((swH k i).2, (swH k i).1 ^^^ rndH hash s M (swH k i).2 i)
/-- The halves ahead of i rounds, out of those behind 4. -/
def bkH (k : Nat) : Nat → Nat × Nat
  | 0 => (k / M, k % M)
  | i + 1 => ((bkH k i).2 ^^^ rndH hash s M (bkH k i).1 (3 - i), (bkH k i).1)
def swF (k : Nat) : Nat := (swH hash s M k 4).1 * M + (swH hash s M k 4).2
def bkF (k : Nat) : Nat := (bkH hash s M k 4).1 * M + (bkH hash s M k 4).2
end
section
variable {hash : Nat → Nat → Nat} {s d : Nat}
theorem rndH_lt (r i : Nat) : rndH hash s (2 ^ d) r i < 2 ^ d := Nat.mod_lt _ (Nat.pow_pos (by omega))
theorem swH_lt {k : Nat} (hk : k < 2 ^ d * 2 ^ d) (i : Nat) : (swH hash s (2 ^ d) k i).1 < 2 ^ d ∧ (swH hash s (2 ^ d) k i).2 < 2 ^ d := by
  induction i with
  | zero => exact ⟨Nat.div_lt_of_lt_mul hk, Nat.mod_lt _ (Nat.pow_pos (by omega))⟩
  | succ i ih => exact ⟨ih.2, Nat.xor_lt_two_pow ih.1 (rndH_lt _ _)⟩
theorem bkH_lt {k : Nat} (hk : k < 2 ^ d * 2 ^ d) (i : Nat) : (bkH hash s (2 ^ d) k i).1 < 2 ^ d ∧ (bkH hash s (2 ^ d) k i).2 < 2 ^ d := by
  induction i with
  | zero => exact ⟨Nat.div_lt_of_lt_mul hk, Nat.mod_lt _ (Nat.pow_pos (by omega))⟩
  | succ i ih => exact ⟨Nat.xor_lt_two_pow ih.2 (rndH_lt _ _), ih.1⟩
theorem join_lt {M a b : Nat} (ha : a < M) (hb : b < M) : a * M + b < M * M := by
  have : (a + 1) * M ≤ M * M := Nat.mul_le_mul_right _ ha
  rw [Nat.add_mul] at this
  omega
theorem swF_lt {k : Nat} (hk : k < 2 ^ d * 2 ^ d) : swF hash s (2 ^ d) k < 2 ^ d * 2 ^ d := join_lt (swH_lt hk 4).1 (swH_lt hk 4).2
theorem bkF_lt {k : Nat} (hk : k < 2 ^ d * 2 ^ d) : bkF hash s (2 ^ d) k < 2 ^ d * 2 ^ d := join_lt (bkH_lt hk 4).1 (bkH_lt hk 4).2
theorem xor_back (a b : Nat) : a ^^^ b ^^^ b = a := by rw [Nat.xor_assoc, Nat.xor_self, Nat.xor_zero]
theorem bk_sw {k : Nat} (hk : k < 2 ^ d * 2 ^ d) : bkF hash s (2 ^ d) (swF hash s (2 ^ d) k) = k := by
  have hl := swH_lt (hash := hash) (s := s) hk 4
  have h0 : bkH hash s (2 ^ d) (swF hash s (2 ^ d) k) 0 = swH hash s (2 ^ d) k 4 := by
    unfold swF bkH
    have hp : 0 < 2 ^ d := Nat.pow_pos (by omega)
    refine Prod.ext ?_ ?_
    · show ((swH hash s (2 ^ d) k 4).1 * 2 ^ d + (swH hash s (2 ^ d) k 4).2) / 2 ^ d = _
      rw [Nat.mul_comm, Nat.mul_add_div hp, Nat.div_eq_of_lt hl.2]; rfl
    · show ((swH hash s (2 ^ d) k 4).1 * 2 ^ d + (swH hash s (2 ^ d) k 4).2) % 2 ^ d = _
      rw [Nat.mul_comm, Nat.mul_add_mod, Nat.mod_eq_of_lt hl.2]
  have step : ∀ i, i < 4 → bkH hash s (2 ^ d) (swF hash s (2 ^ d) k) i = swH hash s (2 ^ d) k (4 - i) → bkH hash s (2 ^ d) (swF hash s (2 ^ d) k) (i + 1) = swH hash s (2 ^ d) k (4 - (i + 1)) := by
    intro i hi h
    have e : 4 - i = (3 - i) + 1 := by omega
    have e2 : 4 - (i + 1) = 3 - i := by omega
    rw [e] at h
    rw [e2]
    unfold bkH
    rw [h]
    refine Prod.ext ?_ ?_
    · show (swH hash s (2 ^ d) k (3 - i)).1 ^^^ rndH hash s (2 ^ d) (swH hash s (2 ^ d) k (3 - i)).2 (3 - i) ^^^ rndH hash s (2 ^ d) (swH hash s (2 ^ d) k (3 - i)).2 (3 - i) = _
      exact xor_back _ _
    · rfl
  have h4 := step 3 (by omega) (step 2 (by omega) (step 1 (by omega) (step 0 (by omega) h0)))
  unfold bkF
  rw [h4]
  show k / 2 ^ d * 2 ^ d + k % 2 ^ d = k
  rw [Nat.mul_comm]
  exact Nat.div_add_mod _ _
end

/-! ### The greatest -/
/-- The first index, among the first k, of the greatest. -/
def bestK (xs : List Nat) : Nat → Nat
  | 0 => 0
  | k + 1 => if xs.getD (bestK xs k) 0 < xs.getD k 0 then k else bestK xs k
theorem bestK_lt (xs : List Nat) (k : Nat) (hk : 0 < k) : bestK xs k < k := by
  induction k with
  | zero => omega
  | succ k ih =>
    unfold bestK
    split
    · omega
    · rcases Nat.eq_zero_or_pos k with rfl | h
      · show 0 < _; omega
      · have := ih h; omega
theorem bestK_le (xs : List Nat) (k : Nat) : ∀ i, i < k → xs.getD i 0 ≤ xs.getD (bestK xs k) 0 := by
  induction k with
  | zero => intro i h; omega
  | succ k ih =>
    intro i hi
    unfold bestK
    rcases Nat.lt_or_ge i k with h | h
    · have h1 := ih i h
      split
      · omega
      · exact h1
    · obtain rfl : i = k := by omega
      split
      · exact Nat.le_refl _
      · omega
end Go.Proofs.Ytbodfepfapjikaa
