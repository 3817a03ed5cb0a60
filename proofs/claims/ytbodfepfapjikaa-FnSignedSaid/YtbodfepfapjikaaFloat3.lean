/-
  Floats within inclusive bounds: products, sums, differences, quotients, in both formats. No program in sight. Printed by gen_float3.py.
-/
import Derived.Test.YtbodfepfapjikaaFloat2
namespace Go.Proofs.Ytbodfepfapjikaa
open Go.RowKit Ieee
set_option linter.unusedVariables false

theorem cut_even_bound (s : Bool) {M N d : Nat} (h : M ≤ N * 2 ^ d) : Toward.even.cut s M d ≤ N := by
  unfold Toward.cut
  simp only
  rcases Nat.le_total d (M.log2 + 2) with hd | hd
  · rw [Nat.min_eq_left hd, Nat.shiftLeft_eq, Nat.one_mul]
    have hp : 0 < 2 ^ d := Nat.pow_pos (by omega)
    rcases Nat.lt_or_ge M (N * 2 ^ d) with h1 | h1
    · have h2 : M / 2 ^ d < N := (Nat.div_lt_iff_lt_mul hp).2 h1
      have h3 : ∀ b : Bool, b.toNat ≤ 1 := Bool.toNat_le
      exact Nat.le_trans (Nat.add_le_add_left (h3 _) _) h2
    · obtain rfl : M = N * 2 ^ d := by omega
      rw [Nat.mul_div_cancel _ hp, Nat.mul_mod_left]
      have h4 : (2 ^ d == 2 * 0) = false := by simp
      have h5 : decide (2 ^ d < 2 * 0) = false := by simp
      rw [h4, h5]
      simp
  · rw [Nat.min_eq_right hd, Nat.shiftLeft_eq, Nat.one_mul]
    have h2 : M < 2 ^ (M.log2 + 1) := Nat.lt_log2_self
    have h3 : 2 ^ (M.log2 + 2) = 2 * 2 ^ (M.log2 + 1) := by rw [Nat.pow_succ 2 (M.log2 + 1), Nat.mul_comm]
    rw [Nat.div_eq_of_lt (by omega), Nat.mod_eq_of_lt (by omega)]
    have h4 : (2 ^ (M.log2 + 2) == 2 * M) = false := by
      rw [beq_eq_false_iff_ne]
      omega
    have h5 : decide (2 ^ (M.log2 + 2) < 2 * M) = false := decide_eq_false (by omega)
    rw [h4, h5]
    simp
theorem cut_even_zero' (s : Bool) (n : Nat) : Toward.even.cut s n 0 = n := cut_even_zero s n
theorem cut_even_sign (s : Bool) (n d : Nat) : Toward.even.cut s n d = Toward.even.cut false n d := rfl
/-- The sign of a number goes into its word's sign alone. -/
theorem nearest_sign (f : Format) (s : Bool) (M : Nat) (p : Int) : f.nearest s M p = f.word s (f.nearest false M p) := by
  unfold Format.nearest
  split
  · rw [word_false]
  · simp only [cut_even_sign s, word_false]
theorem readWord (f : Format) (s : Bool) {r : Nat} (h : r < f.infRung) : f.read (f.word s r) = if r < f.binade then .number s r f.leastPlace else .number s (f.binade + r % f.binade) (f.leastPlace + ((r / f.binade - 1 : Nat) : Int)) := by
  obtain ⟨h1, h2⟩ := word_div f s (Nat.lt_trans h (infRung_lt' f))
  unfold Format.read
  simp only [h1, h2]
  by_cases hb : r < f.binade
  · rw [if_pos hb, if_pos hb]
  · rw [if_neg hb, if_neg hb, if_pos h]
/-- Its word is a number of sign s, and it is not above C * 2 ^ L in absolute value. -/
def Fs (f : Format) (b : Nat) (s : Bool) (C : Nat) (L : Int) : Prop := ∃ m e, f.read b = .number s m e ∧ e ≤ L ∧ m ≤ C * 2 ^ (L - e).toNat
/-- Its word is a number, and it is not above 2 ^ L in absolute value. -/
def Fb (f : Format) (b : Nat) (L : Int) : Prop := ∃ s, Fs f b s 1 L
theorem Fs.fb {f : Format} {b : Nat} {s : Bool} {L : Int} (h : Fs f b s 1 L) : Fb f b L := ⟨s, h⟩
theorem Fs.mono {f : Format} {b : Nat} {s : Bool} {C : Nat} {L L' : Int} (h : Fs f b s C L) (hl : L ≤ L') : Fs f b s C L' := by
  obtain ⟨m, e, h1, h2, h3⟩ := h
  exact ⟨m, e, h1, by omega, Nat.le_trans h3 (Nat.mul_le_mul_left _ (Nat.pow_le_pow_right (by omega) (by omega)))⟩
theorem Fb.mono {f : Format} {b : Nat} {L L' : Int} (h : Fb f b L) (hl : L ≤ L') : Fb f b L' := h.imp fun _ h => h.mono hl
theorem log2_bound {M C F d : Nat} (h0 : M ≠ 0) (h : M ≤ C * 2 ^ d) (hC : C < 2 ^ F) : M.log2 < F + d := by
  refine (Nat.log2_lt h0).2 (Nat.lt_of_le_of_lt h ?_)
  rw [Nat.pow_add]
  exact Nat.mul_lt_mul_of_pos_right hC (Nat.pow_pos (by omega))
theorem pow_split (a b c : Int) (h1 : b ≤ c) (h2 : a ≤ b) : 2 ^ (c - a).toNat = 2 ^ (c - b).toNat * 2 ^ (b - a).toNat := by
  rw [← Nat.pow_add]
  congr 1
  omega
theorem toNat_mul2 (x : Nat) : ∀ d : Nat, x <<< d = x * 2 ^ d := fun d => Nat.shiftLeft_eq x d
/-- What a quotient's digits come to. -/
theorem quo_digits {m n A d more : Nat} (hn : 0 < n) (h : m * 2 ^ more ≤ A * n) : 2 * (m <<< more / n) + (m <<< more % n != 0).toNat ≤ 2 * A := by
  rw [Nat.shiftLeft_eq]
  have h1 : m * 2 ^ more / n ≤ A := (Nat.div_le_iff_le_mul hn).2 (by rw [Nat.mul_comm] at h ⊢; first | omega | exact Nat.le_trans h (by rw [Nat.mul_comm]; omega))
  rcases Nat.lt_or_ge (m * 2 ^ more / n) A with h2 | h2
  · have h3 : ∀ b : Bool, b.toNat ≤ 1 := Bool.toNat_le
    have h4 := h3 (m * 2 ^ more % n != 0)
    omega
  · have h3 : m * 2 ^ more / n = A := by omega
    have h4 : m * 2 ^ more = A * n := by
      have h5 := Nat.div_mul_le_self (m * 2 ^ more) n
      rw [h3] at h5
      omega
    rw [h4, Nat.mul_mod_left]
    rw [Nat.mul_div_cancel _ hn]
    simp

section
theorem rung_facts {N K : Nat} (h : N ≤ 250) (h2 : K ≤ 16777216) : min (N * 8388608 + K) 2139095040 = N * 8388608 + K ∧ N * 8388608 + K < 2139095040 ∧ (8388608 ≤ K → ¬ N * 8388608 + K < 8388608) ∧ (8388608 ≤ K → K < 16777216 → 8388608 + (N * 8388608 + K) % 8388608 = K ∧ (N * 8388608 + K) / 8388608 - 1 = N) ∧ (K = 16777216 → 8388608 + (N * 8388608 + K) % 8388608 = 8388608 ∧ (N * 8388608 + K) / 8388608 - 1 = N + 1) := by
  have h7 : N * 8388608 ≤ 250 * 8388608 := Nat.mul_le_mul_right _ h
  refine ⟨by omega, by omega, fun _ => by omega, fun _ _ => ⟨by omega, by omega⟩, fun _ => ⟨by omega, by omega⟩⟩
theorem read_word (s : Bool) {r : Nat} (h : r < 2139095040) : single.read (single.word s r) = if r < 8388608 then .number s r (-149) else .number s (8388608 + r % 8388608) (-149 + ((r / 8388608 - 1 : Nat) : Int)) := by
  have hl : single.leastPlace = -149 := by decide
  have hb : single.binade = 8388608 := by decide
  have hi : single.infRung = 2139095040 := by decide
  rw [readWord _ _ (by rw [hi]; exact h), hb, hl]
theorem nearest_word {s : Bool} {M N K : Nat} {p last : Int} (h0 : M ≠ 0) (hla : last = max (p + (M.log2 : Int) - ((23 : Nat) : Int)) (-149)) (hN : N = (last - -149).toNat) (hK : K = Toward.even.cut s (M <<< (p - last).toNat) (last - p).toNat) (hr : min (N * 8388608 + K) 2139095040 = N * 8388608 + K) : single.nearest s M p = single.word s (N * 8388608 + K) := by
  have hl : single.leastPlace = -149 := by decide
  have hb : single.binade = 8388608 := by decide
  have hi : single.infRung = 2139095040 := by decide
  have hf : single.fractionBits = 23 := rfl
  unfold Format.nearest
  rw [if_neg h0]
  simp only [hl, hb, hi, hf]
  rw [← hla, ← hK, ← hN, hr]
theorem last_facts {M C k : Nat} {p L last : Int} (hlog : M.log2 < k + (L - p).toNat) (hk : k ≤ 23) (hp : p ≤ L) (h1 : -100 ≤ L) (h2 : L + (k : Int) ≤ 124) (hla : last = max (p + (M.log2 : Int) - ((23 : Nat) : Int)) (-149)) : last < L ∧ (last - -149).toNat ≤ 250 ∧ (((last - -149).toNat : Nat) : Int) = last - -149 ∧ (last ≤ p → M.log2 + (p - last).toNat ≤ 23) ∧ (p ≤ last → M.log2 ≤ (last - p).toNat + 23) ∧ ((last - -149).toNat ≠ 0 → (last ≤ p → M.log2 + (p - last).toNat = 23) ∧ (p ≤ last → M.log2 = (last - p).toNat + 23)) := by
  refine ⟨by omega, by omega, by omega, by omega, by omega, fun _ => ⟨by omega, by omega⟩⟩
theorem nearest_fs {k : Nat} {s : Bool} {M C : Nat} {p L : Int} (hC : C < 2 ^ k) (hk : k ≤ 23) (hp : p ≤ L) (hM : M ≤ C * 2 ^ (L - p).toNat) (h1 : -100 ≤ L) (h2 : L + (k : Int) ≤ 124) : Fs single (single.nearest s M p) s C L := by
  by_cases h0 : M = 0
  · subst h0
    have e : single.nearest s 0 p = single.word s 0 := by unfold Format.nearest; rw [if_pos rfl]
    rw [e]
    refine ⟨0, -149, ?_, by omega, Nat.zero_le _⟩
    rw [read_word s (by decide), if_pos (by decide)]
  have hlog := log2_bound h0 hM hC
  obtain ⟨last, hla⟩ : ∃ last : Int, last = max (p + (M.log2 : Int) - ((23 : Nat) : Int)) (-149) := ⟨_, rfl⟩
  obtain ⟨hlL, hN1, hN2, hs1, hs2, hs3⟩ := last_facts (C := C) hlog hk hp h1 h2 hla
  obtain ⟨N, hN⟩ : ∃ N, N = (last - -149).toNat := ⟨_, rfl⟩
  rw [← hN] at hN1 hN2 hs3
  obtain ⟨K, hK⟩ : ∃ K, K = Toward.even.cut s (M <<< (p - last).toNat) (last - p).toNat := ⟨_, rfl⟩
  have hKC : K ≤ C * 2 ^ (L - last).toNat := by
    rw [hK]
    rcases Int.le_total last p with h4 | h4
    · rw [show (last - p).toNat = 0 by omega, cut_even_zero', Nat.shiftLeft_eq, pow_split last p L hp h4, ← Nat.mul_assoc]
      exact Nat.mul_le_mul_right _ hM
    · rw [show (p - last).toNat = 0 by omega, Nat.shiftLeft_zero]
      refine cut_even_bound s ?_
      rw [Nat.mul_assoc, ← pow_split p last L (by omega) h4]
      exact hM
  have hKT : K ≤ 16777216 := by
    rw [hK]
    rcases Int.le_total last p with h4 | h4
    · rw [show (last - p).toNat = 0 by omega, cut_even_zero']
      exact Nat.le_of_lt (shl_lt (hs1 h4))
    · rw [show (p - last).toNat = 0 by omega, Nat.shiftLeft_zero, cut_even_sign]
      have h5 := cut_even_le M (last - p).toNat
      have h6 := div_pow_lt (hs2 h4)
      exact Nat.le_trans h5 h6
  have hKB : N ≠ 0 → 8388608 ≤ K := by
    intro hN0
    rw [hK]
    obtain ⟨t1, t2⟩ := hs3 hN0
    rcases Int.le_total last p with h4 | h4
    · rw [show (last - p).toNat = 0 by omega, cut_even_zero']
      exact shl_ge h0 (t1 h4)
    · rw [show (p - last).toNat = 0 by omega, Nat.shiftLeft_zero, cut_even_sign]
      have h6 := t2 h4
      have h7 := cut_even_ge M (last - p).toNat (by omega)
      have h8 := div_pow_ge h0 h6
      exact Nat.le_trans h8 h7
  obtain ⟨r1, r2, r3, r4, r5⟩ := rung_facts hN1 hKT
  rw [nearest_word h0 hla hN hK r1]
  unfold Fs
  rw [read_word s r2]
  clear hK hla hs1 hs2 hs3 r1 r2 hM hC hlog
  rcases Nat.lt_or_ge K 8388608 with h3 | h3
  · have hN0 : N = 0 := Nat.eq_zero_of_not_pos fun h => by have := hKB (by omega); omega
    subst hN0
    rw [Nat.zero_mul, Nat.zero_add, if_pos h3]
    refine ⟨K, _, rfl, by omega, ?_⟩
    rw [show (L - -149) = L - last by omega]
    exact hKC
  · rw [if_neg (r3 h3)]
    rcases Nat.eq_or_lt_of_le hKT with h4 | h4
    · obtain ⟨e1, e2⟩ := r5 h4
      rw [e1, e2]
      refine ⟨_, _, rfl, by omega, ?_⟩
      rw [show (L - (-149 + ((N + 1 : Nat) : Int))).toNat = (L - last).toNat - 1 by omega]
      have h5 : 2 ^ (L - last).toNat = 2 * 2 ^ ((L - last).toNat - 1) := by
        rw [Nat.mul_comm, ← Nat.pow_succ]
        congr 1
        omega
      rw [h5, Nat.mul_left_comm, h4] at hKC
      exact Nat.le_of_mul_le_mul_left (c := 2) hKC (by decide)
    · obtain ⟨e1, e2⟩ := r4 h3 h4
      rw [e1, e2]
      refine ⟨_, _, rfl, by omega, ?_⟩
      rw [show (L - (-149 + (N : Int))).toNat = (L - last).toNat by omega]
      exact hKC
/-- A product. -/
theorem mul_fs {x y : Nat} {s t : Bool} {a b : Int} (hx : Fs single x s 1 a) (hy : Fs single y t 1 b) (h1 : -100 ≤ a + b) (h2 : a + b ≤ 120) : ∃ r, floatBits .mul .f32 x y = some r ∧ Fs single r (s ^^ t) 1 (a + b) := by
  obtain ⟨m, e, hx, h3, h4⟩ := hx
  obtain ⟨n, j, hy, h5, h6⟩ := hy
  show ∃ r, single.mul x y = some r ∧ _
  unfold Format.mul
  rw [hx, hy]
  simp only [Datum.product, Option.map_some]
  refine ⟨_, rfl, nearest_fs (k := 1) (by decide) (by decide) (by omega) ?_ h1 (by omega)⟩
  rw [Nat.one_mul] at h4 h6 ⊢
  rw [show (a + b - (e + j)).toNat = (a - e).toNat + (b - j).toNat by omega, Nat.pow_add]
  exact Nat.mul_le_mul h4 h6
theorem mul_fb {x y : Nat} {a b : Int} (hx : Fb single x a) (hy : Fb single y b) (h1 : -100 ≤ a + b) (h2 : a + b ≤ 120) : ∃ r, floatBits .mul .f32 x y = some r ∧ Fb single r (a + b) := by
  obtain ⟨s, hx⟩ := hx
  obtain ⟨t, hy⟩ := hy
  obtain ⟨r, h3, h4⟩ := mul_fs hx hy h1 h2
  exact ⟨r, h3, _, h4⟩
theorem sum_fb {s t : Bool} {m n : Nat} {e j a b : Int} (h3 : e ≤ a) (h4 : m ≤ 1 * 2 ^ (a - e).toNat) (h5 : j ≤ b) (h6 : n ≤ 1 * 2 ^ (b - j).toNat) (h1 : -100 ≤ max a b + 1) (h2 : max a b + 1 ≤ 120) :
    ∃ d, Datum.sum (.number s m e) (.number t n j) = some d ∧ Fb single (single.write d) (max a b + 1) := by
  simp only [Datum.sum]
  refine ⟨_, rfl, _, nearest_fs (k := 1) (by decide) (by decide) (by omega) ?_ h1 (by omega)⟩
  rw [Nat.one_mul] at h4 h6 ⊢
  have k1 : m <<< (e - min e j).toNat ≤ 2 ^ (max a b - min e j).toNat := by
    rw [Nat.shiftLeft_eq]
    refine Nat.le_trans (Nat.mul_le_mul_right _ h4) ?_
    rw [← Nat.pow_add]
    exact Nat.pow_le_pow_right (by omega) (by omega)
  have k2 : n <<< (j - min e j).toNat ≤ 2 ^ (max a b - min e j).toNat := by
    rw [Nat.shiftLeft_eq]
    refine Nat.le_trans (Nat.mul_le_mul_right _ h6) ?_
    rw [← Nat.pow_add]
    exact Nat.pow_le_pow_right (by omega) (by omega)
  have k3 : 2 ^ (max a b + 1 - min e j).toNat = 2 * 2 ^ (max a b - min e j).toNat := by
    rw [Nat.mul_comm, ← Nat.pow_succ]
    congr 1
    omega
  rw [k3]
  unfold signed
  generalize m <<< (e - min e j).toNat = u at *
  generalize n <<< (j - min e j).toNat = v at *
  generalize 2 ^ (max a b - min e j).toNat = z at *
  cases s <;> cases t <;> simp only [if_true, if_false, Bool.false_eq_true] <;> omega
/-- A sum. -/
theorem add_fb {x y : Nat} {a b : Int} (hx : Fb single x a) (hy : Fb single y b) (h1 : -100 ≤ max a b + 1) (h2 : max a b + 1 ≤ 120) : ∃ r, floatBits .add .f32 x y = some r ∧ Fb single r (max a b + 1) := by
  obtain ⟨s, m, e, hx, h3, h4⟩ := hx
  obtain ⟨t, n, j, hy, h5, h6⟩ := hy
  show ∃ r, single.add x y = some r ∧ _
  unfold Format.add
  rw [hx, hy]
  obtain ⟨d, h7, h8⟩ := sum_fb (s := s) (t := t) h3 h4 h5 h6 h1 h2
  rw [h7]
  exact ⟨_, rfl, h8⟩
/-- A difference. -/
theorem sub_fb {x y : Nat} {a b : Int} (hx : Fb single x a) (hy : Fb single y b) (h1 : -100 ≤ max a b + 1) (h2 : max a b + 1 ≤ 120) : ∃ r, floatBits .sub .f32 x y = some r ∧ Fb single r (max a b + 1) := by
  obtain ⟨s, m, e, hx, h3, h4⟩ := hx
  obtain ⟨t, n, j, hy, h5, h6⟩ := hy
  show ∃ r, single.sub x y = some r ∧ _
  unfold Format.sub
  rw [hx, hy]
  obtain ⟨d, h7, h8⟩ := sum_fb (s := s) (t := !t) h3 h4 h5 h6 h1 h2
  simp only [Datum.opposite]
  rw [h7]
  exact ⟨_, rfl, h8⟩
/-- A quotient by a number that is at least 2 ^ c. -/
theorem quo_fs {x y : Nat} {s t : Bool} {C n : Nat} {a c j : Int} {k : Nat} (hC : C < 2 ^ k) (hk : k ≤ 23) (hx : Fs single x s C a) (hy : single.read y = .number t n j) (hn : n ≠ 0) (hc1 : j ≤ c) (hc : 2 ^ (c - j).toNat ≤ n) (hcu : n < 2 * 2 ^ (c - j).toNat) (h1 : -100 ≤ a - c) (h2 : a - c + (k : Int) ≤ 124) : ∃ r, floatBits .quo .f32 x y = some r ∧ Fs single r (s ^^ t) C (a - c) := by
  obtain ⟨m, i, hx, h3, h4⟩ := hx
  show ∃ r, single.div x y = some r ∧ _
  unfold Format.div
  rw [hx, hy]
  simp only [Datum.quotient, if_neg hn, Option.map_some]
  refine ⟨_, rfl, ?_⟩
  have hlm : m ≠ 0 → (m.log2 : Int) < 23 + (a - i) := fun h0 => by
    have := log2_bound h0 h4 hC
    omega
  have hln : (n.log2 : Int) = c - j := by
    have k1 := (Nat.le_log2 hn (k := (c - j).toNat)).2 hc
    have k2 := (Nat.log2_lt hn (k := (c - j).toNat + 1)).2 (by rw [Nat.pow_succ]; omega)
    omega
  have hf : single.fractionBits = 23 := rfl
  rw [hf]
  obtain ⟨more, hmo⟩ : ∃ more, more = 23 + 2 + n.log2 - m.log2 := ⟨_, rfl⟩
  rw [← hmo]
  have hml : i - j - (more : Int) ≤ a - c := by
    rcases Nat.eq_zero_or_pos m with h0 | h0
    · subst h0
      rw [show Nat.log2 0 = 0 by decide] at hmo
      omega
    · have := hlm (by omega)
      omega
  refine nearest_fs hC hk (by omega) ?_ h1 h2
  have h7 : 2 ^ (a - c - (i - j - (more : Int) - 1)).toNat = 2 * 2 ^ (a - c - (i - j - (more : Int))).toNat := by
    rw [Nat.mul_comm, ← Nat.pow_succ]
    congr 1
    omega
  rw [h7, Nat.mul_left_comm]
  refine quo_digits (d := 0) (by omega) ?_
  have h8 : C * 2 ^ (a - c - (i - j - (more : Int))).toNat * 2 ^ (c - j).toNat = C * 2 ^ (a - i).toNat * 2 ^ more := by
    rw [Nat.mul_assoc, Nat.mul_assoc, ← Nat.pow_add, ← Nat.pow_add]
    congr 2
    omega
  refine Nat.le_trans ?_ (Nat.mul_le_mul_left _ hc)
  rw [h8]
  exact Nat.mul_le_mul_right _ h4
end

theorem div_pow_lt2 {M d : Nat} (h : M.log2 ≤ d + 52) : M / 2 ^ d < 9007199254740992 := by
  have h2 : M < 2 ^ (M.log2 + 1) := Nat.lt_log2_self
  have h3 : 2 ^ (M.log2 + 1) ≤ 2 ^ (d + 53) := Nat.pow_le_pow_right (by omega) (by omega)
  rw [Nat.div_lt_iff_lt_mul (Nat.pow_pos (by omega))]
  have h4 : 2 ^ (d + 53) = 9007199254740992 * 2 ^ d := by rw [Nat.pow_add, Nat.mul_comm]
  omega
theorem shl_lt2 {M k : Nat} (h : M.log2 + k ≤ 52) : M <<< k < 9007199254740992 := by
  rw [Nat.shiftLeft_eq]
  have h4 : M < 2 ^ (M.log2 + 1) := Nat.lt_log2_self
  have h5 : M * 2 ^ k < 2 ^ (M.log2 + 1) * 2 ^ k := Nat.mul_lt_mul_of_pos_right h4 (Nat.pow_pos (by omega))
  rw [← Nat.pow_add] at h5
  have h6 : 2 ^ (M.log2 + 1 + k) ≤ 2 ^ 53 := Nat.pow_le_pow_right (by omega) (by omega)
  omega
theorem div_pow_ge2 {M d : Nat} (h0 : M ≠ 0) (h : M.log2 = d + 52) : 4503599627370496 ≤ M / 2 ^ d := by
  have h2 : 2 ^ M.log2 ≤ M := Nat.log2_self_le h0
  rw [Nat.le_div_iff_mul_le (Nat.pow_pos (by omega))]
  have h4 : 2 ^ (d + 52) = 4503599627370496 * 2 ^ d := by rw [Nat.pow_add, Nat.mul_comm]
  rw [h, h4] at h2
  exact h2
theorem shl_ge2 {M k : Nat} (h0 : M ≠ 0) (h : M.log2 + k = 52) : 4503599627370496 ≤ M <<< k := by
  rw [Nat.shiftLeft_eq]
  have h2 : 2 ^ M.log2 ≤ M := Nat.log2_self_le h0
  have h3 : 2 ^ M.log2 * 2 ^ k ≤ M * 2 ^ k := Nat.mul_le_mul_right _ h2
  rw [← Nat.pow_add, h] at h3
  exact h3

section
theorem rung_facts2 {N K : Nat} (h : N ≤ 2000) (h2 : K ≤ 9007199254740992) : min (N * 4503599627370496 + K) 9218868437227405312 = N * 4503599627370496 + K ∧ N * 4503599627370496 + K < 9218868437227405312 ∧ (4503599627370496 ≤ K → ¬ N * 4503599627370496 + K < 4503599627370496) ∧ (4503599627370496 ≤ K → K < 9007199254740992 → 4503599627370496 + (N * 4503599627370496 + K) % 4503599627370496 = K ∧ (N * 4503599627370496 + K) / 4503599627370496 - 1 = N) ∧ (K = 9007199254740992 → 4503599627370496 + (N * 4503599627370496 + K) % 4503599627370496 = 4503599627370496 ∧ (N * 4503599627370496 + K) / 4503599627370496 - 1 = N + 1) := by
  have h7 : N * 4503599627370496 ≤ 2000 * 4503599627370496 := Nat.mul_le_mul_right _ h
  refine ⟨by omega, by omega, fun _ => by omega, fun _ _ => ⟨by omega, by omega⟩, fun _ => ⟨by omega, by omega⟩⟩
theorem read_word2 (s : Bool) {r : Nat} (h : r < 9218868437227405312) : double.read (double.word s r) = if r < 4503599627370496 then .number s r (-1074) else .number s (4503599627370496 + r % 4503599627370496) (-1074 + ((r / 4503599627370496 - 1 : Nat) : Int)) := by
  have hl : double.leastPlace = -1074 := by decide
  have hb : double.binade = 4503599627370496 := by decide
  have hi : double.infRung = 9218868437227405312 := by decide
  rw [readWord _ _ (by rw [hi]; exact h), hb, hl]
theorem nearest_word2 {s : Bool} {M N K : Nat} {p last : Int} (h0 : M ≠ 0) (hla : last = max (p + (M.log2 : Int) - ((52 : Nat) : Int)) (-1074)) (hN : N = (last - -1074).toNat) (hK : K = Toward.even.cut s (M <<< (p - last).toNat) (last - p).toNat) (hr : min (N * 4503599627370496 + K) 9218868437227405312 = N * 4503599627370496 + K) : double.nearest s M p = double.word s (N * 4503599627370496 + K) := by
  have hl : double.leastPlace = -1074 := by decide
  have hb : double.binade = 4503599627370496 := by decide
  have hi : double.infRung = 9218868437227405312 := by decide
  have hf : double.fractionBits = 52 := rfl
  unfold Format.nearest
  rw [if_neg h0]
  simp only [hl, hb, hi, hf]
  rw [← hla, ← hK, ← hN, hr]
theorem last_facts2 {M C k : Nat} {p L last : Int} (hlog : M.log2 < k + (L - p).toNat) (hk : k ≤ 52) (hp : p ≤ L) (h1 : -100 ≤ L) (h2 : L + (k : Int) ≤ 900) (hla : last = max (p + (M.log2 : Int) - ((52 : Nat) : Int)) (-1074)) : last < L ∧ (last - -1074).toNat ≤ 2000 ∧ (((last - -1074).toNat : Nat) : Int) = last - -1074 ∧ (last ≤ p → M.log2 + (p - last).toNat ≤ 52) ∧ (p ≤ last → M.log2 ≤ (last - p).toNat + 52) ∧ ((last - -1074).toNat ≠ 0 → (last ≤ p → M.log2 + (p - last).toNat = 52) ∧ (p ≤ last → M.log2 = (last - p).toNat + 52)) := by
  refine ⟨by omega, by omega, by omega, by omega, by omega, fun _ => ⟨by omega, by omega⟩⟩
theorem nearest_fs2 {k : Nat} {s : Bool} {M C : Nat} {p L : Int} (hC : C < 2 ^ k) (hk : k ≤ 52) (hp : p ≤ L) (hM : M ≤ C * 2 ^ (L - p).toNat) (h1 : -100 ≤ L) (h2 : L + (k : Int) ≤ 900) : Fs double (double.nearest s M p) s C L := by
  by_cases h0 : M = 0
  · subst h0
    have e : double.nearest s 0 p = double.word s 0 := by unfold Format.nearest; rw [if_pos rfl]
    rw [e]
    refine ⟨0, -1074, ?_, by omega, Nat.zero_le _⟩
    rw [read_word2 s (by decide), if_pos (by decide)]
  have hlog := log2_bound h0 hM hC
  obtain ⟨last, hla⟩ : ∃ last : Int, last = max (p + (M.log2 : Int) - ((52 : Nat) : Int)) (-1074) := ⟨_, rfl⟩
  obtain ⟨hlL, hN1, hN2, hs1, hs2, hs3⟩ := last_facts2 (C := C) hlog hk hp h1 h2 hla
  obtain ⟨N, hN⟩ : ∃ N, N = (last - -1074).toNat := ⟨_, rfl⟩
  rw [← hN] at hN1 hN2 hs3
  obtain ⟨K, hK⟩ : ∃ K, K = Toward.even.cut s (M <<< (p - last).toNat) (last - p).toNat := ⟨_, rfl⟩
  have hKC : K ≤ C * 2 ^ (L - last).toNat := by
    rw [hK]
    rcases Int.le_total last p with h4 | h4
    · rw [show (last - p).toNat = 0 by omega, cut_even_zero', Nat.shiftLeft_eq, pow_split last p L hp h4, ← Nat.mul_assoc]
      exact Nat.mul_le_mul_right _ hM
    · rw [show (p - last).toNat = 0 by omega, Nat.shiftLeft_zero]
      refine cut_even_bound s ?_
      rw [Nat.mul_assoc, ← pow_split p last L (by omega) h4]
      exact hM
  have hKT : K ≤ 9007199254740992 := by
    rw [hK]
    rcases Int.le_total last p with h4 | h4
    · rw [show (last - p).toNat = 0 by omega, cut_even_zero']
      exact Nat.le_of_lt (shl_lt2 (hs1 h4))
    · rw [show (p - last).toNat = 0 by omega, Nat.shiftLeft_zero, cut_even_sign]
      have h5 := cut_even_le M (last - p).toNat
      have h6 := div_pow_lt2 (hs2 h4)
      exact Nat.le_trans h5 h6
  have hKB : N ≠ 0 → 4503599627370496 ≤ K := by
    intro hN0
    rw [hK]
    obtain ⟨t1, t2⟩ := hs3 hN0
    rcases Int.le_total last p with h4 | h4
    · rw [show (last - p).toNat = 0 by omega, cut_even_zero']
      exact shl_ge2 h0 (t1 h4)
    · rw [show (p - last).toNat = 0 by omega, Nat.shiftLeft_zero, cut_even_sign]
      have h6 := t2 h4
      have h7 := cut_even_ge M (last - p).toNat (by omega)
      have h8 := div_pow_ge2 h0 h6
      exact Nat.le_trans h8 h7
  obtain ⟨r1, r2, r3, r4, r5⟩ := rung_facts2 hN1 hKT
  rw [nearest_word2 h0 hla hN hK r1]
  unfold Fs
  rw [read_word2 s r2]
  clear hK hla hs1 hs2 hs3 r1 r2 hM hC hlog
  rcases Nat.lt_or_ge K 4503599627370496 with h3 | h3
  · have hN0 : N = 0 := Nat.eq_zero_of_not_pos fun h => by have := hKB (by omega); omega
    subst hN0
    rw [Nat.zero_mul, Nat.zero_add, if_pos h3]
    refine ⟨K, _, rfl, by omega, ?_⟩
    rw [show (L - -1074) = L - last by omega]
    exact hKC
  · rw [if_neg (r3 h3)]
    rcases Nat.eq_or_lt_of_le hKT with h4 | h4
    · obtain ⟨e1, e2⟩ := r5 h4
      rw [e1, e2]
      refine ⟨_, _, rfl, by omega, ?_⟩
      rw [show (L - (-1074 + ((N + 1 : Nat) : Int))).toNat = (L - last).toNat - 1 by omega]
      have h5 : 2 ^ (L - last).toNat = 2 * 2 ^ ((L - last).toNat - 1) := by
        rw [Nat.mul_comm, ← Nat.pow_succ]
        congr 1
        omega
      rw [h5, Nat.mul_left_comm, h4] at hKC
      exact Nat.le_of_mul_le_mul_left (c := 2) hKC (by decide)
    · obtain ⟨e1, e2⟩ := r4 h3 h4
      rw [e1, e2]
      refine ⟨_, _, rfl, by omega, ?_⟩
      rw [show (L - (-1074 + (N : Int))).toNat = (L - last).toNat by omega]
      exact hKC
/-- A product. -/
theorem mul_fs2 {x y : Nat} {s t : Bool} {a b : Int} (hx : Fs double x s 1 a) (hy : Fs double y t 1 b) (h1 : -100 ≤ a + b) (h2 : a + b ≤ 800) : ∃ r, floatBits .mul .f64 x y = some r ∧ Fs double r (s ^^ t) 1 (a + b) := by
  obtain ⟨m, e, hx, h3, h4⟩ := hx
  obtain ⟨n, j, hy, h5, h6⟩ := hy
  show ∃ r, double.mul x y = some r ∧ _
  unfold Format.mul
  rw [hx, hy]
  simp only [Datum.product, Option.map_some]
  refine ⟨_, rfl, nearest_fs2 (k := 1) (by decide) (by decide) (by omega) ?_ h1 (by omega)⟩
  rw [Nat.one_mul] at h4 h6 ⊢
  rw [show (a + b - (e + j)).toNat = (a - e).toNat + (b - j).toNat by omega, Nat.pow_add]
  exact Nat.mul_le_mul h4 h6
theorem mul_fb2 {x y : Nat} {a b : Int} (hx : Fb double x a) (hy : Fb double y b) (h1 : -100 ≤ a + b) (h2 : a + b ≤ 800) : ∃ r, floatBits .mul .f64 x y = some r ∧ Fb double r (a + b) := by
  obtain ⟨s, hx⟩ := hx
  obtain ⟨t, hy⟩ := hy
  obtain ⟨r, h3, h4⟩ := mul_fs2 hx hy h1 h2
  exact ⟨r, h3, _, h4⟩
theorem sum_fb2 {s t : Bool} {m n : Nat} {e j a b : Int} (h3 : e ≤ a) (h4 : m ≤ 1 * 2 ^ (a - e).toNat) (h5 : j ≤ b) (h6 : n ≤ 1 * 2 ^ (b - j).toNat) (h1 : -100 ≤ max a b + 1) (h2 : max a b + 1 ≤ 800) :
    ∃ d, Datum.sum (.number s m e) (.number t n j) = some d ∧ Fb double (double.write d) (max a b + 1) := by
  simp only [Datum.sum]
  refine ⟨_, rfl, _, nearest_fs2 (k := 1) (by decide) (by decide) (by omega) ?_ h1 (by omega)⟩
  rw [Nat.one_mul] at h4 h6 ⊢
  have k1 : m <<< (e - min e j).toNat ≤ 2 ^ (max a b - min e j).toNat := by
    rw [Nat.shiftLeft_eq]
    refine Nat.le_trans (Nat.mul_le_mul_right _ h4) ?_
    rw [← Nat.pow_add]
    exact Nat.pow_le_pow_right (by omega) (by omega)
  have k2 : n <<< (j - min e j).toNat ≤ 2 ^ (max a b - min e j).toNat := by
    rw [Nat.shiftLeft_eq]
    refine Nat.le_trans (Nat.mul_le_mul_right _ h6) ?_
    rw [← Nat.pow_add]
    exact Nat.pow_le_pow_right (by omega) (by omega)
  have k3 : 2 ^ (max a b + 1 - min e j).toNat = 2 * 2 ^ (max a b - min e j).toNat := by
    rw [Nat.mul_comm, ← Nat.pow_succ]
    congr 1
    omega
  rw [k3]
  unfold signed
  generalize m <<< (e - min e j).toNat = u at *
  generalize n <<< (j - min e j).toNat = v at *
  generalize 2 ^ (max a b - min e j).toNat = z at *
  cases s <;> cases t <;> simp only [if_true, if_false, Bool.false_eq_true] <;> omega
/-- A sum. -/
theorem add_fb2 {x y : Nat} {a b : Int} (hx : Fb double x a) (hy : Fb double y b) (h1 : -100 ≤ max a b + 1) (h2 : max a b + 1 ≤ 800) : ∃ r, floatBits .add .f64 x y = some r ∧ Fb double r (max a b + 1) := by
  obtain ⟨s, m, e, hx, h3, h4⟩ := hx
  obtain ⟨t, n, j, hy, h5, h6⟩ := hy
  show ∃ r, double.add x y = some r ∧ _
  unfold Format.add
  rw [hx, hy]
  obtain ⟨d, h7, h8⟩ := sum_fb2 (s := s) (t := t) h3 h4 h5 h6 h1 h2
  rw [h7]
  exact ⟨_, rfl, h8⟩
/-- A difference. -/
theorem sub_fb2 {x y : Nat} {a b : Int} (hx : Fb double x a) (hy : Fb double y b) (h1 : -100 ≤ max a b + 1) (h2 : max a b + 1 ≤ 800) : ∃ r, floatBits .sub .f64 x y = some r ∧ Fb double r (max a b + 1) := by
  obtain ⟨s, m, e, hx, h3, h4⟩ := hx
  obtain ⟨t, n, j, hy, h5, h6⟩ := hy
  show ∃ r, double.sub x y = some r ∧ _
  unfold Format.sub
  rw [hx, hy]
  obtain ⟨d, h7, h8⟩ := sum_fb2 (s := s) (t := !t) h3 h4 h5 h6 h1 h2
  simp only [Datum.opposite]
  rw [h7]
  exact ⟨_, rfl, h8⟩
/-- A quotient by a number that is at least 2 ^ c. -/
theorem quo_fs2 {x y : Nat} {s t : Bool} {C n : Nat} {a c j : Int} {k : Nat} (hC : C < 2 ^ k) (hk : k ≤ 52) (hx : Fs double x s C a) (hy : double.read y = .number t n j) (hn : n ≠ 0) (hc1 : j ≤ c) (hc : 2 ^ (c - j).toNat ≤ n) (hcu : n < 2 * 2 ^ (c - j).toNat) (h1 : -100 ≤ a - c) (h2 : a - c + (k : Int) ≤ 900) : ∃ r, floatBits .quo .f64 x y = some r ∧ Fs double r (s ^^ t) C (a - c) := by
  obtain ⟨m, i, hx, h3, h4⟩ := hx
  show ∃ r, double.div x y = some r ∧ _
  unfold Format.div
  rw [hx, hy]
  simp only [Datum.quotient, if_neg hn, Option.map_some]
  refine ⟨_, rfl, ?_⟩
  have hlm : m ≠ 0 → (m.log2 : Int) < 52 + (a - i) := fun h0 => by
    have := log2_bound h0 h4 hC
    omega
  have hln : (n.log2 : Int) = c - j := by
    have k1 := (Nat.le_log2 hn (k := (c - j).toNat)).2 hc
    have k2 := (Nat.log2_lt hn (k := (c - j).toNat + 1)).2 (by rw [Nat.pow_succ]; omega)
    omega
  have hf : double.fractionBits = 52 := rfl
  rw [hf]
  obtain ⟨more, hmo⟩ : ∃ more, more = 52 + 2 + n.log2 - m.log2 := ⟨_, rfl⟩
  rw [← hmo]
  have hml : i - j - (more : Int) ≤ a - c := by
    rcases Nat.eq_zero_or_pos m with h0 | h0
    · subst h0
      rw [show Nat.log2 0 = 0 by decide] at hmo
      omega
    · have := hlm (by omega)
      omega
  refine nearest_fs2 hC hk (by omega) ?_ h1 h2
  have h7 : 2 ^ (a - c - (i - j - (more : Int) - 1)).toNat = 2 * 2 ^ (a - c - (i - j - (more : Int))).toNat := by
    rw [Nat.mul_comm, ← Nat.pow_succ]
    congr 1
    omega
  rw [h7, Nat.mul_left_comm]
  refine quo_digits (d := 0) (by omega) ?_
  have h8 : C * 2 ^ (a - c - (i - j - (more : Int))).toNat * 2 ^ (c - j).toNat = C * 2 ^ (a - i).toNat * 2 ^ more := by
    rw [Nat.mul_assoc, Nat.mul_assoc, ← Nat.pow_add, ← Nat.pow_add]
    congr 2
    omega
  refine Nat.le_trans ?_ (Nat.mul_le_mul_left _ hc)
  rw [h8]
  exact Nat.mul_le_mul_right _ h4
end
/-- It is a normal double number, not below 0, of 53 digits, from 2 ^ a up to less than 2 ^ (b + 1). -/
def Nd (x : Nat) (a b : Int) : Prop := ∃ m e, double.read x = .number false m e ∧ 4503599627370496 ≤ m ∧ m < 9007199254740992 ∧ a ≤ e + 52 ∧ e + 52 ≤ b
theorem Nd.mono {x : Nat} {a b a' b' : Int} (h : Nd x a b) (ha : a' ≤ a) (hb : b ≤ b') : Nd x a' b' := by
  obtain ⟨m, e, h, h1, h2, h3, h4⟩ := h
  exact ⟨m, e, h, h1, h2, by omega, by omega⟩
/-- The nearest double word of a number that is neither small nor great. -/
theorem nearest_nd {M : Nat} {p : Int} (h0 : M ≠ 0) (h1 : -900 ≤ (M.log2 : Int) + p) (h2 : (M.log2 : Int) + p ≤ 900) : Nd (double.nearest false M p) ((M.log2 : Int) + p) ((M.log2 : Int) + p + 1) := by
  obtain ⟨last, hla⟩ : ∃ last : Int, last = max (p + (M.log2 : Int) - ((52 : Nat) : Int)) (-1074) := ⟨_, rfl⟩
  obtain ⟨N, hN⟩ : ∃ N, N = (last - -1074).toNat := ⟨_, rfl⟩
  have hlast : last = p + (M.log2 : Int) - 52 := by omega
  have hNb : (N : Int) = last + 1074 ∧ N ≤ 2000 := by omega
  obtain ⟨K, hK⟩ : ∃ K, K = Toward.even.cut false (M <<< (p - last).toNat) (last - p).toNat := ⟨_, rfl⟩
  have hk : 4503599627370496 ≤ K ∧ K ≤ 9007199254740992 := by
    rw [hK]
    rcases Int.le_total last p with h4 | h4
    · rw [show (last - p).toNat = 0 by omega, cut_even_zero]
      exact ⟨shl_ge2 h0 (by omega), Nat.le_of_lt (shl_lt2 (by omega))⟩
    · rw [show (p - last).toNat = 0 by omega, Nat.shiftLeft_zero]
      have h5 := cut_even_le M (last - p).toNat
      have h6 := div_pow_lt2 (M := M) (d := (last - p).toNat) (by omega)
      have h7 := cut_even_ge M (last - p).toNat (by omega)
      have h8 := div_pow_ge2 (M := M) (d := (last - p).toNat) h0 (by omega)
      exact ⟨Nat.le_trans h8 h7, Nat.le_trans h5 h6⟩
  obtain ⟨r1, r2, r3, r4, r5⟩ := rung_facts2 hNb.2 hk.2
  rw [nearest_word2 h0 hla hN hK r1]
  unfold Nd
  rw [read_word2 false r2, if_neg (r3 hk.1)]
  have hNl := hNb.1
  clear hK hla hN r1 r2 r3
  rcases Nat.eq_or_lt_of_le hk.2 with h4 | h4
  · obtain ⟨e1, e2⟩ := r5 h4
    rw [e1, e2]
    exact ⟨_, _, rfl, Nat.le_refl _, by decide, by omega, by omega⟩
  · obtain ⟨e1, e2⟩ := r4 hk.1 h4
    rw [e1, e2]
    exact ⟨_, _, rfl, hk.1, h4, by omega, by omega⟩
end Go.Proofs.Ytbodfepfapjikaa
