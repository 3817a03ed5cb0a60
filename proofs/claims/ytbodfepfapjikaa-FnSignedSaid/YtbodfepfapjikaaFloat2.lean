/-
  Floats that are numbers and not 0: integers, quotients. No program in sight.
-/
import Derived.Test.YtbodfepfapjikaaFloat
namespace Go.Proofs.Ytbodfepfapjikaa
open Go.RowKit Ieee
set_option linter.unusedVariables false

/-- It is a normal number, not below 0, of 24 digits, from 2 ^ a up to less than 2 ^ (b + 1). -/
def Nm (x : Nat) (a b : Int) : Prop := ∃ m e, single.read x = .number false m e ∧ 8388608 ≤ m ∧ m < 16777216 ∧ a ≤ e + 23 ∧ e + 23 ≤ b
theorem Nm.sg {x : Nat} {a b : Int} (h : Nm x a b) : Sg single false x := by
  obtain ⟨m, e, h, _⟩ := h
  exact .inl ⟨m, e, h⟩
theorem Nm.mono {x : Nat} {a b a' b' : Int} (h : Nm x a b) (ha : a' ≤ a) (hb : b ≤ b') : Nm x a' b' := by
  obtain ⟨m, e, h, h1, h2, h3, h4⟩ := h
  exact ⟨m, e, h, h1, h2, by omega, by omega⟩
theorem cut_even_ge (n d : Nat) (h : d ≤ n.log2 + 2) : n / 2 ^ d ≤ Toward.even.cut false n d := by
  unfold Toward.cut
  simp only
  rw [Nat.min_eq_left h, Nat.shiftLeft_eq, Nat.one_mul]
  exact Nat.le_add_right _ _
theorem div_pow_ge {M d : Nat} (h0 : M ≠ 0) (h : M.log2 = d + 23) : 8388608 ≤ M / 2 ^ d := by
  have h2 : 2 ^ M.log2 ≤ M := Nat.log2_self_le h0
  rw [Nat.le_div_iff_mul_le (Nat.pow_pos (by omega))]
  have h4 : 2 ^ (d + 23) = 8388608 * 2 ^ d := by rw [Nat.pow_add, Nat.mul_comm]
  rw [h, h4] at h2
  exact h2
theorem shl_ge {M k : Nat} (h0 : M ≠ 0) (h : M.log2 + k = 23) : 8388608 ≤ M <<< k := by
  rw [Nat.shiftLeft_eq]
  have h2 : 2 ^ M.log2 ≤ M := Nat.log2_self_le h0
  have h3 : 2 ^ M.log2 * 2 ^ k ≤ M * 2 ^ k := Nat.mul_le_mul_right _ h2
  rw [← Nat.pow_add, h] at h3
  exact h3
theorem rung_norm {L K : Nat} (h : L ≤ 250) (h1 : 8388608 ≤ K) (h2 : K ≤ 16777216) : 8388608 ≤ L * 8388608 + K ∧ ((K = 16777216 ∧ (L * 8388608 + K) / 8388608 = L + 2 ∧ (L * 8388608 + K) % 8388608 = 0) ∨ (K < 16777216 ∧ (L * 8388608 + K) / 8388608 = L + 1 ∧ (L * 8388608 + K) % 8388608 = K - 8388608)) := by
  refine ⟨by omega, ?_⟩
  rcases (show K = 16777216 ∨ K < 16777216 by omega) with h3 | h3
  · exact .inl ⟨h3, by omega, by omega⟩
  · exact .inr ⟨h3, by omega, by omega⟩
/-- The nearest word of a number that is neither small nor great. -/
theorem nearest_nm {M : Nat} {p : Int} (h0 : M ≠ 0) (h1 : -100 ≤ (M.log2 : Int) + p) (h2 : (M.log2 : Int) + p ≤ 99) : Nm (single.nearest false M p) ((M.log2 : Int) + p) ((M.log2 : Int) + p + 1) := by
  have hl : single.leastPlace = -149 := by decide
  have hb : single.binade = 8388608 := by decide
  have hi : single.infRung = 2139095040 := by decide
  have hf : single.fractionBits = 23 := rfl
  obtain ⟨last, hla⟩ : ∃ last : Int, last = max (p + (M.log2 : Int) - ((23 : Nat) : Int)) (-149) := ⟨_, rfl⟩
  obtain ⟨N, hN⟩ : ∃ N, N = (last - -149).toNat := ⟨_, rfl⟩
  have hlast : last = p + (M.log2 : Int) - 23 := by omega
  have hNb : (N : Int) = last + 149 ∧ N ≤ 250 := by omega
  have hk : 8388608 ≤ Toward.even.cut false (M <<< (p - last).toNat) (last - p).toNat ∧ Toward.even.cut false (M <<< (p - last).toNat) (last - p).toNat ≤ 16777216 := by
    rcases Int.le_total last p with h4 | h4
    · rw [show (last - p).toNat = 0 by omega, cut_even_zero]
      exact ⟨shl_ge h0 (by omega), Nat.le_of_lt (shl_lt (by omega))⟩
    · rw [show (p - last).toNat = 0 by omega, Nat.shiftLeft_zero]
      have h5 := cut_even_le M (last - p).toNat
      have h6 := div_pow_lt (M := M) (d := (last - p).toNat) (by omega)
      have h7 := cut_even_ge M (last - p).toNat (by omega)
      have h8 := div_pow_ge (M := M) (d := (last - p).toNat) h0 (by omega)
      omega
  obtain ⟨K, hK⟩ : ∃ K, K = Toward.even.cut false (M <<< (p - last).toNat) (last - p).toNat := ⟨_, rfl⟩
  rw [← hK] at hk
  obtain ⟨r1, r2, r3⟩ := rung_bound (L := N) (K := K) hNb.2 hk.2
  obtain ⟨q1, q2⟩ := rung_norm (L := N) hNb.2 hk.1 hk.2
  have hnr : single.nearest false M p = N * 8388608 + K := by
    unfold Format.nearest
    rw [if_neg h0]
    simp only [hl, hb, hi, hf]
    rw [← hla, ← hK, ← hN, word_false, r1]
  rw [hnr]
  have hNl := hNb.1
  clear hK hla hN hnr r1 r3
  rcases q2 with ⟨h3, h4, h5⟩ | ⟨h3, h4, h5⟩
  · refine ⟨_, _, read_single _ q1 r2, ?_⟩
    rw [h4, h5]
    omega
  · refine ⟨_, _, read_single _ q1 r2, ?_⟩
    rw [h4, h5]
    omega
/-- An integer that is not 0. -/
theorem ofInt_nm {n : Nat} (h0 : n ≠ 0) (hn : n.log2 ≤ 90) : Nm (floatOfInt .f32 (n : Int)) (n.log2 : Int) ((n.log2 : Int) + 1) := by
  have hfo : floatOfInt .f32 (n : Int) = single.nearest false n 0 := by
    show single.nearest (decide ((n : Int) < 0)) (n : Int).natAbs 0 = _
    rw [show decide ((n : Int) < 0) = false by simp]
    rfl
  rw [hfo]
  exact (nearest_nm (p := 0) h0 (by omega) (by omega)).mono (by omega) (by omega)
/-- A quotient. -/
theorem quo_nm {x y : Nat} {a b c d : Int} (hx : Nm x a b) (hy : Nm y c d) (h1 : -90 ≤ a - d) (h2 : b - c ≤ 90) : ∃ r, floatBits .quo .f32 x y = some r ∧ Nm r (a - d - 1) (b - c + 1) := by
  obtain ⟨m, e, hx, m1, m2, m3, m4⟩ := hx
  obtain ⟨n, j, hy, n1, n2, n3, n4⟩ := hy
  have hn0 : n ≠ 0 := by omega
  have hm0 : m ≠ 0 := by omega
  have hlm : m.log2 = 23 := by
    have h1 := log2_lt_of (k := 24) (m := m) (by omega) (by omega)
    have h2 := (Nat.le_log2 hm0 (k := 23)).2 (by omega)
    omega
  have hln : n.log2 = 23 := by
    have h1 := log2_lt_of (k := 24) (m := n) (by omega) (by omega)
    have h2 := (Nat.le_log2 hn0 (k := 23)).2 (by omega)
    omega
  have hmore : single.fractionBits + 2 + n.log2 - m.log2 = 25 := by rw [hln, hlm]; rfl
  have hd1 : m <<< 25 / n < 67108864 := by
    rw [Nat.shiftLeft_eq, Nat.div_lt_iff_lt_mul (by omega)]
    have : 67108864 * 8388608 ≤ 67108864 * n := Nat.mul_le_mul_left _ n1
    omega
  have hd2 : 16777216 ≤ m <<< 25 / n := by
    rw [Nat.shiftLeft_eq, Nat.le_div_iff_mul_le (by omega)]
    exact Nat.le_trans (Nat.mul_le_mul_left 16777216 (show n ≤ 16777216 by omega)) (Nat.le_trans (by decide) (Nat.mul_le_mul_right (2 ^ 25) m1))
  show ∃ r, single.div x y = some r ∧ _
  unfold Format.div
  rw [hx, hy]
  simp only [Datum.quotient, if_neg hn0, Option.map_some, Bool.xor_self, hmore]
  refine ⟨_, rfl, ?_⟩
  have hbt : ∀ b : Bool, b.toNat ≤ 1 := Bool.toNat_le
  have hb1 := hbt (m <<< 25 % n != 0)
  obtain ⟨M, hM⟩ : ∃ M, M = 2 * (m <<< 25 / n) + (m <<< 25 % n != 0).toNat := ⟨_, rfl⟩
  have hM0 : M ≠ 0 := by omega
  have hM1 : M < 2 ^ 27 := by omega
  have hM2 : 2 ^ 25 ≤ M := by omega
  have hlg := (Nat.log2_lt hM0 (k := 27)).2 hM1
  have hlg2 := (Nat.le_log2 hM0 (k := 25)).2 hM2
  show Nm (single.nearest false (2 * (m <<< 25 / n) + (m <<< 25 % n != 0).toNat) (e - j - ((25 : Nat) : Int) - 1)) _ _
  rw [← hM]
  clear hM hb1 hbt hd1 hd2
  exact (nearest_nm hM0 (by omega) (by omega)).mono (by omega) (by omega)
end Go.Proofs.Ytbodfepfapjikaa
