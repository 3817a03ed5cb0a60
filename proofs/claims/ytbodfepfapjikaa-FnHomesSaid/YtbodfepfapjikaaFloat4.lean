/-
  Doubles that lie between two whole numbers: what rounding, products, quotients and the floor make of them. No program in sight.
-/
import Derived.Test.YtbodfepfapjikaaFloat3
namespace Go.Proofs.Ytbodfepfapjikaa
open Go.RowKit Ieee

/-- A normal double number, of 53 digits, that is at least A and at most B. -/
def GB (x A B : Nat) : Prop := ∃ m e, double.read x = .number false m e ∧ 4503599627370496 ≤ m ∧ m < 9007199254740992 ∧ -200 ≤ e ∧ e ≤ 0 ∧ A * 2 ^ (-e).toNat ≤ m ∧ m ≤ B * 2 ^ (-e).toNat
theorem GB.mono {x A B A' B' : Nat} (h : GB x A B) (hA : A' ≤ A) (hB : B ≤ B') : GB x A' B' := by
  obtain ⟨m, e, h1, h2, h3, h4, h5, h6, h7⟩ := h
  exact ⟨m, e, h1, h2, h3, h4, h5, Nat.le_trans (Nat.mul_le_mul_right _ hA) h6, Nat.le_trans h7 (Nat.mul_le_mul_right _ hB)⟩
theorem cut_even_floor {M d : Nat} (h : d ≤ M.log2 + 2) : M / 2 ^ d ≤ Toward.even.cut false M d := cut_even_ge M d h
/-- The nearest double word of a number between A and B. -/
theorem nearest_gb {M A B : Nat} {p : Int} (hp : p ≤ 0) (hp2 : -190 ≤ p) (hA : 1 ≤ A) (hB : B < 2 ^ 52) (h1 : A * 2 ^ (-p).toNat ≤ M) (h2 : M ≤ B * 2 ^ (-p).toNat) : GB (double.nearest false M p) A B := by
  have hpos : 0 < 2 ^ (-p).toNat := Nat.pow_pos (by omega)
  have h0 : M ≠ 0 := by
    have : 1 * 2 ^ (-p).toNat ≤ A * 2 ^ (-p).toNat := Nat.mul_le_mul_right _ hA
    omega
  have hlo : (-p).toNat ≤ M.log2 := by
    rw [Nat.le_log2 h0]
    have : 1 * 2 ^ (-p).toNat ≤ A * 2 ^ (-p).toNat := Nat.mul_le_mul_right _ hA
    omega
  have hhi : M.log2 < 52 + (-p).toNat := log2_bound h0 h2 hB
  obtain ⟨last, hla⟩ : ∃ last : Int, last = max (p + (M.log2 : Int) - ((52 : Nat) : Int)) (-1074) := ⟨_, rfl⟩
  have hlast : last = p + (M.log2 : Int) - 52 := by omega
  have hl1 : -52 ≤ last := by omega
  have hl2 : last ≤ -1 := by omega
  obtain ⟨N, hN⟩ : ∃ N, N = (last - -1074).toNat := ⟨_, rfl⟩
  have hNb : (N : Int) = last + 1074 ∧ N ≤ 2000 := by omega
  obtain ⟨K, hK⟩ : ∃ K, K = Toward.even.cut false (M <<< (p - last).toNat) (last - p).toNat := ⟨_, rfl⟩
  have hk : 4503599627370496 ≤ K ∧ K ≤ 9007199254740992 := by
    rw [hK]
    rcases Int.le_total last p with h4 | h4
    · rw [show (last - p).toNat = 0 by omega, cut_even_zero]
      exact ⟨shl_ge2 h0 (by omega), Nat.le_of_lt (shl_lt2 (by omega))⟩
    · rw [show (p - last).toNat = 0 by omega, Nat.shiftLeft_zero]
      have h5 := cut_even_le M (last - p).toNat
      have h6 := div_pow_lt2 (M := M) (d := (last - p).toNat) (by omega)
      have h7 := cut_even_ge M (last - p).toNat (by omega)
      have h8 := div_pow_ge2 (M := M) (d := (last - p).toNat) h0 (by omega)
      exact ⟨Nat.le_trans h8 h7, Nat.le_trans h5 h6⟩
  have hKA : A * 2 ^ (-last).toNat ≤ K := by
    rw [hK]
    rcases Int.le_total last p with h4 | h4
    · rw [show (last - p).toNat = 0 by omega, cut_even_zero, Nat.shiftLeft_eq, show (-last).toNat = (-p).toNat + (p - last).toNat by omega, Nat.pow_add, ← Nat.mul_assoc]
      exact Nat.mul_le_mul_right _ h1
    · rw [show (p - last).toNat = 0 by omega, Nat.shiftLeft_zero]
      have h7 := cut_even_ge M (last - p).toNat (by omega)
      refine Nat.le_trans ?_ h7
      rw [Nat.le_div_iff_mul_le (Nat.pow_pos (by omega)), Nat.mul_assoc, ← Nat.pow_add, show (-last).toNat + (last - p).toNat = (-p).toNat by omega]
      exact h1
  have hKB : K ≤ B * 2 ^ (-last).toNat := by
    rw [hK]
    rcases Int.le_total last p with h4 | h4
    · rw [show (last - p).toNat = 0 by omega, cut_even_zero, Nat.shiftLeft_eq, show (-last).toNat = (-p).toNat + (p - last).toNat by omega, Nat.pow_add, ← Nat.mul_assoc]
      exact Nat.mul_le_mul_right _ h2
    · rw [show (p - last).toNat = 0 by omega, Nat.shiftLeft_zero]
      refine cut_even_bound false ?_
      rw [Nat.mul_assoc, ← Nat.pow_add, show (-last).toNat + (last - p).toNat = (-p).toNat by omega]
      exact h2
  obtain ⟨r1, r2, r3, r4, r5⟩ := rung_facts2 hNb.2 hk.2
  rw [nearest_word2 h0 hla hN hK r1]
  unfold GB
  rw [read_word2 false r2, if_neg (r3 hk.1)]
  have hNl := hNb.1
  clear hK hla hN r1 r2 r3 h1 h2
  rcases Nat.eq_or_lt_of_le hk.2 with h4 | h4
  · obtain ⟨e1, e2⟩ := r5 h4
    rw [e1, e2]
    have hs : (-last).toNat = (-(-1074 + ((N + 1 : Nat) : Int))).toNat + 1 := by omega
    rw [hs, Nat.pow_succ, ← Nat.mul_assoc] at hKA hKB
    exact ⟨_, _, rfl, Nat.le_refl _, by decide, by omega, by omega, by omega, by omega⟩
  · obtain ⟨e1, e2⟩ := r4 hk.1 h4
    rw [e1, e2]
    have hs : (-(-1074 + (N : Int))) = -last := by omega
    refine ⟨_, _, rfl, hk.1, h4, by omega, by omega, ?_, ?_⟩
    · rw [hs]; exact hKA
    · rw [hs]; exact hKB
theorem ofInt_gb {n : Nat} (h1 : 1 ≤ n) (h2 : n < 2 ^ 52) : GB (floatOfInt .f64 (n : Int)) n n := by
  have e : floatOfInt .f64 (n : Int) = double.nearest false n 0 := by
    show double.nearest (decide ((n : Int) < 0)) (n : Int).natAbs 0 = _
    rw [show decide ((n : Int) < 0) = false from decide_eq_false (by omega), Int.natAbs_natCast]
  rw [e]
  exact nearest_gb (by decide) (by decide) h1 h2 (by simp) (by simp)
theorem mul_gb {x y A B C D : Nat} (hx : GB x A B) (hy : GB y C D) (hA : 1 ≤ A * C) (hB : B * D < 2 ^ 52) (he : ∀ m e, double.read x = .number false m e → -90 ≤ e) (hf : ∀ m e, double.read y = .number false m e → -90 ≤ e) : ∃ r, floatBits .mul .f64 x y = some r ∧ GB r (A * C) (B * D) := by
  obtain ⟨m, e, hx, h2, h3, h4, h5, h6, h7⟩ := hx
  obtain ⟨n, j, hy, g2, g3, g4, g5, g6, g7⟩ := hy
  have he' := he _ _ hx
  have hf' := hf _ _ hy
  show ∃ r, double.mul x y = some r ∧ _
  unfold Format.mul
  rw [hx, hy]
  simp only [Datum.product, Option.map_some]
  refine ⟨_, rfl, nearest_gb (by omega) (by omega) hA hB ?_ ?_⟩
  · rw [show (-(e + j)).toNat = (-e).toNat + (-j).toNat by omega, Nat.pow_add, Nat.mul_mul_mul_comm]
    exact Nat.mul_le_mul h6 g6
  · rw [show (-(e + j)).toNat = (-e).toNat + (-j).toNat by omega, Nat.pow_add, Nat.mul_mul_mul_comm]
    exact Nat.mul_le_mul h7 g7
/-- A normal number that is at least 1 has digits no further than 52 behind the point. -/
theorem GB.exp {x A B : Nat} (h : GB x A B) (hA : 1 ≤ A) : ∀ m e, double.read x = .number false m e → -52 ≤ e := by
  obtain ⟨m, e, h1, h2, h3, h4, h5, h6, h7⟩ := h
  intro m' e' h'
  rw [h1] at h'
  injection h' with _ hm he
  subst hm; subst he
  rcases Int.lt_or_le e (-52) with h | h
  · exfalso
    have h8 : 2 ^ 53 ≤ 2 ^ (-e).toNat := Nat.pow_le_pow_right (by omega) (by omega)
    have h9 : 1 * 2 ^ (-e).toNat ≤ A * 2 ^ (-e).toNat := Nat.mul_le_mul_right _ hA
    omega
  · exact h
/-- 2 ^ 31 through a whole number that is no greater. -/
theorem quo_gb {y n : Nat} (hy : GB y n n) (h1 : 1 ≤ n) (h2 : n ≤ 2147483648) : ∃ r, floatBits .quo .f64 4746794007248502784 y = some r ∧ GB r 1 2147483648 := by
  have hj := hy.exp h1
  obtain ⟨m, j, hy, g2, g3, g4, g5, g6, g7⟩ := hy
  have hj' := hj _ _ hy
  have hr : double.read 4746794007248502784 = .number false 4503599627370496 (-21) := by decide
  show ∃ r, double.div 4746794007248502784 y = some r ∧ _
  unfold Format.div
  rw [hr, hy]
  have hm0 : m ≠ 0 := by omega
  have hml : m.log2 = 52 := by
    have a1 : 52 ≤ m.log2 := by rw [Nat.le_log2 hm0]; exact g2
    have a2 : m.log2 < 53 := by rw [Nat.log2_lt hm0]; exact g3
    omega
  have hcl : (4503599627370496 : Nat).log2 = 52 := by decide
  have hfb : double.fractionBits = 52 := rfl
  simp only [Datum.quotient, if_neg hm0, Option.map_some, hml, hcl, hfb]
  have hme : m = n * 2 ^ (-j).toNat := Nat.le_antisymm g7 g6
  have hj21 : j ≤ -21 := by
    rcases Int.lt_or_le (-21) j with h | h
    · exfalso
      have h8 : 2 ^ (-j).toNat ≤ 2 ^ 20 := Nat.pow_le_pow_right (by omega) (by omega)
      have h9 : n * 2 ^ (-j).toNat ≤ 2147483648 * 2 ^ 20 := Nat.mul_le_mul h2 h8
      have h10 : (2147483648 * 2 ^ 20 : Nat) < 4503599627370496 := by decide
      omega
    · exact h
  obtain ⟨d, hd⟩ : ∃ d, d = (-j).toNat := ⟨_, rfl⟩
  have hd1 : 21 ≤ d ∧ d ≤ 52 := by omega
  rw [← hd] at hme
  have hdiv : (4503599627370496 : Nat) <<< 54 = 2 ^ 106 := by decide
  refine ⟨_, rfl, nearest_gb (A := 1) (B := 2147483648) (by omega) (by omega) (Nat.le_refl _) (by decide) ?_ ?_⟩
  · rw [show (52 + 2 + 52 - 52 : Nat) = 54 by rfl, hdiv]
    have e1 : (-(-21 - j - ((54 : Nat) : Int) - 1)).toNat = 76 - d := by omega
    rw [e1, Nat.one_mul]
    have h3 : 2 ^ (75 - d) ≤ 2 ^ 106 / m := by
      rw [Nat.le_div_iff_mul_le (by omega), hme]
      calc 2 ^ (75 - d) * (n * 2 ^ d) ≤ 2 ^ (75 - d) * (2 ^ 31 * 2 ^ d) := Nat.mul_le_mul_left _ (Nat.mul_le_mul_right _ h2)
        _ = 2 ^ 106 := by rw [← Nat.pow_add, ← Nat.pow_add]; congr 1; omega
    have h4 : 2 ^ (76 - d) = 2 * 2 ^ (75 - d) := by rw [show 76 - d = (75 - d) + 1 by omega, Nat.pow_succ, Nat.mul_comm]
    rw [h4]
    omega
  · rw [show (52 + 2 + 52 - 52 : Nat) = 54 by rfl]
    have e1 : (-(-21 - j - ((54 : Nat) : Int) - 1)).toNat = 76 - d := by omega
    rw [e1]
    have hq := quo_digits (m := 4503599627370496) (n := m) (A := 2 ^ (106 - d)) (d := 0) (more := 54) (by omega) (by
      rw [hme]
      have h5 : 2 ^ (106 - d) * (n * 2 ^ d) = n * 2 ^ 106 := by
        rw [Nat.mul_left_comm, ← Nat.pow_add, show 106 - d + d = 106 by omega]
      rw [h5]
      have h6 : (4503599627370496 * 2 ^ 54 : Nat) = 1 * 2 ^ 106 := by decide
      rw [h6]
      exact Nat.mul_le_mul_right _ h1)
    refine Nat.le_trans hq ?_
    have h7 : 2147483648 * 2 ^ (76 - d) = 2 * 2 ^ (106 - d) := by
      rw [show (2147483648 : Nat) = 2 ^ 31 by rfl, ← Nat.pow_add, show 31 + (76 - d) = (106 - d) + 1 by omega, Nat.pow_succ, Nat.mul_comm]
    rw [h7]
    exact Nat.le_refl _
/-- The floor of such a number, as a word and as an integer. -/
def floorW (x : Nat) : Nat := double.write ((double.read x).integral .down)
def floorN (x : Nat) : Nat := match double.read x with
  | .number _ m e => m / 2 ^ (-e).toNat
  | _ => 0
theorem cut_down {m d : Nat} : Toward.down.cut false m d = m / 2 ^ d := by
  unfold Toward.cut
  simp only [Bool.false_and, Bool.toNat_false, Nat.add_zero]
  rw [Nat.one_shiftLeft]
  rcases Nat.le_total d (m.log2 + 2) with h | h
  · rw [Nat.min_eq_left h]
  · rw [Nat.min_eq_right h]
    have h1 : m < 2 ^ (m.log2 + 1) := Nat.lt_log2_self
    have h2 : 2 ^ (m.log2 + 1) ≤ 2 ^ (m.log2 + 2) := Nat.pow_le_pow_right (by omega) (by omega)
    have h3 : 2 ^ (m.log2 + 2) ≤ 2 ^ d := Nat.pow_le_pow_right (by omega) h
    rw [Nat.div_eq_of_lt (by omega), Nat.div_eq_of_lt (by omega)]
theorem floor_gb {x A B : Nat} (h : GB x A B) (hA : 1 ≤ A) (hB : B < 2 ^ 52) : A ≤ floorN x ∧ floorN x ≤ B ∧ GB (floorW x) (floorN x) (floorN x) := by
  obtain ⟨m, e, h1, h2, h3, h4, h5, h6, h7⟩ := h
  have hN : floorN x = m / 2 ^ (-e).toNat := by unfold floorN; rw [h1]
  have hp : 0 < 2 ^ (-e).toNat := Nat.pow_pos (by omega)
  have hlo : A ≤ floorN x := by rw [hN, Nat.le_div_iff_mul_le hp]; exact h6
  have hhi : floorN x ≤ B := by rw [hN]; exact Nat.div_le_of_le_mul (by rw [Nat.mul_comm]; exact h7)
  refine ⟨hlo, hhi, ?_⟩
  have hw : floorW x = double.nearest false (floorN x) 0 := by
    unfold floorW
    rw [h1, hN]
    show double.nearest false (Toward.down.cut false (m <<< e.toNat) (-e).toNat) 0 = _
    rw [show e.toNat = 0 by omega, Nat.shiftLeft_zero, cut_down]
  rw [hw]
  exact nearest_gb (by decide) (by decide) (by omega) (by omega) (by simp) (by simp)
theorem toInt_gb {x n : Nat} (h : GB x n n) (hn : n < 2 ^ 52) : floatToIntVal .f64 x .i64 = some (n : Int) := by
  obtain ⟨m, e, h1, h2, h3, h4, h5, h6, h7⟩ := h
  have hm : m = n * 2 ^ (-e).toNat := Nat.le_antisymm h7 h6
  have hp : 0 < 2 ^ (-e).toNat := Nat.pow_pos (by omega)
  unfold floatToIntVal
  have hd : FloatKind.f64.decode x = .number false m e := h1
  rw [hd]
  have hz : Toward.zero.cut false m (-e).toNat = n := by
    have : Toward.zero.cut false m (-e).toNat = Toward.down.cut false m (-e).toNat := by simp [Toward.cut]
    rw [this, cut_down, hm, Nat.mul_div_cancel _ hp]
  have ht : Datum.toInt .zero (.number false m e) = some (n : Int) := by
    unfold Datum.toInt Datum.integral
    simp only
    rw [show e.toNat = 0 by omega, Nat.shiftLeft_zero, hz]
    simp [signed]
  rw [ht]
  simp only
  rw [if_pos]
  show (-9223372036854775808 : Int) ≤ n ∧ (n : Int) ≤ 9223372036854775807
  omega
end Go.Proofs.Ytbodfepfapjikaa
