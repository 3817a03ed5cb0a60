/-
  Floats that are no NaN: what the operations and conversions make of them. No program in sight.
-/
import Derived.Test.YtbodfepfapjikaaMem
import Derived.Laws.FloatArith
namespace Go.Proofs.Ytbodfepfapjikaa
open Go.RowKit Ieee

/-- Its word is no NaN, and its sign is s. -/
def Sg (f : Format) (s : Bool) (b : Nat) : Prop := (∃ m e, f.read b = .number s m e) ∨ f.read b = .infinity s
/-- Its word is no NaN. -/
def NN (f : Format) (b : Nat) : Prop := ∃ s, Sg f s b

theorem word_div (f : Format) (s : Bool) {r : Nat} (h : r < f.signWeight) : (f.word s r / f.signWeight % 2 == 1) = s ∧ f.word s r % f.signWeight = r := by
  have hp : 0 < f.signWeight := Nat.pow_pos (by omega)
  unfold Format.word
  cases s with
  | true =>
    have h1 : (f.signWeight + r) / f.signWeight = 1 := by
      rw [Nat.add_div_left _ hp, Nat.div_eq_of_lt h]
    simp [h1, Nat.mod_eq_of_lt h]
  | false => simp [Nat.div_eq_of_lt h, Nat.mod_eq_of_lt h]
theorem infRung_lt' (f : Format) : f.infRung < f.signWeight := f.infRung_lt
theorem read_word_lt (f : Format) (s : Bool) {r : Nat} (h : r < f.infRung) : ∃ m e, f.read (f.word s r) = .number s m e := by
  obtain ⟨h1, h2⟩ := word_div f s (Nat.lt_trans h (infRung_lt' f))
  unfold Format.read
  simp only [h1, h2]
  by_cases hb : r < f.binade
  · exact ⟨_, _, by rw [if_pos hb]⟩
  · exact ⟨_, _, by rw [if_neg hb, if_pos h]⟩
theorem read_word_inf (f : Format) (s : Bool) (hb : f.binade ≤ f.infRung) : f.read (f.word s f.infRung) = .infinity s := by
  obtain ⟨h1, h2⟩ := word_div f s (infRung_lt' f)
  unfold Format.read
  simp only [h1, h2]
  rw [if_neg (by omega), if_neg (by omega)]
  simp
theorem nearest_form (f : Format) (s : Bool) (m : Nat) (p : Int) : ∃ r, r ≤ f.infRung ∧ f.nearest s m p = f.word s r ∧ (m = 0 → r = 0) := by
  unfold Format.nearest
  by_cases h : m = 0
  · exact ⟨0, Nat.zero_le _, by rw [if_pos h], fun _ => rfl⟩
  · exact ⟨_, Nat.min_le_right _ _, by rw [if_neg h], fun h' => absurd h' h⟩
theorem write_sg (f : Format) (hb : f.binade ≤ f.infRung) (s : Bool) (m : Nat) (p : Int) : Sg f s (f.write (.number s m p)) := by
  obtain ⟨r, hr, he, _⟩ := nearest_form f s m p
  show Sg f s (f.nearest s m p)
  rw [he]
  rcases Nat.lt_or_ge r f.infRung with h | h
  · exact .inl (read_word_lt f s h)
  · obtain rfl : r = f.infRung := by omega
    exact .inr (read_word_inf f s hb)
theorem write_inf_sg (f : Format) (hb : f.binade ≤ f.infRung) (s : Bool) : Sg f s (f.write (.infinity s)) := .inr (read_word_inf f s hb)
theorem single_bi : single.binade ≤ single.infRung := by decide
theorem double_bi : double.binade ≤ double.infRung := by decide

/-- A sum of two numbers that are not below 0. -/
theorem add_pos {x y : Nat} (hx : Sg single false x) (hy : Sg single false y) : ∃ r, floatBits .add .f32 x y = some r ∧ Sg single false r := by
  show ∃ r, single.add x y = some r ∧ _
  unfold Format.add
  rcases hx with ⟨m, e, hx⟩ | hx <;> rcases hy with ⟨n, j, hy⟩ | hy <;> rw [hx, hy]
  · simp only [Datum.sum, Option.map_some]
    refine ⟨_, rfl, ?_⟩
    have h1 : ∀ a b : Nat, (if signed false m a + signed false n b = 0 then (false && false) else decide (signed false m a + signed false n b < 0)) = false := by
      intro a b
      have h2 : 0 ≤ signed false m a := Int.natCast_nonneg (m <<< a)
      have h3 : 0 ≤ signed false n b := Int.natCast_nonneg (n <<< b)
      split
      · rfl
      · simp; omega
    rw [h1]
    exact write_sg _ single_bi _ _ _
  · exact ⟨_, rfl, write_inf_sg _ single_bi _⟩
  · exact ⟨_, rfl, write_inf_sg _ single_bi _⟩
  · exact ⟨_, rfl, write_inf_sg _ single_bi _⟩
/-- A difference of two finite numbers. -/
theorem sub_nn {x y : Nat} (hx : ∃ s m e, single.read x = .number s m e) (hy : ∃ s m e, single.read y = .number s m e) : ∃ r, floatBits .sub .f32 x y = some r ∧ NN single r := by
  obtain ⟨s, m, e, hx⟩ := hx
  obtain ⟨t, n, j, hy⟩ := hy
  show ∃ r, single.sub x y = some r ∧ _
  unfold Format.sub
  rw [hx, hy]
  simp only [Datum.opposite, Datum.sum, Option.map_some]
  exact ⟨_, rfl, _, write_sg _ single_bi _ _ _⟩
/-- A square. -/
theorem sq_pos {x : Nat} (hx : NN single x) : ∃ r, floatBits .mul .f32 x x = some r ∧ Sg single false r := by
  obtain ⟨s, hx⟩ := hx
  show ∃ r, single.mul x x = some r ∧ _
  unfold Format.mul
  rcases hx with ⟨m, e, hx⟩ | hx
  · rw [hx]
    simp only [Datum.product, Option.map_some, Bool.xor_self]
    exact ⟨_, rfl, write_sg _ single_bi _ _ _⟩
  · rw [hx]
    simp only [Datum.product, Option.map_some, Bool.xor_self]
    exact ⟨_, rfl, write_inf_sg _ single_bi _⟩
/-- A product with a finite number that is not 0. -/
theorem mul_pos {x y : Nat} (hx : Sg single false x) (hy : ∃ n j, single.read y = .number false n j ∧ n ≠ 0) : ∃ r, floatBits .mul .f32 x y = some r ∧ Sg single false r := by
  obtain ⟨n, j, hy, hn⟩ := hy
  show ∃ r, single.mul x y = some r ∧ _
  unfold Format.mul
  rcases hx with ⟨m, e, hx⟩ | hx <;> rw [hx, hy]
  · simp only [Datum.product, Option.map_some, Bool.xor_self]
    exact ⟨_, rfl, write_sg _ single_bi _ _ _⟩
  · simp only [Datum.product, if_neg hn, Option.map_some, Bool.xor_self]
    exact ⟨_, rfl, write_inf_sg _ single_bi _⟩
/-- A product with 0. -/
theorem mul_zero_fin {x y : Nat} (hx : ∃ m e, single.read x = .number false m e) (hy : ∃ j, single.read y = .number false 0 j) : ∃ r, floatBits .mul .f32 x y = some r ∧ ∃ e, single.read r = .number false 0 e := by
  obtain ⟨m, e, hx⟩ := hx
  obtain ⟨j, hy⟩ := hy
  show ∃ r, single.mul x y = some r ∧ _
  unfold Format.mul
  rw [hx, hy]
  simp only [Datum.product, Option.map_some, Bool.xor_self, Nat.mul_zero]
  refine ⟨_, rfl, single.leastPlace, ?_⟩
  show single.read (single.nearest false 0 (e + j)) = _
  have h : single.nearest false 0 (e + j) = 0 := by unfold Format.nearest; rw [if_pos rfl]; rfl
  rw [h]
  decide +kernel
/-- A quotient by a finite number that is not 0. -/
theorem quo_sg {s t : Bool} {x y : Nat} (hx : Sg single s x) (hy : ∃ n j, single.read y = .number t n j ∧ n ≠ 0) : ∃ r, floatBits .quo .f32 x y = some r ∧ Sg single (s ^^ t) r := by
  obtain ⟨n, j, hy, hn⟩ := hy
  show ∃ r, single.div x y = some r ∧ _
  unfold Format.div
  rcases hx with ⟨m, e, hx⟩ | hx <;> rw [hx, hy]
  · simp only [Datum.quotient, if_neg hn, Option.map_some]
    exact ⟨_, rfl, write_sg _ single_bi _ _ _⟩
  · simp only [Datum.quotient, Option.map_some]
    exact ⟨_, rfl, write_inf_sg _ single_bi _⟩

/-- A number of the double format that is no NaN is the same as itself. -/
theorem order_self {b : Nat} (h : NN double b) : double.order b b = some .eq := by
  obtain ⟨s, ⟨m, e, h⟩ | h⟩ := h
  · unfold Format.order
    rw [h]
    simp only [Datum.order, Int.min_self, Int.sub_self]
    simp
  · unfold Format.order
    rw [h]
    simp [Datum.order]
/-- 1 by 0. -/
theorem one_quo_zero {b : Nat} (h : NN double b) (h0 : double.order b 0 = some .eq) : ∃ r, floatBits .quo .f64 4607182418800017408 b = some r := by
  have h1 : double.read 4607182418800017408 = .number false 4503599627370496 (-52) := by decide +kernel
  have hz : double.read 0 = .number false 0 double.leastPlace := by decide +kernel
  obtain ⟨s, ⟨m, e, h⟩ | h⟩ := h
  · show ∃ r, double.div _ b = some r
    unfold Format.div
    rw [h1, h]
    by_cases hm : m = 0
    · subst hm
      simp [Datum.quotient]
    · simp [Datum.quotient, hm]
  · unfold Format.order at h0
    rw [h, hz] at h0
    cases s <;> simp [Datum.order] at h0

theorem log2_lt_of {m k : Nat} (h : m < 2 ^ k) (hk : 0 < k) : m.log2 < k := by
  by_cases hm : m = 0
  · subst hm; simpa using hk
  · exact (Nat.log2_lt hm).2 h
/-- What the single format reads. -/
theorem read_single_bounds {b : Nat} {s : Bool} {m : Nat} {e : Int} (h : single.read b = .number s m e) : m < 16777216 ∧ -149 ≤ e ∧ e ≤ 104 := by
  have hw : single.signWeight = 2147483648 := by decide
  have hi : single.infRung = 2139095040 := by decide
  have hb : single.binade = 8388608 := by decide
  have hl : single.leastPlace = -149 := by decide
  unfold Format.read at h
  simp only [hw, hi, hb, hl] at h
  split at h
  · injection h with h1 h2 h3
    omega
  · split at h
    · injection h with h1 h2 h3
      omega
    · split at h <;> cases h
theorem cut_even_zero (neg : Bool) (n : Nat) : Toward.even.cut neg n 0 = n := by
  unfold Toward.cut
  simp [Nat.mod_one]
theorem rung_lt {L K : Nat} (h : L ≤ 1149) (h' : K < 9007199254740992) : min (L * 4503599627370496 + K) 9218868437227405312 < 9218868437227405312 := by
  have h7 : L * 4503599627370496 ≤ 1149 * 4503599627370496 := Nat.mul_le_mul_right _ h
  omega
/-- A finite single number is a finite double one. -/
theorem widen {b : Nat} (h : NN single b) : ∃ r, floatToFloatBits .f32 b .f64 = some r ∧ NN double r := by
  obtain ⟨s, ⟨m, e, h⟩ | h⟩ := h
  · obtain ⟨hm, he1, he2⟩ := read_single_bounds h
    have hlt : double.nearest s m e = double.word s 0 ∨ ∃ r, r < double.infRung ∧ double.nearest s m e = double.word s r := by
      by_cases h0 : m = 0
      · exact .inl (by unfold Format.nearest; rw [if_pos h0])
      · refine .inr ?_
        have hl : double.leastPlace = -1074 := by decide
        have hb : double.binade = 4503599627370496 := by decide
        have hi : double.infRung = 9218868437227405312 := by decide
        have hf : double.fractionBits = 52 := rfl
        have hlog := log2_lt_of (k := 24) (m := m) (by omega) (by omega)
        unfold Format.nearest
        rw [if_neg h0]
        simp only [hl, hb, hi, hf]
        have hmax : max (e + (m.log2 : Int) - ((52 : Nat) : Int)) (-1074) = e + (m.log2 : Int) - 52 := by omega
        rw [hmax]
        have h1 : (e + (m.log2 : Int) - 52 - e).toNat = 0 := by omega
        have h2 : (e - (e + (m.log2 : Int) - 52)).toNat = 52 - m.log2 := by omega
        rw [h1, h2, cut_even_zero]
        have h3 : m <<< (52 - m.log2) < 9007199254740992 := by
          rw [Nat.shiftLeft_eq]
          have h4 : m < 2 ^ (m.log2 + 1) := Nat.lt_log2_self
          have h5 : m * 2 ^ (52 - m.log2) < 2 ^ (m.log2 + 1) * 2 ^ (52 - m.log2) := Nat.mul_lt_mul_of_pos_right h4 (Nat.pow_pos (by omega))
          rw [← Nat.pow_add, show m.log2 + 1 + (52 - m.log2) = 53 by omega] at h5
          exact h5
        refine ⟨_, ?_, rfl⟩
        have h6 : (e + (m.log2 : Int) - 52 - -1074).toNat ≤ 1149 := by omega
        exact rung_lt h6 h3
    have hrd : ∃ m' e', double.read (double.nearest s m e) = .number s m' e' := by
      rcases hlt with h1 | ⟨r, hr, h1⟩
      · rw [h1]; exact read_word_lt _ _ (by decide)
      · rw [h1]; exact read_word_lt _ _ hr
    obtain ⟨m', e', hrd⟩ := hrd
    refine ⟨double.nearest s m e, ?_, s, .inl ⟨m', e', hrd⟩⟩
    have hd : FloatKind.f32.decode b = .number s m e := h
    have hni : (FloatKind.f64.decode (FloatKind.f64.encode (.number s m e))).isInfinity = false := by
      show (double.read (double.nearest s m e)).isInfinity = false
      rw [hrd]; rfl
    unfold floatToFloatBits
    rw [if_neg (by decide), hd]
    simp only [hni]
    rfl
  · refine ⟨double.write (.infinity s), ?_, s, write_inf_sg _ double_bi _⟩
    have hd : FloatKind.f32.decode b = .infinity s := h
    unfold floatToFloatBits
    rw [if_neg (by decide), hd]
    rfl
theorem read_single (r : Nat) (h1 : 8388608 ≤ r) (h2 : r < 2139095040) : single.read r = .number false (8388608 + r % 8388608) (-149 + ((r / 8388608 - 1 : Nat) : Int)) := by
  have hw : single.signWeight = 2147483648 := by decide
  have hi : single.infRung = 2139095040 := by decide
  have hb : single.binade = 8388608 := by decide
  have hl : single.leastPlace = -149 := by decide
  have d : r / 2147483648 = 0 := Nat.div_eq_of_lt (by omega)
  have e : r % 2147483648 = r := Nat.mod_eq_of_lt (by omega)
  unfold Format.read
  simp only [hw, hi, hb, hl, d, e]
  rw [if_neg (by omega), if_pos h2]
  rfl
theorem word_false (f : Format) (r : Nat) : f.word false r = r := by
  unfold Format.word
  simp
theorem shl_log {n : Nat} (h0 : n ≠ 0) (h : n < 16777216) : 8388608 ≤ n <<< (23 - n.log2) ∧ n <<< (23 - n.log2) < 16777216 := by
  have hlog := log2_lt_of (k := 24) (m := n) (by omega) (by omega)
  rw [Nat.shiftLeft_eq]
  have h4 : n < 2 ^ (n.log2 + 1) := Nat.lt_log2_self
  have h5 : n * 2 ^ (23 - n.log2) < 2 ^ (n.log2 + 1) * 2 ^ (23 - n.log2) := Nat.mul_lt_mul_of_pos_right h4 (Nat.pow_pos (by omega))
  have h6 : 2 ^ n.log2 ≤ n := Nat.log2_self_le h0
  have h7 : 2 ^ n.log2 * 2 ^ (23 - n.log2) ≤ n * 2 ^ (23 - n.log2) := Nat.mul_le_mul_right _ h6
  rw [← Nat.pow_add] at h5 h7
  rw [show n.log2 + 1 + (23 - n.log2) = 24 by omega] at h5
  rw [show n.log2 + (23 - n.log2) = 23 by omega] at h7
  exact ⟨h7, h5⟩
theorem rung_small {L K : Nat} (h : L ≤ 149) (h1 : 8388608 ≤ K) (h2 : K < 16777216) : min (L * 8388608 + K) 2139095040 = L * 8388608 + K ∧ 8388608 ≤ L * 8388608 + K ∧ L * 8388608 + K < 2139095040 ∧ (L * 8388608 + K) / 8388608 = L + 1 ∧ (L * 8388608 + K) % 8388608 = K - 8388608 := by
  have h7 : L * 8388608 ≤ 149 * 8388608 := Nat.mul_le_mul_right _ h
  refine ⟨by omega, by omega, by omega, by omega, by omega⟩
/-- An integer that is exact in the single format. -/
theorem ofInt_read {n : Nat} (hn : n < 16777216) : ∃ m e, single.read (floatOfInt .f32 (n : Int)) = .number false m e ∧ (0 < n → m ≠ 0 ∧ m < 16777216 ∧ 8388608 ≤ m ∧ e = (n.log2 : Int) - 23) ∧ (n = 0 → m = 0) := by
  have hfo : floatOfInt .f32 (n : Int) = single.nearest false n 0 := by
    show single.nearest (decide ((n : Int) < 0)) (n : Int).natAbs 0 = _
    rw [show decide ((n : Int) < 0) = false by simp]
    rfl
  rw [hfo]
  by_cases h0 : n = 0
  · subst h0
    exact ⟨0, single.leastPlace, by decide +kernel, fun h => absurd h (by omega), fun _ => rfl⟩
  · have hl : single.leastPlace = -149 := by decide
    have hb : single.binade = 8388608 := by decide
    have hi : single.infRung = 2139095040 := by decide
    have hf : single.fractionBits = 23 := rfl
    have hlog := log2_lt_of (k := 24) (m := n) (by omega) (by omega)
    obtain ⟨hK1, hK2⟩ := shl_log h0 hn
    obtain ⟨r1, r2, r3, r4, r5⟩ := rung_small (L := n.log2 + 126) (by omega) hK1 hK2
    have hnr : single.nearest false n 0 = (n.log2 + 126) * 8388608 + n <<< (23 - n.log2) := by
      unfold Format.nearest
      rw [if_neg h0]
      simp only [hl, hb, hi, hf]
      have hmax : max ((0 : Int) + (n.log2 : Int) - ((23 : Nat) : Int)) (-149) = (n.log2 : Int) - 23 := by omega
      rw [hmax]
      have h1 : ((n.log2 : Int) - 23 - 0).toNat = 0 := by omega
      have h2 : (0 - ((n.log2 : Int) - 23)).toNat = 23 - n.log2 := by omega
      have h8 : ((n.log2 : Int) - 23 - -149).toNat = n.log2 + 126 := by omega
      rw [h1, h2, cut_even_zero, h8, word_false, r1]
    rw [hnr, read_single _ r2 r3, r4, r5]
    exact ⟨_, _, rfl, fun _ => ⟨by omega, by omega, by omega, by omega⟩, fun h => absurd h h0⟩

/-- It is a number that is not below 0 and not above 2 ^ (L + 1). -/
def Lg (b : Nat) (L : Int) : Prop := ∃ m e, single.read b = .number false m e ∧ (m.log2 : Int) + e ≤ L
theorem Lg.sg {b : Nat} {L : Int} (h : Lg b L) : Sg single false b := by
  obtain ⟨m, e, h, _⟩ := h
  exact .inl ⟨m, e, h⟩
theorem Sg.nn {f : Format} {s : Bool} {b : Nat} (h : Sg f s b) : NN f b := ⟨s, h⟩
theorem Lg.mono {b : Nat} {L L' : Int} (h : Lg b L) (hl : L ≤ L') : Lg b L' := by
  obtain ⟨m, e, h, h2⟩ := h
  exact ⟨m, e, h, by omega⟩
theorem cut_even_le (n d : Nat) : Toward.even.cut false n d ≤ n / 2 ^ d + 1 := by
  have h1 : n / (1 <<< min d (n.log2 + 2)) ≤ n / 2 ^ d := by
    rw [Nat.shiftLeft_eq, Nat.one_mul]
    rcases Nat.le_total d (n.log2 + 2) with h | h
    · rw [Nat.min_eq_left h]; exact Nat.le_refl _
    · rw [Nat.min_eq_right h]
      have h2 : n < 2 ^ (n.log2 + 1) := Nat.lt_log2_self
      have h3 : 2 ^ (n.log2 + 1) ≤ 2 ^ (n.log2 + 2) := Nat.pow_le_pow_right (by omega) (by omega)
      rw [Nat.div_eq_of_lt (by omega)]
      exact Nat.zero_le _
  unfold Toward.cut
  simp only
  have h4 : ∀ b : Bool, b.toNat ≤ 1 := Bool.toNat_le
  exact Nat.add_le_add h1 (h4 _)
theorem div_pow_lt {M d : Nat} (h : M.log2 ≤ d + 23) : M / 2 ^ d < 16777216 := by
  have h2 : M < 2 ^ (M.log2 + 1) := Nat.lt_log2_self
  have h3 : 2 ^ (M.log2 + 1) ≤ 2 ^ (d + 24) := Nat.pow_le_pow_right (by omega) (by omega)
  rw [Nat.div_lt_iff_lt_mul (Nat.pow_pos (by omega))]
  have h4 : 2 ^ (d + 24) = 16777216 * 2 ^ d := by rw [Nat.pow_add, Nat.mul_comm]
  omega
theorem shl_lt {M k : Nat} (h : M.log2 + k ≤ 23) : M <<< k < 16777216 := by
  rw [Nat.shiftLeft_eq]
  have h4 : M < 2 ^ (M.log2 + 1) := Nat.lt_log2_self
  have h5 : M * 2 ^ k < 2 ^ (M.log2 + 1) * 2 ^ k := Nat.mul_lt_mul_of_pos_right h4 (Nat.pow_pos (by omega))
  rw [← Nat.pow_add] at h5
  have h6 : 2 ^ (M.log2 + 1 + k) ≤ 2 ^ 24 := Nat.pow_le_pow_right (by omega) (by omega)
  omega
theorem rung_bound {L K : Nat} (h : L ≤ 250) (h2 : K ≤ 16777216) : min (L * 8388608 + K) 2139095040 = L * 8388608 + K ∧ L * 8388608 + K < 2139095040 ∧ (L * 8388608 + K) / 8388608 ≤ L + 2 := by
  have h7 : L * 8388608 ≤ 250 * 8388608 := Nat.mul_le_mul_right _ h
  refine ⟨by omega, by omega, ?_⟩
  have h8 : (L + 2) * 8388608 = L * 8388608 + 16777216 := by rw [Nat.add_mul]
  exact Nat.le_of_lt_succ ((Nat.div_lt_iff_lt_mul (by omega)).2 (by rw [Nat.succ_mul]; omega))
theorem read_low (r : Nat) (h1 : r < 8388608) : single.read r = .number false r (-149) := by
  have hw : single.signWeight = 2147483648 := by decide
  have hb : single.binade = 8388608 := by decide
  have hl : single.leastPlace = -149 := by decide
  have d : r / 2147483648 = 0 := Nat.div_eq_of_lt (by omega)
  have e : r % 2147483648 = r := Nat.mod_eq_of_lt (by omega)
  unfold Format.read
  simp only [hw, hb, hl, d, e]
  rw [if_pos h1]
  rfl
theorem read_lg {r L : Nat} (h1 : r < 2139095040) (h2 : r / 8388608 ≤ L + 2) : Lg r ((L : Int) - 125) := by
  rcases Nat.lt_or_ge r 8388608 with h | h
  · refine ⟨r, -149, read_low r h, ?_⟩
    have := log2_lt_of (k := 23) (m := r) (by omega) (by omega)
    omega
  · refine ⟨_, _, read_single r h h1, ?_⟩
    have h3 : r % 8388608 < 8388608 := Nat.mod_lt _ (by omega)
    have h5 : 8388608 + r % 8388608 < 2 ^ 24 := by omega
    have h4 := log2_lt_of (k := 24) (m := 8388608 + r % 8388608) h5 (by omega)
    have h6 : 1 ≤ r / 8388608 := (Nat.le_div_iff_mul_le (by omega)).2 (by omega)
    omega
/-- The nearest word of a number that is not great. -/
theorem nearest_lg {M : Nat} {p L : Int} (h : M ≠ 0 → (M.log2 : Int) + p ≤ L) (h1 : -100 ≤ L) (h2 : L ≤ 100) : Lg (single.nearest false M p) (L + 1) := by
  have hl : single.leastPlace = -149 := by decide
  have hb : single.binade = 8388608 := by decide
  have hi : single.infRung = 2139095040 := by decide
  have hf : single.fractionBits = 23 := rfl
  by_cases h0 : M = 0
  · subst h0
    have e : single.nearest false 0 p = 0 := by unfold Format.nearest; rw [if_pos rfl, word_false]
    rw [e]
    exact (read_lg (L := 0) (by omega) (by omega)).mono (by omega)
  · have h3 := h h0
    obtain ⟨last, hla⟩ : ∃ last : Int, last = max (p + (M.log2 : Int) - ((23 : Nat) : Int)) (-149) := ⟨_, rfl⟩
    obtain ⟨N, hN⟩ : ∃ N, N = (last - -149).toNat := ⟨_, rfl⟩
    have hNb : (N : Int) - 125 ≤ L + 1 ∧ N ≤ 250 := by omega
    have hk : Toward.even.cut false (M <<< (p - last).toNat) (last - p).toNat ≤ 16777216 := by
      rcases Int.le_total last p with h4 | h4
      · rw [show (last - p).toNat = 0 by omega, cut_even_zero]
        exact Nat.le_of_lt (shl_lt (by omega))
      · rw [show (p - last).toNat = 0 by omega, Nat.shiftLeft_zero]
        have h5 := cut_even_le M (last - p).toNat
        have h6 := div_pow_lt (M := M) (d := (last - p).toNat) (by omega)
        omega
    obtain ⟨K, hK⟩ : ∃ K, K = Toward.even.cut false (M <<< (p - last).toNat) (last - p).toNat := ⟨_, rfl⟩
    rw [← hK] at hk
    obtain ⟨r1, r2, r3⟩ := rung_bound (L := N) (K := K) hNb.2 hk
    have hnr : single.nearest false M p = N * 8388608 + K := by
      unfold Format.nearest
      rw [if_neg h0]
      simp only [hl, hb, hi, hf]
      rw [← hla, ← hK, ← hN, word_false, r1]
    rw [hnr]
    exact (read_lg r2 r3).mono hNb.1
theorem log2_mul_le {m n : Nat} (h : m * n ≠ 0) : (m * n).log2 ≤ m.log2 + n.log2 + 1 := by
  have h1 : m < 2 ^ (m.log2 + 1) := Nat.lt_log2_self
  have h2 : n < 2 ^ (n.log2 + 1) := Nat.lt_log2_self
  have h3 : m * n < 2 ^ (m.log2 + 1) * 2 ^ (n.log2 + 1) := Nat.mul_lt_mul'' h1 h2
  rw [← Nat.pow_add] at h3
  have := (Nat.log2_lt h).2 h3
  omega
/-- A product. -/
theorem mul_lg {x y : Nat} {a b : Int} (hx : Lg x a) (hy : Lg y b) (h1 : -100 ≤ a + b) (h2 : a + b ≤ 90) : ∃ r, floatBits .mul .f32 x y = some r ∧ Lg r (a + b + 2) := by
  obtain ⟨m, e, hx, h3⟩ := hx
  obtain ⟨n, j, hy, h4⟩ := hy
  show ∃ r, single.mul x y = some r ∧ _
  unfold Format.mul
  rw [hx, hy]
  simp only [Datum.product, Option.map_some, Bool.xor_self]
  refine ⟨_, rfl, ?_⟩
  have h5 : Lg (single.nearest false (m * n) (e + j)) (a + b + 1 + 1) := nearest_lg (fun h => by have := log2_mul_le h; omega) (by omega) (by omega)
  exact h5.mono (by omega)
/-- A share. -/
theorem quo_lg {n k : Nat} (hn : n ≤ k) (hk : 0 < k) (hk2 : k < 16777216) : ∃ r, floatBits .quo .f32 (floatOfInt .f32 (n : Int)) (floatOfInt .f32 (k : Int)) = some r ∧ Lg r 1 := by
  obtain ⟨m, e, hx, hx1, hx0⟩ := ofInt_read (n := n) (by omega)
  obtain ⟨d, j, hy, hy1, _⟩ := ofInt_read (n := k) hk2
  obtain ⟨hd0, hd2, hd1, hj⟩ := hy1 hk
  show ∃ r, single.div _ _ = some r ∧ _
  unfold Format.div
  rw [hx, hy]
  simp only [Datum.quotient, if_neg hd0, Option.map_some, Bool.xor_self]
  refine ⟨_, rfl, ?_⟩
  show Lg (single.nearest false _ _) (0 + 1)
  refine nearest_lg (fun hM => ?_) (by omega) (by omega)
  have hld : d.log2 = 23 := by
    have h1 := log2_lt_of (k := 24) (m := d) (by omega) (by omega)
    have h2 := (Nat.le_log2 hd0 (k := 23)).2 (by omega)
    omega
  by_cases hn0 : n = 0
  · have hm0 := hx0 hn0
    subst hm0
    exfalso
    apply hM
    simp
  · obtain ⟨hm0, hm2, hm1, he⟩ := hx1 (by omega)
    have hlm : m.log2 = 23 := by
      have h1 := log2_lt_of (k := 24) (m := m) (by omega) (by omega)
      have h2 := (Nat.le_log2 hm0 (k := 23)).2 (by omega)
      omega
    have hlog : n.log2 ≤ k.log2 := by
      have h1 : n < 2 ^ (k.log2 + 1) := by have : k < 2 ^ (k.log2 + 1) := Nat.lt_log2_self; omega
      have := (Nat.log2_lt hn0).2 h1
      omega
    have hmore : single.fractionBits + 2 + d.log2 - m.log2 = 25 := by rw [hld, hlm]; rfl
    rw [hmore] at hM ⊢
    have hdiv : m <<< 25 / d < 67108864 := by
      rw [Nat.shiftLeft_eq, Nat.div_lt_iff_lt_mul (by omega)]
      have : 67108864 * 8388608 ≤ 67108864 * d := Nat.mul_le_mul_left _ hd1
      omega
    have hb : ∀ b : Bool, b.toNat ≤ 1 := Bool.toNat_le
    have hb1 := hb (m <<< 25 % d != 0)
    have hlg := (Nat.log2_lt hM (k := 27)).2 (by omega)
    omega
/-- The share of n of k, as the program's floats tell it. -/
def shareB (n k : Nat) : Nat := (floatBits .quo .f32 (floatOfInt .f32 (n : Int)) (floatOfInt .f32 (k : Int))).getD 0
theorem shareB_spec {n k : Nat} (hn : n ≤ k) (hk : 0 < k) (hk2 : k < 16777216) : floatBits .quo .f32 (floatOfInt .f32 (n : Int)) (floatOfInt .f32 (k : Int)) = some (shareB n k) ∧ Lg (shareB n k) 1 := by
  obtain ⟨r, h1, h2⟩ := quo_lg hn hk hk2
  unfold shareB
  rw [h1]
  exact ⟨rfl, h2⟩
/-- q to the power of k + 1. -/
def powB (q : Nat) : Nat → Nat
  | 0 => q
  | k + 1 => (floatBits .mul .f32 (powB q k) q).getD 0
theorem powB_spec {q : Nat} (hq : Lg q 1) : ∀ k : Nat, k ≤ 20 → Lg (powB q k) (1 + 3 * (k : Int)) ∧ floatBits .mul .f32 (powB q k) q = some (powB q (k + 1)) := by
  have key : ∀ k : Nat, k ≤ 21 → Lg (powB q k) (1 + 3 * (k : Int)) := by
    intro k
    induction k with
    | zero => intro _; exact hq.mono (by omega)
    | succ k ih =>
      intro hk
      obtain ⟨r, h1, h2⟩ := mul_lg (ih (by omega)) hq (by omega) (by omega)
      rw [powB, h1]
      exact h2.mono (by omega)
  intro k hk
  refine ⟨key k (by omega), ?_⟩
  obtain ⟨r, h1, _⟩ := mul_lg (key k (by omega)) hq (by omega) (by omega)
  rw [powB, h1]
  rfl
end Go.Proofs.Ytbodfepfapjikaa
