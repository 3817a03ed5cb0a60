/-
  The logarithm of a share's rest in floats: all steps are numbers, and both ways come to the same word. No program in sight.
-/
import Derived.Test.YtbodfepfapjikaaFloat3
import Derived.Test.YtbodfepfapjikaaFull
namespace Go.Proofs.Ytbodfepfapjikaa
open Go.RowKit Ieee
set_option linter.unusedVariables false

def dA (x y : Nat) : Nat := (floatBits .add .f64 x y).getD 0
def dS (x y : Nat) : Nat := (floatBits .sub .f64 x y).getD 0
def dM (x y : Nat) : Nat := (floatBits .mul .f64 x y).getD 0
def dQ (x y : Nat) : Nat := (floatBits .quo .f64 x y).getD 0
def sS (x y : Nat) : Nat := (floatBits .sub .f32 x y).getD 0
def sM (x y : Nat) : Nat := (floatBits .mul .f32 x y).getD 0
def sQ (x y : Nat) : Nat := (floatBits .quo .f32 x y).getD 0
theorem some_getD {o : Option Nat} {p : Nat → Prop} (h : ∃ r, o = some r ∧ p r) : o = some (o.getD 0) ∧ p (o.getD 0) := by
  obtain ⟨r, rfl, h⟩ := h
  exact ⟨rfl, h⟩
/-- A word that is looked at: within the bound. -/
def chk (b : Nat) (L : Int) : Bool := match double.read b with
  | .number _ m e => decide (e ≤ L) && decide (m ≤ 2 ^ (L - e).toNat)
  | _ => false
theorem chk_fb {b : Nat} {L : Int} (h : chk b L = true) : Fb double b L := by
  unfold chk at h
  split at h
  · rename_i s m e hr
    simp only [Bool.and_eq_true, decide_eq_true_eq] at h
    exact ⟨s, m, e, hr, h.1, by rw [Nat.one_mul]; exact h.2⟩
  · cases h
theorem one64 : Fb double 4607182418800017408 0 := chk_fb (by decide +kernel)
theorem two64 : Fb double 4611686018427387904 1 := chk_fb (by decide +kernel)
theorem ln64 : Fb double 4604418534313441775 0 := chk_fb (by decide +kernel)
theorem zero64 : Fb double 0 0 := chk_fb (by decide +kernel)
theorem read_one : double.read 4607182418800017408 = .number false 4503599627370496 (-52) := by decide +kernel
theorem read_two : double.read 4611686018427387904 = .number false 4503599627370496 (-51) := by decide +kernel
theorem read_75 : double.read 4604930618986332160 = .number false 6755399441055744 (-53) := by decide +kernel
theorem read_150 : double.read 4609434218613702656 = .number false 6755399441055744 (-52) := by decide +kernel
/-- The counter, as a float, and its steps. -/
theorem down_ok : ∀ k : Fin 64, floatBits .sub .f64 (floatOfInt .f64 (-((k.val : Nat) : Int))) 4607182418800017408 = some (floatOfInt .f64 (-((k.val + 1 : Nat) : Int))) ∧ chk (floatOfInt .f64 (-((k.val : Nat) : Int))) 6 = true := by decide +kernel
theorem down {k : Nat} (h : k < 64) : floatBits .sub .f64 (floatOfInt .f64 (-(k : Int))) 4607182418800017408 = some (floatOfInt .f64 (-((k + 1 : Nat) : Int))) ∧ Fb double (floatOfInt .f64 (-(k : Int))) 6 := ⟨(down_ok ⟨k, h⟩).1, chk_fb (down_ok ⟨k, h⟩).2⟩
/-- The divisors. -/
def kF (i : Nat) : Nat := floatOfInt .f64 (25 - 2 * (i : Int))
def kB (i : Nat) : Nat := dQ 4607182418800017408 (kF i)
theorem kB_ok : ∀ i : Fin 13, floatBits .quo .f64 4607182418800017408 (kF i.val) = some (kB i.val) ∧ chk (kB i.val) 0 = true ∧ floatBits .sub .f64 (kF i.val) 4611686018427387904 = some (kF (i.val + 1)) ∧ (double.order (kF i.val) 4607182418800017408 == some .lt) = false ∧ double.order (kF i.val) 4607182418800017408 ≠ none := by decide +kernel
/-- From here the doubling: how often. -/
def yI (y : Nat) : Nat → Nat
  | 0 => y
  | k + 1 => dM (yI y k) 4611686018427387904
theorem yI_next (y k : Nat) : yI (dM y 4611686018427387904) k = yI y (k + 1) := by
  induction k with
  | zero => rfl
  | succ k ih => rw [yI, ih]; rfl
theorem pow_log {M n : Nat} (h1 : 2 ^ n ≤ M) (h2 : M < 2 ^ (n + 1)) : M ≠ 0 ∧ M.log2 = n := by
  have h0 : M ≠ 0 := by have : 0 < 2 ^ n := Nat.pow_pos (by omega); omega
  have k1 := (Nat.le_log2 h0 (k := n)).2 h1
  have k2 := (Nat.log2_lt h0 (k := n + 1)).2 h2
  exact ⟨h0, by omega⟩
theorem mul_two {y m : Nat} {e : Int} (h : double.read y = .number false m e) (h1 : 4503599627370496 ≤ m) (h2 : m < 9007199254740992) (h3 : -200 ≤ e) (h4 : e ≤ 0) :
    floatBits .mul .f64 y 4611686018427387904 = some (dM y 4611686018427387904) ∧ Nd (dM y 4611686018427387904) (e + 53) (e + 54) := by
  refine some_getD (p := fun r => Nd r (e + 53) (e + 54)) ?_
  show ∃ r, double.mul y _ = some r ∧ _
  unfold Format.mul
  rw [h, read_two]
  simp only [Datum.product, Option.map_some, Bool.xor_self]
  refine ⟨_, rfl, ?_⟩
  obtain ⟨p0, p1⟩ := pow_log (M := m * 4503599627370496) (n := 104) (Nat.le_trans (by decide) (Nat.mul_le_mul_right 4503599627370496 h1)) (Nat.lt_of_lt_of_le (Nat.mul_lt_mul_of_pos_right h2 (by decide)) (by decide))
  have h5 := nearest_nd (p := e + -51) p0 (by omega) (by omega)
  rw [p1] at h5
  exact h5.mono (by omega) (by omega)
theorem cmp_lt {a b : Int} (h : (compare a b) = .lt) : a < b := by
  rw [Int.compare_eq_lt] at h
  exact h
theorem order_num {x y : Nat} {s t : Bool} {m n : Nat} {e j : Int} (hx : double.read x = .number s m e) (hy : double.read y = .number t n j) : double.order x y = some (compare (signed s m (e - min e j).toNat) (signed t n (j - min e j).toNat)) := by
  unfold Format.order
  rw [hx, hy]
  rfl
theorem lt_75 {y m : Nat} {e : Int} (h : double.read y = .number false m e) (h1 : 4503599627370496 ≤ m) (hlt : double.order y 4604930618986332160 = some .lt) : e ≤ -53 := by
  rw [order_num h read_75] at hlt
  injection hlt with hlt
  have h2 := cmp_lt hlt
  rcases (show -53 < e ∨ e ≤ -53 by omega) with h3 | h3
  · exfalso
    rw [show min e (-53) = -53 by omega] at h2
    simp only [signed, Bool.false_eq_true, if_false, Nat.shiftLeft_eq] at h2
    have h4 : m * 2 ^ 1 ≤ m * 2 ^ (e - -53).toNat := Nat.mul_le_mul_left _ (Nat.pow_le_pow_right (by omega) (by omega))
    rw [show (-53 - -53 : Int).toNat = 0 by omega] at h2
    omega
  · exact h3
/-- The doubling ends. -/
theorem ex_k : ∀ (n y : Nat), n ≤ 60 → Nd y (-(n : Int)) 1 → ∃ k, k ≤ n ∧ (∀ j, j < k → double.order (yI y j) 4604930618986332160 = some .lt ∧ floatBits .mul .f64 (yI y j) 4611686018427387904 = some (yI y (j + 1))) ∧ (double.order (yI y k) 4604930618986332160 == some .lt) = false ∧ double.order (yI y k) 4604930618986332160 ≠ none ∧ Nd (yI y k) (-60) 1 := by
  intro n
  induction n with
  | zero =>
    intro y hn hy
    obtain ⟨m, e, h, h1, h2, h3, h4⟩ := hy
    refine ⟨0, Nat.le_refl _, fun j hj => absurd hj (by omega), ?_, ?_, m, e, h, h1, h2, by omega, by omega⟩
    · cases ho : (double.order (yI y 0) 4604930618986332160 == some .lt) with
      | false => rfl
      | true => have := lt_75 h h1 (beq_iff_eq.1 ho); omega
    · rw [show yI y 0 = y from rfl, order_num h read_75]; simp
  | succ n ih =>
    intro y hn hy
    obtain ⟨m, e, h, h1, h2, h3, h4⟩ := hy
    cases ho : (double.order y 4604930618986332160 == some .lt) with
    | false => exact ⟨0, by omega, fun j hj => absurd hj (by omega), ho, by rw [show yI y 0 = y from rfl, order_num h read_75]; simp, m, e, h, h1, h2, by omega, by omega⟩
    | true =>
      have he := lt_75 h h1 (beq_iff_eq.1 ho)
      obtain ⟨q1, q2⟩ := mul_two h h1 h2 (by omega) (by omega)
      obtain ⟨k, hk, hj, hno, hnn, hnd⟩ := ih (dM y 4611686018427387904) (by omega) (q2.mono (by omega) (by omega))
      rw [yI_next] at hno hnn hnd
      refine ⟨k + 1, by omega, fun j hjk => ?_, hno, hnn, hnd⟩
      cases j with
      | zero => exact ⟨beq_iff_eq.1 ho, q1⟩
      | succ j =>
        have := hj j (by omega)
        rw [yI_next, yI_next] at this
        exact this
/-- The series. -/
def sL (y : Nat) : Nat := dQ (dS y 4607182418800017408) (dA y 4607182418800017408)
def uL (y : Nat) : Nat := dM (sL y) (sL y)
def qL (y : Nat) : Nat → Nat
  | 0 => 0
  | i + 1 => dA (kB i) (dM (uL y) (qL y i))
def rL (y k : Nat) : Nat := dA (dM 4611686018427387904 (dM (sL y) (qL y 13))) (dM (floatOfInt .f64 (-(k : Int))) 4604418534313441775)
theorem nd_fb {y : Nat} {a : Int} (h : Nd y a 1) : Fb double y 2 := by
  obtain ⟨m, e, h, h1, h2, h3, h4⟩ := h
  refine ⟨false, m, e, h, by omega, ?_⟩
  rw [Nat.one_mul]
  have h5 : 2 ^ 53 ≤ 2 ^ (2 - e).toNat := Nat.pow_le_pow_right (by omega) (by omega)
  omega
theorem add_one {y : Nat} (hy : Nd y (-60) 1) : floatBits .add .f64 y 4607182418800017408 = some (dA y 4607182418800017408) ∧ Nd (dA y 4607182418800017408) 0 3 := by
  obtain ⟨m, e, h, h1, h2, h3, h4⟩ := hy
  refine some_getD (p := fun r => Nd r 0 3) ?_
  show ∃ r, double.add y _ = some r ∧ _
  unfold Format.add
  rw [h, read_one]
  simp only [Datum.sum, Option.map_some]
  obtain ⟨b, hb⟩ : ∃ b, b = min e (-52) := ⟨_, rfl⟩
  rw [← hb]
  obtain ⟨u, hu⟩ : ∃ u, u = m <<< (e - b).toNat := ⟨_, rfl⟩
  obtain ⟨v, hv⟩ : ∃ v, v = 4503599627370496 <<< (-52 - b).toNat := ⟨_, rfl⟩
  have hsu : signed false m (e - b).toNat = (u : Int) := by rw [hu]; rfl
  have hsv : signed false 4503599627370496 (-52 - b).toNat = (v : Int) := by rw [hv]; rfl
  rw [hsu, hsv]
  have hv2 : v = 2 ^ (-b).toNat := by
    rw [hv, Nat.shiftLeft_eq, show (4503599627370496 : Nat) = 2 ^ 52 by decide, ← Nat.pow_add]
    congr 1
    omega
  have hu2 : u < 2 ^ ((-b).toNat + 2) := by
    rw [hu, Nat.shiftLeft_eq]
    have h5 : m * 2 ^ (e - b).toNat < 9007199254740992 * 2 ^ (e - b).toNat := Nat.mul_lt_mul_of_pos_right h2 (Nat.pow_pos (by omega))
    rw [show (9007199254740992 : Nat) = 2 ^ 53 by decide, ← Nat.pow_add] at h5
    exact Nat.lt_of_lt_of_le h5 (Nat.pow_le_pow_right (by omega) (by omega))
  have hp : 0 < 2 ^ (-b).toNat := Nat.pow_pos (by omega)
  have h6 : 2 ^ ((-b).toNat + 2) = 4 * 2 ^ (-b).toNat := by rw [Nat.pow_add, Nat.mul_comm]
  have h7 : 2 ^ ((-b).toNat + 3) = 8 * 2 ^ (-b).toNat := by rw [Nat.pow_add, Nat.mul_comm]
  have h0 : u + v ≠ 0 := by omega
  have l1 := (Nat.le_log2 h0 (k := (-b).toNat)).2 (by omega)
  have l2 := (Nat.log2_lt h0 (k := (-b).toNat + 3)).2 (by omega)
  have ht : (if (u : Int) + (v : Int) = 0 then (false && false) else decide ((u : Int) + (v : Int) < 0)) = false := by
    rw [if_neg (by omega)]
    exact decide_eq_false (by omega)
  rw [ht, show ((u : Int) + (v : Int)).natAbs = u + v by omega]
  refine ⟨_, rfl, ?_⟩
  exact (nearest_nd (p := b) h0 (by omega) (by omega)).mono (by omega) (by omega)
theorem log_steps {y : Nat} (hy : Nd y (-60) 1) :
    floatBits .sub .f64 y 4607182418800017408 = some (dS y 4607182418800017408) ∧ floatBits .add .f64 y 4607182418800017408 = some (dA y 4607182418800017408) ∧ floatBits .quo .f64 (dS y 4607182418800017408) (dA y 4607182418800017408) = some (sL y) ∧ floatBits .mul .f64 (sL y) (sL y) = some (uL y) ∧ Fb double (sL y) 3 ∧ Fb double (uL y) 6 := by
  have h1 : floatBits .sub .f64 y 4607182418800017408 = some (dS y 4607182418800017408) ∧ Fb double (dS y 4607182418800017408) 3 := some_getD (sub_fb2 (nd_fb hy) one64 (by decide) (by decide))
  obtain ⟨h2, h3⟩ := add_one hy
  obtain ⟨s, h4⟩ := h1.2
  obtain ⟨m, e, h5, h6, h7, h8, h9⟩ := h3
  have h10 : floatBits .quo .f64 (dS y 4607182418800017408) (dA y 4607182418800017408) = some (sL y) ∧ Fs double (sL y) (s ^^ false) 1 (3 - (e + 52)) :=
    some_getD (quo_fs2 (k := 1) (by decide) (by decide) h4 h5 (by omega) (by omega) (by rw [show (e + 52 - e).toNat = 52 by omega]; exact h6) (by rw [show (e + 52 - e).toNat = 52 by omega]; exact h7) (by omega) (by omega))
  have h11 : Fb double (sL y) 3 := ⟨_, h10.2.mono (by omega)⟩
  have h12 : floatBits .mul .f64 (sL y) (sL y) = some (uL y) ∧ Fb double (uL y) (3 + 3) := some_getD (mul_fb2 h11 h11 (by decide) (by decide))
  exact ⟨h1.1, h2, h10.1, h12.1, h11, h12.2⟩
theorem q_steps {y : Nat} (hy : Nd y (-60) 1) : ∀ i : Nat, i ≤ 13 → Fb double (qL y i) (7 * (i : Int)) ∧ (i < 13 → floatBits .mul .f64 (uL y) (qL y i) = some (dM (uL y) (qL y i)) ∧ floatBits .add .f64 (kB i) (dM (uL y) (qL y i)) = some (qL y (i + 1))) := by
  obtain ⟨_, _, _, _, hs, hu⟩ := log_steps hy
  have hm : ∀ i, i ≤ 13 → Fb double (qL y i) (7 * (i : Int)) → floatBits .mul .f64 (uL y) (qL y i) = some (dM (uL y) (qL y i)) ∧ Fb double (dM (uL y) (qL y i)) (6 + 7 * (i : Int)) := fun i hi h => some_getD (mul_fb2 hu h (by omega) (by omega))
  have ha : ∀ i, i < 13 → Fb double (qL y i) (7 * (i : Int)) → floatBits .add .f64 (kB i) (dM (uL y) (qL y i)) = some (qL y (i + 1)) ∧ Fb double (qL y (i + 1)) (7 * ((i + 1 : Nat) : Int)) := fun i hi h => by
    have h1 : floatBits .add .f64 (kB i) (dM (uL y) (qL y i)) = some (qL y (i + 1)) ∧ Fb double (qL y (i + 1)) (max 0 (6 + 7 * (i : Int)) + 1) := some_getD (add_fb2 (chk_fb (kB_ok ⟨i, hi⟩).2.1) (hm i (by omega) h).2 (by omega) (by omega))
    exact ⟨h1.1, h1.2.mono (by omega)⟩
  have key : ∀ i : Nat, i ≤ 13 → Fb double (qL y i) (7 * (i : Int)) := by
    intro i
    induction i with
    | zero => intro _; exact zero64
    | succ i ih => intro hi; exact (ha i (by omega) (ih (by omega))).2
  intro i hi
  exact ⟨key i hi, fun h => ⟨(hm i hi (key i hi)).1, (ha i h (key i hi)).1⟩⟩
theorem r_steps {y k : Nat} (hy : Nd y (-60) 1) (hk : k < 64) :
    floatBits .mul .f64 (sL y) (qL y 13) = some (dM (sL y) (qL y 13)) ∧ floatBits .mul .f64 4611686018427387904 (dM (sL y) (qL y 13)) = some (dM 4611686018427387904 (dM (sL y) (qL y 13))) ∧ floatBits .mul .f64 (floatOfInt .f64 (-(k : Int))) 4604418534313441775 = some (dM (floatOfInt .f64 (-(k : Int))) 4604418534313441775) ∧ floatBits .add .f64 (dM 4611686018427387904 (dM (sL y) (qL y 13))) (dM (floatOfInt .f64 (-(k : Int))) 4604418534313441775) = some (rL y k) ∧ Fb double (rL y k) 96 := by
  obtain ⟨_, _, _, _, hs, hu⟩ := log_steps hy
  have hq := (q_steps hy 13 (by omega)).1
  have h1 : floatBits .mul .f64 (sL y) (qL y 13) = some (dM (sL y) (qL y 13)) ∧ Fb double (dM (sL y) (qL y 13)) (3 + 91) := some_getD (mul_fb2 hs hq (by decide) (by decide))
  have h2 : floatBits .mul .f64 4611686018427387904 (dM (sL y) (qL y 13)) = some (dM 4611686018427387904 (dM (sL y) (qL y 13))) ∧ Fb double (dM 4611686018427387904 (dM (sL y) (qL y 13))) (1 + 94) := some_getD (mul_fb2 two64 h1.2 (by decide) (by decide))
  have h3 : floatBits .mul .f64 (floatOfInt .f64 (-(k : Int))) 4604418534313441775 = some (dM (floatOfInt .f64 (-(k : Int))) 4604418534313441775) ∧ Fb double (dM (floatOfInt .f64 (-(k : Int))) 4604418534313441775) (6 + 0) := some_getD (mul_fb2 (down hk).2 ln64 (by decide) (by decide))
  have h4 : floatBits .add .f64 (dM 4611686018427387904 (dM (sL y) (qL y 13))) (dM (floatOfInt .f64 (-(k : Int))) 4604418534313441775) = some (rL y k) ∧ Fb double (rL y k) (max (1 + 94) (6 + 0) + 1) := some_getD (add_fb2 h2.2 h3.2 (by decide) (by decide))
  exact ⟨h1.1, h2.1, h3.1, h4.1, h4.2⟩
/-- Narrowed. -/
theorem narrow {b : Nat} {L : Int} (h : Fb double b L) (h1 : -100 ≤ L) (h2 : L ≤ 120) : ∃ r, floatToFloatBits .f64 b .f32 = some r ∧ Fb single r L := by
  obtain ⟨s, m, e, h, h3, h4⟩ := h
  have hf := nearest_fs (s := s) (k := 1) (C := 1) (by decide) (by decide) h3 h4 h1 (by omega)
  obtain ⟨m', e', hr, _⟩ := id hf
  have hd : FloatKind.f64.decode b = .number s m e := h
  have hni : (FloatKind.f32.decode (FloatKind.f32.encode (.number s m e))).isInfinity = false := by
    show (single.read (single.nearest s m e)).isInfinity = false
    rw [hr]; rfl
  refine ⟨single.nearest s m e, ?_, s, hf⟩
  unfold floatToFloatBits
  rw [if_neg (by decide), hd]
  simp only [hni]
  rfl
end Go.Proofs.Ytbodfepfapjikaa
