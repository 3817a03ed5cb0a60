/-
  How many a sieve may hold, in floats: all steps are numbers, and both ways come to the same word. No program in sight.
-/
import Derived.Test.YtbodfepfapjikaaLogP
import Derived.Test.YtbodfepfapjikaaFloat2
namespace Go.Proofs.Ytbodfepfapjikaa
open Go.RowKit Ieee
set_option linter.unusedVariables false

/-- An integer that is not 0, as it is read. -/
theorem ofInt_read' {n : Nat} (h0 : n ≠ 0) (hn : n < 16777216) : single.read (floatOfInt .f32 (n : Int)) = .number false (n <<< (23 - n.log2)) ((n.log2 : Int) - 23) ∧ 8388608 ≤ n <<< (23 - n.log2) ∧ n <<< (23 - n.log2) < 16777216 ∧ n.log2 < 24 := by
  have hfo : floatOfInt .f32 (n : Int) = single.nearest false n 0 := by
    show single.nearest (decide ((n : Int) < 0)) (n : Int).natAbs 0 = _
    rw [show decide ((n : Int) < 0) = false by simp]
    rfl
  have hlog := log2_lt_of (k := 24) (m := n) (by omega) (by omega)
  obtain ⟨hK1, hK2⟩ := shl_log h0 hn
  obtain ⟨last, hla⟩ : ∃ last : Int, last = max (0 + (n.log2 : Int) - ((23 : Nat) : Int)) (-149) := ⟨_, rfl⟩
  have hl1 : last = (n.log2 : Int) - 23 := by omega
  obtain ⟨N, hN⟩ : ∃ N, N = (last - -149).toNat := ⟨_, rfl⟩
  have hN1 : N ≤ 250 ∧ (N : Int) = last + 149 := by omega
  obtain ⟨r1, r2, r3, r4, r5⟩ := rung_facts hN1.1 (Nat.le_of_lt hK2)
  have hw : single.nearest false n 0 = single.word false (N * 8388608 + n <<< (23 - n.log2)) := by
    refine nearest_word h0 hla hN ?_ r1
    rw [show (0 - last).toNat = 23 - n.log2 by omega, show (last - 0).toNat = 0 by omega, cut_even_zero']
  rw [hfo, hw, read_word false r2, if_neg (r3 hK1)]
  obtain ⟨e1, e2⟩ := r4 hK1 hK2
  rw [e1, e2]
  exact ⟨by congr 1; omega, hK1, hK2, hlog⟩
theorem share_word {c n : Nat} (h0 : 0 < c) (h1 : c ≤ n) (h2 : n ≤ 512) : ∃ m d : Nat, 8388608 ≤ m ∧ m < 16777216 ∧ 8388608 ≤ d ∧ d < 16777216 ∧ m * 2 ^ c.log2 = c * 8388608 ∧ d * 2 ^ n.log2 = n * 8388608 ∧ c.log2 ≤ n.log2 ∧ n.log2 ≤ 9 ∧
    shareB c n = single.nearest false (2 * (m <<< 25 / d) + (m <<< 25 % d != 0).toNat) ((c.log2 : Int) - (n.log2 : Int) - 26) := by
  obtain ⟨q1, q2, q3, q4⟩ := ofInt_read' (n := c) (by omega) (by omega)
  obtain ⟨p1, p2, p3, p4⟩ := ofInt_read' (n := n) (by omega) (by omega)
  have hp : ∀ z : Nat, z.log2 < 24 → z <<< (23 - z.log2) * 2 ^ z.log2 = z * 8388608 := fun z hz => by
    rw [Nat.shiftLeft_eq, Nat.mul_assoc, ← Nat.pow_add, show 23 - z.log2 + z.log2 = 23 by omega]
  have hlog : c.log2 ≤ n.log2 := by
    have k1 : c < 2 ^ (n.log2 + 1) := Nat.lt_of_le_of_lt h1 Nat.lt_log2_self
    have := (Nat.log2_lt (by omega)).2 k1
    omega
  have hl9 : n.log2 ≤ 9 := by
    have := (Nat.log2_lt (n := n) (by omega) (k := 10)).2 (by omega)
    omega
  refine ⟨_, _, q2, q3, p2, p3, hp c q4, hp n p4, hlog, hl9, ?_⟩
  generalize c <<< (23 - c.log2) = m at *
  generalize n <<< (23 - n.log2) = d at *
  have hlm : m.log2 = 23 := (pow_log (n := 23) q2 q3).2
  have hld : d.log2 = 23 := (pow_log (n := 23) p2 p3).2
  unfold shareB
  show (single.div _ _).getD 0 = _
  unfold Format.div
  rw [q1, p1]
  have hmore : single.fractionBits + 2 + d.log2 - m.log2 = 25 := by rw [hld, hlm]; rfl
  simp only [Datum.quotient, if_neg (show d ≠ 0 by omega), Option.map_some, Bool.xor_self, hmore, Option.getD_some]
  show single.nearest false _ _ = _
  congr 1
  omega
theorem share_nm {c n : Nat} (h0 : 0 < c) (h1 : c ≤ n) (h2 : n ≤ 512) : Nm (shareB c n) (-12) 2 := by
  obtain ⟨m, d, m1, m2, d1, d2, _, _, hl, hl9, he⟩ := share_word h0 h1 h2
  rw [he]
  have hd1 : m <<< 25 / d < 67108864 := by
    rw [Nat.shiftLeft_eq, Nat.div_lt_iff_lt_mul (by omega)]
    have : 67108864 * 8388608 ≤ 67108864 * d := Nat.mul_le_mul_left _ d1
    omega
  have hd2 : 16777216 ≤ m <<< 25 / d := by
    rw [Nat.shiftLeft_eq, Nat.le_div_iff_mul_le (by omega)]
    exact Nat.le_trans (Nat.mul_le_mul_left 16777216 (show d ≤ 16777216 by omega)) (Nat.le_trans (by decide) (Nat.mul_le_mul_right (2 ^ 25) m1))
  have hbt : ∀ b : Bool, b.toNat ≤ 1 := Bool.toNat_le
  have hb1 := hbt (m <<< 25 % d != 0)
  have hM1 : 2 * (m <<< 25 / d) + (m <<< 25 % d != 0).toNat < 2 ^ 27 := by omega
  have hM2 : 2 ^ 25 ≤ 2 * (m <<< 25 / d) + (m <<< 25 % d != 0).toNat := by omega
  generalize 2 * (m <<< 25 / d) + (m <<< 25 % d != 0).toNat = M at *
  have hM0 : M ≠ 0 := by omega
  have k1 := (Nat.le_log2 hM0 (k := 25)).2 hM2
  have k2 := (Nat.log2_lt hM0 (k := 27)).2 hM1
  exact (nearest_nm hM0 (by omega) (by omega)).mono (by omega) (by omega)
/-- A share that is not whole is not above 511 / 512. -/
theorem share_fs {c n : Nat} (h0 : 0 < c) (h1 : c < n) (h2 : n ≤ 512) : Fs single (shareB c n) false 511 (-9) := by
  obtain ⟨m, d, m1, m2, d1, d2, hm, hd, hl, hl9, he⟩ := share_word h0 (Nat.le_of_lt h1) h2
  rw [he]
  refine nearest_fs (k := 9) (by decide) (by decide) (by omega) ?_ (by decide) (by decide)
  rw [show (-9 - ((c.log2 : Int) - (n.log2 : Int) - 26)).toNat = (16 + (n.log2 - c.log2)) + 1 by omega, Nat.pow_succ, ← Nat.mul_assoc, Nat.mul_comm _ 2]
  refine quo_digits (d := 0) (by omega) ?_
  have hp : 0 < 2 ^ c.log2 := Nat.pow_pos (by omega)
  refine Nat.le_of_mul_le_mul_right (c := 2 ^ c.log2) ?_ hp
  have e1 : m * 2 ^ 25 * 2 ^ c.log2 = c * 8388608 * 2 ^ 25 := by rw [Nat.mul_right_comm, hm]
  have e2 : 511 * 2 ^ (16 + (n.log2 - c.log2)) * d * 2 ^ c.log2 = 511 * 65536 * (n * 8388608) := by
    have e3 : 2 ^ (16 + (n.log2 - c.log2)) * 2 ^ c.log2 = 65536 * 2 ^ n.log2 := by
      rw [← Nat.pow_add, show 16 + (n.log2 - c.log2) + c.log2 = 16 + n.log2 by omega, Nat.pow_add]
    rw [Nat.mul_right_comm (511 * _) d, Nat.mul_assoc 511, e3, Nat.mul_assoc, Nat.mul_assoc, Nat.mul_comm (2 ^ n.log2) d, hd, Nat.mul_assoc]
  rw [e1, e2]
  omega
theorem read_one32 : single.read 1065353216 = .number false 8388608 (-23) := by decide +kernel
/-- What is left of 1. -/
theorem rest_of {q : Nat} (h : Nm q (-12) 2) (h' : Fs single q false 511 (-9)) : floatBits .sub .f32 1065353216 q = some (sS 1065353216 q) ∧ Nm (sS 1065353216 q) (-9) 0 ∧ Fs single (sS 1065353216 q) false 1 0 := by
  refine some_getD (p := fun r => Nm r (-9) 0 ∧ Fs single r false 1 0) ?_
  obtain ⟨m, e, hr, m1, m2, e1, e2⟩ := h
  obtain ⟨m', e', hr', h3, h4⟩ := h'
  rw [hr] at hr'
  injection hr' with _ x1 x2
  subst x1 x2
  show ∃ r, single.sub _ q = some r ∧ _
  unfold Format.sub
  rw [read_one32, hr]
  simp only [Datum.opposite, Datum.sum, Option.map_some]
  have he : e ≤ -24 := by
    rcases (show e ≤ -24 ∨ -23 ≤ e by omega) with h5 | h5
    · exact h5
    · exfalso
      have h6 : 511 * 2 ^ (-9 - e).toNat ≤ 511 * 2 ^ 14 := Nat.mul_le_mul_left _ (Nat.pow_le_pow_right (by omega) (by omega))
      omega
  rw [show min (-23) e = e by omega, show (e - e).toNat = 0 by omega]
  obtain ⟨g, hg⟩ : ∃ g, g = 2 ^ (-9 - e).toNat := ⟨_, rfl⟩
  have hu : 8388608 <<< (-23 - e).toNat = 512 * g := by
    rw [hg, Nat.shiftLeft_eq, show (8388608 : Nat) = 2 ^ 23 by decide, show (512 : Nat) = 2 ^ 9 by decide, ← Nat.pow_add, ← Nat.pow_add]
    congr 1
    omega
  rw [← hg] at h4
  have s1 : signed false 8388608 (-23 - e).toNat = ((512 * g : Nat) : Int) := by rw [← hu]; rfl
  have s2 : signed (!false) m 0 = -(m : Int) := by simp [signed]
  rw [s1, s2]
  have ht : (if ((512 * g : Nat) : Int) + -(m : Int) = 0 then (false && !false) else decide (((512 * g : Nat) : Int) + -(m : Int) < 0)) = false := by
    have hg0 : 0 < g := by rw [hg]; exact Nat.pow_pos (by omega)
    rw [if_neg (by omega)]
    exact decide_eq_false (by omega)
  rw [ht]
  obtain ⟨S, hS⟩ : ∃ S, S = 512 * g - m := ⟨_, rfl⟩
  have hg0 : 0 < g := by rw [hg]; exact Nat.pow_pos (by omega)
  rw [show (((512 * g : Nat) : Int) + -(m : Int)).natAbs = S by omega]
  have hS0 : S ≠ 0 := by omega
  have l1 := (Nat.le_log2 hS0 (k := (-9 - e).toNat)).2 (by rw [← hg]; omega)
  have l2 := (Nat.log2_lt hS0 (k := (-9 - e).toNat + 9)).2 (by rw [Nat.pow_add, ← hg]; omega)
  refine ⟨_, rfl, (nearest_nm (p := e) hS0 (by omega) (by omega)).mono (by omega) (by omega), ?_⟩
  refine nearest_fs (k := 1) (by decide) (by decide) (by omega) ?_ (by decide) (by decide)
  rw [show (0 - e).toNat = (-9 - e).toNat + 9 by omega, Nat.pow_add, ← hg]
  omega
def wd (b : Nat) : Nat := (floatToFloatBits .f32 b .f64).getD 0
def nw (b : Nat) : Nat := (floatToFloatBits .f64 b .f32).getD 0
theorem wide_of {x : Nat} (h : Nm x (-9) 0) (h' : Fs single x false 1 0) : floatToFloatBits .f32 x .f64 = some (wd x) ∧ Nd (wd x) (-9) 1 ∧ Fs double (wd x) false 1 0 := by
  refine some_getD (p := fun r => Nd r (-9) 1 ∧ Fs double r false 1 0) ?_
  obtain ⟨m, e, hr, m1, m2, e1, e2⟩ := h
  obtain ⟨m', e', hr', h3, h4⟩ := h'
  rw [hr] at hr'
  injection hr' with _ x1 x2
  subst x1 x2
  obtain ⟨p0, p1⟩ := pow_log (n := 23) m1 m2
  have hn := nearest_nd (p := e) p0 (by omega) (by omega)
  obtain ⟨m', e', hrd, _⟩ := id hn
  have hd : FloatKind.f32.decode x = .number false m e := hr
  have hni : (FloatKind.f64.decode (FloatKind.f64.encode (.number false m e))).isInfinity = false := by
    show (double.read (double.nearest false m e)).isInfinity = false
    rw [hrd]; rfl
  refine ⟨double.nearest false m e, ?_, hn.mono (by omega) (by omega), nearest_fs2 (k := 1) (by decide) (by decide) h3 h4 (by decide) (by decide)⟩
  unfold floatToFloatBits
  rw [if_neg (by decide), hd]
  simp only [hni]
  rfl
theorem cmp_lt' {a b : Int} (h : a < b) : compare a b = .lt := Int.compare_eq_lt.2 h
theorem cmp_gt' {a b : Int} (h : b < a) : compare a b = .gt := Int.compare_eq_gt.2 h
theorem read_z64 : double.read 0 = .number false 0 (-1074) := by decide +kernel
theorem read_max : double.read 9218868437227405311 = .number false 9007199254740991 971 := by decide +kernel
/-- How it stands to what the code asks. -/
theorem asks {y : Nat} (h : Nd y (-9) 1) (h' : Fs double y false 1 0) : double.order y y = some .eq ∧ double.order y 0 = some .gt ∧ double.order y 4609434218613702656 = some .lt ∧ double.order y 9218868437227405311 = some .lt := by
  obtain ⟨m, e, hr, m1, m2, e1, e2⟩ := h
  obtain ⟨m', e', hr', h3, h4⟩ := h'
  rw [hr] at hr'
  injection hr' with _ x1 x2
  subst x1 x2
  refine ⟨order_self ⟨false, .inl ⟨m, e, hr⟩⟩, ?_, ?_, ?_⟩
  · rw [order_num hr read_z64]
    congr 1
    refine cmp_gt' ?_
    simp only [signed, Bool.false_eq_true, if_false, Nat.shiftLeft_eq, Nat.zero_mul]
    have := Nat.mul_pos (show 0 < m by omega) (Nat.pow_pos (n := (e - min e (-1074)).toNat) (show 0 < 2 by omega))
    omega
  · rw [order_num hr read_150]
    congr 1
    refine cmp_lt' ?_
    simp only [signed, Bool.false_eq_true, if_false, Nat.shiftLeft_eq]
    obtain ⟨b, hb⟩ : ∃ b, b = min e (-52) := ⟨_, rfl⟩
    rw [← hb]
    rw [Nat.one_mul] at h4
    have k1 : m * 2 ^ (e - b).toNat ≤ 2 ^ (0 - e).toNat * 2 ^ (e - b).toNat := Nat.mul_le_mul_right _ h4
    rw [← Nat.pow_add, show (0 - e).toNat + (e - b).toNat = 52 + (-52 - b).toNat by omega, Nat.pow_add] at k1
    have k2 : 2 ^ 52 * 2 ^ (-52 - b).toNat < 6755399441055744 * 2 ^ (-52 - b).toNat := Nat.mul_lt_mul_of_pos_right (by decide) (Nat.pow_pos (by omega))
    omega
  · rw [order_num hr read_max]
    congr 1
    refine cmp_lt' ?_
    simp only [signed, Bool.false_eq_true, if_false, Nat.shiftLeft_eq]
    rw [show min e 971 = e by omega, show (e - e).toNat = 0 by omega]
    have k2 : 9007199254740991 * 1 ≤ 9007199254740991 * 2 ^ (971 - e).toNat := Nat.mul_le_mul_left _ (Nat.pow_pos (by omega))
    have k3 : 9007199254740991 * 2 ^ 1 ≤ 9007199254740991 * 2 ^ (971 - e).toNat := Nat.mul_le_mul_left _ (Nat.pow_le_pow_right (by omega) (by omega))
    omega
theorem order_num32 {x y : Nat} {s t : Bool} {m n : Nat} {e j : Int} (hx : single.read x = .number s m e) (hy : single.read y = .number t n j) : single.order x y = some (compare (signed s m (e - min e j).toNat) (signed t n (j - min e j).toNat)) := by
  unfold Format.order
  rw [hx, hy]
  rfl
theorem read_z32 : single.read 0 = .number false 0 (-149) := by decide +kernel
theorem asks32 {x : Nat} {a b : Int} (h : Nm x a b) : single.order x x = some .eq ∧ single.order x 0 = some .gt := by
  obtain ⟨m, e, hr, m1, m2, e1, e2⟩ := h
  refine ⟨?_, ?_⟩
  · rw [order_num32 hr hr]
    simp
  · rw [order_num32 hr read_z32]
    congr 1
    refine cmp_gt' ?_
    simp only [signed, Bool.false_eq_true, if_false, Nat.shiftLeft_eq, Nat.zero_mul]
    have := Nat.mul_pos (show 0 < m by omega) (Nat.pow_pos (n := (e - min e (-149)).toNat) (show 0 < 2 by omega))
    omega
/-- A number less itself is 0. -/
theorem less_self {b : Nat} {L : Int} (h : Fb single b L) : floatBits .sub .f32 b b = some 0 := by
  obtain ⟨s, m, e, h, _⟩ := h
  show single.sub b b = some 0
  unfold Format.sub
  rw [h]
  simp only [Datum.opposite, Datum.sum, Option.map_some]
  have h1 : signed s m (e - min e e).toNat + signed (!s) m (e - min e e).toNat = 0 := by cases s <;> simp [signed] <;> omega
  rw [h1, if_pos rfl]
  have h2 : (s && !s) = false := by cases s <;> rfl
  rw [h2]
  show some (single.nearest false 0 _) = some 0
  unfold Format.nearest
  rw [if_pos rfl, word_false]
theorem z32 : single.order 0 0 = some .eq := by decide +kernel
/-- What a word y must be for the series to go: how often it is doubled is k. -/
structure Goes (y k : Nat) : Prop where
  le : k ≤ 60
  nn : double.order y y = some .eq
  pos : double.order y 0 = some .gt
  low : double.order y 4609434218613702656 = some .lt
  fin : double.order y 9218868437227405311 = some .lt
  lt : ∀ j, j < k → double.order (yI y j) 4604930618986332160 = some .lt
  next : ∀ j, j < k → floatBits .mul .f64 (yI y j) 4611686018427387904 = some (yI y (j + 1))
  no : (double.order (yI y k) 4604930618986332160 == some .lt) = false
  ord : double.order (yI y k) 4604930618986332160 ≠ none
  nd : Nd (yI y k) (-60) 1
/-- How often a word is doubled. -/
def firstK (y : Nat) : Nat → Nat
  | 0 => 0
  | n + 1 => if (double.order y 4604930618986332160 == some .lt) = true then firstK (dM y 4611686018427387904) n + 1 else 0
def kOf (y : Nat) : Nat := firstK y 60
theorem firstK_eq : ∀ (k y n : Nat), k ≤ n → (∀ j, j < k → double.order (yI y j) 4604930618986332160 = some .lt) → (double.order (yI y k) 4604930618986332160 == some .lt) = false → firstK y n = k := by
  intro k
  induction k with
  | zero =>
    intro y n hn _ hno
    cases n with
    | zero => rfl
    | succ n => rw [firstK, if_neg (by rw [show yI y 0 = y from rfl] at hno; rw [hno]; decide)]
  | succ k ih =>
    intro y n hn hl hno
    obtain ⟨n, rfl⟩ : ∃ q, n = q + 1 := ⟨n - 1, by omega⟩
    rw [firstK, if_pos (beq_iff_eq.2 (show double.order y 4604930618986332160 = some .lt from hl 0 (by omega)))]
    congr 1
    refine ih _ n (by omega) (fun j hj => ?_) ?_
    · rw [yI_next]; exact hl (j + 1) (by omega)
    · rw [yI_next]; exact hno
/-- The logarithm of what is left. -/
def lgB (x : Nat) : Nat := nw (rL (yI (wd x) (kOf (wd x))) (kOf (wd x)))
theorem log_pkg {x : Nat} (h : Nm x (-9) 0) (h' : Fs single x false 1 0) : floatToFloatBits .f32 x .f64 = some (wd x) ∧ Goes (wd x) (kOf (wd x)) ∧ floatToFloatBits .f64 (rL (yI (wd x) (kOf (wd x))) (kOf (wd x))) .f32 = some (lgB x) ∧ Fb single (lgB x) 96 := by
  obtain ⟨w1, w2, w3⟩ := wide_of h h'
  obtain ⟨q1, q2, q3, q4⟩ := asks w2 w3
  obtain ⟨k, hk, hj, hno, hnn, hnd⟩ := ex_k 60 (wd x) (Nat.le_refl _) (w2.mono (by decide) (by decide))
  have he : kOf (wd x) = k := firstK_eq k (wd x) 60 hk (fun j hjk => (hj j hjk).1) hno
  have hg : Goes (wd x) (kOf (wd x)) := by
    rw [he]
    exact ⟨hk, q1, q2, q3, q4, fun j hjk => (hj j hjk).1, fun j hjk => (hj j hjk).2, hno, hnn, hnd⟩
  have hr := r_steps (k := kOf (wd x)) hg.nd (by have := hg.le; omega)
  have hn := some_getD (p := fun r => Fb single r 96) (narrow hr.2.2.2.2 (by decide) (by decide))
  exact ⟨w1, hg, hn.1, hn.2⟩
/-- The sign bit. -/
theorem xor_top {r : Nat} (h : r < 2147483648) : r ^^^ 2147483648 = 2147483648 + r := by
  apply Nat.eq_of_testBit_eq
  intro i
  rw [Nat.testBit_xor, show (2147483648 : Nat) = 2 ^ 31 by decide]
  rcases Nat.lt_trichotomy i 31 with h1 | rfl | h1
  · rw [Nat.testBit_two_pow_add_gt h1, Nat.testBit_two_pow, decide_eq_false (by omega), Bool.xor_false]
  · rw [Nat.testBit_two_pow_add_eq, Nat.testBit_two_pow]
    simp
  · rw [Nat.testBit_two_pow, Nat.testBit_lt_two_pow (Nat.lt_of_lt_of_le (show r < 2 ^ 31 by omega) (Nat.pow_le_pow_right (by omega) (by omega))), Nat.testBit_lt_two_pow (Nat.lt_of_lt_of_le (show 2 ^ 31 + r < 2 ^ 32 by omega) (Nat.pow_le_pow_right (by omega) (by omega)))]
    simp; omega
theorem neg_word {s : Bool} {r : Nat} (h : r < 2147483648) : Op.negFloat .f32 (single.word s r) = single.word (!s) r := by
  show single.word s r ^^^ 2147483648 = _
  have hw : ∀ q, single.word true q = 2147483648 + q := fun q => rfl
  cases s with
  | false => rw [word_false, xor_top h]; exact (hw r).symm
  | true => rw [hw, ← xor_top h, Nat.xor_assoc, Nat.xor_self, Nat.xor_zero]; exact (word_false single r).symm
/-- The opposite of a number that is written. -/
theorem neg_near {s : Bool} {M : Nat} {p L : Int} (h : Fb single (single.nearest s M p) L) : Op.negFloat .f32 (single.nearest s M p) = single.nearest (!s) M p ∧ ∃ m e, single.read (single.nearest s M p) = .number s m e ∧ single.read (single.nearest (!s) M p) = .number (!s) m e := by
  obtain ⟨r, hr, he, _⟩ := nearest_form single false M p
  rw [word_false] at he
  have hall : ∀ t, single.nearest t M p = single.word t r := fun t => by rw [nearest_sign, he]
  have hi : single.infRung = 2139095040 := by decide
  have hlt : r < single.infRung := by
    rcases Nat.lt_or_ge r single.infRung with h1 | h1
    · exact h1
    · exfalso
      obtain rfl : r = single.infRung := by omega
      obtain ⟨t, m, e, h2, _⟩ := h
      rw [hall, read_word_inf _ _ single_bi] at h2
      cases h2
  rw [hall, hall]
  refine ⟨neg_word (by omega), ?_⟩
  have hrd : ∀ t, single.read (single.word t r) = _ := fun t => read_word t (hi ▸ hlt)
  rw [hrd, hrd]
  by_cases h1 : r < 8388608
  · rw [if_pos h1, if_pos h1]; exact ⟨_, _, rfl, rfl⟩
  · rw [if_neg h1, if_neg h1]; exact ⟨_, _, rfl, rfl⟩
theorem len_near (n : Nat) : floatOfInt .f32 (n : Int) = single.nearest false n 0 := by
  show single.nearest (decide ((n : Int) < 0)) (n : Int).natAbs 0 = _
  rw [show decide ((n : Int) < 0) = false by simp]
  rfl
theorem prod_pkg {n l : Nat} (hn : n ≤ 512) (hl : Fb single l 96) : floatBits .mul .f32 (floatOfInt .f32 (n : Int)) l = some (sM (floatOfInt .f32 (n : Int)) l) ∧ floatBits .mul .f32 (Op.negFloat .f32 (floatOfInt .f32 (n : Int))) l = some (Op.negFloat .f32 (sM (floatOfInt .f32 (n : Int)) l)) ∧ Fb single (Op.negFloat .f32 (sM (floatOfInt .f32 (n : Int)) l)) 105 := by
  have h1 : Fs single (single.nearest false n 0) false 1 9 := nearest_fs (k := 1) (by decide) (by decide) (by decide) (by rw [Nat.one_mul]; exact hn) (by decide) (by decide)
  obtain ⟨g1, m, e, g2, g3⟩ := neg_near h1.fb
  obtain ⟨t, m', e', hl1, hl2, hl3⟩ := hl
  have hP : floatBits .mul .f32 (single.nearest false n 0) l = some (single.nearest (false ^^ t) (m * m') (e + e')) := by
    show single.mul _ _ = _
    unfold Format.mul
    rw [g2, hl1]
    rfl
  have hN : floatBits .mul .f32 (single.nearest (!false) n 0) l = some (single.nearest (true ^^ t) (m * m') (e + e')) := by
    show single.mul _ _ = _
    unfold Format.mul
    rw [g3, hl1]
    rfl
  obtain ⟨r, hb1, hb2⟩ := mul_fs h1 ⟨m', e', hl1, hl2, hl3⟩ (by decide) (by decide)
  rw [hP] at hb1
  injection hb1 with hb1
  rw [← hb1] at hb2
  obtain ⟨g4, m2, e2, g5, g6⟩ := neg_near hb2.fb
  have hS : sM (floatOfInt .f32 (n : Int)) l = single.nearest (false ^^ t) (m * m') (e + e') := by
    unfold sM
    rw [len_near, hP]; rfl
  rw [hS, len_near]
  have hflip : (!(false ^^ t)) = (true ^^ t) := by cases t <;> rfl
  refine ⟨hP, ?_, ?_⟩
  · rw [g1, hN, g4, hflip]
  · rw [g4]
    obtain ⟨m3, e3, g7, g8, g9⟩ := hb2
    rw [g5] at g7
    injection g7 with _ x1 x2
    subst x1 x2
    exact ⟨_, _, _, g6, g8, g9⟩
theorem quo_pkg {b R : Nat} (hb : Fb single b 105) (h1 : 1 ≤ R) (h2 : R ≤ 8) : floatBits .quo .f32 b (floatOfInt .f32 (R : Int)) = some (sQ b (floatOfInt .f32 (R : Int))) ∧ Fb single (sQ b (floatOfInt .f32 (R : Int))) 105 := by
  refine some_getD (p := fun r => Fb single r 105) ?_
  obtain ⟨q1, q2, q3, q4⟩ := ofInt_read' (n := R) (by omega) (by omega)
  obtain ⟨s, hb⟩ := hb
  obtain ⟨r, h3, h4⟩ := quo_fs (k := 1) (c := (R.log2 : Int)) (by decide) (by decide) hb q1 (by omega) (by omega) (by rw [show ((R.log2 : Int) - ((R.log2 : Int) - 23)).toNat = 23 by omega]; exact q2) (by rw [show ((R.log2 : Int) - ((R.log2 : Int) - 23)).toNat = 23 by omega]; exact q3) (by omega) (by omega)
  exact ⟨r, h3, _, h4.mono (by omega)⟩
/-- What CountOfSieve returns. -/
def cntB (c n R : Nat) : Nat := sQ (Op.negFloat .f32 (sM (floatOfInt .f32 (n : Int)) (lgB (sS 1065353216 (shareB c n))))) (floatOfInt .f32 (R : Int))
def pCountOfSieve (r s : Int) (x : List Bool) : Nat × Bool :=
  if vSieve r s x.length = true then (if countT x = x.length then (0, false) else if countT x = 0 then (0, true) else (cntB (countT x) x.length r.toNat, true)) else (0, false)
/-- All that the code runs through. -/
structure CountPkg (c n R : Nat) : Prop where
  rest : floatBits .sub .f32 1065353216 (shareB c n) = some (sS 1065353216 (shareB c n))
  nm : Nm (sS 1065353216 (shareB c n)) (-9) 0
  fs : Fs single (sS 1065353216 (shareB c n)) false 1 0
  gt0 : single.order (shareB c n) 0 = some .gt
  lt1 : single.order (shareB c n) 1065353216 = some .lt
  mul : floatBits .mul .f32 (floatOfInt .f32 (n : Int)) (lgB (sS 1065353216 (shareB c n))) = some (sM (floatOfInt .f32 (n : Int)) (lgB (sS 1065353216 (shareB c n))))
  mul' : floatBits .mul .f32 (Op.negFloat .f32 (floatOfInt .f32 (n : Int))) (lgB (sS 1065353216 (shareB c n))) = some (Op.negFloat .f32 (sM (floatOfInt .f32 (n : Int)) (lgB (sS 1065353216 (shareB c n)))))
  quo : floatBits .quo .f32 (Op.negFloat .f32 (sM (floatOfInt .f32 (n : Int)) (lgB (sS 1065353216 (shareB c n))))) (floatOfInt .f32 (R : Int)) = some (cntB c n R)
  fin : Fb single (cntB c n R) 105
theorem count_pkg {c n R : Nat} (h0 : 0 < c) (h1 : c < n) (h2 : n ≤ 512) (h3 : 1 ≤ R) (h4 : R ≤ 8) : CountPkg c n R := by
  have hnm := share_nm h0 (Nat.le_of_lt h1) h2
  have hfs := share_fs h0 h1 h2
  obtain ⟨r1, r2, r3⟩ := rest_of hnm hfs
  obtain ⟨l1, l2, l3, l4⟩ := log_pkg r2 r3
  obtain ⟨p1, p2, p3⟩ := prod_pkg h2 l4
  obtain ⟨q1, q2⟩ := quo_pkg p3 h3 h4
  refine ⟨r1, r2, r3, (asks32 hnm).2, ?_, p1, p2, q1, q2⟩
  obtain ⟨m, e, hr, m1, m2, e1, e2⟩ := hnm
  obtain ⟨m', e', hr', h5, h6⟩ := hfs
  rw [hr] at hr'
  injection hr' with _ x1 x2
  subst x1 x2
  have he : e ≤ -24 := by
    rcases (show e ≤ -24 ∨ -23 ≤ e by omega) with h7 | h7
    · exact h7
    · exfalso
      have h8 : 511 * 2 ^ (-9 - e).toNat ≤ 511 * 2 ^ 14 := Nat.mul_le_mul_left _ (Nat.pow_le_pow_right (by omega) (by omega))
      omega
  rw [order_num32 hr read_one32]
  congr 1
  refine cmp_lt' ?_
  rw [show min e (-23) = e by omega, show (e - e).toNat = 0 by omega]
  obtain ⟨g, hg⟩ : ∃ g, g = 2 ^ (-9 - e).toNat := ⟨_, rfl⟩
  have hu : 8388608 <<< (-23 - e).toNat = 512 * g := by
    rw [hg, Nat.shiftLeft_eq, show (8388608 : Nat) = 2 ^ 23 by decide, show (512 : Nat) = 2 ^ 9 by decide, ← Nat.pow_add, ← Nat.pow_add]
    congr 1
    omega
  have hg0 : 0 < g := by rw [hg]; exact Nat.pow_pos (by omega)
  rw [← hg] at h6
  simp only [signed, Bool.false_eq_true, if_false, hu, Nat.shiftLeft_zero]
  omega
/-- None. -/
theorem share_zero {n : Nat} (h0 : 0 < n) (hn : n < 16777216) : shareB 0 n = 0 := by
  obtain ⟨m, e, hx, _, hx0⟩ := ofInt_read (n := 0) (by omega)
  obtain ⟨d, j, hy, hy1, _⟩ := ofInt_read hn
  obtain ⟨hd0, hd2, hd1, hj⟩ := hy1 h0
  have hm := hx0 rfl
  subst hm
  unfold shareB
  show (single.div _ _).getD 0 = 0
  unfold Format.div
  rw [hx, hy]
  simp only [Datum.quotient, if_neg hd0, Option.map_some, Bool.xor_self, Nat.zero_shiftLeft, Nat.zero_div, Nat.zero_mod, Option.getD_some]
  show single.nearest false _ _ = 0
  unfold Format.nearest
  rw [if_pos (by simp), word_false]
/-- All. -/
theorem share_one {n : Nat} (h0 : 0 < n) (hn : n ≤ 512) : shareB n n = 1065353216 := by
  obtain ⟨m, d, m1, m2, d1, d2, hm, hd, _, _, he⟩ := share_word h0 (Nat.le_refl _) hn
  have hmd : m = d := Nat.eq_of_mul_eq_mul_right (Nat.pow_pos (n := n.log2) (show 0 < 2 by omega)) (hm.trans hd.symm)
  subst hmd
  rw [he, Nat.shiftLeft_eq, Nat.mul_div_cancel_left _ (by omega), Nat.mul_mod_right, show ((n.log2 : Int) - (n.log2 : Int) - 26) = -26 by omega]
  decide +kernel
theorem one_one : single.order 1065353216 1065353216 = some .eq ∧ single.order 1065353216 0 = some .gt := by decide +kernel
theorem fb_nn {b : Nat} {L : Int} (h : Fb single b L) : NN single b := by
  obtain ⟨s, m, e, h, _⟩ := h
  exact ⟨s, .inl ⟨m, e, h⟩⟩
theorem nn_CountOfSieve (r s : Int) (x : List Bool) : NN single (pCountOfSieve r s x).1 := by
  unfold pCountOfSieve
  split
  · rename_i h
    obtain ⟨h1, h2, h3, h4⟩ := vSieve_len h
    split
    · exact nn_zero
    · split
      · exact nn_zero
      · have := countT_le x
        exact fb_nn (count_pkg (c := countT x) (n := x.length) (R := r.toNat) (by omega) (by omega) h2 (by omega) (by omega)).fin
  · exact nn_zero
end Go.Proofs.Ytbodfepfapjikaa
