/-
  Words joined by blanks are told apart; zeros on both sides: plain. No program in sight.
-/
import Derived.Test.YtbodfepfapjikaaDoorTextP
import Derived.Test.YtbodfepfapjikaaDoorZeroCount
import Derived.Lib.TrailingZeros
namespace Go.Proofs.YtbodfepfapjikaaDoor

theorem pcs_clean (t r : List UInt8) (h : ∀ c ∈ t, c ≠ 32) : pcs (t ++ 32 :: r) = t :: pcs r := by
  have := pcs_cut t.length (t ++ 32 :: r) (fun j c hj hc => by
    rw [List.getElem?_append_left hj] at hc
    exact h c (List.mem_of_getElem? hc)) (by simp)
  rw [this]
  simp
theorem keysT_joined (t : List UInt8) (h : ∀ c ∈ t, c ≠ 32) : keysT ([32, 32] ++ t ++ [32, 120, 32] ++ t ++ [32]) = if t.isEmpty then [(keyT [120] : Int)] else [(keyT t : Int), (keyT [120] : Int), (keyT t : Int)] := by
  have e : [32, 32] ++ t ++ [32, 120, 32] ++ t ++ [32] = 32 :: 32 :: (t ++ 32 :: ([120] ++ 32 :: (t ++ 32 :: []))) := by simp
  unfold keysT
  rw [e, pcs_blank, pcs_blank, pcs_clean t _ h, pcs_clean [120] _ (by intro c hc; simp at hc; subst hc; decide), pcs_clean t _ h]
  rw [keysW_cons_no rfl, keysW_cons_no rfl]
  cases ht : t.isEmpty with
  | true =>
    rw [keysW_cons_no ht, keysW_cons (p := [120]) rfl, keysW_cons_no ht, show pcs [] = [[]] from rfl, keysW_none]
    rfl
  | false =>
    rw [keysW_cons ht, keysW_cons (p := [120]) rfl, keysW_cons ht, show pcs [] = [[]] from rfl, keysW_none]
    rfl
theorem mul_back (a : Nat) (hA : a < 4294967296) : a * 16777619 % 4294967296 * 899433627 % 4294967296 = a := by
  have e : a * (16777619 * 899433627) = a + 4294967296 * (a * 3513497) := by
    rw [show 16777619 * 899433627 = 1 + 4294967296 * 3513497 from rfl, Nat.mul_add, Nat.mul_one, Nat.mul_left_comm]
  rw [Nat.mul_mod, Nat.mod_mod, ← Nat.mul_mod, Nat.mul_assoc, e, Nat.add_mul_mod_self_left, Nat.mod_eq_of_lt hA]
theorem keyT_apart (l : List UInt8) : keyT (l ++ [97]) ≠ keyT (l ++ [98]) := by
  rw [keyT_snoc, keyT_snoc]
  obtain ⟨z, hz⟩ : ∃ z, z = keyT l := ⟨_, rfl⟩
  have hlt := keyT_lt l
  rw [← hz] at hlt ⊢
  have e1 : (97 : UInt8).toNat = 97 := rfl
  have e2 : (98 : UInt8).toNat = 98 := rfl
  rw [e1, e2]
  intro h
  have ha : z ^^^ 97 < 2 ^ 32 := Nat.xor_lt_two_pow (by omega) (by omega)
  have hb : z ^^^ 98 < 2 ^ 32 := Nat.xor_lt_two_pow (by omega) (by omega)
  have inv := mul_back
  have h1 := inv _ (by omega : z ^^^ 97 < 4294967296)
  rw [h, inv _ (by omega : z ^^^ 98 < 4294967296)] at h1
  have h2 : z ^^^ (z ^^^ 98) = z ^^^ (z ^^^ 97) := by rw [h1]
  rw [← Nat.xor_assoc, ← Nat.xor_assoc, Nat.xor_self, Nat.zero_xor, Nat.zero_xor] at h2
  omega
theorem lzN_pow : ∀ k, k < 32 → lzN (2 ^ k) = 31 - k := by decide +kernel
theorem ctz_pow : ∀ k, k < 32 → Lib.ctz 32 (2 ^ k) = k := by decide +kernel
theorem lzN_zero : lzN 0 = 32 := by decide +kernel
theorem ctz_zero : Lib.ctz 32 0 = 32 := by decide +kernel
theorem lzN_top {x : Nat} (h0 : 0 < x) (hx : x < 4294967296) : lzN x ≤ 31 ∧ x / 2 ^ (31 - lzN x) = 1 := by
  unfold lzN
  obtain ⟨b, hb⟩ : ∃ b, b = Lib.bitLen x := ⟨_, rfl⟩
  have h1 : ¬ Lib.bitLen x ≤ 0 := fun h => by have := (bitLen_le_iff 0 x (by omega)).1 h; omega
  have h2 : Lib.bitLen x ≤ 32 := (bitLen_le_iff 32 x (by omega)).2 (by omega)
  have h3 : x < 2 ^ b := (bitLen_le_iff b x (by omega)).1 (by omega)
  have h4 : ¬ x < 2 ^ (b - 1) := fun h => by have := (bitLen_le_iff (b - 1) x (by omega)).2 h; omega
  rw [← hb] at h1 h2 ⊢
  refine ⟨by omega, ?_⟩
  rw [show 31 - (32 - b) = b - 1 by omega]
  have h5 : 2 ^ b = 2 * 2 ^ (b - 1) := by rw [← Nat.pow_succ']; congr 1; omega
  exact (Nat.div_eq_iff (Nat.two_pow_pos _)).2 ⟨by omega, by omega⟩
theorem ctz_low {x : Nat} (h0 : 0 < x) (hx : x < 4294967296) : Lib.ctz 32 x ≤ 31 ∧ x / 2 ^ Lib.ctz 32 x % 2 = 1 := by
  unfold Lib.ctz
  rw [if_neg (by omega)]
  obtain ⟨m, h1, h2⟩ := Lib.ctzFrom_spec 32 x h0 (by omega)
  refine ⟨by omega, ?_⟩
  obtain ⟨c, hc⟩ : ∃ c, c = Lib.ctzFrom 32 x := ⟨_, rfl⟩
  rw [← hc] at h1 ⊢
  rw [h1, Nat.mul_div_cancel_left _ (Nat.two_pow_pos _)]
  omega
/-- The letters that are no blanks. -/
def cleanN (xs : List Int) : List Int := xs.filter fun n => decide (n ≠ 32)
theorem cleanN_snoc_no {l : List Int} {n : Int} (h : n = 32) : cleanN (l ++ [n]) = cleanN l := by
  unfold cleanN
  rw [List.filter_append]; simp [h]
theorem cleanN_snoc {l : List Int} {n : Int} (h : n ≠ 32) : cleanN (l ++ [n]) = cleanN l ++ [n] := by
  unfold cleanN
  rw [List.filter_append]; simp [h]
theorem cleanN_le (l : List Int) : (cleanN l).length ≤ l.length := List.length_filter_le _ _
theorem cleanN_ok {l : List Int} (hl : ∀ n ∈ l, 0 ≤ n ∧ n ≤ 255) : ∀ c ∈ (cleanN l).map (fun n => UInt8.ofNat n.toNat), c ≠ 32 := by
  intro c hc e
  obtain ⟨n, hn, rfl⟩ := List.mem_map.1 hc
  unfold cleanN at hn
  obtain ⟨h1, h2⟩ := List.mem_filter.1 hn
  have h3 := hl n h1
  have h4 : n ≠ 32 := by simpa using h2
  have h5 := congrArg UInt8.toNat e
  rw [UInt8.toNat_ofNat'] at h5
  have h6 : (32 : UInt8).toNat = 32 := rfl
  rw [h6] at h5
  omega
end Go.Proofs.YtbodfepfapjikaaDoor
