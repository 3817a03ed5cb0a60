/-
  Places that are swapped: by contracts.
-/
import Derived.Test.YtbodfepfapjikaaHomesB
import Derived.Laws.BitsAllLaws
import Derived.Deep.LoopGhost
namespace Go.Proofs.Ytbodfepfapjikaa
open Go.RowKit
set_option linter.unusedVariables false
set_option linter.unusedSimpArgs false

/-- Half the digits of numbers below 65. -/
def halfD (n : Nat) : Nat := if n ≤ 4 then 1 else if n ≤ 16 then 2 else 3
set_option maxHeartbeats 1600000 in
theorem halfDigits_any (n : Nat) (w : World) (h1 : 1 ≤ n) (h2 : n ≤ 64) :
    Calls Try.prog 105 #[.int .i64 n] w fun e w' => e = .returned (.int .i64 (halfD n)) ∧ w = w' := by
  go_enter Try.func105, Try.ntmps105
  go_wp2
  go_loop [3] (fun i => i = .int .i64 1 ∨ (4 < n ∧ i = .int .i64 2) ∨ (16 < n ∧ i = .int .i64 3)) (fun i => 4 - (intOf i).toNat)
  case atStart => exact .inl rfl
  case round =>
    rcases hrel with rfl | ⟨h4, rfl⟩ | ⟨h16, rfl⟩
    · by_cases hlt : 4 < n
      · have hi : (4 : Int) < (n : Int) := by omega
        go_wp2
        exact ⟨.inr (.inl ⟨hlt, rfl⟩), by simp [intOf]⟩
      · have hi : ¬ (4 : Int) < (n : Int) := by omega
        have he : Hid (halfD n = 1) := by show _ = _; unfold halfD; rw [if_pos (by omega)]
        go_wp2
        go_ret
        exact ⟨ret_int (by have := he.out; omega), rfl⟩
    · by_cases hlt : 16 < n
      · have hi : (16 : Int) < (n : Int) := by omega
        go_wp2
        exact ⟨.inr (.inr ⟨hlt, rfl⟩), by simp [intOf]⟩
      · have hi : ¬ (16 : Int) < (n : Int) := by omega
        have he : Hid (halfD n = 2) := by show _ = _; unfold halfD; rw [if_neg (by omega), if_pos (by omega)]
        go_wp2
        go_ret
        exact ⟨ret_int (by have := he.out; omega), rfl⟩
    · have hi : ¬ (64 : Int) < (n : Int) := by omega
      have he : Hid (halfD n = 3) := by show _ = _; unfold halfD; rw [if_neg (by omega), if_neg (by omega)]
      go_wp2
      go_ret
      exact ⟨ret_int (by have := he.out; omega), rfl⟩
theorem areSwaps_any (k n s : Nat) (w : World) (hk : k < n) (hn : n ≤ 64) (hs : s < 4294967296) :
    Calls Try.prog 104 #[.int .i64 k, .int .i64 n, .int .i64 s] w fun e w' => e = .returned (.bool true) ∧ w = w' := by
  have e1 : inB (n : Int) 1 65536 = true := inB_iff.2 (by omega)
  have e2 : inB (k : Int) 0 ((n : Int) - 1) = true := inB_iff.2 (by omega)
  have e3 : inB (s : Int) 0 4294967295 = true := inB_iff.2 (by omega)
  have hn1 : 1 ≤ (n : Int) := by omega
  have hn2 : (n : Int) ≤ 64 := by omega
  go_enter Try.func104, Try.ntmps104
  go_wp2_with (first | (go_at_call 72; refine (IsKey_any _ _).mono ?_; rintro e w' ⟨rfl, rfl⟩) | (go_at_call 67; refine (within_any _ _ _ _).mono ?_; rintro e w' ⟨rfl, rfl⟩))
  go_ret
  exact ⟨rfl, rfl⟩
/-- The half's digits and their power. -/
def HM (h : Int) (M : Nat) : Prop := (h = 1 ∧ M = 2 ^ 1) ∨ (h = 2 ∧ M = 2 ^ 2) ∨ (h = 3 ∧ M = 2 ^ 3)
set_option maxHeartbeats 1600000 in
theorem round_any (r s i : Nat) (h : Int) (M : Nat) (w : World) (hr : r < 8) (hs : s < 4294967296) (hi : i < 4) (hm : HM h M) :
    Calls Try.prog 106 #[.int .i64 r, .int .i64 s, .int .i64 i, .int .i64 h] w fun e w' => e = .returned (.int .i64 (rndH hashN s M r i)) ∧ ∃ n, w' = w.drewN n := by
  have hv : rndH hashN s M r i = hashN r ((s + i) % 4294967296) % M := rfl
  have hq := hashN_lt r ((s + i) % 4294967296)
  have C : Hid (∀ w, Calls Try.prog 99 #[.int .i64 r, .int .i64 (((s : Int) + (i : Int)) % 4294967296)] w fun e w' => e = .returned (.int .i64 (hashN r ((s + i) % 4294967296))) ∧ w' = w) := fun w => by
    have := ihash_any r ((s + i) % 4294967296) w (by omega) (Nat.mod_lt _ (by omega))
    rw [show (((s + i) % 4294967296 : Nat) : Int) = ((s : Int) + (i : Int)) % 4294967296 by omega] at this
    exact this.mono fun _ _ ⟨h, h'⟩ => ⟨h, h'.symm⟩
  rw [hv]
  obtain ⟨q, hqe⟩ : ∃ q, q = hashN r ((s + i) % 4294967296) := ⟨_, rfl⟩
  rw [← hqe] at C hq ⊢
  have v1 : IntKind.i64.wrap ((s : Int) + (i : Int)) = (s : Int) + (i : Int) := by rw [IntKind.wrap_i64]; omega
  have v2 : 0 ≤ (s : Int) + (i : Int) := by omega
  clear hv hqe
  rcases hm with ⟨rfl, rfl⟩ | ⟨rfl, rfl⟩ | ⟨rfl, rfl⟩
  all_goals
    go_enter Try.func106, Try.ntmps106
    go_wp2
    go_quiet ((go_at_call 99; exact Calls.quiet_of_same (C.out _)))
    go_wp2
    go_ret
    exact ⟨ret_int (by omega), _, rfl⟩
theorem i64_xor_nat (a b : Nat) (ha : a < 8) (hb : b < 8) : bits .xor .i64 (a : Int) (b : Int) = ((a ^^^ b : Nat) : Int) := by
  have hx : a ^^^ b < 2 ^ 3 := Nat.xor_lt_two_pow (by omega) (by omega)
  show IntKind.i64.wrap ((BitVec.ofInt 64 (a : Int) ^^^ BitVec.ofInt 64 (b : Int)).toNat : Int) = _
  rw [BitVec.toNat_xor, ofInt_u64 a (by omega), ofInt_u64 b (by omega), IntKind.wrap_i64]
  omega
theorem ret_ib {a b : Int} {c : Bool} (h : a = b) : Ending.returned (.tuple #[.int .i64 a, .bool c]) = .returned (.tuple #[.int .i64 b, .bool c]) := by rw [h]
theorem val_i {a b : Int} (h : a = b) : Value.int .i64 a = Value.int .i64 b := by rw [h]
theorem xor8 {a b : Nat} (ha : a < 8) (hb : b < 8) : a ^^^ b < 8 := Nat.xor_lt_two_pow (n := 3) ha hb
set_option maxHeartbeats 3200000 in
theorem SwapPlace_any (k n s : Nat) (h : Int) (M : Nat) (w : World) (hk : k < n) (hn : n ≤ 64) (hs : s < 4294967296) (hh : (halfD n : Int) = h) (hm : HM h M) (hnM : n ≤ M * M) (p m : Nat) (hp : iterN (swF hashN s M) (m + 1) k = p) (hpn : p < n) (ha : ∀ i, i < m → n ≤ iterN (swF hashN s M) (i + 1) k) :
    Calls Try.prog 49 #[.int .i64 k, .int .i64 n, .int .i64 s] w fun e w' => e = .returned (.tuple #[.int .i64 p, .bool true]) ∧ ∃ q, w' = w.drewN q := by
  have HP := hid hp
  have HA := hid ha
  have HF : Hid (∀ x, x < M * M → swF hashN s M x < M * M) := fun x hx => by
    rcases hm with ⟨_, rfl⟩ | ⟨_, rfl⟩ | ⟨_, rfl⟩ <;> exact swF_lt hx
  have HL : Hid (∀ x, x < M * M → ∀ i, (swH hashN s M x i).1 < M ∧ (swH hashN s M x i).2 < M) := fun x hx i => by
    rcases hm with ⟨_, rfl⟩ | ⟨_, rfl⟩ | ⟨_, rfl⟩ <;> exact swH_lt hx i
  have hM8 : M ≤ 8 := by rcases hm with ⟨_, rfl⟩ | ⟨_, rfl⟩ | ⟨_, rfl⟩ <;> decide
  have HD : Hid (∀ w, Calls Try.prog 105 #[.int .i64 n] w fun e w' => e = .returned (.int .i64 h) ∧ w = w') := fun w => by
    rw [← hh]; exact halfDigits_any n w (by omega) (by omega)
  have HS : Hid (∀ w, Calls Try.prog 104 #[.int .i64 k, .int .i64 n, .int .i64 s] w fun e w' => e = .returned (.bool true) ∧ w = w') := fun w => areSwaps_any k n s w hk hn hs
  have HR : Hid (∀ (r i : Nat) w, r < 8 → i < 4 → Calls Try.prog 106 #[.int .i64 r, .int .i64 s, .int .i64 i, .int .i64 h] w fun e w' => e = .returned (.int .i64 (rndH hashN s M r i)) ∧ ∃ n, w' = w.drewN n) := fun r i w hr hi => round_any r s i h M w hr hs hi hm
  have HRL : Hid (∀ r i, rndH hashN s M r i < 8) := fun r i => by
    have : rndH hashN s M r i < M := by rcases hm with ⟨_, rfl⟩ | ⟨_, rfl⟩ | ⟨_, rfl⟩ <;> exact rndH_lt r i
    omega
  have HMid := hid hm
  clear hp ha hm hh
  go_enter Try.func49, Try.ntmps49
  go_wp2_with (first | (go_at_call 104; refine (HS.out _).mono ?_; rintro e w' ⟨rfl, rfl⟩) | (go_at_call 105; refine (HD.out _).mono ?_; rintro e w' ⟨rfl, rfl⟩))
  go_loopg [0] (m + 1) (fun g t wr => ∃ j z : Nat, j ≤ m ∧ g = m + 1 - j ∧ t = .int .i64 z ∧ z < M * M ∧ Hid (iterN (swF hashN s M) j k = z) ∧ Hid (∃ q, wr = w.drewN q))
  case atStart => exact ⟨0, k, Nat.zero_le _, rfl, rfl, by omega, rfl, ⟨0, rfl⟩⟩
  case round =>
    obtain ⟨j, z, hj, rfl, rfl, hz, hzj, hwr⟩ := hrel
    have hnext : Hid (iterN (swF hashN s M) (j + 1) k = swF hashN s M z) := by show _ = _; rw [← hzj.out]; rfl
    have hfz := HF.out z hz
    have hM64 : M * M ≤ 64 := Nat.mul_le_mul hM8 hM8
    obtain ⟨y, hy⟩ : ∃ y, y = swF hashN s M z := ⟨_, rfl⟩
    have hlast : Hid (j = m → y = p) := fun e => by subst e; rw [hy, ← hnext.out]; exact HP.out
    have hmid : Hid (j < m → n ≤ y) := fun e => by rw [hy, ← hnext.out]; exact HA.out j e
    have hyj : Hid (iterN (swF hashN s M) (j + 1) k = y) := by show _ = _; rw [hy]; exact hnext.out
    have hyd : Hid ((swH hashN s M z 4).1 * M + (swH hashN s M z 4).2 = y) := by show _ = _; rw [hy]; rfl
    have hym : y < M * M := by rw [hy]; exact hfz
    obtain ⟨rn, hrn⟩ : ∃ rn : Nat → Nat → Nat, rn = rndH hashN s M := ⟨_, rfl⟩
    obtain ⟨sw, hsw⟩ : ∃ sw : Nat → Nat × Nat, sw = swH hashN s M z := ⟨_, rfl⟩
    have hz8 : z / M < 8 ∧ z % M < 8 := by
      have := HL.out z hz 0
      exact ⟨Nat.lt_of_lt_of_le this.1 hM8, Nat.lt_of_lt_of_le this.2 hM8⟩
    have hzd : Hid (sw 0 = (z / M, z % M)) := by rw [hsw]; rfl
    have hst : Hid (∀ i, sw (i + 1) = ((sw i).2, (sw i).1 ^^^ rn (sw i).2 i)) := by rw [hsw, hrn]; exact fun i => rfl
    have hyd2 : Hid ((sw 4).1 * M + (sw 4).2 = y) := by rw [hsw]; exact hyd.out
    have HRr := HR
    have HRLr := HRL
    rw [← hrn] at HRr HRLr
    clear hsw hrn hyd
    clear hnext hfz hy hzj HF HP HA
    obtain ⟨wo, rfl⟩ : ∃ wo : World, wo = wr := ⟨_, rfl⟩
    have hz64 : z < 64 := by omega
    have hy64 : y < 64 := by omega
    rcases HMid.out with ⟨rfl, rfl⟩ | ⟨rfl, rfl⟩ | ⟨rfl, rfl⟩
    all_goals
      clear hz HMid hnM hM64 hM8 HL HR HRL
      go_wp2
      go_quiet (fail)
      go_wp2
      obtain ⟨wi, hwi⟩ : ∃ wi : World, wi = wo.drewN nq := ⟨_, rfl⟩
      rw [← hwi]
      have hWI : Hid (∃ q, wi = w.drewN q) := by
        obtain ⟨q, hq⟩ := hwr.out
        exact ⟨_, by rw [hwi, hq]; exact World.drewN_drewN _ _ _⟩
      clear hwi hwr
      go_loopw [9, 10, 26] (fun a b t wr => ∃ i l r : Nat, i ≤ 4 ∧ t = .int .i64 i ∧ a = .int .i64 l ∧ b = .int .i64 r ∧ l < 8 ∧ r < 8 ∧ Hid (sw i = (l, r)) ∧ Hid (∃ q, wr = w.drewN q)) (fun _ _ t _ => 4 - (intOf t).toNat)
      case atStart => exact ⟨0, _, _, by omega, rfl, val_i (by omega), val_i (by omega), hz8.1, hz8.2, hzd, hWI⟩
      case round =>
        obtain ⟨i, l, r, hi, rfl, rfl, rfl, hl, hr, hh, hw2⟩ := hrel
        clear hWI
        by_cases hi4 : i < 4
        · have hi' : (i : Int) < 4 := by omega
          obtain ⟨q, hq⟩ : ∃ q, q = rn r i := ⟨_, rfl⟩
          have hq8 : q < 8 := by rw [hq]; exact HRLr.out r i
          have hx := i64_xor_nat l q hl hq8
          have hx8 := xor8 hl hq8
          have hstep : Hid (sw (i + 1) = (r, l ^^^ q)) := by
            show _ = _
            rw [hst.out, hh.out, hq]
          have CR := hid (HRr.out r i)
          rw [← hq] at CR
          clear hq hh
          have HXR := hid hx
          clear hx
          go_wp2_with (go_at_call 106; refine (CR.out _ hr hi4).mono ?_; rintro e w' ⟨rfl, q', rfl⟩)
          have hw3 : Hid (∃ q, wr.drewN q' = w.drewN q) := by
            obtain ⟨q2, hq2⟩ := hw2.out
            exact ⟨_, by rw [hq2]; exact World.drewN_drewN _ _ _⟩
          exact ⟨⟨i + 1, r, l ^^^ q, by omega, by go_num, rfl, val_i HXR.out, hr, hx8, hstep, hw3⟩, by simp [intOf]; omega⟩
        · have hi' : ¬ (i : Int) < 4 := by omega
          obtain rfl : i = 4 := by omega
          have hyv := hyd2.out
          rw [hh.out] at hyv
          have HY := hid hyv
          clear hyv hh
          by_cases hjm : j = m
          · have hyp : y = p := hlast.out hjm
            have HYP : Hid (y = p) := hyp
            have hyn : y < n := by omega
            have hlt : (l : Int) * 8 + (r : Int) < (n : Int) ∨ (l : Int) * 4 + (r : Int) < (n : Int) ∨ (l : Int) * 2 + (r : Int) < (n : Int) := by have := HY.out; omega
            clear hyp hlt
            first
              | (have hlt : (l : Int) * 8 + (r : Int) < (n : Int) := by have := HY.out; omega)
              | (have hlt : (l : Int) * 4 + (r : Int) < (n : Int) := by have := HY.out; omega)
              | (have hlt : (l : Int) * 2 + (r : Int) < (n : Int) := by have := HY.out; omega)
            go_wp2
            go_ret2
            exact ⟨ret_ib (by have := HY.out; have := HYP.out; omega), hw2.out⟩
          · have hyn : n ≤ y := hmid.out (by omega)
            first
              | (have hlt : ¬ (l : Int) * 2 + (r : Int) < (n : Int) := by have := HY.out; omega)
              | (have hlt : ¬ (l : Int) * 4 + (r : Int) < (n : Int) := by have := HY.out; omega)
              | (have hlt : ¬ (l : Int) * 8 + (r : Int) < (n : Int) := by have := HY.out; omega)
            go_wp2
            go_roundg (m + 1 - (j + 1))
            case measure => omega
            case rel => exact ⟨j + 1, y, by omega, rfl, val_i (by have := HY.out; omega), hym, hyj, hw2⟩
set_option maxHeartbeats 3200000 in
theorem BackPlace_any (k n s : Nat) (h : Int) (M : Nat) (w : World) (hk : k < n) (hn : n ≤ 64) (hs : s < 4294967296) (hh : (halfD n : Int) = h) (hm : HM h M) (hnM : n ≤ M * M) (p m : Nat) (hp : iterN (bkF hashN s M) (m + 1) k = p) (hpn : p < n) (ha : ∀ i, i < m → n ≤ iterN (bkF hashN s M) (i + 1) k) :
    Calls Try.prog 50 #[.int .i64 k, .int .i64 n, .int .i64 s] w fun e w' => e = .returned (.tuple #[.int .i64 p, .bool true]) ∧ ∃ q, w' = w.drewN q := by
  have HP := hid hp
  have HA := hid ha
  have HF : Hid (∀ x, x < M * M → bkF hashN s M x < M * M) := fun x hx => by
    rcases hm with ⟨_, rfl⟩ | ⟨_, rfl⟩ | ⟨_, rfl⟩ <;> exact bkF_lt hx
  have HL : Hid (∀ x, x < M * M → ∀ i, (bkH hashN s M x i).1 < M ∧ (bkH hashN s M x i).2 < M) := fun x hx i => by
    rcases hm with ⟨_, rfl⟩ | ⟨_, rfl⟩ | ⟨_, rfl⟩ <;> exact bkH_lt hx i
  have hM8 : M ≤ 8 := by rcases hm with ⟨_, rfl⟩ | ⟨_, rfl⟩ | ⟨_, rfl⟩ <;> decide
  have HD : Hid (∀ w, Calls Try.prog 105 #[.int .i64 n] w fun e w' => e = .returned (.int .i64 h) ∧ w = w') := fun w => by
    rw [← hh]; exact halfDigits_any n w (by omega) (by omega)
  have HS : Hid (∀ w, Calls Try.prog 104 #[.int .i64 k, .int .i64 n, .int .i64 s] w fun e w' => e = .returned (.bool true) ∧ w = w') := fun w => areSwaps_any k n s w hk hn hs
  have HR : Hid (∀ (r i : Nat) w, r < 8 → i < 4 → Calls Try.prog 106 #[.int .i64 r, .int .i64 s, .int .i64 i, .int .i64 h] w fun e w' => e = .returned (.int .i64 (rndH hashN s M r i)) ∧ ∃ n, w' = w.drewN n) := fun r i w hr hi => round_any r s i h M w hr hs hi hm
  have HRL : Hid (∀ r i, rndH hashN s M r i < 8) := fun r i => by
    have : rndH hashN s M r i < M := by rcases hm with ⟨_, rfl⟩ | ⟨_, rfl⟩ | ⟨_, rfl⟩ <;> exact rndH_lt r i
    omega
  have HMid := hid hm
  clear hp ha hm hh
  go_enter Try.func50, Try.ntmps50
  go_wp2_with (first | (go_at_call 104; refine (HS.out _).mono ?_; rintro e w' ⟨rfl, rfl⟩) | (go_at_call 105; refine (HD.out _).mono ?_; rintro e w' ⟨rfl, rfl⟩))
  go_loopg [0] (m + 1) (fun g t wr => ∃ j z : Nat, j ≤ m ∧ g = m + 1 - j ∧ t = .int .i64 z ∧ z < M * M ∧ Hid (iterN (bkF hashN s M) j k = z) ∧ Hid (∃ q, wr = w.drewN q))
  case atStart => exact ⟨0, k, Nat.zero_le _, rfl, rfl, by omega, rfl, ⟨0, rfl⟩⟩
  case round =>
    obtain ⟨j, z, hj, rfl, rfl, hz, hzj, hwr⟩ := hrel
    have hnext : Hid (iterN (bkF hashN s M) (j + 1) k = bkF hashN s M z) := by show _ = _; rw [← hzj.out]; rfl
    have hfz := HF.out z hz
    have hM64 : M * M ≤ 64 := Nat.mul_le_mul hM8 hM8
    obtain ⟨y, hy⟩ : ∃ y, y = bkF hashN s M z := ⟨_, rfl⟩
    have hlast : Hid (j = m → y = p) := fun e => by subst e; rw [hy, ← hnext.out]; exact HP.out
    have hmid : Hid (j < m → n ≤ y) := fun e => by rw [hy, ← hnext.out]; exact HA.out j e
    have hyj : Hid (iterN (bkF hashN s M) (j + 1) k = y) := by show _ = _; rw [hy]; exact hnext.out
    have hyd : Hid ((bkH hashN s M z 4).1 * M + (bkH hashN s M z 4).2 = y) := by show _ = _; rw [hy]; rfl
    have hym : y < M * M := by rw [hy]; exact hfz
    obtain ⟨rn, hrn⟩ : ∃ rn : Nat → Nat → Nat, rn = rndH hashN s M := ⟨_, rfl⟩
    obtain ⟨sw, hsw⟩ : ∃ sw : Nat → Nat × Nat, sw = bkH hashN s M z := ⟨_, rfl⟩
    have hz8 : z / M < 8 ∧ z % M < 8 := by
      have := HL.out z hz 0
      exact ⟨Nat.lt_of_lt_of_le this.1 hM8, Nat.lt_of_lt_of_le this.2 hM8⟩
    have hzd : Hid (sw 0 = (z / M, z % M)) := by rw [hsw]; rfl
    have hst : Hid (∀ i, sw (i + 1) = ((sw i).2 ^^^ rn (sw i).1 (3 - i), (sw i).1)) := by rw [hsw, hrn]; exact fun i => rfl
    have hyd2 : Hid ((sw 4).1 * M + (sw 4).2 = y) := by rw [hsw]; exact hyd.out
    have HRr := HR
    have HRLr := HRL
    rw [← hrn] at HRr HRLr
    clear hsw hrn hyd
    clear hnext hfz hy hzj HF HP HA
    obtain ⟨wo, rfl⟩ : ∃ wo : World, wo = wr := ⟨_, rfl⟩
    have hz64 : z < 64 := by omega
    have hy64 : y < 64 := by omega
    rcases HMid.out with ⟨rfl, rfl⟩ | ⟨rfl, rfl⟩ | ⟨rfl, rfl⟩
    all_goals
      clear hz HMid hnM hM64 hM8 HL HR HRL
      go_wp2
      go_quiet (fail)
      go_wp2
      obtain ⟨wi, hwi⟩ : ∃ wi : World, wi = wo.drewN nq := ⟨_, rfl⟩
      rw [← hwi]
      have hWI : Hid (∃ q, wi = w.drewN q) := by
        obtain ⟨q, hq⟩ := hwr.out
        exact ⟨_, by rw [hwi, hq]; exact World.drewN_drewN _ _ _⟩
      clear hwi hwr
      go_loopw [9, 10, 11] (fun a b t wr => ∃ i l r : Nat, i ≤ 4 ∧ t = .int .i64 (3 - (i : Int)) ∧ a = .int .i64 l ∧ b = .int .i64 r ∧ l < 8 ∧ r < 8 ∧ Hid (sw i = (l, r)) ∧ Hid (∃ q, wr = w.drewN q)) (fun _ _ t _ => (intOf t + 1).toNat)
      case atStart => exact ⟨0, _, _, by omega, rfl, val_i (by omega), val_i (by omega), hz8.1, hz8.2, hzd, hWI⟩
      case round =>
        obtain ⟨i, l, r, hi, rfl, rfl, rfl, hl, hr, hh, hw2⟩ := hrel
        clear hWI
        by_cases hi4 : i < 4
        · obtain ⟨d, hd⟩ : ∃ d : Nat, 3 - (i : Int) = (d : Int) := ⟨3 - i, by omega⟩
          have hd4 : d < 4 := by omega
          have hdi : d = 3 - i := by omega
          rw [hd]
          have HDI : Hid (3 - (i : Int) = (d : Int)) := hd
          clear hd
          have hi' : (0 : Int) ≤ (d : Int) := by omega
          obtain ⟨q, hq⟩ : ∃ q, q = rn l d := ⟨_, rfl⟩
          have hq8 : q < 8 := by rw [hq]; exact HRLr.out l d
          have hx := i64_xor_nat r q hr hq8
          have hx8 := xor8 hr hq8
          have hstep : Hid (sw (i + 1) = (r ^^^ q, l)) := by
            show _ = _
            rw [hst.out, hh.out, hq, hdi]
          have CR := hid (HRr.out l d)
          rw [← hq] at CR
          clear hq hh hdi
          have HXR := hid hx
          clear hx
          go_wp2_with (go_at_call 106; refine (CR.out _ hl hd4).mono ?_; rintro e w' ⟨rfl, q', rfl⟩)
          have hw3 : Hid (∃ q, wr.drewN q' = w.drewN q) := by
            obtain ⟨q2, hq2⟩ := hw2.out
            exact ⟨_, by rw [hq2]; exact World.drewN_drewN _ _ _⟩
          exact ⟨⟨i + 1, r ^^^ q, l, by omega, val_i (by have := HDI.out; omega), val_i HXR.out, rfl, hx8, hl, hstep, hw3⟩, by simp [intOf]⟩
        · have hi' : ¬ (0 : Int) ≤ 3 - (i : Int) := by omega
          obtain rfl : i = 4 := by omega
          have hyv := hyd2.out
          rw [hh.out] at hyv
          have HY := hid hyv
          clear hyv hh
          by_cases hjm : j = m
          · have hyp : y = p := hlast.out hjm
            have HYP : Hid (y = p) := hyp
            have hyn : y < n := by omega
            have hlt : (l : Int) * 8 + (r : Int) < (n : Int) ∨ (l : Int) * 4 + (r : Int) < (n : Int) ∨ (l : Int) * 2 + (r : Int) < (n : Int) := by have := HY.out; omega
            clear hyp hlt
            first
              | (have hlt : (l : Int) * 8 + (r : Int) < (n : Int) := by have := HY.out; omega)
              | (have hlt : (l : Int) * 4 + (r : Int) < (n : Int) := by have := HY.out; omega)
              | (have hlt : (l : Int) * 2 + (r : Int) < (n : Int) := by have := HY.out; omega)
            go_wp2
            go_ret2
            exact ⟨ret_ib (by have := HY.out; have := HYP.out; omega), hw2.out⟩
          · have hyn : n ≤ y := hmid.out (by omega)
            first
              | (have hlt : ¬ (l : Int) * 2 + (r : Int) < (n : Int) := by have := HY.out; omega)
              | (have hlt : ¬ (l : Int) * 4 + (r : Int) < (n : Int) := by have := HY.out; omega)
              | (have hlt : ¬ (l : Int) * 8 + (r : Int) < (n : Int) := by have := HY.out; omega)
            go_wp2
            go_roundg (m + 1 - (j + 1))
            case measure => omega
            case rel => exact ⟨j + 1, y, by omega, rfl, val_i (by have := HY.out; omega), hym, hyj, hw2⟩
end Go.Proofs.Ytbodfepfapjikaa
