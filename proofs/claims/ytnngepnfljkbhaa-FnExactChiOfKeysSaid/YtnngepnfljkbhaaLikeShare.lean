/-
  LikeShare: reference and program, by contracts. Printed by gen_like.py.
-/
import Derived.Test.YtnngepnfljkbhaaLike
namespace Go.Proofs.Ytnngepnfljkbhaa
open Go.RowKit Ieee
set_option linter.unusedVariables false
set_option linter.unusedSimpArgs false

/-- At most 256 keys. -/
def keysB (x : List Int) : Bool := decide ((x.length : Int) ≤ 256) && allB x 0 4294967295
theorem keysB_iff {x : List Int} (h : keysB x = true) : x.length ≤ 256 ∧ ∀ y ∈ x, 0 ≤ y ∧ y ≤ 4294967295 := by
  simp only [keysB, Bool.and_eq_true, decide_eq_true_eq] at h
  exact ⟨by omega, allB_iff h.2⟩
/-- The keys of the least hashes are the same. -/
def sameAt (a b : List Int) (salt : Nat) : Bool := a.getD (leastTo a salt a.length) 0 == b.getD (leastTo b salt b.length) 0
/-- For how many of the first n salts. -/
def likeTo (a b s : List Int) (n : Nat) : Nat := (List.range n).countP fun i => sameAt a b (s.getD i 0).toNat
theorem likeTo_succ (a b s : List Int) (n : Nat) : likeTo a b s (n + 1) = likeTo a b s n + (sameAt a b (s.getD n 0).toNat).toNat := by
  unfold likeTo
  rw [List.range_succ, List.countP_append, List.countP_singleton]
  cases sameAt a b (s.getD n 0).toNat <;> rfl
theorem likeTo_le (a b s : List Int) (n : Nat) : likeTo a b s n ≤ n := by
  have := List.countP_le_length (l := List.range n) (p := fun i => sameAt a b (s.getD i 0).toNat)
  rw [List.length_range] at this
  exact this
/-- The lists are valid. -/
def vLike (a b s : List Int) : Bool := keysB a && keysB b && keysB s && !decide ((a.length : Int) < 1) && !decide ((b.length : Int) < 1) && !decide ((s.length : Int) < 1) && !decide ((s.length : Int) > 32)
/-- What LikeShare returns. -/
def pLikeShare (a b s : List Int) : Nat × Bool := if vLike a b s = true then (shareB (likeTo a b s s.length) s.length, true) else (0, false)
theorem vLike_iff {a b s : List Int} (h : vLike a b s = true) : keysB a = true ∧ keysB b = true ∧ keysB s = true ∧ 0 < a.length ∧ 0 < b.length ∧ 0 < s.length ∧ s.length ≤ 32 := by
  simp only [vLike, Bool.and_eq_true, Bool.not_eq_true', decide_eq_false_iff_not] at h
  obtain ⟨⟨⟨⟨⟨⟨h1, h2⟩, h3⟩, h4⟩, h5⟩, h6⟩, h7⟩ := h
  exact ⟨h1, h2, h3, by omega, by omega, by omega, by omega⟩
theorem nn_LikeShare (a b s : List Int) : NN single (pLikeShare a b s).1 := by
  unfold pLikeShare
  split
  · rename_i h
    obtain ⟨_, _, _, _, _, h6, h7⟩ := vLike_iff h
    exact (shareB_spec (likeTo_le a b s s.length) h6 (by omega)).2.sg.nn
  · exact nn_zero
theorem eq0_lt1 (n : Nat) (v : Bool) (h : decide ((n : Int) < 1) = v) : ((n : Int) == 0) = v := by
  rw [← h]
  by_cases h1 : (n : Int) < 1
  · rw [decide_eq_true h1, beq_iff_eq]; omega
  · rw [decide_eq_false h1, beq_eq_false_iff_ne]; omega
theorem l02Keys_gen (A : Option Addr) (c : Nat) (x : List Int) (w : World) (hx : RdL (Value.int .i64) w A x) :
    Calls Try.prog 82 #[.slice A x.length c] w fun e w' => e = .returned (.bool (keysB x)) ∧ w = w' := by
  by_cases h : x.length ≤ 256
  · have hk : keysB x = allB x 0 4294967295 := by unfold keysB; rw [decide_eq_true (by omega), Bool.true_and]
    rw [hk]
    exact l02Keys_any A c x w hx h
  · have hk : keysB x = false := by unfold keysB; rw [decide_eq_false (by omega), Bool.false_and]
    rw [hk]
    exact l02Keys_no A c x w hx (by omega)
set_option maxRecDepth 100000 in
set_option maxHeartbeats 3200000 in
theorem sLikeShare_any (A0 : Option Addr) (c0 : Nat) (a : List Int) (A1 : Option Addr) (c1 : Nat) (b : List Int) (A2 : Option Addr) (c2 : Nat) (s : List Int) (w : World) (hx0 : RdL (Value.int .i64) w A0 a) (hn0 : a.length ≤ 1048576) (we0 : ∀ y ∈ a, W64 y) (hx1 : RdL (Value.int .i64) w A1 b) (hn1 : b.length ≤ 1048576) (we1 : ∀ y ∈ b, W64 y) (hx2 : RdL (Value.int .i64) w A2 s) (hn2 : s.length ≤ 1048576) (we2 : ∀ y ∈ s, W64 y) :
    Calls Try.prog 32 #[.slice A0 a.length c0, .slice A1 b.length c1, .slice A2 s.length c2] w fun e w' => e = .returned (.tuple #[.float .f32 (pLikeShare a b s).1, .bool (pLikeShare a b s).2]) ∧ Below w.heap.size w w' := by
  have X0 := hid hx0
  have X1 := hid hx1
  have X2 := hid hx2
  clear hx0 hx1 hx2 we0 we1 we2
  have bad : ∀ u0 u1 u2 v0 v1 v2 v3 : Bool, keysB a = u0 → keysB b = u1 → keysB s = u2 → decide ((a.length : Int) < 1) = v0 → decide ((b.length : Int) < 1) = v1 → decide ((s.length : Int) < 1) = v2 → decide ((s.length : Int) > 32) = v3 → (u0 && u1 && u2 && !v0 && !v1 && !v2 && !v3) = false →
      Calls Try.prog 32 #[.slice A0 a.length c0, .slice A1 b.length c1, .slice A2 s.length c2] w fun e w' => e = .returned (.tuple #[.float .f32 0, .bool false]) ∧ Below w.heap.size w w' := by
    intro u0 u1 u2 v0 v1 v2 v3 hu0 hu1 hu2 hv0 hv1 hv2 hv3 hno
    have K0 : Hid (Calls Try.prog 82 #[.slice A0 a.length c0] w fun e w' => e = .returned (.bool u0) ∧ w = w') := hu0 ▸ l02Keys_gen A0 c0 a w X0.out
    have K1 : Hid (Calls Try.prog 82 #[.slice A1 b.length c1] w fun e w' => e = .returned (.bool u1) ∧ w = w') := hu1 ▸ l02Keys_gen A1 c1 b w X1.out
    have K2 : Hid (Calls Try.prog 82 #[.slice A2 s.length c2] w fun e w' => e = .returned (.bool u2) ∧ w = w') := hu2 ▸ l02Keys_gen A2 c2 s w X2.out
    have hv3' : decide ((32 : Int) < (s.length : Int)) = v3 := hv3
    have hc0 : ((a.length : Int) == 0) = v0 := eq0_lt1 _ _ hv0
    have hc1 : ((b.length : Int) == 0) = v1 := eq0_lt1 _ _ hv1
    clear hu0 hu1 hu2
    cases u0
    case' true =>
      cases u1
      case' true =>
        cases u2
        case' true =>
          cases v0
          case' false =>
            cases v1
            case' false =>
              cases v2
              case' false =>
                cases v3
    all_goals
      first
      | (exfalso; revert hno; decide)
      | (clear hno
         try simp only [decide_eq_true_eq, decide_eq_false_iff_not] at hv0
         try simp only [decide_eq_true_eq, decide_eq_false_iff_not] at hv1
         try simp only [decide_eq_true_eq, decide_eq_false_iff_not] at hv2
         try simp only [decide_eq_true_eq, decide_eq_false_iff_not] at hv3
         try simp only [decide_eq_true_eq, decide_eq_false_iff_not] at hv3'
         go_enter Try.func32, Try.ntmps32
         go_wp2_with (first | (go_at_call 82; with_reducible refine K0.out.mono ?_; rintro e w' ⟨rfl, rfl⟩) | (go_at_call 82; with_reducible refine K1.out.mono ?_; rintro e w' ⟨rfl, rfl⟩) | (go_at_call 82; with_reducible refine K2.out.mono ?_; rintro e w' ⟨rfl, rfl⟩))
         go_ret2
         exact ⟨rfl, Below.refl _ _⟩)
  cases hg : vLike a b s with
  | false =>
    have hp : pLikeShare a b s = (0, false) := by unfold pLikeShare; rw [if_neg (by simp [hg])]
    rw [hp]
    refine bad _ _ _ _ _ _ _ rfl rfl rfl rfl rfl rfl rfl ?_
    unfold vLike at hg
    exact hg
  | true =>
  obtain ⟨hka, hkb, hks, hpa, hpb, hps, hs32⟩ := vLike_iff hg
  obtain ⟨ha256, hba⟩ := keysB_iff hka
  obtain ⟨hb256, hbb⟩ := keysB_iff hkb
  obtain ⟨_, hbs⟩ := keysB_iff hks
  have hp : Hid (pLikeShare a b s = (shareB (likeTo a b s s.length) s.length, true)) := by show _ = _; unfold pLikeShare; rw [if_pos hg]
  have hq : ∀ t w, (binOp .quo t (.float .f32 (floatOfInt .f32 (likeTo a b s s.length : Int))) (.float .f32 (floatOfInt .f32 (s.length : Int)))).run Try.prog w = .ok (.float .f32 (shareB (likeTo a b s s.length) s.length)) w := fun t w => run_float_arith w .quo t .f32 _ _ _ (shareB_spec (likeTo_le a b s s.length) hps (by omega)).1
  have BA := hid hba
  have BB := hid hbb
  have BS := hid hbs
  have v0 : ¬ (a.length : Int) < 1 := by omega
  have v1 : ¬ (b.length : Int) < 1 := by omega
  have v2 : ¬ (s.length : Int) < 1 := by omega
  have v3 : ¬ (32 : Int) < (s.length : Int) := by omega
  have v4 : ((a.length : Int) == 0) = false := beq_eq_false_iff_ne.2 (by omega)
  have v5 : ((b.length : Int) == 0) = false := beq_eq_false_iff_ne.2 (by omega)
  have K0 : Hid (Calls Try.prog 82 #[.slice A0 a.length c0] w fun e w' => e = .returned (.bool true) ∧ w = w') := hka ▸ l02Keys_gen A0 c0 a w X0.out
  have K1 : Hid (Calls Try.prog 82 #[.slice A1 b.length c1] w fun e w' => e = .returned (.bool true) ∧ w = w') := hkb ▸ l02Keys_gen A1 c1 b w X1.out
  have K2 : Hid (Calls Try.prog 82 #[.slice A2 s.length c2] w fun e w' => e = .returned (.bool true) ∧ w = w') := hks ▸ l02Keys_gen A2 c2 s w X2.out
  clear hka hkb hks hba hbb hbs bad hg
  go_enter Try.func32, Try.ntmps32
  go_wp2_with (first | (go_at_call 82; with_reducible refine K0.out.mono ?_; rintro e w' ⟨rfl, rfl⟩) | (go_at_call 82; with_reducible refine K1.out.mono ?_; rintro e w' ⟨rfl, rfl⟩) | (go_at_call 82; with_reducible refine K2.out.mono ?_; rintro e w' ⟨rfl, rfl⟩))
  go_loopw [8, 9] (fun v i wr => ∃ k z n : Nat, k ≤ s.length ∧ i = .int .i64 k ∧ v = .int .i64 z ∧ z ≤ k ∧ wr = w.drewN n ∧ Hid (likeTo a b s k = z)) (fun v i _ => s.length - (intOf i).toNat)
  case atStart => exact ⟨0, 0, 0, Nat.zero_le _, rfl, rfl, Nat.le_refl _, rfl, rfl⟩
  case round =>
    obtain ⟨k, z, n, hk, rfl, rfl, hzk, rfl, hh⟩ := hrel
    by_cases hlt : k < s.length
    · have hi : (k : Int) < (s.length : Int) := by omega
      obtain ⟨bs, os, y, rfl, hcy, hyk⟩ := X2.out.at_ hlt
      have hyb_ := BS.out y (List.mem_of_getElem? hyk.out)
      obtain ⟨yn, rfl⟩ := Int.eq_ofNat_of_zero_le hyb_.1
      have hyl : yn < 4294967296 := by omega
      have hla := leastTo_lt a yn hpa
      have hlb := leastTo_lt b yn hpb
      obtain ⟨ka, hkae⟩ : ∃ q, q = leastTo a yn a.length := ⟨_, rfl⟩
      obtain ⟨kb, hkbe⟩ : ∃ q, q = leastTo b yn b.length := ⟨_, rfl⟩
      have C1 : Hid (∀ j, Calls Try.prog 83 #[.slice A0 a.length c0, .int .i64 (yn : Int)] (w.drewN j) fun e w' => e = .returned (.int .i64 ka) ∧ ∃ m, w' = (w.drewN j).drewN m) := fun j => hkae ▸ l02LeastAt_any A0 c0 a yn (w.drewN j) (X0.out.drewN j) hn0 hpa BA.out hyl
      have C2 : Hid (∀ j, Calls Try.prog 83 #[.slice A1 b.length c1, .int .i64 (yn : Int)] (w.drewN j) fun e w' => e = .returned (.int .i64 kb) ∧ ∃ m, w' = (w.drewN j).drewN m) := fun j => hkbe ▸ l02LeastAt_any A1 c1 b yn (w.drewN j) (X1.out.drewN j) hn1 hpb BB.out hyl
      have HLA := hid hkae
      have HLB := hid hkbe
      rw [← hkae] at hla
      rw [← hkbe] at hlb
      clear hkae hkbe hyb_
      obtain ⟨b0, o0, ya, hA0, hca, hya⟩ := X0.out.at_ hla
      obtain ⟨b1, o1, yb, hA1, hcb, hyb⟩ := X1.out.at_ hlb
      have hstep : likeTo a b s (k + 1) = z + (ya == yb).toNat := by
        rw [likeTo_succ, hh.out, getD_of hyk]
        simp only [Int.toNat_natCast, sameAt]
        rw [← HLA.out, ← HLB.out, getD_of hya, getD_of hyb]
      have HS := hid hstep
      clear hstep
      have i0 : (ka : Int) < (a.length : Int) := by omega
      have i1 : (kb : Int) < (b.length : Int) := by omega
      have HX0 := hid hla
      subst hA0 hA1
      cases hab : (ya == yb) with
      | true =>
        have he : Hid (likeTo a b s (k + 1) = z + 1) := by show _ = _; rw [HS.out, hab]; rfl
        go_wp2
        go_quiet ((go_at_call 83; first | with_reducible exact quiet_moreN (C1.out _) | with_reducible exact quiet_moreN (C2.out _)))
        go_wp2
        exact ⟨⟨k + 1, z + 1, _, by omega, by go_num, by go_num, by omega, rfl, he⟩, by simp [intOf]; omega⟩
      | false =>
        have he : Hid (likeTo a b s (k + 1) = z) := by show _ = _; rw [HS.out, hab]; rfl
        go_wp2
        go_quiet ((go_at_call 83; first | with_reducible exact quiet_moreN (C1.out _) | with_reducible exact quiet_moreN (C2.out _)))
        go_wp2
        exact ⟨⟨k + 1, z, _, by omega, by go_num, rfl, by omega, rfl, he⟩, by simp [intOf]; omega⟩
    · have hi : ¬ (k : Int) < (s.length : Int) := by omega
      obtain rfl : k = s.length := by omega
      have hzz := hh.out
      subst hzz
      go_wp2_with (simp only [hq])
      go_ret2
      exact ⟨by rw [hp.out]; rfl, below_drewN (Below.refl _ _) _⟩
set_option maxRecDepth 100000 in
set_option maxHeartbeats 3200000 in
theorem iLikeShare_any (A0 : Option Addr) (c0 : Nat) (a : List Int) (A1 : Option Addr) (c1 : Nat) (b : List Int) (A2 : Option Addr) (c2 : Nat) (s : List Int) (w : World) (hx0 : RdL (Value.int .i64) w A0 a) (hn0 : a.length ≤ 1048576) (we0 : ∀ y ∈ a, W64 y) (hx1 : RdL (Value.int .i64) w A1 b) (hn1 : b.length ≤ 1048576) (we1 : ∀ y ∈ b, W64 y) (hx2 : RdL (Value.int .i64) w A2 s) (hn2 : s.length ≤ 1048576) (we2 : ∀ y ∈ s, W64 y) :
    Calls Try.prog 33 #[.slice A0 a.length c0, .slice A1 b.length c1, .slice A2 s.length c2] w fun e w' => e = .returned (.tuple #[.float .f32 (pLikeShare a b s).1, .bool (pLikeShare a b s).2]) ∧ Below w.heap.size w w' := by
  have X0 := hid hx0
  have X1 := hid hx1
  have X2 := hid hx2
  clear hx0 hx1 hx2 we0 we1 we2
  have bad : ∀ u0 u1 u2 v0 v1 v2 v3 : Bool, keysB a = u0 → keysB b = u1 → allB s 0 4294967295 = u2 → decide ((a.length : Int) < 1) = v0 → decide ((b.length : Int) < 1) = v1 → decide ((s.length : Int) < 1) = v2 → decide ((s.length : Int) > 32) = v3 → (u0 && u1 && u2 && !v0 && !v1 && !v2 && !v3) = false →
      Calls Try.prog 33 #[.slice A0 a.length c0, .slice A1 b.length c1, .slice A2 s.length c2] w fun e w' => e = .returned (.tuple #[.float .f32 0, .bool false]) ∧ Below w.heap.size w w' := by
    intro u0 u1 u2 v0 v1 v2 v3 hu0 hu1 hu2 hv0 hv1 hv2 hv3 hno
    have K0 : Hid (Calls Try.prog 84 #[.slice A0 a.length c0] w fun e w' => e = .returned (.bool u0) ∧ w = w') := hu0 ▸ AreKeys_any A0 c0 a w X0.out hn0
    have K1 : Hid (Calls Try.prog 84 #[.slice A1 b.length c1] w fun e w' => e = .returned (.bool u1) ∧ w = w') := hu1 ▸ AreKeys_any A1 c1 b w X1.out hn1
    have K2 : Hid (Calls Try.prog 85 #[.slice A2 s.length c2] w fun e w' => e = .returned (.bool u2) ∧ w = w') := hu2 ▸ areAllKeys_any A2 c2 s w X2.out hn2
    have hv3' : decide ((32 : Int) < (s.length : Int)) = v3 := hv3
    have hc0 : ((a.length : Int) == 0) = v0 := eq0_lt1 _ _ hv0
    have hc1 : ((b.length : Int) == 0) = v1 := eq0_lt1 _ _ hv1
    clear hu0 hu1 hu2
    cases u0
    case' true =>
      cases u1
      case' true =>
        cases v0
        case' false =>
          cases v1
          case' false =>
            cases v2
            case' false =>
              cases v3
              case' false =>
                cases u2
    all_goals
      first
      | (exfalso; revert hno; decide)
      | (clear hno
         try simp only [decide_eq_true_eq, decide_eq_false_iff_not] at hv0
         try simp only [decide_eq_true_eq, decide_eq_false_iff_not] at hv1
         try simp only [decide_eq_true_eq, decide_eq_false_iff_not] at hv2
         try simp only [decide_eq_true_eq, decide_eq_false_iff_not] at hv3
         try simp only [decide_eq_true_eq, decide_eq_false_iff_not] at hv3'
         go_enter Try.func33, Try.ntmps33
         go_wp2_with (first | (go_at_call 84; with_reducible refine K0.out.mono ?_; rintro e w' ⟨rfl, rfl⟩) | (go_at_call 84; with_reducible refine K1.out.mono ?_; rintro e w' ⟨rfl, rfl⟩) | (go_at_call 85; with_reducible refine K2.out.mono ?_; rintro e w' ⟨rfl, rfl⟩))
         go_ret2
         exact ⟨rfl, Below.refl _ _⟩)
  cases hg : vLike a b s with
  | false =>
    have hp : pLikeShare a b s = (0, false) := by unfold pLikeShare; rw [if_neg (by simp [hg])]
    rw [hp]
    refine bad _ _ _ _ _ _ _ rfl rfl rfl rfl rfl rfl rfl ?_
    unfold vLike at hg
    by_cases h32 : (s.length : Int) > 32
    · rw [decide_eq_true h32]; simp
    · have hks : keysB s = allB s 0 4294967295 := by unfold keysB; rw [decide_eq_true (by omega), Bool.true_and]
      rw [hks] at hg
      exact hg
  | true =>
  obtain ⟨hka, hkb, hks, hpa, hpb, hps, hs32⟩ := vLike_iff hg
  obtain ⟨ha256, hba⟩ := keysB_iff hka
  obtain ⟨hb256, hbb⟩ := keysB_iff hkb
  obtain ⟨_, hbs⟩ := keysB_iff hks
  have hp : Hid (pLikeShare a b s = (shareB (likeTo a b s s.length) s.length, true)) := by show _ = _; unfold pLikeShare; rw [if_pos hg]
  have hq : ∀ t w, (binOp .quo t (.float .f32 (floatOfInt .f32 (likeTo a b s s.length : Int))) (.float .f32 (floatOfInt .f32 (s.length : Int)))).run Try.prog w = .ok (.float .f32 (shareB (likeTo a b s s.length) s.length)) w := fun t w => run_float_arith w .quo t .f32 _ _ _ (shareB_spec (likeTo_le a b s s.length) hps (by omega)).1
  have BA := hid hba
  have BB := hid hbb
  have BS := hid hbs
  have v0 : ¬ (a.length : Int) < 1 := by omega
  have v1 : ¬ (b.length : Int) < 1 := by omega
  have v2 : ¬ (s.length : Int) < 1 := by omega
  have v3 : ¬ (32 : Int) < (s.length : Int) := by omega
  have v4 : ((a.length : Int) == 0) = false := beq_eq_false_iff_ne.2 (by omega)
  have v5 : ((b.length : Int) == 0) = false := beq_eq_false_iff_ne.2 (by omega)
  have K0 : Hid (Calls Try.prog 84 #[.slice A0 a.length c0] w fun e w' => e = .returned (.bool true) ∧ w = w') := hka ▸ AreKeys_any A0 c0 a w X0.out hn0
  have K1 : Hid (Calls Try.prog 84 #[.slice A1 b.length c1] w fun e w' => e = .returned (.bool true) ∧ w = w') := hkb ▸ AreKeys_any A1 c1 b w X1.out hn1
  have hal : allB s 0 4294967295 = true := by unfold keysB at hks; rw [Bool.and_eq_true] at hks; exact hks.2
  have K2 : Hid (Calls Try.prog 85 #[.slice A2 s.length c2] w fun e w' => e = .returned (.bool true) ∧ w = w') := hal ▸ areAllKeys_any A2 c2 s w X2.out hn2
  clear hal
  clear hka hkb hks hba hbb hbs bad hg
  go_enter Try.func33, Try.ntmps33
  go_wp2_with (first | (go_at_call 84; with_reducible refine K0.out.mono ?_; rintro e w' ⟨rfl, rfl⟩) | (go_at_call 84; with_reducible refine K1.out.mono ?_; rintro e w' ⟨rfl, rfl⟩) | (go_at_call 85; with_reducible refine K2.out.mono ?_; rintro e w' ⟨rfl, rfl⟩))
  go_loopw [8, 10, 11, 12, 13, 14, 50] (fun v e1_ e2_ e3_ e4_ e5_ i wr => ∃ k z : Nat, k ≤ s.length ∧ i = .int .i64 k ∧ v = .int .i64 z ∧ z ≤ k ∧ Hid (Below w.heap.size w wr) ∧ Hid (likeTo a b s k = z)) (fun v e1_ e2_ e3_ e4_ e5_ i _ => s.length - (intOf i).toNat)
  case atStart => exact ⟨0, 0, Nat.zero_le _, rfl, rfl, Nat.le_refl _, Below.refl _ _, rfl⟩
  case round =>
    obtain ⟨k, z, hk, rfl, rfl, hzk, hW, hh⟩ := hrel
    by_cases hlt : k < s.length
    · have hi : (k : Int) < (s.length : Int) := by omega
      obtain ⟨bs, os, y, rfl, hcy, hyk⟩ := (X2.out.below hW.out).at_ hlt
      have hyb_ := BS.out y (List.mem_of_getElem? hyk.out)
      obtain ⟨yn, rfl⟩ := Int.eq_ofNat_of_zero_le hyb_.1
      have hyl : yn < 4294967296 := by omega
      have hla := leastTo_lt a yn hpa
      have hlb := leastTo_lt b yn hpb
      have L0 := hid (fun w' (h : RdL (Value.int .i64) w' A0 a) => least_any A0 c0 a yn w' h ha256 hpa BA.out hyl)
      have L1 := hid (fun w' (h : RdL (Value.int .i64) w' A1 b) => least_any A1 c1 b yn w' h hb256 hpb BB.out hyl)
      obtain ⟨ka, hkae⟩ : ∃ q, q = leastTo a yn a.length := ⟨_, rfl⟩
      obtain ⟨kb, hkbe⟩ : ∃ q, q = leastTo b yn b.length := ⟨_, rfl⟩
      rw [← hkae] at hla L0
      rw [← hkbe] at hlb L1
      have HLA := hid hkae
      have HLB := hid hkbe
      clear hkae hkbe hyb_
      obtain ⟨ha_, hae⟩ : ∃ q, q = hashAt a yn ka := ⟨_, rfl⟩
      obtain ⟨hb_, hbe⟩ : ∃ q, q = hashAt b yn kb := ⟨_, rfl⟩
      rw [← hae] at L0
      rw [← hbe] at L1
      clear hae hbe
      go_wp2_with fail
      refine (L0.out _ (X0.out.below hW.out)).mono ?_
      rintro e w2 ⟨rfl, hb1⟩
      have W2 := hid (hW.out.trans (hb1.mono hW.out.size))
      clear hb1 hcy
      go_wp2_with fail
      refine (L1.out _ (X1.out.below W2.out)).mono ?_
      rintro e w3 ⟨rfl, hb1⟩
      have W3 := hid (W2.out.trans (hb1.mono W2.out.size))
      clear hb1 L0 L1
      obtain ⟨b0, o0, ya, hA0, hca, hya⟩ := (X0.out.below W3.out).at_ hla
      obtain ⟨b1, o1, yb, hA1, hcb, hyb⟩ := (X1.out.below W3.out).at_ hlb
      have hstep : likeTo a b s (k + 1) = z + (ya == yb).toNat := by
        rw [likeTo_succ, hh.out, getD_of hyk]
        simp only [Int.toNat_natCast, sameAt]
        rw [← HLA.out, ← HLB.out, getD_of hya, getD_of hyb]
      have HS := hid hstep
      clear hstep
      have i0 : (ka : Int) < (a.length : Int) := by omega
      have i1 : (kb : Int) < (b.length : Int) := by omega
      subst hA0 hA1
      cases hab : (ya == yb) with
      | true =>
        have he : Hid (likeTo a b s (k + 1) = z + 1) := by show _ = _; rw [HS.out, hab]; rfl
        go_wp2
        go_quiet (fail)
        go_wp2
        exact ⟨⟨k + 1, z + 1, by omega, by go_num, by go_num, by omega, below_drewX W3.out, he⟩, by simp [intOf]; omega⟩
      | false =>
        have he : Hid (likeTo a b s (k + 1) = z) := by show _ = _; rw [HS.out, hab]; rfl
        go_wp2
        go_quiet (fail)
        go_wp2
        exact ⟨⟨k + 1, z, by omega, by go_num, rfl, by omega, below_drewX W3.out, he⟩, by simp [intOf]; omega⟩
    · have hi : ¬ (k : Int) < (s.length : Int) := by omega
      obtain rfl : k = s.length := by omega
      have hzz := hh.out
      subst hzz
      go_wp2_with (simp only [hq])
      go_ret2
      exact ⟨by rw [hp.out]; rfl, hW.out⟩
end Go.Proofs.Ytnngepnfljkbhaa
