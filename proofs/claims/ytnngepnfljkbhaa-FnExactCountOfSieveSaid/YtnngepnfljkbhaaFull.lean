/-
  How full a sieve is: reference and program, by contracts.
-/
import Derived.Test.YtnngepnfljkbhaaFloat
import Derived.Test.YtnngepnfljkbhaaSieve
import Derived.Test.YtnngepnfljkbhaaRet
import Derived.Laws.Cover2
namespace Go.Proofs.Ytnngepnfljkbhaa
open Go.RowKit Ieee
set_option linter.unusedVariables false
set_option linter.unusedSimpArgs false

set_option maxHeartbeats 1600000 in
set_option maxRecDepth 100000 in
theorem sameFloat_refl (d : Nat) (w : World) (h : NN double d) : Calls Try.prog 19 #[.float .f64 d, .float .f64 d] w fun e w' => e = .returned (.bool true) ∧ w = w' := by
  have ho : FloatKind.f64.format.order d d = some .eq := order_self h
  cases hz : (FloatKind.f64.format.order d 0 == some .eq) with
  | true =>
    obtain ⟨r, hr⟩ := one_quo_zero h (beq_iff_eq.1 hz)
    have hq : ∀ t w, (binOp .quo t (.float .f64 4607182418800017408) (.float .f64 d)).run Try.prog w = .ok (.float .f64 r) w := fun t w => run_float_arith w .quo t .f64 _ _ r hr
    have HH := hid h
    clear h hr
    go_enter Try.func19, Try.ntmps19
    go_wp2_with (simp only [hq])
    go_ret
    exact ⟨ret_bool (by simp), rfl⟩
  | false =>
    have HH := hid h
    clear h
    go_enter Try.func19, Try.ntmps19
    go_wp2
    go_ret
    exact ⟨ret_bool (by simp [ho]), rfl⟩
/-- How many are true. -/
def countT (x : List Bool) : Nat := x.countP id
theorem countT_le (x : List Bool) : countT x ≤ x.length := List.countP_le_length
theorem countT_snoc {x : List Bool} {k : Nat} {b : Bool} (h : Hid (x[k]? = some b)) : countT (x.take (k + 1)) = countT (x.take k) + b.toNat := by
  unfold countT
  rw [List.take_add_one, h.out]
  cases b <;> simp
/-- How full. -/
def fullB (x : List Bool) : Nat := shareB (countT x) x.length
theorem fullB_spec {x : List Bool} (h0 : 0 < x.length) (h1 : x.length ≤ 1048576) : floatBits .quo .f32 (floatOfInt .f32 (countT x : Int)) (floatOfInt .f32 (x.length : Int)) = some (fullB x) ∧ Lg (fullB x) 1 :=
  shareB_spec (countT_le x) h0 (by omega)
set_option maxHeartbeats 1600000 in
theorem l04Full_any (p o c : Nat) (A : Option Addr) (x : List Bool) (w : World) (h2 : w.cell? ⟨p, o + 2, none⟩ = some (.slice A x.length c)) (hx : RdL Value.bool w A x) (h0 : 0 < x.length) (hn : x.length ≤ 1048576) :
    Calls Try.prog 64 #[.pointer (some ⟨p, o, none⟩)] w fun e w' => e = .returned (.float .f32 (fullB x)) ∧ w = w' := by
  have HX := hid hx
  have hq : ∀ t w, (binOp .quo t (.float .f32 (floatOfInt .f32 (countT x : Int))) (.float .f32 (floatOfInt .f32 (x.length : Int)))).run Try.prog w = .ok (.float .f32 (fullB x)) w := fun t w => run_float_arith w .quo t .f32 _ _ _ (fullB_spec h0 hn).1
  clear hx
  go_enter Try.func64, Try.ntmps64
  go_wp2
  go_loop [3, 4] (fun v i => ∃ k z : Nat, k ≤ x.length ∧ i = .int .i64 k ∧ v = .int .i64 z ∧ z ≤ k ∧ Hid (countT (x.take k) = z)) (fun v i => x.length - (intOf i).toNat)
  case atStart => exact ⟨0, 0, Nat.zero_le _, rfl, rfl, Nat.le_refl _, rfl⟩
  case round =>
    obtain ⟨k, z, hk, rfl, rfl, hzk, hh⟩ := hrel
    by_cases hlt : k < x.length
    · have hi : (k : Int) < (x.length : Int) := by omega
      obtain ⟨b', o', b, rfl, hc, hxk⟩ := HX.out.at_ hlt
      have he : Hid (countT (x.take (k + 1)) = z + b.toNat) := by show _ = _; rw [countT_snoc hxk, hh.out]
      cases b with
      | true =>
        go_wp2_with (simp only [hq])
        exact ⟨⟨k + 1, z + 1, by omega, by go_num, by go_num, by omega, he⟩, by simp [intOf]; omega⟩
      | false =>
        go_wp2_with (simp only [hq])
        exact ⟨⟨k + 1, z, by omega, by go_num, rfl, by omega, he⟩, by simp [intOf]; omega⟩
    · have hi : ¬ (k : Int) < (x.length : Int) := by omega
      have he := hh.out
      rw [List.take_of_length_le (by omega)] at he
      subst he
      go_wp2_with (simp only [hq])
      go_ret
      exact ⟨rfl, rfl⟩
theorem ret_fi {a : Nat} {b b' : Int} (h : b = b') : Ending.returned (.tuple #[.float .f32 a, .int .i64 b]) = .returned (.tuple #[.float .f32 a, .int .i64 b']) := by rw [h]
set_option maxHeartbeats 1600000 in
theorem ifull_any (r s : Int) (c : Nat) (A : Option Addr) (x : List Bool) (w : World) (hx : RdL Value.bool w A x) (h0 : 0 < x.length) (hn : x.length ≤ 1048576) :
    Calls Try.prog 67 #[.agg #[.int .i64 r, .int .i64 s, .slice A x.length c]] w fun e w' => e = .returned (.tuple #[.float .f32 (fullB x), .int .i64 (countT x)]) ∧ Below w.heap.size w w' := by
  have HX := hid (hx.below (below_a1 w (.cells #[.int .i64 r, .int .i64 s, .slice A x.length c] 29)))
  have hq : ∀ t w, (binOp .quo t (.float .f32 (floatOfInt .f32 (countT x : Int))) (.float .f32 (floatOfInt .f32 (x.length : Int)))).run Try.prog w = .ok (.float .f32 (fullB x)) w := fun t w => run_float_arith w .quo t .f32 _ _ _ (fullB_spec h0 hn).1
  clear hx
  go_enter Try.func67, Try.ntmps67
  go_wp2
  go_loop [4, 6, 10] (fun v e_ i => ∃ k z : Nat, k ≤ x.length ∧ i = .int .i64 k ∧ v = .int .i64 z ∧ z ≤ k ∧ Hid (countT (x.take k) = z)) (fun v e_ i => x.length - (intOf i).toNat)
  case atStart => exact ⟨0, 0, Nat.zero_le _, rfl, rfl, Nat.le_refl _, rfl⟩
  case round =>
    obtain ⟨k, z, hk, rfl, rfl, hzk, hh⟩ := hrel
    by_cases hlt : k < x.length
    · have hi : (k : Int) < (x.length : Int) := by omega
      obtain ⟨b', o', b, rfl, hc, hxk⟩ := HX.out.at_ hlt
      have he : Hid (countT (x.take (k + 1)) = z + b.toNat) := by show _ = _; rw [countT_snoc hxk, hh.out]
      cases b with
      | true =>
        go_wp2_with (simp only [hq])
        exact ⟨⟨k + 1, z + 1, by omega, by go_num, by go_num, by omega, he⟩, by simp [intOf]; omega⟩
      | false =>
        go_wp2_with (simp only [hq])
        exact ⟨⟨k + 1, z, by omega, by go_num, rfl, by omega, he⟩, by simp [intOf]; omega⟩
    · have hi : ¬ (k : Int) < (x.length : Int) := by omega
      have he := hh.out
      rw [List.take_of_length_le (by omega)] at he
      subst he
      go_wp2_with (simp only [hq])
      go_ret2
      exact ⟨rfl, below_a1 _ _⟩
theorem nn_zero : NN single 0 := ⟨false, .inl ⟨0, -149, read_low 0 (by omega)⟩⟩
/-- What FullOfSieve returns. -/
def pFullOfSieve (r s : Int) (x : List Bool) : Nat × Bool := if vSieve r s x.length = true then (fullB x, true) else (0, false)
theorem vSieve_len {r s : Int} {n : Nat} (h : vSieve r s n = true) : 0 < n ∧ n ≤ 512 ∧ 1 ≤ r ∧ r ≤ 8 := by
  simp only [vSieve, Bool.and_eq_true, inB_iff, decide_eq_true_eq] at h
  omega
theorem nn_FullOfSieve (r s : Int) (x : List Bool) : NN single (pFullOfSieve r s x).1 := by
  unfold pFullOfSieve
  split
  · rename_i h
    obtain ⟨h1, h2, _⟩ := vSieve_len h
    exact (fullB_spec h1 (by omega)).2.sg.nn
  · exact nn_zero
/-- What FalseShare returns. -/
def pFalseShare (r s : Int) (x : List Bool) : Nat × Bool := if vSieve r s x.length = true then (powB (fullB x) (r.toNat - 1), true) else (0, false)
theorem nn_FalseShare (r s : Int) (x : List Bool) : NN single (pFalseShare r s x).1 := by
  unfold pFalseShare
  split
  · rename_i h
    obtain ⟨h1, h2, _, h3⟩ := vSieve_len h
    exact (powB_spec (fullB_spec h1 (by omega)).2 (r.toNat - 1) (by omega)).1.sg.nn
  · exact nn_zero
set_option maxHeartbeats 1600000 in
theorem sFalseShare_any (r s : Int) (A : Option Addr) (c : Nat) (x : List Bool) (w : World) (hr : W64 r) (hs : W64 s) (hx : RdL Value.bool w A x) (hn : x.length ≤ 1048576) :
    Calls Try.prog 16 #[.agg #[.int .i64 r, .int .i64 s, .slice A x.length c]] w fun e w' => e = .returned (.tuple #[.float .f32 (pFalseShare r s x).1, .bool (pFalseShare r s x).2]) ∧ Below w.heap.size w w' := by
  have HX := hid (hx.below (below_a1 w (.cells #[.int .i64 r, .int .i64 s, .slice A x.length c] 29)))
  obtain ⟨k0, k1, k2⟩ := (Blk.new w 29 [.int .i64 r, .int .i64 s, .slice A x.length c]).cells3
  clear hx hr hs
  cases hv : vSieve r s x.length with
  | false =>
    have hp : Hid (pFalseShare r s x = (0, false)) := by show _ = _; simp [pFalseShare, hv]
    go_enter Try.func16, Try.ntmps16
    go_wp2_with fail
    refine (l04Is_any w.heap.size 0 x.length c A r s _ k0 k1 k2).mono ?_
    rw [hv]
    rintro e w1 ⟨rfl, rfl⟩
    clear hv
    go_wp2
    go_ret2
    exact ⟨by rw [hp.out]; rfl, below_a1 _ _⟩
  | true =>
    obtain ⟨h1, h2, h3, h4⟩ := vSieve_len hv
    obtain ⟨r, rfl⟩ := Int.eq_ofNat_of_zero_le (show 0 ≤ r by omega)
    have hp : Hid (pFalseShare r s x = (powB (fullB x) (r - 1), true)) := by show _ = _; simp [pFalseShare, hv]
    have HM := hid (fun k (h : k ≤ 20) => (powB_spec (fullB_spec (x := x) h1 (by omega)).2 k h).2)
    obtain ⟨q, hq⟩ : ∃ q, q = fullB x := ⟨_, rfl⟩
    have HQ := hid hq
    rw [← hq] at HM hp
    clear hq
    go_enter Try.func16, Try.ntmps16
    go_wp2_with fail
    refine (l04Is_any w.heap.size 0 x.length c A r s _ k0 k1 k2).mono ?_
    rw [hv]
    rintro e w1 ⟨rfl, rfl⟩
    clear hv
    go_wp2_with fail
    refine (l04Full_any w.heap.size 0 c A x _ k2 HX.out h1 hn).mono ?_
    rw [← HQ.out]
    rintro e w1 ⟨rfl, rfl⟩
    go_wp2
    go_loop [5, 6] (fun v i => ∃ k : Nat, 1 ≤ k ∧ k ≤ r ∧ i = .int .i64 k ∧ ∃ z : Nat, v = .float .f32 z ∧ Hid (powB q (k - 1) = z)) (fun v i => r - (intOf i).toNat)
    case atStart => exact ⟨1, Nat.le_refl _, by omega, rfl, _, rfl, rfl⟩
    case round =>
      obtain ⟨k, hk1, hk, rfl, z, rfl, hh⟩ := hrel
      by_cases hlt : k < r
      · have hi : (k : Int) < (r : Int) := by omega
        have hm := HM.out (k - 1) (by omega)
        rw [hh.out, show k - 1 + 1 = k by omega] at hm
        have hq : ∀ t w, (binOp .mul t (.float .f32 z) (.float .f32 q)).run Try.prog w = .ok (.float .f32 (powB q k)) w := fun t w => run_float_arith w .mul t .f32 _ _ _ hm
        clear hm
        go_wp2_with (simp only [hq])
        exact ⟨⟨k + 1, by omega, by omega, by go_num, _, rfl, rfl⟩, by simp [intOf]; omega⟩
      · have hi : ¬ (k : Int) < (r : Int) := by omega
        obtain rfl : k = r := by omega
        go_wp2
        go_ret2
        exact ⟨by rw [hp.out, hh.out]; rfl, below_a1 _ _⟩
set_option maxHeartbeats 1600000 in
theorem iFalseShare_any (r s : Int) (A : Option Addr) (c : Nat) (x : List Bool) (w : World) (hr : W64 r) (hs : W64 s) (hx : RdL Value.bool w A x) (hn : x.length ≤ 1048576) :
    Calls Try.prog 18 #[.agg #[.int .i64 r, .int .i64 s, .slice A x.length c]] w fun e w' => e = .returned (.tuple #[.float .f32 (pFalseShare r s x).1, .bool (pFalseShare r s x).2]) ∧ Below w.heap.size w w' := by
  have HX := hid (hx.below (below_a1 w (.cells #[.int .i64 r, .int .i64 s, .slice A x.length c] 29)))
  have B0 := hid (Blk.new w 29 [.int .i64 r, .int .i64 s, .slice A x.length c])
  clear hx
  cases hv : vSieve r s x.length with
  | false =>
    have hp : Hid (pFalseShare r s x = (0, false)) := by show _ = _; simp [pFalseShare, hv]
    go_enter Try.func18, Try.ntmps18
    go_wp2_with fail
    refine (iValidSieve_any r s A c x _ hr hs HX.out hn).mono ?_
    rw [hv]
    rintro e w1 ⟨rfl, hb⟩
    have S1 := below_call (below_a1 _ _) hb
    clear hv hb
    go_wp2
    go_ret2
    exact ⟨by rw [hp.out]; rfl, S1.out⟩
  | true =>
    obtain ⟨h1, h2, h3, h4⟩ := vSieve_len hv
    obtain ⟨r, rfl⟩ := Int.eq_ofNat_of_zero_le (show 0 ≤ r by omega)
    have hp : Hid (pFalseShare r s x = (powB (fullB x) (r - 1), true)) := by show _ = _; simp [pFalseShare, hv]
    have HM := hid (fun k (h : k ≤ 20) => (powB_spec (fullB_spec (x := x) h1 (by omega)).2 k h).2)
    obtain ⟨q, hq⟩ : ∃ q, q = fullB x := ⟨_, rfl⟩
    have HQ := hid hq
    rw [← hq] at HM hp
    clear hq
    go_enter Try.func18, Try.ntmps18
    go_wp2_with fail
    refine (iValidSieve_any r s A c x _ hr hs HX.out hn).mono ?_
    rw [hv]
    rintro e w1 ⟨rfl, hb⟩
    have S1 := below_call (below_a1 _ _) hb
    have X1 := hid (HX.out.below hb)
    have B1 := hid (B0.out.below hb)
    obtain ⟨k0, k1, k2⟩ := B1.out.cells3
    clear hv hb
    go_wp2_with fail
    refine (ifull_any r s c A x _ X1.out h1 hn).mono ?_
    rw [← HQ.out]
    rintro e w2 ⟨rfl, hb⟩
    have S2 := hid (S1.out.trans (hb.mono S1.out.size))
    clear k0 k1 k2
    obtain ⟨k0, k1, k2⟩ := (B1.out.below hb).cells3
    clear hb k1 k2
    go_wp2
    go_loop [6, 19] (fun v i => ∃ k : Nat, k + 1 ≤ r ∧ i = .int .i64 k ∧ ∃ z : Nat, v = .float .f32 z ∧ Hid (powB q k = z)) (fun v i => r - (intOf i).toNat)
    case atStart => exact ⟨0, by omega, rfl, _, rfl, rfl⟩
    case round =>
      obtain ⟨k, hk, rfl, z, rfl, hh⟩ := hrel
      by_cases hlt : k + 1 < r
      · have hi : (k : Int) < (r : Int) - 1 := by omega
        have hm := HM.out k (by omega)
        rw [hh.out] at hm
        have hq : ∀ t w, (binOp .mul t (.float .f32 z) (.float .f32 q)).run Try.prog w = .ok (.float .f32 (powB q (k + 1))) w := fun t w => run_float_arith w .mul t .f32 _ _ _ hm
        clear hm
        go_wp2_with (simp only [hq])
        exact ⟨⟨k + 1, by omega, by go_num, _, rfl, rfl⟩, by simp [intOf]; omega⟩
      · have hi : ¬ (k : Int) < (r : Int) - 1 := by omega
        obtain rfl : k = r - 1 := by omega
        go_wp2
        go_ret2
        exact ⟨by rw [hp.out, hh.out]; rfl, S2.out⟩
end Go.Proofs.Ytnngepnfljkbhaa
