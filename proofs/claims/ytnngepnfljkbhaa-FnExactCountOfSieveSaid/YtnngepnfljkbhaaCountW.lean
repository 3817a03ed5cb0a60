/-
  CountOfSieve, reference and program, by contracts.
-/
import Derived.Test.YtnngepnfljkbhaaLogWalk
import Derived.Deep.QuietTactic
namespace Go.Proofs.Ytnngepnfljkbhaa
open Go.RowKit Ieee
set_option linter.unusedVariables false
set_option linter.unusedSimpArgs false

set_option maxHeartbeats 1600000 in
theorem finite2_any (r : Nat) (w : World) (h : floatBits .sub .f32 r r = some 0) : Calls Try.prog 126 #[.float .f32 r] w fun e w' => e = .returned (.bool true) ∧ w = w' := by
  have hq : ∀ t w, (binOp .sub t (.float .f32 r) (.float .f32 r)).run Try.prog w = .ok (.float .f32 0) w := fun t w => run_float_arith w .sub t .f32 _ _ _ h
  have hz : FloatKind.f32.format.order 0 0 = some .eq := z32
  clear h
  go_enter Try.func126, Try.ntmps126
  go_wp2_with (simp only [hq])
  go_ret
  exact ⟨ret_bool (by simp [hz]), rfl⟩
theorem number2_any (r : Nat) (w : World) (h : floatBits .sub .f32 r r = some 0) : Calls Try.prog 78 #[.float .f32 r] w fun e w' => e = .returned (.tuple #[.float .f32 r, .bool true]) ∧ w = w' := by
  have HH := hid h
  clear h
  go_enter Try.func78, Try.ntmps78
  go_wp2_with (go_at_call 126; refine (finite2_any r _ HH.out).mono ?_; rintro e w' ⟨rfl, rfl⟩)
  go_ret2
  exact ⟨rfl, rfl⟩
set_option maxRecDepth 100000 in
set_option maxHeartbeats 1600000 in
theorem sCountOfSieve_any (r s : Int) (A : Option Addr) (c : Nat) (x : List Bool) (w : World) (hr : W64 r) (hs : W64 s) (hx : RdL Value.bool w A x) (hn : x.length ≤ 1048576) :
    Calls Try.prog 39 #[.agg #[.int .i64 r, .int .i64 s, .slice A x.length c]] w fun e w' => e = .returned (.tuple #[.float .f32 (pCountOfSieve r s x).1, .bool (pCountOfSieve r s x).2]) ∧ Below w.heap.size w w' := by
  have HX := hid (hx.below (below_a1 w (.cells #[.int .i64 r, .int .i64 s, .slice A x.length c] 29)))
  obtain ⟨k0, k1, k2⟩ := (Blk.new w 29 [.int .i64 r, .int .i64 s, .slice A x.length c]).cells3
  clear hx hr hs
  cases hv : vSieve r s x.length with
  | false =>
    have hp : Hid (pCountOfSieve r s x = (0, false)) := by show _ = _; simp [pCountOfSieve, hv]
    go_enter Try.func39, Try.ntmps39
    go_wp2_with fail
    refine (l04Is_any w.heap.size 0 x.length c A r s _ k0 k1 k2).mono ?_
    rw [hv]
    rintro e w1 ⟨rfl, rfl⟩
    clear hv
    go_wp2
    go_ret2
    exact ⟨by rw [hp.out]; rfl, below_a1 _ _⟩
  | true =>
    obtain ⟨h1, h2, h3, h4⟩ := vSieve_len hv
    obtain ⟨R, rfl⟩ := Int.eq_ofNat_of_zero_le (show 0 ≤ r by omega)
    have hle := countT_le x
    obtain ⟨q, hq⟩ : ∃ q, q = fullB x := ⟨_, rfl⟩
    have C2 := hid (hq ▸ l04Full_any w.heap.size 0 c A x _ k2 HX.out h1 hn)
    rcases (show countT x = 0 ∨ countT x = x.length ∨ (0 < countT x ∧ countT x < x.length) by omega) with h5 | h5 | ⟨h5, h6⟩
    · have hp : Hid (pCountOfSieve (R : Int) s x = (0, true)) := by show _ = _; unfold pCountOfSieve; rw [if_pos hv, if_neg (by omega), if_pos h5]
      have hq0 : FloatKind.f32.format.order q 0 = some .eq := by rw [hq, fullB, h5, share_zero h1 (by omega)]; exact z32
      clear h5 hq hle
      go_enter Try.func39, Try.ntmps39
      go_wp2_with fail
      refine (l04Is_any w.heap.size 0 x.length c A R s _ k0 k1 k2).mono ?_
      rw [hv]
      rintro e w1 ⟨rfl, rfl⟩
      clear hv
      go_wp2_with fail
      refine C2.out.mono ?_
      rintro e w1 ⟨rfl, rfl⟩
      go_wp2
      go_ret2
      exact ⟨by rw [hp.out]; rfl, below_a1 _ _⟩
    · have hp : Hid (pCountOfSieve (R : Int) s x = (0, false)) := by show _ = _; unfold pCountOfSieve; rw [if_pos hv, if_pos h5]
      have hq1 : q = 1065353216 := by rw [hq, fullB, h5, share_one h1 h2]
      subst hq1
      have o1 : FloatKind.f32.format.order 1065353216 1065353216 = some .eq := one_one.1
      have o2 : FloatKind.f32.format.order 1065353216 0 = some .gt := one_one.2
      clear h5 hq hle
      go_enter Try.func39, Try.ntmps39
      go_wp2_with fail
      refine (l04Is_any w.heap.size 0 x.length c A R s _ k0 k1 k2).mono ?_
      rw [hv]
      rintro e w1 ⟨rfl, rfl⟩
      clear hv
      go_wp2_with fail
      refine C2.out.mono ?_
      rintro e w1 ⟨rfl, rfl⟩
      go_wp2
      go_ret2
      exact ⟨by rw [hp.out]; rfl, below_a1 _ _⟩
    · obtain ⟨Q, hQ⟩ : ∃ Q, Q = cntB (countT x) x.length R := ⟨_, rfl⟩
      have hp : Hid (pCountOfSieve (R : Int) s x = (Q, true)) := by show _ = _; unfold pCountOfSieve; rw [if_pos hv, if_neg (by omega), if_neg (by omega), Int.toNat_natCast, hQ]
      have pk := count_pkg (R := R) h5 h6 h2 (by omega) (by omega)
      have hqq : q = shareB (countT x) x.length := hq
      obtain ⟨r1, r2, r3, r4, r5, r6, r7, r8, r9⟩ := pk
      rw [← hQ] at r8 r9
      rw [← hqq] at r1 r2 r3 r4 r5 r6 r7 r8
      obtain ⟨z, hz⟩ : ∃ z, z = sS 1065353216 q := ⟨_, rfl⟩
      rw [← hz] at r1 r2 r3 r6 r7 r8
      obtain ⟨l, hl⟩ : ∃ l, l = lgB z := ⟨_, rfl⟩
      rw [← hl] at r6 r7 r8
      obtain ⟨M, hM⟩ : ∃ M, M = sM (floatOfInt .f32 (x.length : Int)) l := ⟨_, rfl⟩
      rw [← hM] at r6 r7 r8
      have o1 : FloatKind.f32.format.order q 0 = some .gt := r4
      have o2 : FloatKind.f32.format.order q 1065353216 = some .lt := r5
      have fn : ∀ b, Op.unary .neg (.float .f32 b) = pure (.float .f32 (Op.negFloat .f32 b)) := fun b => rfl
      have f1 : ∀ t w, (binOp .sub t (.float .f32 1065353216) (.float .f32 q)).run Try.prog w = .ok (.float .f32 z) w := fun t w => run_float_arith w .sub t .f32 _ _ _ r1
      have f2 : ∀ t w, (binOp .mul t (.float .f32 (Op.negFloat .f32 (floatOfInt .f32 (x.length : Int)))) (.float .f32 l)).run Try.prog w = .ok (.float .f32 (Op.negFloat .f32 M)) w := fun t w => run_float_arith w .mul t .f32 _ _ _ r7
      have f3 : ∀ t w, (binOp .quo t (.float .f32 (Op.negFloat .f32 M)) (.float .f32 (floatOfInt .f32 (R : Int)))).run Try.prog w = .ok (.float .f32 Q) w := fun t w => run_float_arith w .quo t .f32 _ _ _ r8
      have CL : Hid (∀ w, Calls Try.prog 92 #[.float .f32 z] w fun e w' => e = .returned (.float .f32 l) ∧ w = w') := fun w => hl ▸ l01Log_any z w r2 r3
      have CN : Hid (∀ w, Calls Try.prog 78 #[.float .f32 Q] w fun e w' => e = .returned (.tuple #[.float .f32 Q, .bool true]) ∧ w = w') := fun w => number2_any Q w (less_self r9)
      clear r1 r2 r3 r4 r5 r6 r7 r8 r9 hq hqq hz hl hM hQ h5 h6 hle
      go_enter Try.func39, Try.ntmps39
      go_wp2_with fail
      refine (l04Is_any w.heap.size 0 x.length c A R s _ k0 k1 k2).mono ?_
      rw [hv]
      rintro e w1 ⟨rfl, rfl⟩
      clear hv
      go_wp2_with fail
      refine C2.out.mono ?_
      rintro e w1 ⟨rfl, rfl⟩
      go_wp2
      go_quiet ((first | (go_at_call 92; refine Calls.quiet_of_same ((CL.out _).mono fun _ _ ⟨h, h'⟩ => ⟨h, h'.symm⟩)) | (go_at_call 78; refine Calls.quiet_of_same ((CN.out _).mono fun _ _ ⟨h, h'⟩ => ⟨h, h'.symm⟩))))
      go_wp2
      go_ret2
      exact ⟨by rw [hp.out]; rfl, below_drewN (below_a1 _ _) _⟩
set_option maxRecDepth 100000 in
set_option maxHeartbeats 1600000 in
theorem iCountOfSieve_any (r s : Int) (A : Option Addr) (c : Nat) (x : List Bool) (w : World) (hr : W64 r) (hs : W64 s) (hx : RdL Value.bool w A x) (hn : x.length ≤ 1048576) :
    Calls Try.prog 40 #[.agg #[.int .i64 r, .int .i64 s, .slice A x.length c]] w fun e w' => e = .returned (.tuple #[.float .f32 (pCountOfSieve r s x).1, .bool (pCountOfSieve r s x).2]) ∧ Below w.heap.size w w' := by
  have HX := hid (hx.below (below_a1 w (.cells #[.int .i64 r, .int .i64 s, .slice A x.length c] 29)))
  have B0 := hid (Blk.new w 29 [.int .i64 r, .int .i64 s, .slice A x.length c])
  clear hx
  cases hv : vSieve r s x.length with
  | false =>
    have hp : Hid (pCountOfSieve r s x = (0, false)) := by show _ = _; simp [pCountOfSieve, hv]
    go_enter Try.func40, Try.ntmps40
    go_wp2_with fail
    refine (iValidSieve_any r s A c x _ hr hs HX.out hn).mono ?_
    rw [hv]
    rintro e w1 ⟨rfl, hb⟩
    have S1 := below_call (below_a1 _ _) hb
    clear hv hb
    go_wp2
    go_ret2
    exact ⟨by rw [hp.out]; rfl, S1.out⟩
  | true =>
    obtain ⟨h1, h2, h3, h4⟩ := vSieve_len hv
    obtain ⟨R, rfl⟩ := Int.eq_ofNat_of_zero_le (show 0 ≤ r by omega)
    have hle := countT_le x
    obtain ⟨q, hq⟩ : ∃ q, q = fullB x := ⟨_, rfl⟩
    obtain ⟨n, hnn⟩ : ∃ n, n = countT x := ⟨_, rfl⟩
    have C2 : Hid (∀ w', RdL Value.bool w' A x → Calls Try.prog 67 #[.agg #[.int .i64 R, .int .i64 s, .slice A x.length c]] w' fun e w'' => e = .returned (.tuple #[.float .f32 q, .int .i64 n]) ∧ Below w'.heap.size w' w'') := fun w' h => by
      rw [hq, hnn]; exact ifull_any R s c A x w' h h1 hn
    rw [← hnn] at hle
    rcases (show n = 0 ∨ n = x.length ∨ (0 < n ∧ n < x.length) by omega) with h5 | h5 | ⟨h5, h6⟩
    · have hp : Hid (pCountOfSieve (R : Int) s x = (0, true)) := by show _ = _; unfold pCountOfSieve; rw [if_pos hv, if_neg (by omega), if_pos (by omega)]
      have b1 : (((0 : Nat) : Int) == (x.length : Int)) = false := beq_eq_false_iff_ne.2 (by omega)
      have b2 : ((0 : Int) == (x.length : Int)) = false := beq_eq_false_iff_ne.2 (by omega)
      subst h5
      clear hnn hq hle
      go_enter Try.func40, Try.ntmps40
      go_wp2_with fail
      refine (iValidSieve_any R s A c x _ hr hs HX.out hn).mono ?_
      rw [hv]
      rintro e w1 ⟨rfl, hb⟩
      have S1 := below_call (below_a1 _ _) hb
      have X1 := hid (HX.out.below hb)
      have B1 := hid (B0.out.below hb)
      obtain ⟨k0, k1, k2⟩ := B1.out.cells3
      clear hv hb B0
      go_wp2_with fail
      refine (C2.out _ X1.out).mono ?_
      rintro e w2 ⟨rfl, hb⟩
      have S2 := hid (S1.out.trans (hb.mono S1.out.size))
      clear k0 k1 k2
      obtain ⟨k0, k1, k2⟩ := (B1.out.below hb).cells3
      clear hb
      go_wp2
      go_ret2
      exact ⟨by rw [hp.out]; rfl, S2.out⟩
    · have hp : Hid (pCountOfSieve (R : Int) s x = (0, false)) := by show _ = _; unfold pCountOfSieve; rw [if_pos hv, if_pos (by omega)]
      subst h5
      have HNN := hid hnn
      clear hnn hq hle
      go_enter Try.func40, Try.ntmps40
      go_wp2_with fail
      refine (iValidSieve_any R s A c x _ hr hs HX.out hn).mono ?_
      rw [hv]
      rintro e w1 ⟨rfl, hb⟩
      have S1 := below_call (below_a1 _ _) hb
      have X1 := hid (HX.out.below hb)
      have B1 := hid (B0.out.below hb)
      obtain ⟨k0, k1, k2⟩ := B1.out.cells3
      clear hv hb B0
      go_wp2_with fail
      refine (C2.out _ X1.out).mono ?_
      rintro e w2 ⟨rfl, hb⟩
      have S2 := hid (S1.out.trans (hb.mono S1.out.size))
      clear k0 k1 k2
      obtain ⟨k0, k1, k2⟩ := (B1.out.below hb).cells3
      clear hb
      go_wp2
      go_ret2
      exact ⟨by rw [hp.out]; rfl, S2.out⟩
    · obtain ⟨Q, hQ⟩ : ∃ Q, Q = cntB n x.length R := ⟨_, rfl⟩
      have hp : Hid (pCountOfSieve (R : Int) s x = (Q, true)) := by show _ = _; unfold pCountOfSieve; rw [if_pos hv, if_neg (by omega), if_neg (by omega), Int.toNat_natCast, hQ, hnn]
      have b1 : ((n : Int) == (x.length : Int)) = false := beq_eq_false_iff_ne.2 (by omega)
      have b2 : ((n : Int) == 0) = false := beq_eq_false_iff_ne.2 (by omega)
      have pk := count_pkg (R := R) h5 h6 h2 (by omega) (by omega)
      have hqq : q = shareB n x.length := by rw [hq, hnn]; rfl
      obtain ⟨r1, r2, r3, r4, r5, r6, r7, r8, r9⟩ := pk
      rw [← hQ] at r8 r9
      rw [← hqq] at r1 r2 r3 r4 r5 r6 r7 r8
      obtain ⟨z, hz⟩ : ∃ z, z = sS 1065353216 q := ⟨_, rfl⟩
      rw [← hz] at r1 r2 r3 r6 r7 r8
      obtain ⟨l, hl⟩ : ∃ l, l = lgB z := ⟨_, rfl⟩
      rw [← hl] at r6 r7 r8
      obtain ⟨M, hM⟩ : ∃ M, M = sM (floatOfInt .f32 (x.length : Int)) l := ⟨_, rfl⟩
      rw [← hM] at r6 r7 r8
      have fn : ∀ b, Op.unary .neg (.float .f32 b) = pure (.float .f32 (Op.negFloat .f32 b)) := fun b => rfl
      have f1 : ∀ t w, (binOp .sub t (.float .f32 1065353216) (.float .f32 q)).run Try.prog w = .ok (.float .f32 z) w := fun t w => run_float_arith w .sub t .f32 _ _ _ r1
      have f2 : ∀ t w, (binOp .mul t (.float .f32 (floatOfInt .f32 (x.length : Int))) (.float .f32 l)).run Try.prog w = .ok (.float .f32 M) w := fun t w => run_float_arith w .mul t .f32 _ _ _ r6
      have f3 : ∀ t w, (binOp .quo t (.float .f32 (Op.negFloat .f32 M)) (.float .f32 (floatOfInt .f32 (R : Int)))).run Try.prog w = .ok (.float .f32 Q) w := fun t w => run_float_arith w .quo t .f32 _ _ _ r8
      have CL : Hid (∀ w, Calls Try.prog 93 #[.float .f32 z] w fun e w' => e = .returned (.float .f32 l) ∧ w = w') := fun w => hl ▸ logNumber_any z w r2 r3
      have CN : Hid (∀ w, Calls Try.prog 94 #[.float .f32 Q] w fun e w' => e = .returned (.bool true) ∧ w = w') := fun w => isFinite_any Q w (less_self r9)
      clear r1 r2 r3 r4 r5 r6 r7 r8 r9 hq hqq hz hl hM hQ h5 h6 hle hnn
      go_enter Try.func40, Try.ntmps40
      go_wp2_with fail
      refine (iValidSieve_any R s A c x _ hr hs HX.out hn).mono ?_
      rw [hv]
      rintro e w1 ⟨rfl, hb⟩
      have S1 := below_call (below_a1 _ _) hb
      have X1 := hid (HX.out.below hb)
      have B1 := hid (B0.out.below hb)
      obtain ⟨k0, k1, k2⟩ := B1.out.cells3
      clear hv hb B0
      go_wp2_with fail
      refine (C2.out _ X1.out).mono ?_
      rintro e w2 ⟨rfl, hb⟩
      have S2 := hid (S1.out.trans (hb.mono S1.out.size))
      clear k0 k1 k2
      obtain ⟨k0, k1, k2⟩ := (B1.out.below hb).cells3
      clear hb
      go_wp2
      go_quiet ((go_at_call 93; refine Calls.quiet_of_same ((CL.out _).mono fun _ _ ⟨h, h'⟩ => ⟨h, h'.symm⟩)))
      go_wp2_with (go_at_call 94; refine (CN.out _).mono ?_; rintro e w' ⟨rfl, rfl⟩)
      go_ret2
      exact ⟨by rw [hp.out]; rfl, below_drewN S2.out _⟩
end Go.Proofs.Ytnngepnfljkbhaa
