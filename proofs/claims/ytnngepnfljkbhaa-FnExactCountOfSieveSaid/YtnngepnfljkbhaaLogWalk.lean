/-
  The logarithm, reference and program, by contracts.
-/
import Derived.Test.YtnngepnfljkbhaaCountP
namespace Go.Proofs.Ytnngepnfljkbhaa
open Go.RowKit Ieee
set_option linter.unusedVariables false
set_option linter.unusedSimpArgs false

/-- Which of the words a float is. -/
def decN (f : Nat → Nat) (e : Value) : Nat := match e with
  | .float _ b => (List.range 64).findIdx (fun j => f j == b)
  | _ => 0
theorem dec_e : ∀ j : Fin 64, decN (fun j => floatOfInt .f64 (-((j : Nat) : Int))) (.float .f64 (floatOfInt .f64 (-((j.val : Nat) : Int)))) = j.val := by decide +kernel
theorem dec_k : ∀ j : Fin 14, decN kF (.float .f64 (kF j.val)) = j.val := by decide +kernel
theorem k_ge : ∀ i : Fin 14, double.order (kF i.val) 4607182418800017408 = some (if i.val < 12 then .gt else if i.val = 12 then .eq else .lt) := by decide +kernel
set_option maxHeartbeats 1600000 in
theorem naturalLog_any (y k : Nat) (w : World) (h : Goes y k) : Calls Try.prog 140 #[.float .f64 y] w fun e w' => e = .returned (.float .f64 (rL (yI y k) k)) ∧ w = w' := by
  have hlow : FloatKind.f64.format.order y 4609434218613702656 = some .lt := h.low
  have hmul : ∀ j : Nat, j < k → ∀ t w, (binOp .mul t (.float .f64 (yI y j)) (.float .f64 4611686018427387904)).run Try.prog w = .ok (.float .f64 (yI y (j + 1))) w := fun j hj t w => run_float_arith w .mul t .f64 _ _ _ (h.next j hj)
  have hdn : ∀ j : Nat, j < 64 → ∀ t w, (binOp .sub t (.float .f64 (floatOfInt .f64 (-(j : Int)))) (.float .f64 4607182418800017408)).run Try.prog w = .ok (.float .f64 (floatOfInt .f64 (-((j + 1 : Nat) : Int)))) w := fun j hj t w => run_float_arith w .sub t .f64 _ _ _ (down hj).1
  obtain ⟨Y, hY⟩ : ∃ Y, Y = yI y k := ⟨_, rfl⟩
  have hlg := log_steps (hY ▸ h.nd)
  have hqs := fun i (hi : i < 13) => (q_steps (hY ▸ h.nd) i (by omega)).2 hi
  have hrs := r_steps (k := k) (hY ▸ h.nd) (by have := h.le; omega)
  have HH := hid h
  have HM := hid hmul
  have HD := hid hdn
  have HQ := hid hqs
  have HY := hid hY
  have o1 : ∀ t w, (binOp .sub t (.float .f64 Y) (.float .f64 4607182418800017408)).run Try.prog w = .ok (.float .f64 (dS Y 4607182418800017408)) w := fun t w => run_float_arith w .sub t .f64 _ _ _ hlg.1
  have o2 : ∀ t w, (binOp .add t (.float .f64 Y) (.float .f64 4607182418800017408)).run Try.prog w = .ok (.float .f64 (dA Y 4607182418800017408)) w := fun t w => run_float_arith w .add t .f64 _ _ _ hlg.2.1
  have o3 : ∀ t w, (binOp .quo t (.float .f64 (dS Y 4607182418800017408)) (.float .f64 (dA Y 4607182418800017408))).run Try.prog w = .ok (.float .f64 (sL Y)) w := fun t w => run_float_arith w .quo t .f64 _ _ _ hlg.2.2.1
  have o4 : ∀ t w, (binOp .mul t (.float .f64 (sL Y)) (.float .f64 (sL Y))).run Try.prog w = .ok (.float .f64 (uL Y)) w := fun t w => run_float_arith w .mul t .f64 _ _ _ hlg.2.2.2.1
  have o5 : ∀ t w, (binOp .mul t (.float .f64 (sL Y)) (.float .f64 (qL Y 13))).run Try.prog w = .ok (.float .f64 (dM (sL Y) (qL Y 13))) w := fun t w => run_float_arith w .mul t .f64 _ _ _ hrs.1
  have o6 : ∀ t w, (binOp .mul t (.float .f64 4611686018427387904) (.float .f64 (dM (sL Y) (qL Y 13)))).run Try.prog w = .ok (.float .f64 (dM 4611686018427387904 (dM (sL Y) (qL Y 13)))) w := fun t w => run_float_arith w .mul t .f64 _ _ _ hrs.2.1
  have o7 : ∀ t w, (binOp .mul t (.float .f64 (floatOfInt .f64 (-(k : Int)))) (.float .f64 4604418534313441775)).run Try.prog w = .ok (.float .f64 (dM (floatOfInt .f64 (-(k : Int))) 4604418534313441775)) w := fun t w => run_float_arith w .mul t .f64 _ _ _ hrs.2.2.1
  have o8 : ∀ t w, (binOp .add t (.float .f64 (dM 4611686018427387904 (dM (sL Y) (qL Y 13)))) (.float .f64 (dM (floatOfInt .f64 (-(k : Int))) 4604418534313441775))).run Try.prog w = .ok (.float .f64 (rL Y k)) w := fun t w => run_float_arith w .add t .f64 _ _ _ hrs.2.2.2.1
  rw [← hY]
  clear h hmul hdn hlg hqs hrs hY
  go_enter Try.func140, Try.ntmps140
  go_wp2
  go_loop [0, 3] (fun v e => v = .float .f64 y ∧ e = .float .f64 0) (fun _ _ => 0)
  case atStart => exact ⟨rfl, rfl⟩
  case round =>
    obtain ⟨rfl, rfl⟩ := hrel
    go_wp2
    go_loop [0, 3] (fun v e => ∃ j : Nat, j ≤ k ∧ v = .float .f64 (yI y j) ∧ e = .float .f64 (floatOfInt .f64 (-(j : Int)))) (fun v e => 64 - decN (fun j => floatOfInt .f64 (-((j : Nat) : Int))) e)
    case atStart => exact ⟨0, Nat.zero_le _, rfl, by rw [show floatOfInt .f64 (-((0 : Nat) : Int)) = 0 by decide +kernel]⟩
    case round =>
      obtain ⟨j, hj, rfl, rfl⟩ := hrel
      have hk60 := HH.out.le
      have hdj := dec_e ⟨j, by omega⟩
      rcases Nat.lt_or_ge j k with hlt | hge
      · have hlt' : FloatKind.f64.format.order (yI y j) 4604930618986332160 = some .lt := HH.out.lt j hlt
        have q1 := HM.out j hlt
        have q2 := HD.out j (by omega)
        have hdj1 := dec_e ⟨j + 1, by omega⟩
        go_wp2_with (simp only [q1, q2])
        refine ⟨⟨j + 1, by omega, rfl, rfl⟩, ?_⟩
        simp only at hdj hdj1
        show 64 - decN _ (.float .f64 (floatOfInt .f64 (-((j + 1 : Nat) : Int)))) < _
        rw [hdj1]
        show _ < 64 - decN _ (.float .f64 (floatOfInt .f64 (-((j : Nat) : Int))))
        rw [hdj]
        omega
      · obtain rfl : j = k := by omega
        rw [← HY.out]
        have hno : (FloatKind.f64.format.order Y 4604930618986332160 == some .lt) = false := by rw [HY.out]; exact HH.out.no
        go_wp2_with (first | simp only [o1] | simp only [o2] | simp only [o3] | simp only [o4])
        go_loop [6, 7] (fun q v => ∃ i : Nat, i ≤ 13 ∧ q = .float .f64 (qL Y i) ∧ v = .float .f64 (kF i)) (fun q v => 64 - decN kF v)
        case atStart => exact ⟨0, by omega, rfl, by rw [show kF 0 = 4627730092099895296 by decide +kernel]⟩
        case round =>
          obtain ⟨i, hi, rfl, rfl⟩ := hrel
          have hdi := dec_k ⟨i, by omega⟩
          have hko := k_ge ⟨i, by omega⟩
          simp only at hdi hko
          rcases Nat.lt_or_ge i 13 with hlt | hge
          · have hdi1 := dec_k ⟨i + 1, by omega⟩
            obtain ⟨x1, x2, x3, _, _⟩ := kB_ok ⟨i, hlt⟩
            obtain ⟨z1, z2⟩ := HQ.out i hlt
            have p1 : ∀ t w, (binOp .quo t (.float .f64 4607182418800017408) (.float .f64 (kF i))).run Try.prog w = .ok (.float .f64 (kB i)) w := fun t w => run_float_arith w .quo t .f64 _ _ _ x1
            have p2 : ∀ t w, (binOp .mul t (.float .f64 (uL Y)) (.float .f64 (qL Y i))).run Try.prog w = .ok (.float .f64 (dM (uL Y) (qL Y i))) w := fun t w => run_float_arith w .mul t .f64 _ _ _ z1
            have p3 : ∀ t w, (binOp .add t (.float .f64 (kB i)) (.float .f64 (dM (uL Y) (qL Y i)))).run Try.prog w = .ok (.float .f64 (qL Y (i + 1))) w := fun t w => run_float_arith w .add t .f64 _ _ _ z2
            have p4 : ∀ t w, (binOp .sub t (.float .f64 (kF i)) (.float .f64 4611686018427387904)).run Try.prog w = .ok (.float .f64 (kF (i + 1))) w := fun t w => run_float_arith w .sub t .f64 _ _ _ x3
            clear x1 x2 x3 z1 z2
            have hfin : ∀ o : Ordering, double.order (kF i) 4607182418800017408 = some o → o ≠ .lt → True := fun _ _ _ => trivial
            have hord : FloatKind.f64.format.order (kF i) 4607182418800017408 = some .gt ∨ FloatKind.f64.format.order (kF i) 4607182418800017408 = some .eq := by
              rcases Nat.lt_or_ge i 12 with h1 | h1
              · rw [if_pos h1] at hko; exact .inl hko
              · rw [if_neg (by omega), if_pos (by omega)] at hko; exact .inr hko
            clear hko hfin
            rcases hord with hord | hord
            all_goals
              go_wp2_with (first | simp only [p1] | simp only [p2] | simp only [p3] | simp only [p4])
              refine ⟨⟨i + 1, by omega, rfl, rfl⟩, ?_⟩
              simp only at hdi1 ⊢
              rw [hdi, hdi1]
              omega
          · obtain rfl : i = 13 := by omega
            have hord : FloatKind.f64.format.order (kF 13) 4607182418800017408 = some .lt := hko
            clear hko
            go_wp2_with (first | simp only [o5] | simp only [o6] | simp only [o7] | simp only [o8])
            go_ret
            exact ⟨rfl, rfl⟩
set_option maxHeartbeats 1600000 in
theorem isInf_any (y : Nat) (w : World) (h : FloatKind.f64.format.order y 9218868437227405311 = some .lt) : Calls Try.prog 154 #[.float .f64 y, .int .i64 1] w fun e w' => e = .returned (.bool false) ∧ w = w' := by
  go_enter Try.func154, Try.ntmps154
  go_wp2
  go_ret
  exact ⟨ret_bool (by simp [h]), rfl⟩
set_option maxHeartbeats 1600000 in
theorem l01LogWide_any (y k : Nat) (w : World) (h : Goes y k) : Calls Try.prog 137 #[.float .f64 y] w fun e w' => e = .returned (.float .f64 (rL (yI y k) k)) ∧ w = w' := by
  have hnn : FloatKind.f64.format.order y y = some .eq := h.nn
  have hpos : FloatKind.f64.format.order y 0 = some .gt := h.pos
  have hfin : FloatKind.f64.format.order y 9218868437227405311 = some .lt := h.fin
  have hlow : FloatKind.f64.format.order y 4609434218613702656 = some .lt := h.low
  have hmul : ∀ j : Nat, j < k → ∀ t w, (binOp .mul t (.float .f64 (yI y j)) (.float .f64 4611686018427387904)).run Try.prog w = .ok (.float .f64 (yI y (j + 1))) w := fun j hj t w => run_float_arith w .mul t .f64 _ _ _ (h.next j hj)
  obtain ⟨Y, hY⟩ : ∃ Y, Y = yI y k := ⟨_, rfl⟩
  have hlg := log_steps (hY ▸ h.nd)
  have hqs := fun i (hi : i < 13) => (q_steps (hY ▸ h.nd) i (by omega)).2 hi
  have hrs := r_steps (k := k) (hY ▸ h.nd) (by have := h.le; omega)
  have HH := hid h
  have HM := hid hmul
  have HQ := hid hqs
  have HY := hid hY
  have o1 : ∀ t w, (binOp .sub t (.float .f64 Y) (.float .f64 4607182418800017408)).run Try.prog w = .ok (.float .f64 (dS Y 4607182418800017408)) w := fun t w => run_float_arith w .sub t .f64 _ _ _ hlg.1
  have o2 : ∀ t w, (binOp .add t (.float .f64 Y) (.float .f64 4607182418800017408)).run Try.prog w = .ok (.float .f64 (dA Y 4607182418800017408)) w := fun t w => run_float_arith w .add t .f64 _ _ _ hlg.2.1
  have o3 : ∀ t w, (binOp .quo t (.float .f64 (dS Y 4607182418800017408)) (.float .f64 (dA Y 4607182418800017408))).run Try.prog w = .ok (.float .f64 (sL Y)) w := fun t w => run_float_arith w .quo t .f64 _ _ _ hlg.2.2.1
  have o4 : ∀ t w, (binOp .mul t (.float .f64 (sL Y)) (.float .f64 (sL Y))).run Try.prog w = .ok (.float .f64 (uL Y)) w := fun t w => run_float_arith w .mul t .f64 _ _ _ hlg.2.2.2.1
  have o5 : ∀ t w, (binOp .mul t (.float .f64 (sL Y)) (.float .f64 (qL Y 13))).run Try.prog w = .ok (.float .f64 (dM (sL Y) (qL Y 13))) w := fun t w => run_float_arith w .mul t .f64 _ _ _ hrs.1
  have o6 : ∀ t w, (binOp .mul t (.float .f64 4611686018427387904) (.float .f64 (dM (sL Y) (qL Y 13)))).run Try.prog w = .ok (.float .f64 (dM 4611686018427387904 (dM (sL Y) (qL Y 13)))) w := fun t w => run_float_arith w .mul t .f64 _ _ _ hrs.2.1
  have o7 : ∀ t w, (binOp .mul t (.float .f64 (floatOfInt .f64 (-(k : Int)))) (.float .f64 4604418534313441775)).run Try.prog w = .ok (.float .f64 (dM (floatOfInt .f64 (-(k : Int))) 4604418534313441775)) w := fun t w => run_float_arith w .mul t .f64 _ _ _ hrs.2.2.1
  have o8 : ∀ t w, (binOp .add t (.float .f64 (dM 4611686018427387904 (dM (sL Y) (qL Y 13)))) (.float .f64 (dM (floatOfInt .f64 (-(k : Int))) 4604418534313441775))).run Try.prog w = .ok (.float .f64 (rL Y k)) w := fun t w => run_float_arith w .add t .f64 _ _ _ hrs.2.2.2.1
  rw [← hY]
  clear h hmul hlg hqs hrs hY
  go_enter Try.func137, Try.ntmps137
  go_wp2_with (go_at_call 154; refine (isInf_any y _ hfin).mono ?_; rintro e w' ⟨rfl, rfl⟩)
  go_loop [0, 3] (fun v e => v = .float .f64 y ∧ e = .int .i64 0) (fun _ _ => 0)
  case atStart => exact ⟨rfl, rfl⟩
  case round =>
    obtain ⟨rfl, rfl⟩ := hrel
    go_wp2
    go_loop [0, 3] (fun v e => ∃ j : Nat, j ≤ k ∧ v = .float .f64 (yI y j) ∧ e = .int .i64 (-(j : Int))) (fun v e => 64 - (-(intOf e)).toNat)
    case atStart => exact ⟨0, Nat.zero_le _, rfl, rfl⟩
    case round =>
      obtain ⟨j, hj, rfl, rfl⟩ := hrel
      have hk60 := HH.out.le
      rcases Nat.lt_or_ge j k with hlt | hge
      · have hlt' : FloatKind.f64.format.order (yI y j) 4604930618986332160 = some .lt := HH.out.lt j hlt
        have q1 := HM.out j hlt
        go_wp2_with (simp only [q1])
        exact ⟨⟨j + 1, by omega, rfl, by go_num⟩, by simp [intOf]; omega⟩
      · obtain rfl : j = k := by omega
        rw [← HY.out]
        have hno : (FloatKind.f64.format.order Y 4604930618986332160 == some .lt) = false := by rw [HY.out]; exact HH.out.no
        go_wp2_with (first | simp only [o1] | simp only [o2] | simp only [o3] | simp only [o4])
        go_loop [6, 7] (fun q v => ∃ i : Nat, i ≤ 13 ∧ q = .float .f64 (qL Y i) ∧ v = .int .i64 (25 - 2 * (i : Int))) (fun q v => (intOf v + 2).toNat)
        case atStart => exact ⟨0, by omega, rfl, rfl⟩
        case round =>
          obtain ⟨i, hi, rfl, rfl⟩ := hrel
          rcases Nat.lt_or_ge i 13 with hlt | hge
          · obtain ⟨x1, x2, x3, _, _⟩ := kB_ok ⟨i, hlt⟩
            obtain ⟨z1, z2⟩ := HQ.out i hlt
            have hge1 : (1 : Int) ≤ 25 - 2 * (i : Int) := by omega
            have p1 : ∀ t w, (binOp .quo t (.float .f64 4607182418800017408) (.float .f64 (floatOfInt .f64 (25 - 2 * (i : Int))))).run Try.prog w = .ok (.float .f64 (kB i)) w := fun t w => run_float_arith w .quo t .f64 _ _ _ x1
            have p2 : ∀ t w, (binOp .mul t (.float .f64 (uL Y)) (.float .f64 (qL Y i))).run Try.prog w = .ok (.float .f64 (dM (uL Y) (qL Y i))) w := fun t w => run_float_arith w .mul t .f64 _ _ _ z1
            have p3 : ∀ t w, (binOp .add t (.float .f64 (kB i)) (.float .f64 (dM (uL Y) (qL Y i)))).run Try.prog w = .ok (.float .f64 (qL Y (i + 1))) w := fun t w => run_float_arith w .add t .f64 _ _ _ z2
            clear x1 x2 x3 z1 z2
            go_wp2_with (first | simp only [p1] | simp only [p2] | simp only [p3])
            exact ⟨⟨i + 1, by omega, rfl, by go_num⟩, by simp [intOf]; omega⟩
          · obtain rfl : i = 13 := by omega
            have hge1 : ¬ (1 : Int) ≤ 25 - 2 * ((13 : Nat) : Int) := by omega
            go_wp2_with (first | simp only [o5] | simp only [o6] | simp only [o7] | simp only [o8])
            go_ret
            exact ⟨rfl, rfl⟩
set_option maxHeartbeats 1600000 in
theorem l01Narrow_any (b r : Nat) (w : World) (h : floatToFloatBits .f64 b .f32 = some r) : Calls Try.prog 136 #[.float .f64 b] w fun e w' => e = .returned (.float .f32 r) ∧ w = w' := by
  have hcv : ∀ w, (convert 32 26 (.float .f64 b)).run Try.prog w = .ok (.float .f32 r) w := fun w => run_convert_float_float w _ _ .f64 .f32 _ _ (by rw [Try.underlying32]; rfl) Try.underlying26 h
  clear h
  go_enter Try.func136, Try.ntmps136
  go_wp2_with (simp only [hcv])
  go_ret
  exact ⟨rfl, rfl⟩
set_option maxHeartbeats 1600000 in
theorem l01Log_any (x : Nat) (w : World) (h : Nm x (-9) 0) (h' : Fs single x false 1 0) : Calls Try.prog 92 #[.float .f32 x] w fun e w' => e = .returned (.float .f32 (lgB x)) ∧ w = w' := by
  obtain ⟨l1, l2, l3, l4⟩ := log_pkg h h'
  have hcv : ∀ w, (convert 26 32 (.float .f32 x)).run Try.prog w = .ok (.float .f64 (wd x)) w := fun w => run_convert_float_float w _ _ .f32 .f64 _ _ (by rw [Try.underlying26]; rfl) Try.underlying32 l1
  have C1 := hid fun w => l01LogWide_any (wd x) (kOf (wd x)) w l2
  have C2 := hid fun w => l01Narrow_any _ _ w l3
  clear h h' l1 l2 l3 l4
  go_enter Try.func92, Try.ntmps92
  go_wp2_with (first | simp only [hcv] | (go_at_call 137; refine (C1.out _).mono ?_; rintro e w' ⟨rfl, rfl⟩) | (go_at_call 136; refine (C2.out _).mono ?_; rintro e w' ⟨rfl, rfl⟩))
  go_ret
  exact ⟨rfl, rfl⟩
set_option maxHeartbeats 1600000 in
theorem isFinite_any (x : Nat) (w : World) (h : floatBits .sub .f32 x x = some 0) : Calls Try.prog 94 #[.float .f32 x] w fun e w' => e = .returned (.bool true) ∧ w = w' := by
  have hq : ∀ t w, (binOp .sub t (.float .f32 x) (.float .f32 x)).run Try.prog w = .ok (.float .f32 0) w := fun t w => run_float_arith w .sub t .f32 _ _ _ h
  have hz : FloatKind.f32.format.order 0 0 = some .eq := z32
  clear h
  go_enter Try.func94, Try.ntmps94
  go_wp2_with (simp only [hq])
  go_ret
  exact ⟨ret_bool (by simp [hz]), rfl⟩
set_option maxHeartbeats 1600000 in
theorem logNumber_any (x : Nat) (w : World) (h : Nm x (-9) 0) (h' : Fs single x false 1 0) : Calls Try.prog 93 #[.float .f32 x] w fun e w' => e = .returned (.float .f32 (lgB x)) ∧ w = w' := by
  obtain ⟨l1, l2, l3, l4⟩ := log_pkg h h'
  have hx1 : FloatKind.f32.format.order x x = some .eq := (asks32 h).1
  have hx0 : FloatKind.f32.format.order x 0 = some .gt := (asks32 h).2
  have hcv : ∀ w, (convert 26 32 (.float .f32 x)).run Try.prog w = .ok (.float .f64 (wd x)) w := fun w => run_convert_float_float w _ _ .f32 .f64 _ _ (by rw [Try.underlying26]; rfl) Try.underlying32 l1
  have hcn : ∀ w, (convert 32 26 (.float .f64 (rL (yI (wd x) (kOf (wd x))) (kOf (wd x))))).run Try.prog w = .ok (.float .f32 (lgB x)) w := fun w => run_convert_float_float w _ _ .f64 .f32 _ _ (by rw [Try.underlying32]; rfl) Try.underlying26 l3
  have C1 := hid fun w => naturalLog_any (wd x) (kOf (wd x)) w l2
  have C2 := hid fun w => isFinite_any x w (less_self h'.fb)
  clear h h' l1 l2 l3 l4
  go_enter Try.func93, Try.ntmps93
  go_wp2_with (first | simp only [hcv] | simp only [hcn] | (go_at_call 140; refine (C1.out _).mono ?_; rintro e w' ⟨rfl, rfl⟩) | (go_at_call 94; refine (C2.out _).mono ?_; rintro e w' ⟨rfl, rfl⟩))
  go_ret
  exact ⟨rfl, rfl⟩
end Go.Proofs.Ytnngepnfljkbhaa
