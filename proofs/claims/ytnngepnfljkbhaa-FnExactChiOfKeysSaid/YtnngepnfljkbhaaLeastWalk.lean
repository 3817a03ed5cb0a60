/-
  CountOfLeast: reference and program, by contracts.
-/
import Derived.Test.YtnngepnfljkbhaaLeast
import Derived.Test.YtnngepnfljkbhaaNum
namespace Go.Proofs.Ytnngepnfljkbhaa
open Go.RowKit Ieee
set_option linter.unusedVariables false
set_option linter.unusedSimpArgs false

theorem l04Room_any (r : Int) (w : World) : Calls Try.prog 76 #[.int .i64 r] w fun e w' => e = .returned (.bool (inB r 1 256)) ∧ w = w' := by
  go_enter Try.func76, Try.ntmps76
  go_wp2_with ((go_at_call 106; refine (l00In_any _ _ _ _).mono ?_; rintro e w' ⟨rfl, rfl⟩))
  go_ret
  exact ⟨rfl, rfl⟩
theorem isRoom_any (r : Int) (w : World) : Calls Try.prog 127 #[.int .i64 r] w fun e w' => e = .returned (.bool (inB r 1 256)) ∧ w = w' := by
  go_enter Try.func127, Try.ntmps127
  go_wp2_with ((go_at_call 112; refine (within_any _ _ _ _).mono ?_; rintro e w' ⟨rfl, rfl⟩))
  go_ret
  exact ⟨rfl, rfl⟩
set_option maxHeartbeats 1000000 in
theorem l02Keys_any (A : Option Addr) (c : Nat) (x : List Int) (w : World) (hx : RdL (Value.int .i64) w A x) (hn : x.length ≤ 256) :
    Calls Try.prog 82 #[.slice A x.length c] w fun e w' => e = .returned (.bool (allB x 0 4294967295)) ∧ w = w' := by
  have HX := hid hx
  clear hx
  have hn' : (x.length : Int) ≤ 256 := by omega
  go_enter Try.func82, Try.ntmps82
  go_wp2
  go_loop [3] (fun i => ∃ k : Nat, k ≤ x.length ∧ i = .int .i64 k ∧ Hid (allB (x.take k) 0 4294967295 = true)) (fun i => x.length - (intOf i).toNat)
  case atStart => exact ⟨0, Nat.zero_le _, rfl, rfl⟩
  case round =>
    obtain ⟨k, hk, rfl, hh⟩ := hrel
    by_cases hlt : k < x.length
    · have hi : (k : Int) < (x.length : Int) := by omega
      obtain ⟨b', o', z, rfl, hc, hxk⟩ := HX.out.at_ hlt
      cases hb : inB z 0 4294967295 with
      | true =>
        have he := hid (allB_snoc hh hxk hb)
        go_wp2_with ((go_at_call 96; refine (l02Key_any _ _).mono ?_; rintro e w' ⟨rfl, rfl⟩))
        exact ⟨⟨k + 1, by omega, by go_num, he⟩, by simp [intOf]; omega⟩
      | false =>
        have he := hid (allB_no hxk hb)
        go_wp2_with ((go_at_call 96; refine (l02Key_any _ _).mono ?_; rintro e w' ⟨rfl, rfl⟩))
        go_ret
        exact ⟨ret_bool he.out.symm, rfl⟩
    · have hi : ¬ (k : Int) < (x.length : Int) := by omega
      have he := hh.out
      rw [List.take_of_length_le (by omega)] at he
      have HE := hid he
      clear he
      go_wp2
      go_ret
      exact ⟨ret_bool (by first | (rw [HE.out]; done) | (rw [HE.out]; simp; omega)), rfl⟩
set_option maxHeartbeats 400000 in
theorem l02Keys_no (A : Option Addr) (c : Nat) (x : List Int) (w : World) (hx : RdL (Value.int .i64) w A x) (hn : 256 < x.length) :
    Calls Try.prog 82 #[.slice A x.length c] w fun e w' => e = .returned (.bool false) ∧ w = w' := by
  have hn' : (256 : Int) < (x.length : Int) := by omega
  have hp : (0 : Int) < (x.length : Int) := by omega
  have hd : decide ((x.length : Int) ≤ 256) = false := decide_eq_false (by omega)
  clear hx
  go_enter Try.func82, Try.ntmps82
  go_wp2
  go_loop [3] (fun i => i = .int .i64 0) (fun i => 0)
  case atStart => rfl
  case round =>
    obtain rfl := hrel
    go_wp2
    go_ret
    exact ⟨rfl, rfl⟩
set_option maxHeartbeats 1600000 in
theorem l04Rising_any (A : Option Addr) (c : Nat) (x : List Int) (room : Int) (w : World) (hx : RdL (Value.int .i64) w A x) (hn : x.length ≤ 1048576) (hr : inB room 1 256 = true) :
    Calls Try.prog 77 #[.slice A x.length c, .int .i64 room] w fun e w' => e = .returned (.bool (decide ((x.length : Int) ≤ room) && allB x 0 4294967295 && incTo x x.length)) ∧ ∃ m, w' = w.drewN m := by
  have HX := hid hx
  obtain ⟨hr1, hr2⟩ := inB_iff.1 hr
  by_cases h256 : 256 < x.length
  · have hv : Hid ((decide ((x.length : Int) ≤ room) && allB x 0 4294967295 && incTo x x.length) = false) := by show _ = _; rw [decide_eq_false (by omega)]; rfl
    clear hx hr
    go_enter Try.func77, Try.ntmps77
    go_wp2_with fail
    refine (l02Keys_no A c x _ HX.out h256).mono ?_
    rintro e w' ⟨rfl, rfl⟩
    go_wp2
    go_ret
    exact ⟨ret_bool hv.out.symm, 0, rfl⟩
  · cases hk : allB x 0 4294967295 with
    | false =>
      have hv : Hid ((decide ((x.length : Int) ≤ room) && false && incTo x x.length) = false) := by show _ = _; simp
      clear hx hr
      go_enter Try.func77, Try.ntmps77
      go_wp2_with fail
      refine (l02Keys_any A c x _ HX.out (by omega)).mono ?_
      rw [hk]
      rintro e w' ⟨rfl, rfl⟩
      clear hk
      go_wp2
      go_ret
      exact ⟨ret_bool hv.out.symm, 0, rfl⟩
    | true =>
    by_cases hlen : (x.length : Int) ≤ room
    · have hv : Hid ((decide ((x.length : Int) ≤ room) && true && incTo x x.length) = incTo x x.length) := by show _ = _; rw [decide_eq_true hlen]; rfl
      have hd : decide ((x.length : Int) > room) = false := by simp; omega
      have hd2 : decide (room < (x.length : Int)) = false := hd
      clear hx hr
      go_enter Try.func77, Try.ntmps77
      go_wp2_with fail
      refine (l02Keys_any A c x _ HX.out (by omega)).mono ?_
      rw [hk]
      rintro e w' ⟨rfl, rfl⟩
      clear hk
      go_wp2
      go_loopw [5] (fun i wr => ∃ k n : Nat, 1 ≤ k ∧ (k ≤ x.length ∨ k = 1) ∧ i = .int .i64 k ∧ wr = w.drewN n ∧ Hid (incTo x k = true)) (fun i _ => x.length + 1 - (intOf i).toNat)
      case atStart => exact ⟨1, 0, Nat.le_refl _, .inr rfl, rfl, rfl, rfl⟩
      case round =>
        obtain ⟨k, n, hk1, hk2, rfl, rfl, hh⟩ := hrel
        by_cases hlt : k < x.length
        · have hi : (k : Int) < (x.length : Int) := by omega
          obtain ⟨b, o, y, rfl, hcy, hyk⟩ := HX.out.at_ hlt
          obtain ⟨b', o', z, hA', hcz, hzk⟩ := HX.out.at_ (k := k - 1) (by omega)
          injection hA' with hA'; injection hA' with e1 e2
          subst e1 e2
          have e3 : ((k : Int) - 1).toNat = k - 1 := by omega
          have e4 : (k : Int) - 1 < (x.length : Int) := by omega
          have e5 : (0 : Int) ≤ (k : Int) - 1 := by omega
          have e6 : IntKind.i64.wrap ((k : Int) - 1) = (k : Int) - 1 := by rw [IntKind.wrap_i64]; omega
          have hstep : incTo x (k + 1) = decide (z < y) := by rw [incTo_succ, hh.out, getD_of hyk, getD_of hzk]; simp; omega
          have HS := hid hstep
          clear hstep
          rcases Int.lt_or_le z y with hzy | hzy
          · have he : Hid (incTo x (k + 1) = true) := by show _ = _; rw [HS.out, decide_eq_true hzy]
            have hdd : decide (y ≤ z) = false := by simp; omega
            clear hzy
            go_wp2
            go_quiet (fail)
            go_wp2
            exact ⟨⟨k + 1, _, by omega, .inl (by omega), by go_num, rfl, he⟩, by simp [intOf]; omega⟩
          · have he : Hid (incTo x x.length = false) := incTo_no (k := k) (by rw [HS.out]; simp; omega) hlt
            have hdd : decide (y ≤ z) = true := by simp; omega
            clear hzy
            go_wp2
            go_quiet (fail)
            go_wp2
            go_ret
            exact ⟨ret_bool (by first | rw [hv.out, he.out] | exact he.out.symm), n + nq, by rw [World.drewN_drewN]⟩
        · have hi : ¬ (k : Int) < (x.length : Int) := by omega
          have he : incTo x x.length = true := by
            rcases hk2 with h | h
            · rw [show x.length = k by omega]; exact hh.out
            · rcases (show x.length = 0 ∨ x.length = 1 by omega) with h0 | h0 <;> rw [h0] <;> rfl
          have HE := hid he
          clear he
          go_wp2
          go_ret
          exact ⟨ret_bool (by first | rw [hv.out, HE.out] | exact HE.out.symm), n, rfl⟩
    · have hv : Hid ((decide ((x.length : Int) ≤ room) && true && incTo x x.length) = false) := by show _ = _; rw [decide_eq_false hlen]; rfl
      have hd2 : room < (x.length : Int) := by omega
      clear hx hr hlen
      go_enter Try.func77, Try.ntmps77
      go_wp2_with fail
      refine (l02Keys_any A c x _ HX.out (by omega)).mono ?_
      rw [hk]
      rintro e w' ⟨rfl, rfl⟩
      clear hk
      go_wp2
      go_ret
      exact ⟨ret_bool hv.out.symm, 0, rfl⟩
theorem l01Finite_any (r : Nat) (w : World) (h : Fin0 r) : Calls Try.prog 126 #[.float .f32 r] w fun e w' => e = .returned (.bool true) ∧ w = w' := by
  have hq : ∀ t w, (binOp .sub t (.float .f32 r) (.float .f32 r)).run Try.prog w = .ok (.float .f32 0) w := fun t w => run_float_arith w .sub t .f32 _ _ _ (sub_self_fin h)
  have hz : FloatKind.f32.format.order 0 0 = some .eq := by decide +kernel
  clear h
  go_enter Try.func126, Try.ntmps126
  go_wp2_with (simp only [hq])
  go_ret
  exact ⟨ret_bool (by simp [hz]), rfl⟩
theorem l02Number_any (r : Nat) (w : World) (h : Fin0 r) : Calls Try.prog 78 #[.float .f32 r] w fun e w' => e = .returned (.tuple #[.float .f32 r, .bool true]) ∧ w = w' := by
  have HH := hid h
  clear h
  go_enter Try.func78, Try.ntmps78
  go_wp2_with (go_at_call 126; refine (l01Finite_any r _ HH.out).mono ?_; rintro e w' ⟨rfl, rfl⟩)
  go_ret2
  exact ⟨rfl, rfl⟩
theorem ret_fb {a a' : Nat} {b : Bool} (h : a = a') : Ending.returned (.tuple #[.float .f32 a, .bool b]) = .returned (.tuple #[.float .f32 a', .bool b]) := by rw [h]
set_option maxRecDepth 100000 in
set_option maxHeartbeats 1600000 in
theorem sCountOfLeast_any (A : Option Addr) (c : Nat) (x : List Int) (room : Int) (w : World) (hx : RdL (Value.int .i64) w A x) (hn : x.length ≤ 1048576) (we : ∀ y ∈ x, W64 y) (hroom : W64 room) :
    Calls Try.prog 26 #[.slice A x.length c, .int .i64 room] w fun e w' => e = .returned (.tuple #[.float .f32 (pCountOfLeast x room).1, .bool (pCountOfLeast x room).2]) ∧ Below w.heap.size w w' := by
  have HX := hid hx
  clear hx we hroom
  cases hr : inB room 1 256 with
  | false =>
    have hp : Hid (pCountOfLeast x room = (0, false)) := by show _ = _; simp [pCountOfLeast, vLeast, hr]
    go_enter Try.func26, Try.ntmps26
    go_wp2_with (go_at_call 76; refine (l04Room_any _ _).mono ?_; rintro e w' ⟨rfl, rfl⟩)
    go_ret2
    exact ⟨by rw [hp.out]; rfl, Below.refl _ _⟩
  | true =>
  cases hl : (decide ((x.length : Int) ≤ room) && allB x 0 4294967295 && incTo x x.length) with
  | false =>
    have hp : Hid (pCountOfLeast x room = (0, false)) := by show _ = _; unfold pCountOfLeast vLeast; rw [hr, Bool.true_and, hl]; rfl
    have HR := hid hr
    go_enter Try.func26, Try.ntmps26
    go_wp2_with (go_at_call 76; refine (l04Room_any _ _).mono ?_; rintro e w' ⟨rfl, rfl⟩)
    refine (l04Rising_any A c x room _ HX.out hn HR.out).mono ?_
    rw [hl]
    rintro e w1 ⟨rfl, m, rfl⟩
    clear hl
    go_wp2
    go_ret2
    exact ⟨by rw [hp.out]; rfl, below_drewN (Below.refl _ _) _⟩
  | true =>
    have hv : vLeast x room = true := by unfold vLeast; rw [hr, Bool.true_and, hl]
    obtain ⟨⟨hr1, hr2⟩, hlen, hbd, _⟩ := vLeast_iff hv
    have hp : Hid (pCountOfLeast x room = (leastV x.length (x.getD (x.length - 1) 0) room, true)) := by show _ = _; unfold pCountOfLeast; rw [if_pos hv]
    have HR := hid hr
    have HL := hid hl
    have HBD := hid hbd
    clear hbd hv hl
    by_cases hlt : (x.length : Int) < room
    · have hvv : Hid (leastV x.length (x.getD (x.length - 1) 0) room = floatOfInt .f32 (x.length : Int)) := by show _ = _; unfold leastV; rw [if_pos hlt]
      go_enter Try.func26, Try.ntmps26
      go_wp2_with (go_at_call 76; refine (l04Room_any _ _).mono ?_; rintro e w' ⟨rfl, rfl⟩)
      refine (l04Rising_any A c x room _ HX.out hn HR.out).mono ?_
      rw [HL.out]
      rintro e w1 ⟨rfl, m, rfl⟩
      clear hr
      go_wp2
      go_ret2
      exact ⟨by rw [hp.out]; exact ret_fb hvv.out.symm, below_drewN (Below.refl _ _) _⟩
    · have hrl : room = (x.length : Int) := by omega
      have hpos : 0 < x.length := by omega
      obtain ⟨b, o, y, rfl, hcy, hym⟩ := HX.out.at_ (k := x.length - 1) (by omega)
      have hyb := HBD.out y (List.mem_of_getElem? hym.out)
      obtain ⟨q, r, hq, hrr, hf⟩ := least_spec hyb.1 hyb.2 hr1 hr2
      have hvv : Hid (leastV x.length (x.getD (x.length - 1) 0) room = r) := by show _ = _; rw [getD_of hym]; exact leastV_eq hlt hq hrr
      have hq1 : ∀ t w, (binOp .quo t (.float .f32 (floatOfInt .f32 (y + 1))) (.float .f32 1333788672)).run Try.prog w = .ok (.float .f32 q) w := fun t w => run_float_arith w .quo t .f32 _ _ _ hq
      have hq2 : ∀ t w, (binOp .quo t (.float .f32 (floatOfInt .f32 (room - 1))) (.float .f32 q)).run Try.prog w = .ok (.float .f32 r) w := fun t w => run_float_arith w .quo t .f32 _ _ _ hrr
      have HF := hid hf
      have hy1 := hyb.1
      have hy2 := hyb.2
      have e3 : ((x.length : Int) - 1).toNat = x.length - 1 := by omega
      have e4 : (x.length : Int) - 1 < (x.length : Int) := by omega
      have e5 : (0 : Int) ≤ (x.length : Int) - 1 := by omega
      have HRL := hid hrl
      clear hq hrr hf hyb hrl
      go_enter Try.func26, Try.ntmps26
      go_wp2_with (go_at_call 76; refine (l04Room_any _ _).mono ?_; rintro e w' ⟨rfl, rfl⟩)
      refine (l04Rising_any _ c x room _ HX.out hn HR.out).mono ?_
      rw [HL.out]
      rintro e w1 ⟨rfl, m, rfl⟩
      clear hr
      go_wp2_with (first | (simp only [hq1, hq2]; done) | (go_at_call 78; refine (l02Number_any r _ HF.out).mono ?_; rintro e w' ⟨rfl, rfl⟩))
      go_ret2
      exact ⟨by rw [hp.out]; exact ret_fb hvv.out.symm, below_drewN (Below.refl _ _) _⟩
set_option maxRecDepth 100000 in
set_option maxHeartbeats 1600000 in
theorem isIncreasing_any (A : Option Addr) (c : Nat) (x : List Int) (w : World) (hx : RdL (Value.int .i64) w A x) (hn : x.length ≤ 1048576) :
    Calls Try.prog 128 #[.slice A x.length c] w fun e w' => e = .returned (.bool (incTo x x.length)) ∧ ∃ m, w' = w.drewN m := by
  have HX := hid hx
  clear hx
  go_enter Try.func128, Try.ntmps128
  go_wp2
  go_loopw [3, 6] (fun i_ i wr => ∃ k n : Nat, k ≤ x.length ∧ i = .int .i64 k ∧ wr = w.drewN n ∧ Hid (incTo x k = true)) (fun i_ i _ => x.length - (intOf i).toNat)
  case atStart => exact ⟨0, 0, Nat.zero_le _, rfl, rfl, rfl⟩
  case round =>
    obtain ⟨k, n, hk, rfl, rfl, hh⟩ := hrel
    by_cases hlt : k < x.length
    · have hi : (k : Int) < (x.length : Int) := by omega
      rcases (show k = 0 ∨ 0 < k by omega) with rfl | hk0
      · have he : Hid (incTo x (0 + 1) = true) := rfl
        have hd0 : decide (((0 : Nat) : Int) > 0) = false := rfl
        go_wp2
        go_quiet (fail)
        go_wp2
        exact ⟨⟨1, _, by omega, by go_num, rfl, he⟩, by simp [intOf]; omega⟩
      · obtain ⟨b, o, y, rfl, hcy, hyk⟩ := HX.out.at_ hlt
        obtain ⟨b', o', z, hA', hcz, hzk⟩ := HX.out.at_ (k := k - 1) (by omega)
        injection hA' with hA'; injection hA' with e1 e2
        subst e1 e2
        have e3 : ((k : Int) - 1).toNat = k - 1 := by omega
        have e4 : (k : Int) - 1 < (x.length : Int) := by omega
        have e5 : (0 : Int) ≤ (k : Int) - 1 := by omega
        have e6 : IntKind.i64.wrap ((k : Int) - 1) = (k : Int) - 1 := by rw [IntKind.wrap_i64]; omega
        have hd0 : decide ((k : Int) > 0) = true := decide_eq_true (by omega)
        have hd1 : (0 : Int) < (k : Int) := by omega
        have hstep : incTo x (k + 1) = decide (z < y) := by rw [incTo_succ, hh.out, getD_of hyk, getD_of hzk]; simp; omega
        have HS := hid hstep
        clear hstep
        rcases Int.lt_or_le z y with hzy | hzy
        · have he : Hid (incTo x (k + 1) = true) := by show _ = _; rw [HS.out, decide_eq_true hzy]
          have hdd : decide (y ≤ z) = false := decide_eq_false (by omega)
          clear hzy
          go_wp2
          go_quiet (fail)
          go_wp2
          exact ⟨⟨k + 1, _, by omega, by go_num, rfl, he⟩, by simp [intOf]; omega⟩
        · have he : Hid (incTo x x.length = false) := incTo_no (k := k) (by rw [HS.out]; exact decide_eq_false (by omega)) hlt
          have hdd : decide (y ≤ z) = true := decide_eq_true (by omega)
          clear hzy
          go_wp2
          go_quiet (fail)
          go_wp2
          go_ret
          exact ⟨ret_bool he.out.symm, n + nq, by rw [World.drewN_drewN]⟩
    · have hi : ¬ (k : Int) < (x.length : Int) := by omega
      obtain rfl : k = x.length := by omega
      go_wp2
      go_ret
      exact ⟨ret_bool hh.out.symm, n, rfl⟩
set_option maxHeartbeats 1600000 in
theorem isLeastList_any (A : Option Addr) (c : Nat) (x : List Int) (room : Int) (w : World) (hx : RdL (Value.int .i64) w A x) (hn : x.length ≤ 1048576) :
    Calls Try.prog 79 #[.slice A x.length c, .int .i64 room] w fun e w' => e = .returned (.bool (vLeast x room)) ∧ ∃ m, w' = w.drewN m := by
  have HX := hid hx
  clear hx
  cases hr : inB room 1 256 with
  | false =>
    have hv : Hid (vLeast x room = false) := by show _ = _; unfold vLeast; rw [hr]; rfl
    go_enter Try.func79, Try.ntmps79
    go_wp2_with (go_at_call 127; refine (isRoom_any _ _).mono ?_; rintro e w' ⟨rfl, rfl⟩)
    go_ret
    exact ⟨ret_bool hv.out.symm, 0, rfl⟩
  | true =>
  by_cases hlen : (x.length : Int) ≤ room
  · cases ha : allB x 0 4294967295 with
    | false =>
      have hv : Hid (vLeast x room = false) := by show _ = _; unfold vLeast; rw [ha]; simp
      have HA := hid ha
      clear ha
      go_enter Try.func79, Try.ntmps79
      go_wp2_with (first | (go_at_call 127; refine (isRoom_any _ _).mono ?_; rintro e w' ⟨rfl, rfl⟩) | (go_at_call 85; refine (areAllKeys_any A c x _ HX.out hn).mono ?_; rw [HA.out]; rintro e w' ⟨rfl, rfl⟩))
      go_ret
      exact ⟨ret_bool hv.out.symm, 0, rfl⟩
    | true =>
      have hv : Hid (vLeast x room = incTo x x.length) := by show _ = _; unfold vLeast; rw [hr, ha, decide_eq_true hlen]; rfl
      have HA := hid ha
      clear ha
      go_enter Try.func79, Try.ntmps79
      go_wp2_with (first | (go_at_call 127; refine (isRoom_any _ _).mono ?_; rintro e w' ⟨rfl, rfl⟩) | (go_at_call 85; refine (areAllKeys_any A c x _ HX.out hn).mono ?_; rw [HA.out]; rintro e w' ⟨rfl, rfl⟩) | (go_at_call 128; refine (isIncreasing_any A c x _ HX.out hn).mono ?_; rintro e w' ⟨rfl, m, rfl⟩))
      go_ret
      exact ⟨ret_bool hv.out.symm, _, rfl⟩
  · have hv : Hid (vLeast x room = false) := by show _ = _; unfold vLeast; rw [decide_eq_false hlen]; simp
    have hd : decide ((x.length : Int) ≤ room) = false := decide_eq_false hlen
    go_enter Try.func79, Try.ntmps79
    go_wp2_with (go_at_call 127; refine (isRoom_any _ _).mono ?_; rintro e w' ⟨rfl, rfl⟩)
    go_ret
    exact ⟨ret_bool hv.out.symm, 0, rfl⟩
set_option maxRecDepth 100000 in
set_option maxHeartbeats 1600000 in
theorem iCountOfLeast_any (A : Option Addr) (c : Nat) (x : List Int) (room : Int) (w : World) (hx : RdL (Value.int .i64) w A x) (hn : x.length ≤ 1048576) (we : ∀ y ∈ x, W64 y) (hroom : W64 room) :
    Calls Try.prog 28 #[.slice A x.length c, .int .i64 room] w fun e w' => e = .returned (.tuple #[.float .f32 (pCountOfLeast x room).1, .bool (pCountOfLeast x room).2]) ∧ Below w.heap.size w w' := by
  have HX := hid hx
  clear hx we hroom
  cases hv : vLeast x room with
  | false =>
    have hp : Hid (pCountOfLeast x room = (0, false)) := by show _ = _; simp [pCountOfLeast, hv]
    go_enter Try.func28, Try.ntmps28
    go_wp2_with fail
    refine (isLeastList_any A c x room _ HX.out hn).mono ?_
    rw [hv]
    rintro e w1 ⟨rfl, m, rfl⟩
    clear hv
    go_wp2
    go_ret2
    exact ⟨by rw [hp.out]; rfl, below_drewN (Below.refl _ _) _⟩
  | true =>
    obtain ⟨⟨hr1, hr2⟩, hlen, hbd, _⟩ := vLeast_iff hv
    have hp : Hid (pCountOfLeast x room = (leastV x.length (x.getD (x.length - 1) 0) room, true)) := by show _ = _; unfold pCountOfLeast; rw [if_pos hv]
    have HV := hid hv
    have HBD := hid hbd
    clear hbd hv
    by_cases hlt : (x.length : Int) < room
    · have hvv : Hid (leastV x.length (x.getD (x.length - 1) 0) room = floatOfInt .f32 (x.length : Int)) := by show _ = _; unfold leastV; rw [if_pos hlt]
      go_enter Try.func28, Try.ntmps28
      go_wp2_with fail
      refine (isLeastList_any A c x room _ HX.out hn).mono ?_
      rw [HV.out]
      rintro e w1 ⟨rfl, m, rfl⟩
      go_wp2
      go_ret2
      exact ⟨by rw [hp.out]; exact ret_fb hvv.out.symm, below_drewN (Below.refl _ _) _⟩
    · have hpos : 0 < x.length := by omega
      obtain ⟨b, o, y, rfl, hcy, hym⟩ := HX.out.at_ (k := x.length - 1) (by omega)
      have hyb := HBD.out y (List.mem_of_getElem? hym.out)
      obtain ⟨q, r, hq, hrr, hf⟩ := least_spec hyb.1 hyb.2 hr1 hr2
      have hvv : Hid (leastV x.length (x.getD (x.length - 1) 0) room = r) := by show _ = _; rw [getD_of hym]; exact leastV_eq hlt hq hrr
      have hq1 : ∀ t w, (binOp .quo t (.float .f32 (floatOfInt .f32 (y + 1))) (.float .f32 1333788672)).run Try.prog w = .ok (.float .f32 q) w := fun t w => run_float_arith w .quo t .f32 _ _ _ hq
      have hq2 : ∀ t w, (binOp .quo t (.float .f32 (floatOfInt .f32 (room - 1))) (.float .f32 q)).run Try.prog w = .ok (.float .f32 r) w := fun t w => run_float_arith w .quo t .f32 _ _ _ hrr
      have hy1 := hyb.1
      have hy2 := hyb.2
      have e3 : ((x.length : Int) - 1).toNat = x.length - 1 := by omega
      have e4 : (x.length : Int) - 1 < (x.length : Int) := by omega
      have e5 : (0 : Int) ≤ (x.length : Int) - 1 := by omega
      clear hq hrr hf hyb
      go_enter Try.func28, Try.ntmps28
      go_wp2_with fail
      refine (isLeastList_any _ c x room _ HX.out hn).mono ?_
      rw [HV.out]
      rintro e w1 ⟨rfl, m, rfl⟩
      go_wp2_with (simp only [hq1, hq2])
      go_ret2
      exact ⟨by rw [hp.out]; exact ret_fb hvv.out.symm, below_drewN (Below.refl _ _) _⟩
end Go.Proofs.Ytnngepnfljkbhaa
