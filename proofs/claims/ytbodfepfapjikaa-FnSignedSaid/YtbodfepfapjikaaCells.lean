/-
  Cells: valid ones, by contracts.
-/
import Derived.Test.YtbodfepfapjikaaWithin
namespace Go.Proofs.Ytbodfepfapjikaa
open Go.RowKit
set_option linter.unusedVariables false

/-- Cells are valid. -/
def vCells (a0 a1 a2 : Int) (xs : List Int) : Bool := inB a0 2 64 && inB a1 1 6 && inB a2 0 4294967295 && decide ((xs.length : Int) = a0 * a1) && allB xs (-1000000000000) 1000000000000
theorem mul_sides {a b : Int} (h1 : inB a 2 64 = true) (h2 : inB b 1 6 = true) : 2 ≤ a * b ∧ a * b ≤ 384 := by
  rw [inB_iff] at h1 h2
  have h3 : 2 * 1 ≤ a * b := Int.mul_le_mul h1.1 h2.1 (by omega) (by omega)
  have h4 : a * b ≤ 64 * 6 := Int.mul_le_mul h1.2 h2.2 (by omega) (by omega)
  omega

set_option maxHeartbeats 2000000 in
theorem l03Is_any (p c : Nat) (A : Option Addr) (a0 a1 a2 : Int) (xs : List Int) (w : World) (h0 : w.cell? ⟨p, 0, none⟩ = some (.int .i64 a0)) (h1 : w.cell? ⟨p, 1, none⟩ = some (.int .i64 a1)) (h2 : w.cell? ⟨p, 2, none⟩ = some (.int .i64 a2))
    (h3 : w.cell? ⟨p, 3, none⟩ = some (.slice A xs.length c)) (hx : RdL (Value.int .i64) w A xs) (hn : xs.length ≤ 1048576) :
    Calls Try.prog 74 #[.pointer (some ⟨p, 0, none⟩)] w fun e w' => e = .returned (.bool (vCells a0 a1 a2 xs)) ∧ ∃ n, w' = w.drewN n := by
  have HX := hid hx
  clear hx
  cases e0 : inB a0 2 64 with
  | false =>
    have hv := hid (show vCells a0 a1 a2 xs = false by simp [vCells, e0])
    go_enter Try.func74, Try.ntmps74
    go_wp2
    go_quiet ((first | (go_at_call 113; refine Calls.quiet_of_same ((l00In_any _ _ _ _).mono fun _ _ ⟨h, h'⟩ => ⟨h, h'.symm⟩)) | (go_at_call 70; refine Calls.quiet_of_same ((l02Key_any _ _).mono fun _ _ ⟨h, h'⟩ => ⟨h, h'.symm⟩))))
    go_wp2
    go_ret
    exact ⟨ret_bool hv.out.symm, _, rfl⟩
  | true =>
  cases e1 : inB a1 1 6 with
  | false =>
    have hv := hid (show vCells a0 a1 a2 xs = false by simp [vCells, e1])
    go_enter Try.func74, Try.ntmps74
    go_wp2
    go_quiet ((first | (go_at_call 113; refine Calls.quiet_of_same ((l00In_any _ _ _ _).mono fun _ _ ⟨h, h'⟩ => ⟨h, h'.symm⟩)) | (go_at_call 70; refine Calls.quiet_of_same ((l02Key_any _ _).mono fun _ _ ⟨h, h'⟩ => ⟨h, h'.symm⟩))))
    go_wp2
    go_ret
    exact ⟨ret_bool hv.out.symm, _, rfl⟩
  | true =>
  cases e2 : inB a2 0 4294967295 with
  | false =>
    have hv := hid (show vCells a0 a1 a2 xs = false by simp [vCells, e2])
    go_enter Try.func74, Try.ntmps74
    go_wp2
    go_quiet ((first | (go_at_call 113; refine Calls.quiet_of_same ((l00In_any _ _ _ _).mono fun _ _ ⟨h, h'⟩ => ⟨h, h'.symm⟩)) | (go_at_call 70; refine Calls.quiet_of_same ((l02Key_any _ _).mono fun _ _ ⟨h, h'⟩ => ⟨h, h'.symm⟩))))
    go_wp2
    go_ret
    exact ⟨ret_bool hv.out.symm, _, rfl⟩
  | true =>
  obtain ⟨hm0, hm1⟩ := mul_sides e0 e1
  have hwr : IntKind.i64.wrap (a0 * a1) = a0 * a1 := by rw [IntKind.wrap_i64]; omega
  by_cases e3 : (xs.length : Int) = a0 * a1
  · have hv := hid (show vCells a0 a1 a2 xs = allB xs (-1000000000000) 1000000000000 by simp [vCells, *])
    have hwr1 : IntKind.i64.wrap (a0 * a1) = (xs.length : Int) := by rw [hwr, e3]
    clear e3 hwr hm0 hm1
    go_enter Try.func74, Try.ntmps74
    go_wp2
    go_quiet ((first | (go_at_call 113; refine Calls.quiet_of_same ((l00In_any _ _ _ _).mono fun _ _ ⟨h, h'⟩ => ⟨h, h'.symm⟩)) | (go_at_call 70; refine Calls.quiet_of_same ((l02Key_any _ _).mono fun _ _ ⟨h, h'⟩ => ⟨h, h'.symm⟩))))
    go_wp2
    clear e0 e1 e2
    go_loopw [48] (fun i wr => ∃ k n : Nat, k ≤ xs.length ∧ i = .int .i64 k ∧ wr = w.drewN n ∧ Hid (allB (xs.take k) (-1000000000000) 1000000000000 = true)) (fun i _ => xs.length - (intOf i).toNat)
    case atStart => exact ⟨0, _, Nat.zero_le _, rfl, rfl, rfl⟩
    case round =>
      obtain ⟨k, n, hk, rfl, rfl, hh⟩ := hrel
      by_cases hlt : k < xs.length
      · have hi : (k : Int) < (xs.length : Int) := by omega
        obtain ⟨b', o', x, rfl, hc, hxk⟩ := HX.out.at_ hlt
        cases hb : inB x (-1000000000000) 1000000000000 with
        | true =>
          have he := hid (allB_snoc hh hxk hb)
          go_wp2_with ((go_at_call 113; refine (l00In_any _ _ _ _).mono ?_; rintro e w' ⟨rfl, rfl⟩))
          exact ⟨⟨k + 1, _, by omega, by go_num, rfl, he⟩, by simp [intOf]; omega⟩
        | false =>
          have he := hid (allB_no hxk hb)
          go_wp2_with ((go_at_call 113; refine (l00In_any _ _ _ _).mono ?_; rintro e w' ⟨rfl, rfl⟩))
          go_ret
          exact ⟨ret_bool (by rw [hv.out, he.out]), _, rfl⟩
      · have hi : ¬ (k : Int) < (xs.length : Int) := by omega
        go_wp2
        go_ret
        have he := hh.out
        rw [List.take_of_length_le (by omega)] at he
        exact ⟨ret_bool (by rw [hv.out, he]), _, rfl⟩
  · have t3 : ((xs.length : Int) == a0 * a1) = false := by simp [e3]
    have hv := hid (show vCells a0 a1 a2 xs = false by simp [vCells, e3])
    go_enter Try.func74, Try.ntmps74
    go_wp2
    go_quiet ((first | (go_at_call 113; refine Calls.quiet_of_same ((l00In_any _ _ _ _).mono fun _ _ ⟨h, h'⟩ => ⟨h, h'.symm⟩)) | (go_at_call 70; refine Calls.quiet_of_same ((l02Key_any _ _).mono fun _ _ ⟨h, h'⟩ => ⟨h, h'.symm⟩))))
    go_wp2
    go_ret
    exact ⟨ret_bool hv.out.symm, _, rfl⟩
set_option maxHeartbeats 2000000 in
theorem iValidCells_any (a0 a1 a2 : Int) (A : Option Addr) (c : Nat) (x : List Int) (w : World) (h0 : W64 a0) (h1 : W64 a1) (h2 : W64 a2) (hx : RdL (Value.int .i64) w A x) (hn : x.length ≤ 1048576) (we : ∀ y ∈ x, W64 y) :
    Calls Try.prog 77 #[.agg #[.int .i64 a0, .int .i64 a1, .int .i64 a2, .slice A x.length c]] w fun e w' => e = .returned (.bool (vCells a0 a1 a2 x)) ∧ Below w.heap.size w w' := by
  have HX := hid hx
  clear hx we h0 h1 h2
  cases e0 : inB a0 2 64 with
  | false =>
    have hv := hid (show vCells a0 a1 a2 x = false by simp [vCells, e0])
    go_enter Try.func77, Try.ntmps77
    go_wp2_with (first | (go_at_call 67; refine (within_any _ _ _ _).mono ?_; rintro e w' ⟨rfl, rfl⟩) | (go_at_call 72; refine (IsKey_any _ _).mono ?_; rintro e w' ⟨rfl, rfl⟩))
    go_ret
    exact ⟨ret_bool hv.out.symm, below_a1 _ _⟩
  | true =>
  cases e1 : inB a1 1 6 with
  | false =>
    have hv := hid (show vCells a0 a1 a2 x = false by simp [vCells, e1])
    go_enter Try.func77, Try.ntmps77
    go_wp2_with (first | (go_at_call 67; refine (within_any _ _ _ _).mono ?_; rintro e w' ⟨rfl, rfl⟩) | (go_at_call 72; refine (IsKey_any _ _).mono ?_; rintro e w' ⟨rfl, rfl⟩))
    go_ret
    exact ⟨ret_bool hv.out.symm, below_a1 _ _⟩
  | true =>
  cases e2 : inB a2 0 4294967295 with
  | false =>
    have hv := hid (show vCells a0 a1 a2 x = false by simp [vCells, e2])
    go_enter Try.func77, Try.ntmps77
    go_wp2_with (first | (go_at_call 67; refine (within_any _ _ _ _).mono ?_; rintro e w' ⟨rfl, rfl⟩) | (go_at_call 72; refine (IsKey_any _ _).mono ?_; rintro e w' ⟨rfl, rfl⟩))
    go_ret
    exact ⟨ret_bool hv.out.symm, below_a1 _ _⟩
  | true =>
  obtain ⟨hm0, hm1⟩ := mul_sides e0 e1
  by_cases e3 : (x.length : Int) = a0 * a1
  · have t3 : ((x.length : Int) == a0 * a1) = true := by simp [e3]
    have hv := hid (show vCells a0 a1 a2 x = allB x (-1000000000000) 1000000000000 by simp [vCells, *])
    clear e3
    go_enter Try.func77, Try.ntmps77
    go_wp2_with (first | (go_at_call 67; refine (within_any _ _ _ _).mono ?_; rintro e w' ⟨rfl, rfl⟩) | (go_at_call 72; refine (IsKey_any _ _).mono ?_; rintro e w' ⟨rfl, rfl⟩) | (go_at_call 120; refine (areWithin_any A c x _ _ _ (HX.out.below (below_a1 _ _)) hn).mono ?_; rintro e w1 ⟨rfl, hb⟩))
    go_ret
    exact ⟨ret_bool hv.out.symm, (below_call (below_a1 _ _) hb).out⟩
  · have t3 : ((x.length : Int) == a0 * a1) = false := by simp [e3]
    have hv := hid (show vCells a0 a1 a2 x = false by simp [vCells, e3])
    go_enter Try.func77, Try.ntmps77
    go_wp2_with (first | (go_at_call 67; refine (within_any _ _ _ _).mono ?_; rintro e w' ⟨rfl, rfl⟩) | (go_at_call 72; refine (IsKey_any _ _).mono ?_; rintro e w' ⟨rfl, rfl⟩))
    go_ret
    exact ⟨ret_bool hv.out.symm, below_a1 _ _⟩
end Go.Proofs.Ytbodfepfapjikaa
