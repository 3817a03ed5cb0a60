/-
  The reference's functions over a pointer to cells that lie inside a slice: l03Is, l03Place, l03At, l03Own, by contracts. Made by program out of the ones over a box.
-/
import Derived.Test.YtmafkkpdcajfoaaCellsAt
import Derived.Test.YtmafkkpdcajfoaaOwn
namespace Go.Proofs.Ytmafkkpdcajfoaa
open Go.RowKit
set_option linter.unusedVariables false

set_option maxHeartbeats 2000000 in
theorem l03Is_off (p q c : Nat) (A : Option Addr) (a0 a1 a2 : Int) (xs : List Int) (w : World) (h0 : w.cell? ⟨p, q, none⟩ = some (.int .i64 a0)) (h1 : w.cell? ⟨p, q + 1, none⟩ = some (.int .i64 a1)) (h2 : w.cell? ⟨p, q + 2, none⟩ = some (.int .i64 a2))
    (h3 : w.cell? ⟨p, q + 3, none⟩ = some (.slice A xs.length c)) (hx : RdL (Value.int .i64) w A xs) (hn : xs.length ≤ 1048576) :
    Calls Try.prog 47 #[.pointer (some ⟨p, q, none⟩)] w fun e w' => e = .returned (.bool (vCells a0 a1 a2 xs)) ∧ ∃ n, w' = w.drewN n := by
  have HX := hid hx
  clear hx
  cases e0 : inB a0 2 64 with
  | false =>
    have hv := hid (show vCells a0 a1 a2 xs = false by simp [vCells, e0])
    go_enter Try.func47, Try.ntmps47
    go_wp2
    go_quiet ((first | (go_at_call 53; refine Calls.quiet_of_same ((l00In_any _ _ _ _).mono fun _ _ ⟨h, h'⟩ => ⟨h, h'.symm⟩)) | (go_at_call 36; refine Calls.quiet_of_same ((l02Key_any _ _).mono fun _ _ ⟨h, h'⟩ => ⟨h, h'.symm⟩))))
    go_wp2
    go_ret
    exact ⟨ret_bool hv.out.symm, _, rfl⟩
  | true =>
  cases e1 : inB a1 1 6 with
  | false =>
    have hv := hid (show vCells a0 a1 a2 xs = false by simp [vCells, e1])
    go_enter Try.func47, Try.ntmps47
    go_wp2
    go_quiet ((first | (go_at_call 53; refine Calls.quiet_of_same ((l00In_any _ _ _ _).mono fun _ _ ⟨h, h'⟩ => ⟨h, h'.symm⟩)) | (go_at_call 36; refine Calls.quiet_of_same ((l02Key_any _ _).mono fun _ _ ⟨h, h'⟩ => ⟨h, h'.symm⟩))))
    go_wp2
    go_ret
    exact ⟨ret_bool hv.out.symm, _, rfl⟩
  | true =>
  cases e2 : inB a2 0 4294967295 with
  | false =>
    have hv := hid (show vCells a0 a1 a2 xs = false by simp [vCells, e2])
    go_enter Try.func47, Try.ntmps47
    go_wp2
    go_quiet ((first | (go_at_call 53; refine Calls.quiet_of_same ((l00In_any _ _ _ _).mono fun _ _ ⟨h, h'⟩ => ⟨h, h'.symm⟩)) | (go_at_call 36; refine Calls.quiet_of_same ((l02Key_any _ _).mono fun _ _ ⟨h, h'⟩ => ⟨h, h'.symm⟩))))
    go_wp2
    go_ret
    exact ⟨ret_bool hv.out.symm, _, rfl⟩
  | true =>
  obtain ⟨hm0, hm1⟩ := mul_sides e0 e1
  have hwr : IntKind.i64.wrap (a0 * a1) = a0 * a1 := by rw [IntKind.wrap_i64]; omega
  by_cases e3 : (xs.length : Int) = a0 * a1
  · have hv := hid (show vCells a0 a1 a2 xs = allB xs (-1000000000000) 1000000000000 by simp [vCells, *])
    have hwr1 : IntKind.i64.wrap (a0 * a1) = (xs.length : Int) := by rw [hwr, e3]
    clear e3 hwr hm0 hm1
    go_enter Try.func47, Try.ntmps47
    go_wp2
    go_quiet ((first | (go_at_call 53; refine Calls.quiet_of_same ((l00In_any _ _ _ _).mono fun _ _ ⟨h, h'⟩ => ⟨h, h'.symm⟩)) | (go_at_call 36; refine Calls.quiet_of_same ((l02Key_any _ _).mono fun _ _ ⟨h, h'⟩ => ⟨h, h'.symm⟩))))
    go_wp2
    clear e0 e1 e2
    go_loopw [48] (fun i wr => ∃ k n : Nat, k ≤ xs.length ∧ i = .int .i64 k ∧ wr = w.drewN n ∧ Hid (allB (xs.take k) (-1000000000000) 1000000000000 = true)) (fun i _ => xs.length - (intOf i).toNat)
    case atStart => exact ⟨0, _, Nat.zero_le _, rfl, rfl, rfl⟩
    case round =>
      obtain ⟨k, n, hk, rfl, rfl, hh⟩ := hrel
      by_cases hlt : k < xs.length
      · have hi : (k : Int) < (xs.length : Int) := by omega
        obtain ⟨b', o', x, rfl, hc, hxk⟩ := HX.out.at_ hlt
        cases hb : inB x (-1000000000000) 1000000000000 with
        | true =>
          have he := hid (allB_snoc hh hxk hb)
          go_wp2_with ((go_at_call 53; refine (l00In_any _ _ _ _).mono ?_; rintro e w' ⟨rfl, rfl⟩))
          exact ⟨⟨k + 1, _, by omega, by go_num, rfl, he⟩, by simp [intOf]; omega⟩
        | false =>
          have he := hid (allB_no hxk hb)
          go_wp2_with ((go_at_call 53; refine (l00In_any _ _ _ _).mono ?_; rintro e w' ⟨rfl, rfl⟩))
          go_ret
          exact ⟨ret_bool (by rw [hv.out, he.out]), _, rfl⟩
      · have hi : ¬ (k : Int) < (xs.length : Int) := by omega
        go_wp2
        go_ret
        have he := hh.out
        rw [List.take_of_length_le (by omega)] at he
        exact ⟨ret_bool (by rw [hv.out, he]), _, rfl⟩
  · have t3 : ((xs.length : Int) == a0 * a1) = false := by simp [e3]
    have hv := hid (show vCells a0 a1 a2 xs = false by simp [vCells, e3])
    go_enter Try.func47, Try.ntmps47
    go_wp2
    go_quiet ((first | (go_at_call 53; refine Calls.quiet_of_same ((l00In_any _ _ _ _).mono fun _ _ ⟨h, h'⟩ => ⟨h, h'.symm⟩)) | (go_at_call 36; refine Calls.quiet_of_same ((l02Key_any _ _).mono fun _ _ ⟨h, h'⟩ => ⟨h, h'.symm⟩))))
    go_wp2
    go_ret
    exact ⟨ret_bool hv.out.symm, _, rfl⟩
set_option maxHeartbeats 800000 in
theorem l03Place_off (p q wd s key i : Nat) (w : World) (h0 : w.cell? ⟨p, q, none⟩ = some (.int .i64 wd)) (h2 : w.cell? ⟨p, q + 2, none⟩ = some (.int .i64 s)) (hw1 : 2 ≤ wd) (hw2 : wd ≤ 64) (hs : s < 4294967296) (hk : key < 4294967296) (hi : i ≤ 6) :
    Calls Try.prog 48 #[.pointer (some ⟨p, q, none⟩), .int .i64 key, .int .i64 i] w fun e w' => e = .returned (.int .i64 (placeN wd s key i)) ∧ ∃ n, w' = w.drewN n := by
  have hm := mul_le6 hi hw2
  have hb := belowN_lt key (saltN s i) wd (by omega)
  have e1 : IntKind.i64.wrap ((i : Int) * (wd : Int)) = (i : Int) * (wd : Int) := by rw [IntKind.wrap_i64]; omega
  have e2 : IntKind.i64.wrap ((s : Int) + (i : Int)) = (s : Int) + (i : Int) := by rw [IntKind.wrap_i64]; omega
  have e3 : ((s : Int) + (i : Int)).tmod 4294967296 = (saltN s i : Int) := by rw [Int.tmod_eq_emod_of_nonneg (by omega)]; unfold saltN; omega
  have e4 : IntKind.i64.wrap ((i : Int) * (wd : Int) + (belowN key (saltN s i) wd : Int)) = (placeN wd s key i : Int) := by rw [IntKind.wrap_i64, place_cast]; omega
  go_enter Try.func48, Try.ntmps48
  go_wp2
  go_quiet ((go_at_call 60; refine Calls.quiet_of_same ((l02Below_any _ _ _ _ hk (saltN_lt _ _) (by omega)).mono fun _ _ ⟨h, h'⟩ => ⟨h, h'.symm⟩)))
  go_wp2
  go_ret
  exact ⟨rfl, _, rfl⟩
set_option maxRecDepth 100000 in
set_option maxHeartbeats 1600000 in
theorem l03At_off (p q wd dp s key c : Nat) (A : Option Addr) (x : List Int) (w : World) (h0 : w.cell? ⟨p, q, none⟩ = some (.int .i64 wd)) (h1 : w.cell? ⟨p, q + 1, none⟩ = some (.int .i64 dp)) (h2 : w.cell? ⟨p, q + 2, none⟩ = some (.int .i64 s)) (h3 : w.cell? ⟨p, q + 3, none⟩ = some (.slice A x.length c))
    (hx : RdL (Value.int .i64) w A x) (hw1 : 2 ≤ wd) (hw2 : wd ≤ 64) (hd1 : 1 ≤ dp) (hd2 : dp ≤ 6) (hs : s < 4294967296) (hk : key < 4294967296) (hl : x.length = wd * dp) (hbd : ∀ y ∈ x, y ≤ 1000000000000) :
    Calls Try.prog 30 #[.pointer (some ⟨p, q, none⟩), .int .i64 key] w fun e w' => e = .returned (.int .i64 (minAtM 1000000000000 x (cellsL wd s key dp))) ∧ ∃ n, w' = w.drewN n := by
  have HX := hid hx
  have HBD := hid hbd
  have HL := hid hl
  clear hx hbd hl
  have hlt0 : placeN wd s key 0 < x.length := by rw [HL.out]; exact placeN_lt (by omega) (by omega)
  have hlx : x.length ≤ 384 := by rw [HL.out]; have := Nat.mul_le_mul hw2 hd2; omega
  obtain ⟨b, o, y0, rfl, hy0, hym0⟩ := HX.out.at_ hlt0
  have hi0 : (placeN wd s key 0 : Int) < (x.length : Int) := by omega
  have hi0' : (0 : Int) ≤ (placeN wd s key 0 : Int) := by omega
  have hv1 : Hid (minAtM 1000000000000 x ((cellsL wd s key dp).take 1) = y0) := by
    show minAtM 1000000000000 x ((cellsL wd s key dp).take (0 + 1)) = y0
    rw [minAtM_snoc (cellsL_at (by omega)) hym0]
    have := HBD.out y0 (List.mem_of_getElem? hym0.out)
    simp only [List.take_zero, minAtM, List.foldl_nil]
    omega
  go_enter Try.func30, Try.ntmps30
  go_wp2
  go_quiet ((go_at_call 48; exact Calls.quiet_of (l03Place_off _ _ wd s key 0 _ (by simpa using h0) (by simpa using h2) hw1 hw2 hs hk (by omega))))
  go_wp2
  go_loopw [5, 6] (fun v i wr => ∃ k n : Nat, 1 ≤ k ∧ k ≤ dp ∧ i = .int .i64 k ∧ wr = w.drewN n ∧ ∃ z : Int, v = .int .i64 z ∧ Hid (minAtM 1000000000000 x ((cellsL wd s key dp).take k) = z)) (fun _ i _ => dp - (intOf i).toNat)
  case atStart => exact ⟨1, _, Nat.le_refl _, by omega, rfl, rfl, y0, rfl, hv1⟩
  case round =>
    obtain ⟨k, n, hk1', hkr, rfl, rfl, z, rfl, hh⟩ := hrel
    by_cases hlt : k < dp
    · have hi : (k : Int) < (dp : Int) := by omega
      have hltk : placeN wd s key k < x.length := by rw [HL.out]; exact placeN_lt (by omega) hlt
      obtain ⟨b', o', y, hA', hcy, hym⟩ := HX.out.at_ hltk
      obtain ⟨rfl, rfl⟩ : b = b' ∧ o = o' := by injection hA' with hA'; injection hA' with h1 h2; exact ⟨h1, h2⟩
      have hik : (placeN wd s key k : Int) < (x.length : Int) := by omega
      have hik' : (0 : Int) ≤ (placeN wd s key k : Int) := by omega
      have he : Hid (minAtM 1000000000000 x ((cellsL wd s key dp).take (k + 1)) = min z y) := by rw [minAtM_snoc (cellsL_at hlt) hym, hh.out]; rfl
      clear hA'
      go_wp2
      go_quiet ((first | (go_at_call 48; exact quiet_moreN (l03Place_off _ _ wd s key k _ (by simpa using h0) (by simpa using h2) hw1 hw2 hs hk (by omega))) | (go_at_call 49; exact quiet_more (l00Min_any' _ _ _))))
      go_wp2
      exact ⟨⟨k + 1, _, by omega, by omega, by go_num, rfl, _, rfl, he⟩, by simp [intOf]; omega⟩
    · have hi : ¬ (k : Int) < (dp : Int) := by omega
      go_wp2
      go_ret
      have he := hh.out
      rw [List.take_of_length_le (by rw [cellsL_length]; omega)] at he
      exact ⟨ret_int he.symm, _, rfl⟩
end Go.Proofs.Ytmafkkpdcajfoaa
