/-
  Is a key in a sieve? Reference and program, by contracts.
-/
import Derived.Test.YtocmcghhjjhogaaPlaces
import Derived.Test.YtocmcghhjjhogaaSieve
namespace Go.Proofs.Ytocmcghhjjhogaa
open Go.RowKit
set_option linter.unusedVariables false

/-- The bits at all listed places are true. -/
def allAt (x : List Bool) (l : List Int) : Bool := l.all fun p => x.getD p.toNat false
theorem allAt_snoc {x : List Bool} {l : List Int} {k m : Nat} (h : Hid (allAt x (l.take k) = true)) (hl : Hid (l[k]? = some (m : Int))) (hx : Hid (x[m]? = some true)) : allAt x (l.take (k + 1)) = true := by
  have h0 := h.out
  unfold allAt at h0 ⊢
  rw [List.take_add_one, hl.out]
  simp only [Option.toList_some, List.all_append, h0, List.all_cons, List.all_nil, Bool.and_true, Bool.true_and, Int.toNat_natCast]
  rw [List.getD_eq_getElem?_getD, hx.out]; rfl
theorem allAt_no {x : List Bool} {l : List Int} {k m : Nat} (hl : Hid (l[k]? = some (m : Int))) (hx : Hid (x[m]? = some false)) : allAt x l = false := by
  unfold allAt
  rw [List.all_eq_false]
  refine ⟨m, List.mem_of_getElem? hl.out, ?_⟩
  rw [List.getD_eq_getElem?_getD, Int.toNat_natCast, hx.out]; simp
/-- What InSieve returns. -/
def pInSieve (r s : Int) (x : List Bool) (key : Int) : Bool × Bool :=
  if vSieve r s x.length = true ∧ inB key 0 4294967295 = true then (allAt x (spotsL key.toNat s.toNat x.length r.toNat), true) else (false, false)
theorem vSieve_iff {r s : Int} {n : Nat} (h : vSieve r s n = true) : (1 ≤ r ∧ r ≤ 8) ∧ (0 ≤ s ∧ s ≤ 4294967295) ∧ 1 ≤ n ∧ n ≤ 512 := by
  simp [vSieve, inB] at h; omega

set_option maxHeartbeats 1600000 in
theorem sInSieve_any (r s : Int) (A : Option Addr) (c : Nat) (x : List Bool) (key : Int) (w : World) (hr : W64 r) (hs : W64 s) (hx : RdL Value.bool w A x) (hn : x.length ≤ 1048576) (hkey : W64 key) :
    Calls Try.prog 32 #[.agg #[.int .i64 r, .int .i64 s, .slice A x.length c], .int .i64 key] w fun e w' => e = .returned (.tuple #[.bool (pInSieve r s x key).1, .bool (pInSieve r s x key).2]) ∧ Below w.heap.size w w' := by
  have HX := hid hx
  clear hx hr hs hkey
  cases hv : vSieve r s x.length with
  | false =>
    have hp : pInSieve r s x key = (false, false) := by simp [pInSieve, hv]
    rw [hp]
    clear hp
    go_enter Try.func32, Try.ntmps32
    go_wp2_with (first | (go_at_call 82; refine (l02Key_any _ _).mono ?_; rintro e w' ⟨rfl, rfl⟩) | (go_at_call 62; refine (l04Is_any _ _ x.length c A r s _ (by simp) (by simp) (by simp)).mono ?_; rintro e w' ⟨rfl, rfl⟩))
    go_ret2
    exact ⟨rfl, below_a1 _ _⟩
  | true =>
  cases hk : inB key 0 4294967295 with
  | false =>
    have hp : pInSieve r s x key = (false, false) := by simp [pInSieve, hk]
    rw [hp]
    clear hp
    go_enter Try.func32, Try.ntmps32
    go_wp2_with (first | (go_at_call 82; refine (l02Key_any _ _).mono ?_; rintro e w' ⟨rfl, rfl⟩) | (go_at_call 62; refine (l04Is_any _ _ x.length c A r s _ (by simp) (by simp) (by simp)).mono ?_; rintro e w' ⟨rfl, rfl⟩))
    go_ret2
    exact ⟨rfl, below_a1 _ _⟩
  | true =>
  obtain ⟨⟨hr1, hr2⟩, ⟨hs1, hs2⟩, hn1, hn2⟩ := vSieve_iff hv
  obtain ⟨hk1, hk2⟩ := inB_iff.1 hk
  obtain ⟨r, rfl⟩ := Int.eq_ofNat_of_zero_le (show 0 ≤ r by omega)
  obtain ⟨s, rfl⟩ := Int.eq_ofNat_of_zero_le hs1
  obtain ⟨key, rfl⟩ := Int.eq_ofNat_of_zero_le hk1
  have hp : pInSieve r s x key = (allAt x (spotsL key s x.length r), true) := by simp [pInSieve, hv, hk]
  rw [hp]
  clear hp
  go_enter Try.func32, Try.ntmps32
  go_wp2_with (first | (go_at_call 82; refine (l02Key_any _ _).mono ?_; rintro e w' ⟨rfl, rfl⟩) | (go_at_call 62; refine (l04Is_any _ _ x.length c A r s _ (by simp) (by simp) (by simp)).mono ?_; rintro e w' ⟨rfl, rfl⟩))
  refine (l04Places_any key s r x.length _ (by omega) (by omega) (by omega) (by omega)).mono ?_
  rintro e w1 ⟨A1, c1, rfl, ho, hb⟩
  have HO := hid ho.rd
  have S1 := below_call (below_a1 _ _) hb
  have HX1 := hid (HX.out.below S1.out)
  have hbx := (Blk.new w 29 [.int .i64 r, .int .i64 s, .slice A x.length c]).below hb
  obtain ⟨c0, c2, c3⟩ := hbx.cells3
  have hPl := spotsL_length key s x.length r
  obtain ⟨P, hP⟩ : ∃ P, P = spotsL key s x.length r := ⟨_, rfl⟩
  have hmem : Hid (∀ p ∈ P, ∃ m : Nat, p = m ∧ m < x.length) := fun p hp' => spotsL_mem (by omega) (hP ▸ hp')
  rw [← hP] at hPl HO ⊢
  have HP := hid hP
  clear hv hk ho hb hP hbx c0 c2
  have HPl := hid hPl
  have hP8 : P.length ≤ 8 := by omega
  clear hPl
  go_wp2
  go_loopw [7] (fun i wr => ∃ k n : Nat, k ≤ P.length ∧ i = .int .i64 k ∧ wr = w1.drewN n ∧ Hid (allAt x (P.take k) = true)) (fun i _ => P.length - (intOf i).toNat)
  case atStart => exact ⟨0, 0, Nat.zero_le _, rfl, rfl, by show allAt x (P.take 0) = true; simp [allAt]⟩
  case round =>
    obtain ⟨k, n, hkr, rfl, rfl, hh⟩ := hrel
    by_cases hlt : k < P.length
    · have hi : (k : Int) < (P.length : Int) := by omega
      obtain ⟨b1, o1, p, rfl, hcp, hpk⟩ := HO.out.at_ hlt
      obtain ⟨m, rfl, hm⟩ := hmem.out p (List.mem_of_getElem? hpk.out)
      obtain ⟨b, o, y, rfl, hcy, hym⟩ := HX1.out.at_ hm
      have hm' : (m : Int) < (x.length : Int) := by omega
      have hm0 : (0 : Int) ≤ (m : Int) := by omega
      cases y with
      | true =>
        have he := hid (allAt_snoc hh hpk hym)
        go_wp2
        go_quiet (fail)
        go_wp2
        exact ⟨⟨k + 1, _, by omega, by go_num, rfl, he⟩, by simp [intOf]; omega⟩
      | false =>
        have he := hid (allAt_no hpk hym)
        go_wp2
        go_quiet (fail)
        go_wp2
        go_ret2
        exact ⟨ret_bool2 (by rw [← HP.out, he.out]) rfl, below_drewN (below_drewN S1.out _) _⟩
    · have hi : ¬ (k : Int) < (P.length : Int) := by omega
      go_wp2
      go_ret2
      have he := hh.out
      rw [List.take_of_length_le (by omega)] at he
      exact ⟨ret_bool2 (by rw [← HP.out, he]) rfl, below_drewN S1.out _⟩
set_option maxHeartbeats 1600000 in
theorem iInSieve_any (r s : Int) (A : Option Addr) (c : Nat) (x : List Bool) (key : Int) (w : World) (hr : W64 r) (hs : W64 s) (hx : RdL Value.bool w A x) (hn : x.length ≤ 1048576) (hkey : W64 key) :
    Calls Try.prog 33 #[.agg #[.int .i64 r, .int .i64 s, .slice A x.length c], .int .i64 key] w fun e w' => e = .returned (.tuple #[.bool (pInSieve r s x key).1, .bool (pInSieve r s x key).2]) ∧ Below w.heap.size w w' := by
  have HX := hid hx
  have b0 := hid (Blk.new w 29 [.int .i64 r, .int .i64 s, .slice A x.length c])
  cases hv : vSieve r s x.length with
  | false =>
    have hp : pInSieve r s x key = (false, false) := by simp [pInSieve, hv]
    rw [hp]
    clear hp
    go_enter Try.func33, Try.ntmps33
    go_wp2_with fail
    refine (iValidSieve_any r s A c x _ hr hs (HX.out.below (below_a1 _ _)) hn).mono ?_
    rintro e w1 ⟨rfl, hb⟩
    go_wp2_with ((go_at_call 84; refine (IsKey_any _ _).mono ?_; rintro e w' ⟨rfl, rfl⟩))
    go_ret2
    exact ⟨rfl, (below_call (below_a1 _ _) hb).out⟩
  | true =>
  cases hk : inB key 0 4294967295 with
  | false =>
    have hp : pInSieve r s x key = (false, false) := by simp [pInSieve, hk]
    rw [hp]
    clear hp
    go_enter Try.func33, Try.ntmps33
    go_wp2_with fail
    refine (iValidSieve_any r s A c x _ hr hs (HX.out.below (below_a1 _ _)) hn).mono ?_
    rintro e w1 ⟨rfl, hb⟩
    go_wp2_with ((go_at_call 84; refine (IsKey_any _ _).mono ?_; rintro e w' ⟨rfl, rfl⟩))
    go_ret2
    exact ⟨rfl, (below_call (below_a1 _ _) hb).out⟩
  | true =>
  obtain ⟨⟨hr1, hr2⟩, ⟨hs1, hs2⟩, hn1, hn2⟩ := vSieve_iff hv
  obtain ⟨hk1, hk2⟩ := inB_iff.1 hk
  obtain ⟨r, rfl⟩ := Int.eq_ofNat_of_zero_le (show 0 ≤ r by omega)
  obtain ⟨s, rfl⟩ := Int.eq_ofNat_of_zero_le hs1
  obtain ⟨key, rfl⟩ := Int.eq_ofNat_of_zero_le hk1
  have hp : pInSieve r s x key = (allAt x (spotsL key s x.length r), true) := by simp [pInSieve, hv, hk]
  rw [hp]
  clear hp
  go_enter Try.func33, Try.ntmps33
  go_wp2_with fail
  refine (iValidSieve_any r s A c x _ hr hs (HX.out.below (below_a1 _ _)) hn).mono ?_
  rintro e w0 ⟨rfl, hb0⟩
  have S0 := below_call (below_a1 _ _) hb0
  have HX0 := hid (HX.out.below S0.out)
  have B0 := hid (b0.out.below hb0)
  obtain ⟨e0, e1, e2⟩ := B0.out.cells3
  clear hb0 b0 hr hs hx hkey
  go_wp2_with ((go_at_call 84; refine (IsKey_any _ _).mono ?_; rintro e w' ⟨rfl, rfl⟩))
  refine (spots_any key s r x.length _ (by omega) (by omega) (by omega) (by omega)).mono ?_
  rintro e w1 ⟨A1, c1, rfl, ho, hb⟩
  have HO := hid ho.rd
  have S1 := hid (S0.out.trans (hb.mono S0.out.size))
  have HX1 := hid (HX0.out.below hb)
  have hbx := B0.out.below hb
  clear e0 e1 e2
  obtain ⟨c0, c2, c3⟩ := hbx.cells3
  have hPl := spotsL_length key s x.length r
  obtain ⟨P, hP⟩ : ∃ P, P = spotsL key s x.length r := ⟨_, rfl⟩
  have hmem : Hid (∀ p ∈ P, ∃ m : Nat, p = m ∧ m < x.length) := fun p hp' => spotsL_mem (by omega) (hP ▸ hp')
  rw [← hP] at hPl HO ⊢
  have HP := hid hP
  clear hv hk ho hb hP hbx c0 c2
  have HPl := hid hPl
  have hP8 : P.length ≤ 8 := by omega
  clear hPl
  go_wp2
  go_loop [26] (fun i => ∃ k : Nat, k ≤ P.length ∧ i = .int .i64 k ∧ Hid (allAt x (P.take k) = true)) (fun i => P.length - (intOf i).toNat)
  case atStart => exact ⟨0, Nat.zero_le _, rfl, by show allAt x (P.take 0) = true; simp [allAt]⟩
  case round =>
    obtain ⟨k, hkr, rfl, hh⟩ := hrel
    by_cases hlt : k < P.length
    · have hi : (k : Int) < (P.length : Int) := by omega
      obtain ⟨b1, o1, p, rfl, hcp, hpk⟩ := HO.out.at_ hlt
      obtain ⟨m, rfl, hm⟩ := hmem.out p (List.mem_of_getElem? hpk.out)
      obtain ⟨b, o, y, rfl, hcy, hym⟩ := HX1.out.at_ hm
      have hm' : (m : Int) < (x.length : Int) := by omega
      have hm0 : (0 : Int) ≤ (m : Int) := by omega
      cases y with
      | true =>
        have he := hid (allAt_snoc hh hpk hym)
        go_wp2
        exact ⟨⟨k + 1, by omega, by go_num, he⟩, by simp [intOf]; omega⟩
      | false =>
        have he := hid (allAt_no hpk hym)
        go_wp2
        go_ret2
        exact ⟨ret_bool2 (by rw [← HP.out, he.out]) rfl, S1.out⟩
    · have hi : ¬ (k : Int) < (P.length : Int) := by omega
      go_wp2
      go_ret2
      have he := hh.out
      rw [List.take_of_length_le (by omega)] at he
      exact ⟨ret_bool2 (by rw [← HP.out, he]) rfl, S1.out⟩
end Go.Proofs.Ytocmcghhjjhogaa
