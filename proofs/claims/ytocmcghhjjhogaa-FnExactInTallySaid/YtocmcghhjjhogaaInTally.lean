/-
  The least count at the places of a key: reference and program, by contracts.
-/
import Derived.Test.YtocmcghhjjhogaaPlaces
import Derived.Test.YtocmcghhjjhogaaTally
namespace Go.Proofs.Ytocmcghhjjhogaa
open Go.RowKit
set_option linter.unusedVariables false

/-- The least one of the counts at the listed places, and of 1000000. -/
def minAt (x : List Int) (l : List Int) : Int := l.foldl (fun a p => min a (x.getD p.toNat 0)) 1000000
theorem minAt_snoc {x l : List Int} {k m : Nat} {y : Int} (hl : Hid (l[k]? = some (m : Int))) (hx : Hid (x[m]? = some y)) : minAt x (l.take (k + 1)) = min (minAt x (l.take k)) y := by
  unfold minAt
  rw [List.take_add_one, hl.out]
  simp only [Option.toList_some, List.foldl_append, List.foldl_cons, List.foldl_nil, Int.toNat_natCast]
  rw [List.getD_eq_getElem?_getD, hx.out]; rfl
/-- What InTally returns. -/
def pInTally (r s : Int) (x : List Int) (key : Int) : Int × Bool :=
  if vTally r s x = true ∧ inB key 0 4294967295 = true then (minAt x (spotsL key.toNat s.toNat x.length r.toNat), true) else (0, false)
theorem vTally_iff {r s : Int} {x : List Int} (h : vTally r s x = true) : (1 ≤ r ∧ r ≤ 8) ∧ (0 ≤ s ∧ s ≤ 4294967295) ∧ (1 ≤ x.length ∧ x.length ≤ 512) ∧ ∀ y ∈ x, 0 ≤ y ∧ y ≤ 1000000 := by
  simp [vTally, inB, allB] at h
  refine ⟨by omega, by omega, by omega, fun y hy => h.2 y hy⟩

theorem l00Min_any (a b : Int) (w : World) : Calls Try.prog 97 #[.int .i64 a, .int .i64 b] w fun e w' => e = .returned (.int .i64 (min a b)) ∧ w = w' := by
  by_cases h : a < b <;>
  · go_enter Try.func97, Try.ntmps97
    go_wp2
    go_ret
    exact ⟨ret_int (by omega), rfl⟩
set_option maxHeartbeats 1600000 in
theorem sInTally_any (r s : Int) (A : Option Addr) (c : Nat) (x : List Int) (key : Int) (w : World) (hr : W64 r) (hs : W64 s) (hx : RdL (Value.int .i64) w A x) (hn : x.length ≤ 1048576) (we : ∀ y ∈ x, W64 y) (hkey : W64 key) :
    Calls Try.prog 44 #[.agg #[.int .i64 r, .int .i64 s, .slice A x.length c], .int .i64 key] w fun e w' => e = .returned (.tuple #[.int .i64 (pInTally r s x key).1, .bool (pInTally r s x key).2]) ∧ Below w.heap.size w w' := by
  have HX := hid hx
  clear hx hr hs hkey we
  cases hv : vTally r s x with
  | false =>
    have hp : pInTally r s x key = (0, false) := by simp [pInTally, hv]
    rw [hp]
    clear hp
    go_enter Try.func44, Try.ntmps44
    go_wp2_with (first | (go_at_call 82; refine (l02Key_any _ _).mono ?_; rintro e w' ⟨rfl, rfl⟩) | (go_at_call 96; refine (l04Tally_any _ _ c A r s x _ (by simp) (by simp) (by simp) (HX.out.below (below_a1 _ _)) hn).mono ?_; rintro e w' ⟨rfl, rfl⟩))
    go_ret2
    exact ⟨rfl, below_a1 _ _⟩
  | true =>
  cases hk : inB key 0 4294967295 with
  | false =>
    have hp : pInTally r s x key = (0, false) := by simp [pInTally, hk]
    rw [hp]
    clear hp
    go_enter Try.func44, Try.ntmps44
    go_wp2_with (first | (go_at_call 82; refine (l02Key_any _ _).mono ?_; rintro e w' ⟨rfl, rfl⟩) | (go_at_call 96; refine (l04Tally_any _ _ c A r s x _ (by simp) (by simp) (by simp) (HX.out.below (below_a1 _ _)) hn).mono ?_; rintro e w' ⟨rfl, rfl⟩))
    go_ret2
    exact ⟨rfl, below_a1 _ _⟩
  | true =>
  obtain ⟨⟨hr1, hr2⟩, ⟨hs1, hs2⟩, ⟨hn1, hn2⟩, hbd⟩ := vTally_iff hv
  have HBD := hid hbd
  clear hbd
  obtain ⟨hk1, hk2⟩ := inB_iff.1 hk
  obtain ⟨r, rfl⟩ := Int.eq_ofNat_of_zero_le (show 0 ≤ r by omega)
  obtain ⟨s, rfl⟩ := Int.eq_ofNat_of_zero_le hs1
  obtain ⟨key, rfl⟩ := Int.eq_ofNat_of_zero_le hk1
  have hp : pInTally r s x key = (minAt x (spotsL key s x.length r), true) := by simp [pInTally, hv, hk]
  rw [hp]
  clear hp
  go_enter Try.func44, Try.ntmps44
  go_wp2_with (first | (go_at_call 82; refine (l02Key_any _ _).mono ?_; rintro e w' ⟨rfl, rfl⟩) | (go_at_call 96; refine (l04Tally_any _ _ c A r s x _ (by simp) (by simp) (by simp) (HX.out.below (below_a1 _ _)) hn).mono ?_; rintro e w' ⟨rfl, rfl⟩))
  refine (l04Places_any key s r x.length _ (by omega) (by omega) (by omega) (by omega)).mono ?_
  rintro e w1 ⟨A1, c1, rfl, ho, hb⟩
  have HO := hid ho.rd
  have S1 := below_call (below_a1 _ _) hb
  have HX1 := hid (HX.out.below S1.out)
  have hbx := (Blk.new w 68 [.int .i64 r, .int .i64 s, .slice A x.length c]).below hb
  obtain ⟨c0, c2, c3⟩ := hbx.cells3
  have hPl := spotsL_length key s x.length r
  obtain ⟨P, hP⟩ : ∃ P, P = spotsL key s x.length r := ⟨_, rfl⟩
  have hmem : Hid (∀ p ∈ P, ∃ m : Nat, p = m ∧ m < x.length) := fun p hp' => spotsL_mem (by omega) (hP ▸ hp')
  rw [← hP] at hPl HO ⊢
  have HP := hid hP
  clear hv hk ho hb hP hbx c0 c2
  have HPl := hid hPl
  have hP8 : P.length ≤ 8 := by omega
  have hP1 : (0 : Int) < (P.length : Int) := by omega
  have hP1' : 0 < P.length := by omega
  clear hPl
  obtain ⟨b1, o1, p0, hA1, hc0, hp0⟩ := HO.out.at_ hP1'
  obtain ⟨m0, hm0e, hm0⟩ := hmem.out p0 (List.mem_of_getElem? hp0.out)
  subst hm0e hA1
  obtain ⟨b, o, y0, hA, hy0, hym0⟩ := HX1.out.at_ hm0
  subst hA
  have hm0' : (m0 : Int) < (x.length : Int) := by omega
  have hc0' : w1.cell? ⟨b1, o1, none⟩ = some (.int .i64 m0) := by simpa using hc0
  have hv1 : Hid (minAt x (P.take 1) = y0) := by
    show minAt x (P.take (0 + 1)) = y0
    rw [minAt_snoc hp0 hym0]
    have := HBD.out y0 (List.mem_of_getElem? hym0.out)
    simp only [List.take_zero, minAt, List.foldl_nil]
    omega
  clear hc0
  go_wp2
  go_quiet (fail)
  go_wp2
  go_loopw [7, 8] (fun v i wr => ∃ k n : Nat, 1 ≤ k ∧ k ≤ P.length ∧ i = .int .i64 k ∧ wr = w1.drewN n ∧ ∃ z : Int, v = .int .i64 z ∧ Hid (minAt x (P.take k) = z)) (fun _ i _ => P.length - (intOf i).toNat)
  case atStart => exact ⟨1, _, Nat.le_refl _, by omega, rfl, rfl, y0, rfl, hv1⟩
  case round =>
    obtain ⟨k, n, hk1', hkr, rfl, rfl, z, rfl, hh⟩ := hrel
    by_cases hlt : k < P.length
    · have hi : (k : Int) < (P.length : Int) := by omega
      obtain ⟨b1', o1', p, hA', hcp, hpk⟩ := HO.out.at_ hlt
      obtain ⟨rfl, rfl⟩ : b1 = b1' ∧ o1 = o1' := by injection hA' with hA'; injection hA' with h1 h2; exact ⟨h1, h2⟩
      obtain ⟨m, rfl, hm⟩ := hmem.out p (List.mem_of_getElem? hpk.out)
      obtain ⟨b', o', y, hA'', hcy, hym⟩ := HX1.out.at_ hm
      obtain ⟨rfl, rfl⟩ : b = b' ∧ o = o' := by injection hA'' with hA''; injection hA'' with h1 h2; exact ⟨h1, h2⟩
      have hm' : (m : Int) < (x.length : Int) := by omega
      have hm00 : (0 : Int) ≤ (m : Int) := by omega
      have he : Hid (minAt x (P.take (k + 1)) = min z y) := by rw [minAt_snoc hpk hym, hh.out]; rfl
      clear hA' hA''
      go_wp2
      go_quiet ((go_at_call 97; exact quiet_more (l00Min_any _ _ _)))
      go_wp2
      exact ⟨⟨k + 1, _, by omega, by omega, by go_num, rfl, _, rfl, he⟩, by simp [intOf]; omega⟩
    · have hi : ¬ (k : Int) < (P.length : Int) := by omega
      go_wp2
      go_ret2
      have he := hh.out
      rw [List.take_of_length_le (by omega)] at he
      exact ⟨ret_int2 (by rw [← HP.out, he]) rfl, below_drewN S1.out _⟩
set_option maxHeartbeats 1600000 in
theorem iInTally_any (r s : Int) (A : Option Addr) (c : Nat) (x : List Int) (key : Int) (w : World) (hr : W64 r) (hs : W64 s) (hx : RdL (Value.int .i64) w A x) (hn : x.length ≤ 1048576) (we : ∀ y ∈ x, W64 y) (hkey : W64 key) :
    Calls Try.prog 46 #[.agg #[.int .i64 r, .int .i64 s, .slice A x.length c], .int .i64 key] w fun e w' => e = .returned (.tuple #[.int .i64 (pInTally r s x key).1, .bool (pInTally r s x key).2]) ∧ Below w.heap.size w w' := by
  have HX := hid hx
  have WE := hid we
  have b0 := hid (Blk.new w 68 [.int .i64 r, .int .i64 s, .slice A x.length c])
  clear hx we
  cases hv : vTally r s x with
  | false =>
    have hp : pInTally r s x key = (0, false) := by simp [pInTally, hv]
    rw [hp]
    clear hp
    go_enter Try.func46, Try.ntmps46
    go_wp2_with fail
    refine (iValidTally_any r s A c x _ hr hs (HX.out.below (below_a1 _ _)) hn WE.out).mono ?_
    rintro e w1 ⟨rfl, hb⟩
    go_wp2_with ((go_at_call 84; refine (IsKey_any _ _).mono ?_; rintro e w' ⟨rfl, rfl⟩))
    go_ret2
    exact ⟨rfl, (below_call (below_a1 _ _) hb).out⟩
  | true =>
  cases hk : inB key 0 4294967295 with
  | false =>
    have hp : pInTally r s x key = (0, false) := by simp [pInTally, hk]
    rw [hp]
    clear hp
    go_enter Try.func46, Try.ntmps46
    go_wp2_with fail
    refine (iValidTally_any r s A c x _ hr hs (HX.out.below (below_a1 _ _)) hn WE.out).mono ?_
    rintro e w1 ⟨rfl, hb⟩
    go_wp2_with ((go_at_call 84; refine (IsKey_any _ _).mono ?_; rintro e w' ⟨rfl, rfl⟩))
    go_ret2
    exact ⟨rfl, (below_call (below_a1 _ _) hb).out⟩
  | true =>
  obtain ⟨⟨hr1, hr2⟩, ⟨hs1, hs2⟩, ⟨hn1, hn2⟩, hbd⟩ := vTally_iff hv
  have HBD := hid hbd
  clear hbd
  obtain ⟨hk1, hk2⟩ := inB_iff.1 hk
  obtain ⟨r, rfl⟩ := Int.eq_ofNat_of_zero_le (show 0 ≤ r by omega)
  obtain ⟨s, rfl⟩ := Int.eq_ofNat_of_zero_le hs1
  obtain ⟨key, rfl⟩ := Int.eq_ofNat_of_zero_le hk1
  have hp : pInTally r s x key = (minAt x (spotsL key s x.length r), true) := by simp [pInTally, hv, hk]
  rw [hp]
  clear hp
  go_enter Try.func46, Try.ntmps46
  go_wp2_with fail
  refine (iValidTally_any r s A c x _ hr hs (HX.out.below (below_a1 _ _)) hn WE.out).mono ?_
  rintro e w0 ⟨rfl, hb0⟩
  have S0 := below_call (below_a1 _ _) hb0
  have HX0 := hid (HX.out.below S0.out)
  have B0 := hid (b0.out.below hb0)
  obtain ⟨e0, e1, e2⟩ := B0.out.cells3
  clear hb0 b0 hr hs hkey
  go_wp2_with ((go_at_call 84; refine (IsKey_any _ _).mono ?_; rintro e w' ⟨rfl, rfl⟩))
  refine (spots_any key s r x.length _ (by omega) (by omega) (by omega) (by omega)).mono ?_
  rintro e w1 ⟨A1, c1, rfl, ho, hb⟩
  have HO := hid ho.rd
  have S1 := hid (S0.out.trans (hb.mono S0.out.size))
  have HX1 := hid (HX0.out.below hb)
  have hbx := B0.out.below hb
  clear e0 e1 e2
  obtain ⟨c0, c2, c3⟩ := hbx.cells3
  have hPl := spotsL_length key s x.length r
  obtain ⟨P, hP⟩ : ∃ P, P = spotsL key s x.length r := ⟨_, rfl⟩
  have hmem : Hid (∀ p ∈ P, ∃ m : Nat, p = m ∧ m < x.length) := fun p hp' => spotsL_mem (by omega) (hP ▸ hp')
  rw [← hP] at hPl HO ⊢
  have HP := hid hP
  clear hv hk ho hb hP hbx c0 c2
  have HPl := hid hPl
  have hP8 : P.length ≤ 8 := by omega
  clear hPl
  go_wp2
  go_loop [6, 27] (fun v i => ∃ k : Nat, k ≤ P.length ∧ i = .int .i64 k ∧ ∃ z : Int, v = .int .i64 z ∧ Hid (minAt x (P.take k) = z)) (fun _ i => P.length - (intOf i).toNat)
  case atStart => exact ⟨0, Nat.zero_le _, rfl, _, rfl, rfl⟩
  case round =>
    obtain ⟨k, hkr, rfl, z, rfl, hh⟩ := hrel
    by_cases hlt : k < P.length
    · have hi : (k : Int) < (P.length : Int) := by omega
      obtain ⟨b1, o1, p, rfl, hcp, hpk⟩ := HO.out.at_ hlt
      obtain ⟨m, rfl, hm⟩ := hmem.out p (List.mem_of_getElem? hpk.out)
      obtain ⟨b, o, y, rfl, hcy, hym⟩ := HX1.out.at_ hm
      have hm' : (m : Int) < (x.length : Int) := by omega
      have hm0 : (0 : Int) ≤ (m : Int) := by omega
      have he : Hid (minAt x (P.take (k + 1)) = min z y) := by rw [minAt_snoc hpk hym, hh.out]; rfl
      by_cases hzy : z ≤ y
      · rw [show min z y = z by omega] at he
        go_wp2
        exact ⟨⟨k + 1, by omega, by go_num, _, rfl, he⟩, by simp [intOf]; omega⟩
      · have he2 : Hid (minAt x (P.take (k + 1)) = y) := by rw [he.out]; show min z y = y; omega
        go_wp2
        first
          | exact ⟨⟨k + 1, by omega, by go_num, _, rfl, he⟩, by simp [intOf]; omega⟩
          | exact ⟨⟨k + 1, by omega, by go_num, _, rfl, he2⟩, by simp [intOf]; omega⟩
    · have hi : ¬ (k : Int) < (P.length : Int) := by omega
      go_wp2
      go_ret2
      have he := hh.out
      rw [List.take_of_length_le (by omega)] at he
      exact ⟨ret_int2 (by rw [← HP.out, he]) rfl, S1.out⟩
end Go.Proofs.Ytocmcghhjjhogaa
