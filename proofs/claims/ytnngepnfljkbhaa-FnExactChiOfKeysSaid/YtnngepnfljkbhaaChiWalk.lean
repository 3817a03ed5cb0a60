/-
  ChiOfKeys: reference and program, by contracts. Printed by gen_chi.py.
-/
import Derived.Test.YtnngepnfljkbhaaSpread
import Derived.Test.YtnngepnfljkbhaaChi
namespace Go.Proofs.Ytnngepnfljkbhaa
open Go.RowKit Ieee
set_option linter.unusedVariables false
set_option linter.unusedSimpArgs false

/-- What is expected of a place. -/
def chiE (len n : Nat) : Nat := fop .quo (floatOfInt .f32 (len : Int)) (floatOfInt .f32 (n : Int))
theorem chiE_spec {len n : Nat} (h1 : 0 < len) (h2 : len ≤ 256) (h3 : 1 ≤ n) (h4 : n ≤ 256) : floatBits .quo .f32 (floatOfInt .f32 (len : Int)) (floatOfInt .f32 (n : Int)) = some (chiE len n) ∧ ∃ a b, Nm (chiE len n) a b := by
  have hl : len.log2 ≤ 8 := log2_le_of (k := 8) (by omega)
  have hn : n.log2 ≤ 8 := log2_le_of (k := 8) (by omega)
  obtain ⟨r, hr, hrn⟩ := quo_nm (ofInt_nm (n := len) (by omega) (by omega)) (ofInt_nm (n := n) (by omega) (by omega)) (by omega) (by omega)
  have e : chiE len n = r := fop_eq hr
  rw [e]
  exact ⟨hr, _, _, hrn⟩
/-- What ChiOfKeys returns. -/
def pChiOfKeys (x : List Int) (salt n : Int) : Nat × Bool :=
  if (vSpread x salt n && !decide ((x.length : Int) < 1)) = true then (chiTo (spreadL x salt.toNat n.toNat) (chiE x.length n.toNat) n.toNat, true) else (0, false)
theorem spreadL_bd {x : List Int} {salt n : Nat} (h : x.length ≤ 256) : ∀ y ∈ spreadL x salt n, 0 ≤ y ∧ y ≤ 1048576 := by
  have h2 : ∀ (l z : List Int), (∀ y ∈ z, 0 ≤ y) → ∀ y ∈ addAt 1 z l, 0 ≤ y := by
    intro l
    induction l with
    | nil => intro z hz y hy; exact hz y hy
    | cons p l ih =>
      intro z hz y hy
      refine ih _ (fun t ht => ?_) y hy
      rcases List.mem_or_eq_of_mem_set ht with h | h
      · exact hz t h
      · subst h
        have h3 : 0 ≤ z.getD p.toNat 0 := by
          rw [List.getD_eq_getElem?_getD]
          cases h4 : z[p.toNat]? with
          | none => exact Int.le_refl _
          | some u => exact hz u (List.mem_of_getElem? h4)
        omega
  intro y hy
  have h5 := h2 (spreadP x salt n) (List.replicate n 0) (fun z hz => by obtain ⟨_, rfl⟩ := List.mem_replicate.1 hz; exact Int.le_refl _) y hy
  have h6 := take_bound (l := spreadP x salt n) (n := n) (k := x.length) (by rw [spreadP_length]; omega) y (by rw [List.take_of_length_le (by rw [spreadP_length]; exact Nat.le_refl _)]; exact hy)
  omega
theorem vSpread_iff {x : List Int} {salt n : Int} (h : vSpread x salt n = true) : x.length ≤ 256 ∧ (0 ≤ salt ∧ salt ≤ 4294967295) ∧ (1 ≤ n ∧ n ≤ 256) := by
  simp only [vSpread, Bool.and_eq_true] at h
  exact ⟨(keysB_iff h.1.1).1, inB_iff.1 h.1.2, inB_iff.1 h.2⟩
theorem nn_ChiOfKeys (x : List Int) (salt n : Int) : NN single (pChiOfKeys x salt n).1 := by
  unfold pChiOfKeys
  split
  · rename_i h
    simp only [Bool.and_eq_true, Bool.not_eq_true', decide_eq_false_iff_not] at h
    obtain ⟨h1, h2, h3⟩ := vSpread_iff h.1
    obtain ⟨n, rfl⟩ := Int.eq_ofNat_of_zero_le (show 0 ≤ n by omega)
    obtain ⟨_, a, b, hm⟩ := chiE_spec (len := x.length) (n := n) (by omega) h1 (by omega) (by omega)
    simp only [Int.toNat_natCast]
    exact (chi_sg hm (spreadL_bd h1) n (by rw [spreadL_length]; exact Nat.le_refl _)).nn
  · exact nn_zero
set_option maxHeartbeats 1600000 in
theorem sSpread_no (A : Option Addr) (c : Nat) (x : List Int) (salt n : Int) (w : World) (hx : RdL (Value.int .i64) w A x) (hn : x.length ≤ 1048576) (hv : vSpread x salt n = false) :
    Calls Try.prog 80 #[.slice A x.length c, .int .i64 salt, .int .i64 n] w fun e w' => e = .returned (.tuple #[.slice none 0 0, .bool false]) ∧ w = w' := by
  have X := hid hx
  clear hx
  have key : ∀ u0 u1 u2 : Bool, keysB x = u0 → inB salt 0 4294967295 = u1 → inB n 1 256 = u2 → (u0 && u1 && u2) = false →
      Calls Try.prog 80 #[.slice A x.length c, .int .i64 salt, .int .i64 n] w fun e w' => e = .returned (.tuple #[.slice none 0 0, .bool false]) ∧ w = w' := by
    intro u0 u1 u2 h0 h1 h2 hno
    have K : Hid (Calls Try.prog 82 #[.slice A x.length c] w fun e w' => e = .returned (.bool u0) ∧ w = w') := h0 ▸ l02Keys_gen A c x w X.out
    clear h0
    cases u0
    case' true =>
      cases u1
      case' true => cases u2
    all_goals
      first
      | (exfalso; revert hno; decide)
      | (clear hno
         go_enter Try.func80, Try.ntmps80
         go_wp2_with (go_at_call 82; with_reducible refine K.out.mono ?_; rintro e w' ⟨rfl, rfl⟩)
         try go_wp2_with (first | (go_at_call 96; refine (l02Key_any _ _).mono ?_; rintro e w' ⟨rfl, rfl⟩) | (go_at_call 106; refine (l00In_any _ _ _ _).mono ?_; rintro e w' ⟨rfl, rfl⟩))
         go_ret2
         exact ⟨rfl, rfl⟩)
  exact key _ _ _ rfl rfl rfl hv
set_option maxRecDepth 100000 in
set_option maxHeartbeats 1600000 in
theorem sChiOfKeys_any (A : Option Addr) (c : Nat) (x : List Int) (salt n : Int) (w : World) (hx : RdL (Value.int .i64) w A x) (hn : x.length ≤ 1048576) (we : ∀ y ∈ x, W64 y) (hsalt : W64 salt) (hnn : W64 n) :
    Calls Try.prog 30 #[.slice A x.length c, .int .i64 salt, .int .i64 n] w fun e w' => e = .returned (.tuple #[.float .f32 (pChiOfKeys x salt n).1, .bool (pChiOfKeys x salt n).2]) ∧ Below w.heap.size w w' := by
  have X := hid hx
  clear hx we hsalt hnn
  cases hv : vSpread x salt n with
  | false =>
    have hp : Hid (pChiOfKeys x salt n = (0, false)) := by show _ = _; unfold pChiOfKeys; rw [hv, Bool.false_and, if_neg (by simp)]
    have HV := hid hv
    clear hv
    go_enter Try.func30, Try.ntmps30
    go_wp2_with fail
    refine (sSpread_no A c x salt n _ X.out hn HV.out).mono ?_
    rintro e w1 ⟨rfl, rfl⟩
    go_wp2
    go_ret2
    exact ⟨by rw [hp.out]; rfl, Below.refl _ _⟩
  | true =>
  obtain ⟨h256, ⟨hs1, hs2⟩, ⟨hn1, hn2⟩⟩ := vSpread_iff hv
  obtain ⟨salt, rfl⟩ := Int.eq_ofNat_of_zero_le hs1
  obtain ⟨n, rfl⟩ := Int.eq_ofNat_of_zero_le (show 0 ≤ n by omega)
  by_cases hl : x.length = 0
  · have hp : Hid (pChiOfKeys x salt n = (0, false)) := by show _ = _; unfold pChiOfKeys; rw [decide_eq_true (by omega)]; simp
    have HV := hid hv
    have hl1 : (x.length : Int) < 1 := by omega
    have hl2 : ((x.length : Int) == 0) = true := beq_iff_eq.2 (by omega)
    clear hv hl
    go_enter Try.func30, Try.ntmps30
    go_wp2_with fail
    refine (sSpread_yes A c x salt n _ X.out hn HV.out).mono ?_
    rintro e w1 ⟨A1, c1, rfl, ho, hb⟩
    have S1 := hid hb
    clear ho hb
    go_wp2
    go_ret2
    exact ⟨by rw [hp.out]; rfl, S1.out⟩
  · have hl1 : ¬ (x.length : Int) < 1 := by omega
    have hl2 : ((x.length : Int) == 0) = false := beq_eq_false_iff_ne.2 (by omega)
    have hp : Hid (pChiOfKeys x salt n = (chiTo (spreadL x salt n) (chiE x.length n) n, true)) := by show _ = _; unfold pChiOfKeys; rw [hv, decide_eq_false hl1, if_pos (by rfl), Int.toNat_natCast, Int.toNat_natCast]
    obtain ⟨hqe, ea, eb, hem⟩ := chiE_spec (len := x.length) (n := n) (by omega) h256 (by omega) (by omega)
    have hq0 : ∀ t w, (binOp .quo t (.float .f32 (floatOfInt .f32 (x.length : Int))) (.float .f32 (floatOfInt .f32 (n : Int)))).run Try.prog w = .ok (.float .f32 (chiE x.length n)) w := fun t w => run_float_arith w .quo t .f32 _ _ _ hqe
    have BD := hid (spreadL_bd (x := x) (salt := salt) (n := n) h256)
    have SL := hid (spreadL_length x salt n)
    have EM := hid hem
    have CS := hid (chi_sg hem (spreadL_bd (x := x) (salt := salt) (n := n) h256))
    have HV := hid hv
    clear hv hqe hem hl
    obtain ⟨E, hE⟩ : ∃ E, E = chiE x.length n := ⟨_, rfl⟩
    rw [← hE] at hq0 EM CS hp
    clear hE
    go_enter Try.func30, Try.ntmps30
    go_wp2_with fail
    refine (sSpread_yes A c x salt n _ X.out hn HV.out).mono ?_
    rintro e w1 ⟨A1, c1, rfl, ho, hb⟩
    have S1 := hid hb
    have HO := hid ho.rd
    obtain ⟨L, hL⟩ : ∃ L, L = spreadL x salt n := ⟨_, rfl⟩
    rw [← hL] at HO BD SL CS hp
    clear ho hb hL
    go_wp2_with (simp only [hq0])
    go_loop [11, 12, 13] (fun v i z_ => ∃ k : Nat, k ≤ n ∧ i = .int .i64 k ∧ ∃ z : Nat, v = .float .f32 z ∧ Hid (chiTo L E k = z)) (fun v i z_ => n - (intOf i).toNat)
    case atStart => exact ⟨0, Nat.zero_le _, rfl, _, rfl, rfl⟩
    case round =>
      obtain ⟨k, hk, rfl, z, rfl, hh⟩ := hrel
      by_cases hlt : k < n
      · have hi : (k : Int) < (n : Int) := by omega
        obtain ⟨b, o, y, rfl, hcy, hyk⟩ := HO.out.at_ (k := k) (by rw [SL.out]; exact hlt)
        have hyb := BD.out y (List.mem_of_getElem? hyk.out)
        have hgy : L.getD k 0 = y := getD_of hyk
        obtain ⟨o1, o2, o3, o4, _⟩ := chi_ops (c := L) (k := k) EM.out (by rw [hgy]; exact hyb.1) (by rw [hgy]; exact hyb.2) (CS.out k (by rw [SL.out]; omega))
        rw [hgy] at o1
        rw [hh.out] at o4
        have r1 : ∀ t w, (binOp .sub t (.float .f32 (floatOfInt .f32 y)) (.float .f32 E)).run Try.prog w = .ok (.float .f32 (chiZ L E k)) w := fun t w => run_float_arith w .sub t .f32 _ _ _ o1
        have r2 : ∀ t w, (binOp .mul t (.float .f32 (chiZ L E k)) (.float .f32 (chiZ L E k))).run Try.prog w = .ok (.float .f32 (fop .mul (chiZ L E k) (chiZ L E k))) w := fun t w => run_float_arith w .mul t .f32 _ _ _ o2
        have r3 : ∀ t w, (binOp .quo t (.float .f32 (fop .mul (chiZ L E k) (chiZ L E k))) (.float .f32 E)).run Try.prog w = .ok (.float .f32 (fop .quo (fop .mul (chiZ L E k) (chiZ L E k)) E)) w := fun t w => run_float_arith w .quo t .f32 _ _ _ o3
        have r4 : ∀ t w, (binOp .add t (.float .f32 z) (.float .f32 (fop .quo (fop .mul (chiZ L E k) (chiZ L E k)) E))).run Try.prog w = .ok (.float .f32 (chiTo L E (k + 1))) w := fun t w => run_float_arith w .add t .f32 _ _ _ o4
        clear o1 o2 o3 o4 hyb hgy hq0
        go_wp2_with (simp only [r1, r2, r3, r4])
        exact ⟨⟨k + 1, by omega, by go_num, _, rfl, rfl⟩, by simp [intOf]; omega⟩
      · have hi : ¬ (k : Int) < (n : Int) := by omega
        obtain rfl : k = n := by omega
        go_wp2
        go_ret2
        exact ⟨by rw [hp.out, hh.out]; rfl, S1.out⟩
set_option maxHeartbeats 1600000 in
theorem iSpread_no (A : Option Addr) (c : Nat) (x : List Int) (salt n : Int) (w : World) (hx : RdL (Value.int .i64) w A x) (hn : x.length ≤ 1048576) (hv : vSpread x salt n = false) :
    Calls Try.prog 81 #[.slice A x.length c, .int .i64 salt, .int .i64 n] w fun e w' => e = .returned (.tuple #[.slice none 0 0, .bool false]) ∧ w = w' := by
  have X := hid hx
  clear hx
  have key : ∀ u0 u1 u2 : Bool, keysB x = u0 → inB salt 0 4294967295 = u1 → inB n 1 256 = u2 → (u0 && u1 && u2) = false →
      Calls Try.prog 81 #[.slice A x.length c, .int .i64 salt, .int .i64 n] w fun e w' => e = .returned (.tuple #[.slice none 0 0, .bool false]) ∧ w = w' := by
    intro u0 u1 u2 h0 h1 h2 hno
    have K : Hid (Calls Try.prog 84 #[.slice A x.length c] w fun e w' => e = .returned (.bool u0) ∧ w = w') := h0 ▸ AreKeys_any A c x w X.out hn
    clear h0
    cases u0
    case' true =>
      cases u1
      case' true => cases u2
    all_goals
      first
      | (exfalso; revert hno; decide)
      | (clear hno
         go_enter Try.func81, Try.ntmps81
         go_wp2_with (go_at_call 84; with_reducible refine K.out.mono ?_; rintro e w' ⟨rfl, rfl⟩)
         try go_wp2_with (first | (go_at_call 89; refine (IsKey_any _ _).mono ?_; rintro e w' ⟨rfl, rfl⟩) | (go_at_call 112; refine (within_any _ _ _ _).mono ?_; rintro e w' ⟨rfl, rfl⟩))
         go_ret2
         exact ⟨rfl, rfl⟩)
  exact key _ _ _ rfl rfl rfl hv
set_option maxRecDepth 100000 in
set_option maxHeartbeats 1600000 in
theorem iChiOfKeys_any (A : Option Addr) (c : Nat) (x : List Int) (salt n : Int) (w : World) (hx : RdL (Value.int .i64) w A x) (hn : x.length ≤ 1048576) (we : ∀ y ∈ x, W64 y) (hsalt : W64 salt) (hnn : W64 n) :
    Calls Try.prog 31 #[.slice A x.length c, .int .i64 salt, .int .i64 n] w fun e w' => e = .returned (.tuple #[.float .f32 (pChiOfKeys x salt n).1, .bool (pChiOfKeys x salt n).2]) ∧ Below w.heap.size w w' := by
  have X := hid hx
  clear hx we hsalt hnn
  cases hv : vSpread x salt n with
  | false =>
    have hp : Hid (pChiOfKeys x salt n = (0, false)) := by show _ = _; unfold pChiOfKeys; rw [hv, Bool.false_and, if_neg (by simp)]
    have HV := hid hv
    clear hv
    go_enter Try.func31, Try.ntmps31
    go_wp2_with fail
    refine (iSpread_no A c x salt n _ X.out hn HV.out).mono ?_
    rintro e w1 ⟨rfl, rfl⟩
    go_wp2
    go_ret2
    exact ⟨by rw [hp.out]; rfl, Below.refl _ _⟩
  | true =>
  obtain ⟨h256, ⟨hs1, hs2⟩, ⟨hn1, hn2⟩⟩ := vSpread_iff hv
  obtain ⟨salt, rfl⟩ := Int.eq_ofNat_of_zero_le hs1
  obtain ⟨n, rfl⟩ := Int.eq_ofNat_of_zero_le (show 0 ≤ n by omega)
  by_cases hl : x.length = 0
  · have hp : Hid (pChiOfKeys x salt n = (0, false)) := by show _ = _; unfold pChiOfKeys; rw [decide_eq_true (by omega)]; simp
    have HV := hid hv
    have hl1 : (x.length : Int) < 1 := by omega
    have hl2 : ((x.length : Int) == 0) = true := beq_iff_eq.2 (by omega)
    clear hv hl
    go_enter Try.func31, Try.ntmps31
    go_wp2_with fail
    refine (iSpread_yes A c x salt n _ X.out hn HV.out).mono ?_
    rintro e w1 ⟨A1, c1, rfl, ho, hb⟩
    have S1 := hid hb
    clear ho hb
    go_wp2
    go_ret2
    exact ⟨by rw [hp.out]; rfl, S1.out⟩
  · have hl1 : ¬ (x.length : Int) < 1 := by omega
    have hl2 : ((x.length : Int) == 0) = false := beq_eq_false_iff_ne.2 (by omega)
    have hp : Hid (pChiOfKeys x salt n = (chiTo (spreadL x salt n) (chiE x.length n) n, true)) := by show _ = _; unfold pChiOfKeys; rw [hv, decide_eq_false hl1, if_pos (by rfl), Int.toNat_natCast, Int.toNat_natCast]
    obtain ⟨hqe, ea, eb, hem⟩ := chiE_spec (len := x.length) (n := n) (by omega) h256 (by omega) (by omega)
    have hq0 : ∀ t w, (binOp .quo t (.float .f32 (floatOfInt .f32 (x.length : Int))) (.float .f32 (floatOfInt .f32 (n : Int)))).run Try.prog w = .ok (.float .f32 (chiE x.length n)) w := fun t w => run_float_arith w .quo t .f32 _ _ _ hqe
    have BD := hid (spreadL_bd (x := x) (salt := salt) (n := n) h256)
    have SL := hid (spreadL_length x salt n)
    have EM := hid hem
    have CS := hid (chi_sg hem (spreadL_bd (x := x) (salt := salt) (n := n) h256))
    have HV := hid hv
    clear hv hqe hem hl
    obtain ⟨E, hE⟩ : ∃ E, E = chiE x.length n := ⟨_, rfl⟩
    rw [← hE] at hq0 EM CS hp
    clear hE
    go_enter Try.func31, Try.ntmps31
    go_wp2_with fail
    refine (iSpread_yes A c x salt n _ X.out hn HV.out).mono ?_
    rintro e w1 ⟨A1, c1, rfl, ho, hb⟩
    have S1 := hid hb
    have HO := hid ho.rd
    obtain ⟨L, hL⟩ : ∃ L, L = spreadL x salt n := ⟨_, rfl⟩
    rw [← hL] at HO BD SL CS hp
    clear ho hb hL
    go_wp2_with (simp only [hq0])
    go_loop [11, 13, 14, 37] (fun v e1_ e2_ i => ∃ k : Nat, k ≤ n ∧ i = .int .i64 k ∧ ∃ z : Nat, v = .float .f32 z ∧ Hid (chiTo L E k = z)) (fun v e1_ e2_ i => n - (intOf i).toNat)
    case atStart => exact ⟨0, Nat.zero_le _, rfl, _, rfl, rfl⟩
    case round =>
      obtain ⟨k, hk, rfl, z, rfl, hh⟩ := hrel
      by_cases hlt : k < n
      · have hi : (k : Int) < (n : Int) := by omega
        obtain ⟨b, o, y, rfl, hcy, hyk⟩ := HO.out.at_ (k := k) (by rw [SL.out]; exact hlt)
        have hyb := BD.out y (List.mem_of_getElem? hyk.out)
        have hgy : L.getD k 0 = y := getD_of hyk
        obtain ⟨o1, o2, o3, o4, _⟩ := chi_ops (c := L) (k := k) EM.out (by rw [hgy]; exact hyb.1) (by rw [hgy]; exact hyb.2) (CS.out k (by rw [SL.out]; omega))
        rw [hgy] at o1
        rw [hh.out] at o4
        have r1 : ∀ t w, (binOp .sub t (.float .f32 (floatOfInt .f32 y)) (.float .f32 E)).run Try.prog w = .ok (.float .f32 (chiZ L E k)) w := fun t w => run_float_arith w .sub t .f32 _ _ _ o1
        have r2 : ∀ t w, (binOp .mul t (.float .f32 (chiZ L E k)) (.float .f32 (chiZ L E k))).run Try.prog w = .ok (.float .f32 (fop .mul (chiZ L E k) (chiZ L E k))) w := fun t w => run_float_arith w .mul t .f32 _ _ _ o2
        have r3 : ∀ t w, (binOp .quo t (.float .f32 (fop .mul (chiZ L E k) (chiZ L E k))) (.float .f32 E)).run Try.prog w = .ok (.float .f32 (fop .quo (fop .mul (chiZ L E k) (chiZ L E k)) E)) w := fun t w => run_float_arith w .quo t .f32 _ _ _ o3
        have r4 : ∀ t w, (binOp .add t (.float .f32 z) (.float .f32 (fop .quo (fop .mul (chiZ L E k) (chiZ L E k)) E))).run Try.prog w = .ok (.float .f32 (chiTo L E (k + 1))) w := fun t w => run_float_arith w .add t .f32 _ _ _ o4
        clear o1 o2 o3 o4 hyb hgy hq0
        go_wp2_with (simp only [r1, r2, r3, r4])
        exact ⟨⟨k + 1, by omega, by go_num, _, rfl, rfl⟩, by simp [intOf]; omega⟩
      · have hi : ¬ (k : Int) < (n : Int) := by omega
        obtain rfl : k = n := by omega
        go_wp2
        go_ret2
        exact ⟨by rw [hp.out, hh.out]; rfl, S1.out⟩
end Go.Proofs.Ytnngepnfljkbhaa
