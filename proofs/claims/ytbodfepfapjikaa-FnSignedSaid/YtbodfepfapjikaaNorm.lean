/-
  SignedNorm: reference and program, by contracts. Printed by gen_norm.py.
-/
import Derived.Test.YtbodfepfapjikaaMedI
import Derived.Test.YtbodfepfapjikaaCellsDot
namespace Go.Proofs.Ytbodfepfapjikaa
open Go.RowKit
set_option linter.unusedVariables false
set_option linter.unusedSimpArgs false

/-- What SignedNorm returns. -/
def pSignedNorm (a0 a1 a2 : Int) (x : List Int) : Int × Bool := if (vCells a0 a1 a2 x && allB x (-1000000) 1000000) = true then (medI (dotsL x x a0.toNat a1.toNat), true) else (0, false)
set_option maxRecDepth 100000 in
set_option maxHeartbeats 3200000 in
theorem sSignedNorm_any (a0 a1 a2 : Int) (A : Option Addr) (c : Nat) (x : List Int) (w : World) (h0 : W64 a0) (h1 : W64 a1) (h2 : W64 a2) (hx : RdL (Value.int .i64) w A x) (hn : x.length ≤ 1048576) (we : ∀ y ∈ x, W64 y) :
    Calls Try.prog 30 #[.agg #[.int .i64 a0, .int .i64 a1, .int .i64 a2, .slice A x.length c]] w fun e w' => e = .returned (.tuple #[.int .i64 (pSignedNorm a0 a1 a2 x).1, .bool (pSignedNorm a0 a1 a2 x).2]) ∧ Below w.heap.size w w' := by
  have HX := hid (hx.below (below_a1 w (.cells #[.int .i64 a0, .int .i64 a1, .int .i64 a2, .slice A x.length c] 48)))
  have b0 := hid (Blk.new w 48 [.int .i64 a0, .int .i64 a1, .int .i64 a2, .slice A x.length c])
  have WE := hid we
  clear hx we
  cases hv : vCells a0 a1 a2 x with
  | false =>
    have hp : pSignedNorm a0 a1 a2 x = (0, false) := by simp [pSignedNorm, hv]
    rw [hp]
    clear hp
    go_enter Try.func30, Try.ntmps30
    go_wp2_with fail
    refine (l03Is_any _ c A a0 a1 a2 x _ (by simp) (by simp) (by simp) (by simp) HX.out hn).mono ?_
    rw [hv]
    rintro e w1 ⟨rfl, n, hn1⟩
    have S1 : Hid (Below (w.alloc (.cells #[.int .i64 a0, .int .i64 a1, .int .i64 a2, .slice A x.length c] 48)).heap.size (w.alloc (.cells #[.int .i64 a0, .int .i64 a1, .int .i64 a2, .slice A x.length c] 48)) w1) := by rw [hn1]; exact below_drewN (Below.refl _ _) _
    clear hn1
    go_wp2
    go_ret2
    exact ⟨rfl, ((below_a1 w (.cells #[.int .i64 a0, .int .i64 a1, .int .i64 a2, .slice A x.length c] 48)).trans (S1.out.mono (below_a1 w (.cells #[.int .i64 a0, .int .i64 a1, .int .i64 a2, .slice A x.length c] 48)).size))⟩
  | true =>
  cases hs : allB x (-1000000) 1000000 with
  | false =>
    have hp : pSignedNorm a0 a1 a2 x = (0, false) := by simp [pSignedNorm, hs]
    rw [hp]
    clear hp
    go_enter Try.func30, Try.ntmps30
    go_wp2_with fail
    refine (l03Is_any _ c A a0 a1 a2 x _ (by simp) (by simp) (by simp) (by simp) HX.out hn).mono ?_
    rw [hv]
    rintro e w1 ⟨rfl, n, hn1⟩
    have S1 : Hid (Below (w.alloc (.cells #[.int .i64 a0, .int .i64 a1, .int .i64 a2, .slice A x.length c] 48)).heap.size (w.alloc (.cells #[.int .i64 a0, .int .i64 a1, .int .i64 a2, .slice A x.length c] 48)) w1) := by rw [hn1]; exact below_drewN (Below.refl _ _) _
    clear hn1
    have k3 := (b0.out.below S1.out).cells4.2.2.2
    go_wp2_with fail
    refine (l03Small_any w.heap.size c A x _ k3 (HX.out.below S1.out) hn).mono ?_
    rw [hs]
    rintro e w2 ⟨rfl, rfl⟩
    clear k3
    go_wp2
    go_ret2
    exact ⟨rfl, ((below_a1 w (.cells #[.int .i64 a0, .int .i64 a1, .int .i64 a2, .slice A x.length c] 48)).trans (S1.out.mono (below_a1 w (.cells #[.int .i64 a0, .int .i64 a1, .int .i64 a2, .slice A x.length c] 48)).size))⟩
  | true =>
    have hp : pSignedNorm a0 a1 a2 x = (medI (dotsL x x a0.toNat a1.toNat), true) := by simp [pSignedNorm, hv, hs]
    rw [hp]
    clear hp
    obtain ⟨⟨hw1, hw2⟩, ⟨hd1, hd2⟩, ⟨hs1, hs2⟩, hl, _⟩ := vCells_iff' hv
    have HV := hid hv
    have HS := hid hs
    have BX := hid (allB_iff hs)
    clear hv hs
    obtain ⟨wd, rfl⟩ := Int.eq_ofNat_of_zero_le (show 0 ≤ a0 by omega)
    obtain ⟨dp, rfl⟩ := Int.eq_ofNat_of_zero_le (show 0 ≤ a1 by omega)
    obtain ⟨s2, rfl⟩ := Int.eq_ofNat_of_zero_le hs1
    simp only [Int.toNat_natCast]
    have hlx : x.length = wd * dp := by rw [← Int.natCast_mul] at hl; omega
    have hlx4 : x.length ≤ 384 := by rw [hlx]; have := Nat.mul_le_mul (show wd ≤ 64 by omega) (show dp ≤ 6 by omega); omega
    have LX := hid hlx
    clear hl hlx
    go_enter Try.func30, Try.ntmps30
    go_wp2_with fail
    refine (l03Is_any _ c A wd dp s2 x _ (by simp) (by simp) (by simp) (by simp) HX.out hn).mono ?_
    rw [HV.out]
    rintro e w1 ⟨rfl, n, hn1⟩
    have S1 : Hid (Below (w.alloc (.cells #[.int .i64 wd, .int .i64 dp, .int .i64 s2, .slice A x.length c] 48)).heap.size (w.alloc (.cells #[.int .i64 wd, .int .i64 dp, .int .i64 s2, .slice A x.length c] 48)) w1) := by rw [hn1]; exact below_drewN (Below.refl _ _) _
    clear hn1
    have k3 := (b0.out.below S1.out).cells4.2.2.2
    go_wp2_with fail
    refine (l03Small_any w.heap.size c A x _ k3 (HX.out.below S1.out) hn).mono ?_
    rw [HS.out]
    rintro e w2 ⟨rfl, rfl⟩
    clear k3
    have X1 := hid (HX.out.below S1.out)
    have Z1 := hid ((below_a1 w (.cells #[.int .i64 wd, .int .i64 dp, .int .i64 s2, .slice A x.length c] 48)).trans (S1.out.mono (below_a1 w (.cells #[.int .i64 wd, .int .i64 dp, .int .i64 s2, .slice A x.length c] 48)).size))
    have b1 := hid (b0.out.below S1.out)
    clear S1 b0 HX
    obtain ⟨k0, k1, k2, k3⟩ := b1.out.cells4
    have hlw : w.heap.size < w1.heap.size := b1.out.lt
    go_wp2
    clear k0 k1 k2 k3 hlw
    go_loopw [4, 5] (fun v i wr => ∃ k : Nat, k ≤ dp ∧ i = .int .i64 k ∧ Hid (OwnV wr w1.heap.size v (dotsL x x wd k)) ∧ Hid (Below w1.heap.size w1 wr)) (fun v i _ => dp - (intOf i).toNat)
    case atStart => exact ⟨0, Nat.zero_le _, rfl, OwnV.made _ (Nat.le_refl _), below_a1 _ _⟩
    case round =>
      obtain ⟨k, hkr, rfl, hO, hW⟩ := hrel
      have br := hid (b1.out.below hW.out)
      obtain ⟨k0, k1, k2, k3⟩ := br.out.cells4
      have hlr : w.heap.size < wr.heap.size := br.out.lt
      have hdl := dotsL_length x x wd k
      by_cases hlt : k < dp
      · have hi : (k : Int) < (dp : Int) := by omega
        have hR := hid (prodL_length (i := k) LX.out LX.out hlt)
        have hSB := hid (sum_bound (l := prodL x x wd k) (M := 1000000000000) (by omega) (prodL_bound BX.out BX.out))
        have hm := mul_le6 (show k ≤ 6 by omega) (show wd ≤ 64 by omega)
        have hwlen : k * wd + wd ≤ wd * dp := by
          have h2 : (k + 1) * wd ≤ dp * wd := Nat.mul_le_mul_right wd hlt
          rw [Nat.add_mul, Nat.mul_comm dp wd] at h2
          omega
        have hol : (dotsL x x wd k).length ≤ 1048577 := by omega
        have XR := hid (X1.out.below hW.out)
        go_wp2
        go_loop [6, 7] (fun v j => ∃ q : Nat, q ≤ wd ∧ j = .int .i64 q ∧ ∃ s : Int, v = .int .i64 s ∧ Hid (((prodL x x wd k).take q).sum = s)) (fun v j => wd - (intOf j).toNat)
        case atStart => exact ⟨0, Nat.zero_le _, rfl, 0, rfl, by show ((prodL x x wd k).take 0).sum = 0; simp⟩
        case round =>
          obtain ⟨q, hqr, rfl, s, rfl, hh⟩ := hrel
          by_cases hlq : q < wd
          · have hi' : (q : Int) < (wd : Int) := by omega
            have hix : k * wd + q < x.length := by rw [LX.out]; omega
            obtain ⟨b, o, u, rfl, hcu, hun⟩ := XR.out.at_ hix
            have he : Hid (((prodL x x wd k).take (q + 1)).sum = s + u * u) := by rw [sum_snoc (prodL_at hlq hun hun), hh.out]; rfl
            have hub := BX.out u (List.mem_of_getElem? hun.out)
            have hpb := mul_small hub hub
            have hzb := hSB.out q
            rw [hh.out] at hzb
            have hcast : ((k * wd + q : Nat) : Int) = (k : Int) * (wd : Int) + (q : Int) := by rw [Int.natCast_add, Int.natCast_mul]
            have e1 : IntKind.i64.wrap ((k : Int) * (wd : Int)) = (k : Int) * (wd : Int) := by rw [IntKind.wrap_i64]; omega
            have e2 : IntKind.i64.wrap ((k : Int) * (wd : Int) + (q : Int)) = (k : Int) * (wd : Int) + (q : Int) := by rw [IntKind.wrap_i64]; omega
            have e3 : ((k : Int) * (wd : Int) + (q : Int)).toNat = k * wd + q := by rw [← hcast]; exact Int.toNat_natCast _
            have e4 : (k : Int) * (wd : Int) + (q : Int) < (x.length : Int) := by rw [← hcast]; omega
            have e5 : (0 : Int) ≤ (k : Int) * (wd : Int) + (q : Int) := by omega
            have e6 : IntKind.i64.wrap (u * u) = u * u := by rw [IntKind.wrap_i64]; omega
            have e7 : IntKind.i64.wrap (s + u * u) = s + u * u := by rw [IntKind.wrap_i64]; omega
            clear hcast
            go_wp2
            exact ⟨⟨q + 1, by omega, by go_num, _, rfl, he⟩, by simp [intOf]; omega⟩
          · have hi' : ¬ (q : Int) < (wd : Int) := by omega
            have hs := hh.out
            rw [List.take_of_length_le (by rw [hR.out]; omega)] at hs
            have HSs := hid hs
            clear hs
            go_wp2_with (at_builtin; refine app_int rfl _ _ rfl s hO.out hW.out rfl rfl hol hW.out.size ?_)
            intro v' w3 O3 W3 _ _
            have hd2 : dotsL x x wd k ++ [s] = dotsL x x wd (k + 1) := by rw [dotsL_succ, HSs.out]
            rw [hd2] at O3
            clear hd2
            go_wp2
            exact ⟨⟨k + 1, by omega, by go_num, O3, W3⟩, by simp [intOf]; omega⟩
      · have hi : ¬ (k : Int) < (dp : Int) := by omega
        obtain rfl : k = dp := by omega
        obtain ⟨A3, c3, rfl, hoS⟩ := hO.out.ownS
        obtain ⟨L, hL⟩ : ∃ L, L = dotsL x x wd k := ⟨_, rfl⟩
        rw [← hL] at hoS hdl ⊢
        have HDL := hid hdl
        clear hdl
        have C1 : Hid (Calls Try.prog 76 #[.slice A3 L.length c3] wr fun e w' => e = .returned (.int .i64 (medI L)) ∧ Below wr.heap.size wr w') := l03Middle_any A3 c3 L _ hoS.rd (by have := HDL.out; omega) (by have := HDL.out; omega)
        have Z2 := hid (Z1.out.trans (hW.out.mono Z1.out.size))
        have HL2 := hid hL
        clear hoS hO hL hW
        go_wp2_with (go_at_call 76; with_reducible refine C1.out.mono ?_; rintro e w5 ⟨rfl, hb5⟩)
        go_ret2
        rw [← HL2.out]
        exact ⟨rfl, Z2.out.trans (hb5.mono Z2.out.size)⟩
set_option maxRecDepth 100000 in
set_option maxHeartbeats 3200000 in
theorem iSignedNorm_any (a0 a1 a2 : Int) (A : Option Addr) (c : Nat) (x : List Int) (w : World) (h0 : W64 a0) (h1 : W64 a1) (h2 : W64 a2) (hx : RdL (Value.int .i64) w A x) (hn : x.length ≤ 1048576) (we : ∀ y ∈ x, W64 y) (hcap : x.length ≤ c := by exact Nat.le_refl _) (hcap2 : c ≤ 1048576 := by assumption) :
    Calls Try.prog 32 #[.agg #[.int .i64 a0, .int .i64 a1, .int .i64 a2, .slice A x.length c]] w fun e w' => e = .returned (.tuple #[.int .i64 (pSignedNorm a0 a1 a2 x).1, .bool (pSignedNorm a0 a1 a2 x).2]) ∧ Below w.heap.size w w' := by
  have HX := hid (hx.below (below_a1 w (.cells #[.int .i64 a0, .int .i64 a1, .int .i64 a2, .slice A x.length c] 48)))
  have b0 := hid (Blk.new w 48 [.int .i64 a0, .int .i64 a1, .int .i64 a2, .slice A x.length c])
  have WE := hid we
  clear hx we
  cases hv : vCells a0 a1 a2 x with
  | false =>
    have hp : pSignedNorm a0 a1 a2 x = (0, false) := by simp [pSignedNorm, hv]
    rw [hp]
    clear hp
    go_enter Try.func32, Try.ntmps32
    go_wp2_with fail
    refine (iValidCells_any a0 a1 a2 A c x _ h0 h1 h2 HX.out hn WE.out).mono ?_
    rw [hv]
    rintro e w1 ⟨rfl, hb1⟩
    have S1 := hid hb1
    clear hb1
    go_wp2
    go_ret2
    exact ⟨rfl, ((below_a1 w (.cells #[.int .i64 a0, .int .i64 a1, .int .i64 a2, .slice A x.length c] 48)).trans (S1.out.mono (below_a1 w (.cells #[.int .i64 a0, .int .i64 a1, .int .i64 a2, .slice A x.length c] 48)).size))⟩
  | true =>
  cases hs : allB x (-1000000) 1000000 with
  | false =>
    have hp : pSignedNorm a0 a1 a2 x = (0, false) := by simp [pSignedNorm, hs]
    rw [hp]
    clear hp
    go_enter Try.func32, Try.ntmps32
    go_wp2_with fail
    refine (iValidCells_any a0 a1 a2 A c x _ h0 h1 h2 HX.out hn WE.out).mono ?_
    rw [hv]
    rintro e w1 ⟨rfl, hb1⟩
    have S1 := hid hb1
    clear hb1
    obtain ⟨k0, k1, k2, k3⟩ := (b0.out.below S1.out).cells4
    have hlw : w.heap.size < w1.heap.size := (b0.out.below S1.out).lt
    go_wp2_with fail
    refine (areSmall_any a0 a1 a2 A c x _ (HX.out.below S1.out) hn).mono ?_
    rw [hs]
    rintro e w2 ⟨rfl, hb2⟩
    have S2 := hid (S1.out.trans (hb2.mono S1.out.size))
    clear hb2 k0 k1 k2 k3 hlw S1
    have S1 := S2
    clear S2
    go_wp2
    go_ret2
    exact ⟨rfl, ((below_a1 w (.cells #[.int .i64 a0, .int .i64 a1, .int .i64 a2, .slice A x.length c] 48)).trans (S1.out.mono (below_a1 w (.cells #[.int .i64 a0, .int .i64 a1, .int .i64 a2, .slice A x.length c] 48)).size))⟩
  | true =>
    have hp : pSignedNorm a0 a1 a2 x = (medI (dotsL x x a0.toNat a1.toNat), true) := by simp [pSignedNorm, hv, hs]
    rw [hp]
    clear hp
    obtain ⟨⟨hw1, hw2⟩, ⟨hd1, hd2⟩, ⟨hs1, hs2⟩, hl, _⟩ := vCells_iff' hv
    have HV := hid hv
    have HS := hid hs
    have BX := hid (allB_iff hs)
    clear hv hs
    obtain ⟨wd, rfl⟩ := Int.eq_ofNat_of_zero_le (show 0 ≤ a0 by omega)
    obtain ⟨dp, rfl⟩ := Int.eq_ofNat_of_zero_le (show 0 ≤ a1 by omega)
    obtain ⟨s2, rfl⟩ := Int.eq_ofNat_of_zero_le hs1
    simp only [Int.toNat_natCast]
    have hlx : x.length = wd * dp := by rw [← Int.natCast_mul] at hl; omega
    have hlx4 : x.length ≤ 384 := by rw [hlx]; have := Nat.mul_le_mul (show wd ≤ 64 by omega) (show dp ≤ 6 by omega); omega
    have LX := hid hlx
    clear hl hlx
    go_enter Try.func32, Try.ntmps32
    go_wp2_with fail
    refine (iValidCells_any wd dp s2 A c x _ h0 h1 h2 HX.out hn WE.out).mono ?_
    rw [HV.out]
    rintro e w1 ⟨rfl, hb1⟩
    have S1 := hid hb1
    clear hb1
    obtain ⟨k0, k1, k2, k3⟩ := (b0.out.below S1.out).cells4
    have hlw : w.heap.size < w1.heap.size := (b0.out.below S1.out).lt
    go_wp2_with fail
    refine (areSmall_any wd dp s2 A c x _ (HX.out.below S1.out) hn).mono ?_
    rw [HS.out]
    rintro e w2 ⟨rfl, hb2⟩
    have S2 := hid (S1.out.trans (hb2.mono S1.out.size))
    clear hb2 k0 k1 k2 k3 hlw S1
    have S1 := S2
    clear S2
    have X1 := hid (HX.out.below S1.out)
    have Z1 := hid ((below_a1 w (.cells #[.int .i64 wd, .int .i64 dp, .int .i64 s2, .slice A x.length c] 48)).trans (S1.out.mono (below_a1 w (.cells #[.int .i64 wd, .int .i64 dp, .int .i64 s2, .slice A x.length c] 48)).size))
    have b1 := hid (b0.out.below S1.out)
    clear S1 b0 HX
    obtain ⟨k0, k1, k2, k3⟩ := b1.out.cells4
    have hlw : w.heap.size < w2.heap.size := b1.out.lt
    go_wp2
    clear k0 k1 k2 k3 hlw
    go_loopw [4, 20] (fun v i wr => ∃ k : Nat, k ≤ dp ∧ i = .int .i64 k ∧ Hid (OwnV wr w2.heap.size v (dotsL x x wd k)) ∧ Hid (Below w2.heap.size w2 wr)) (fun v i _ => dp - (intOf i).toNat)
    case atStart => exact ⟨0, Nat.zero_le _, rfl, OwnV.made _ (Nat.le_refl _), below_a1 _ _⟩
    case round =>
      obtain ⟨k, hkr, rfl, hO, hW⟩ := hrel
      have br := hid (b1.out.below hW.out)
      obtain ⟨k0, k1, k2, k3⟩ := br.out.cells4
      have hlr : w.heap.size < wr.heap.size := br.out.lt
      have hdl := dotsL_length x x wd k
      by_cases hlt : k < dp
      · have hi : (k : Int) < (dp : Int) := by omega
        have hR := hid (prodL_length (i := k) LX.out LX.out hlt)
        have hSB := hid (sum_bound (l := prodL x x wd k) (M := 1000000000000) (by omega) (prodL_bound BX.out BX.out))
        have hm := mul_le6 (show k ≤ 6 by omega) (show wd ≤ 64 by omega)
        have hwlen : k * wd + wd ≤ wd * dp := by
          have h2 : (k + 1) * wd ≤ dp * wd := Nat.mul_le_mul_right wd hlt
          rw [Nat.add_mul, Nat.mul_comm dp wd] at h2
          omega
        have hol : (dotsL x x wd k).length ≤ 1048577 := by omega
        obtain ⟨b, o, u0, hA0, hc0, hu0⟩ := X1.out.at_ (k := 0) (by rw [LX.out]; exact Nat.mul_pos (by omega) (by omega))
        subst hA0
        have XR := hid (X1.out.below hW.out)
        go_wp2_with fail
        refine (irow_any wd dp s2 k x.length c b o _ (by omega) (by omega) hlt (by omega) LX.out hcap (by omega)).mono ?_
        rintro e w3 ⟨cr, rfl, _, hb3⟩
        have XR3 := hid (rowL_rd (i := k) (wd := wd) (XR.out.below hb3))
        have O3 := hid (hO.out.below hb3)
        have W3 := hid (hW.out.trans (hb3.mono hW.out.size))
        have hrl := hid (rowL_length LX.out hlt)
        clear k0 k1 k2 k3 hlr br hb3 hc0 hu0 hO hW
        go_wp2
        go_loop [6, 27] (fun v j => ∃ q : Nat, q ≤ wd ∧ j = .int .i64 q ∧ ∃ s : Int, v = .int .i64 s ∧ Hid (((prodL x x wd k).take q).sum = s)) (fun v j => wd - (intOf j).toNat)
        case atStart => exact ⟨0, Nat.zero_le _, rfl, 0, rfl, by show ((prodL x x wd k).take 0).sum = 0; simp⟩
        case round =>
          obtain ⟨q, hqr, rfl, s, rfl, hh⟩ := hrel
          by_cases hlq : q < wd
          · have hi' : (q : Int) < (wd : Int) := by omega
            obtain ⟨b', o', u, hA', hcu, hun⟩ := XR3.out.at_ (k := q) (by rw [hrl.out]; omega)
            injection hA' with hA'; injection hA' with e1 e2
            subst e1 e2
            have hun2 : Hid (x[k * wd + q]? = some u) := by show _ = _; rw [← rowL_at hlq]; exact hun.out
            have he : Hid (((prodL x x wd k).take (q + 1)).sum = s + u * u) := by rw [sum_snoc (prodL_at hlq hun2 hun2), hh.out]; rfl
            have hub := BX.out u (List.mem_of_getElem? hun2.out)
            have hpb := mul_small hub hub
            have hzb := hSB.out q
            rw [hh.out] at hzb
            have e6 : IntKind.i64.wrap (u * u) = u * u := by rw [IntKind.wrap_i64]; omega
            have e7 : IntKind.i64.wrap (s + u * u) = s + u * u := by rw [IntKind.wrap_i64]; omega
            clear hun hun2
            go_wp2
            exact ⟨⟨q + 1, by omega, by go_num, _, rfl, he⟩, by simp [intOf]; omega⟩
          · have hi' : ¬ (q : Int) < (wd : Int) := by omega
            have hs := hh.out
            rw [List.take_of_length_le (by rw [hR.out]; omega)] at hs
            have HSs := hid hs
            clear hs
            go_wp2_with (at_builtin; refine app_int rfl _ _ rfl s O3.out W3.out rfl rfl hol W3.out.size ?_)
            intro v' w4 O4 W4 _ _
            have hd2 : dotsL x x wd k ++ [s] = dotsL x x wd (k + 1) := by rw [dotsL_succ, HSs.out]
            rw [hd2] at O4
            clear hd2
            go_wp2
            exact ⟨⟨k + 1, by omega, by go_num, O4, W4⟩, by simp [intOf]; omega⟩
      · have hi : ¬ (k : Int) < (dp : Int) := by omega
        obtain rfl : k = dp := by omega
        obtain ⟨A3, c3, rfl, hoS⟩ := hO.out.ownS
        obtain ⟨L, hL⟩ : ∃ L, L = dotsL x x wd k := ⟨_, rfl⟩
        rw [← hL] at hoS hdl ⊢
        have HDL := hid hdl
        clear hdl
        have C1 : Hid (Calls Try.prog 80 #[.slice A3 L.length c3] wr fun e w' => e = .returned (.int .i64 (medI L)) ∧ Below wr.heap.size wr w') := medianI_any A3 c3 L _ hoS.rd (by have := HDL.out; omega) (by have := HDL.out; omega)
        have Z2 := hid (Z1.out.trans (hW.out.mono Z1.out.size))
        have HL2 := hid hL
        clear hoS hO hL hW
        go_wp2_with (go_at_call 80; with_reducible refine C1.out.mono ?_; rintro e w5 ⟨rfl, hb5⟩)
        go_ret2
        rw [← HL2.out]
        exact ⟨rfl, Z2.out.trans (hb5.mono Z2.out.size)⟩
end Go.Proofs.Ytbodfepfapjikaa
