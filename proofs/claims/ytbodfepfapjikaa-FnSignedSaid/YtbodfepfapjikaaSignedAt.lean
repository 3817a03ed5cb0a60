/-
  SignedAt: reference and program, by contracts. Printed by gen_signedat.py.
-/
import Derived.Test.YtbodfepfapjikaaNorm
import Derived.Test.YtbodfepfapjikaaPutLike
namespace Go.Proofs.Ytbodfepfapjikaa
open Go.RowKit
set_option linter.unusedVariables false
set_option linter.unusedSimpArgs false

/-- The cells of a key, with signs. -/
def sgnL (x : List Int) (wd s key n : Nat) : List Int := (List.range n).map fun i => x.getD (placeN wd s key i) 0 * signN key (saltN s (1000 + i))
theorem sgnL_length (x : List Int) (wd s key n : Nat) : (sgnL x wd s key n).length = n := by simp [sgnL]
theorem sgnL_succ {x : List Int} {wd s key n : Nat} {u : Int} (h : Hid (x[placeN wd s key n]? = some u)) : sgnL x wd s key (n + 1) = sgnL x wd s key n ++ [u * signN key (saltN s (1000 + n))] := by
  simp only [sgnL, List.range_succ, List.map_append, List.map_cons, List.map_nil]
  rw [List.getD_eq_getElem?_getD, h.out]; rfl
/-- What SignedAt returns. -/
def pSignedAt (a0 a1 a2 : Int) (x : List Int) (key : Int) : Int × Bool :=
  if (vCells a0 a1 a2 x && inB key 0 4294967295) = true then (medI (sgnL x a0.toNat a2.toNat key.toNat a1.toNat), true) else (0, false)
set_option maxRecDepth 100000 in
set_option maxHeartbeats 3200000 in
theorem sSignedAt_any (a0 a1 a2 : Int) (A : Option Addr) (c : Nat) (x : List Int) (key : Int) (w : World) (h0 : W64 a0) (h1 : W64 a1) (h2 : W64 a2) (hx : RdL (Value.int .i64) w A x) (hn : x.length ≤ 1048576) (we : ∀ y ∈ x, W64 y) (hkey : W64 key) :
    Calls Try.prog 34 #[.agg #[.int .i64 a0, .int .i64 a1, .int .i64 a2, .slice A x.length c], .int .i64 key] w fun e w' => e = .returned (.tuple #[.int .i64 (pSignedAt a0 a1 a2 x key).1, .bool (pSignedAt a0 a1 a2 x key).2]) ∧ Below w.heap.size w w' := by
  have HX := hid (hx.below (below_a1 w (.cells #[.int .i64 a0, .int .i64 a1, .int .i64 a2, .slice A x.length c] 48)))
  have b0 := hid (Blk.new w 48 [.int .i64 a0, .int .i64 a1, .int .i64 a2, .slice A x.length c])
  have WE := hid we
  clear hx we
  cases hv : vCells a0 a1 a2 x with
  | false =>
    have hp : pSignedAt a0 a1 a2 x key = (0, false) := by simp [pSignedAt, hv]
    rw [hp]
    clear hp
    go_enter Try.func34, Try.ntmps34
    go_wp2_with fail
    refine (l03Is_any _ c A a0 a1 a2 x _ (by simp) (by simp) (by simp) (by simp) HX.out hn).mono ?_
    rw [hv]
    rintro e w1 ⟨rfl, n, hn1⟩
    have S1 : Hid (Below (w.alloc (.cells #[.int .i64 a0, .int .i64 a1, .int .i64 a2, .slice A x.length c] 48)).heap.size (w.alloc (.cells #[.int .i64 a0, .int .i64 a1, .int .i64 a2, .slice A x.length c] 48)) w1) := by rw [hn1]; exact below_drewN (Below.refl _ _) _
    clear hn1
    go_wp2
    go_ret2
    exact ⟨rfl, ((below_a1 w (.cells #[.int .i64 a0, .int .i64 a1, .int .i64 a2, .slice A x.length c] 48)).trans (S1.out.mono (below_a1 w (.cells #[.int .i64 a0, .int .i64 a1, .int .i64 a2, .slice A x.length c] 48)).size))⟩
  | true =>
  cases hk : inB key 0 4294967295 with
  | false =>
    have hp : pSignedAt a0 a1 a2 x key = (0, false) := by simp [pSignedAt, hk]
    rw [hp]
    clear hp
    go_enter Try.func34, Try.ntmps34
    go_wp2_with fail
    refine (l03Is_any _ c A a0 a1 a2 x _ (by simp) (by simp) (by simp) (by simp) HX.out hn).mono ?_
    rw [hv]
    rintro e w1 ⟨rfl, n, hn1⟩
    have S1 : Hid (Below (w.alloc (.cells #[.int .i64 a0, .int .i64 a1, .int .i64 a2, .slice A x.length c] 48)).heap.size (w.alloc (.cells #[.int .i64 a0, .int .i64 a1, .int .i64 a2, .slice A x.length c] 48)) w1) := by rw [hn1]; exact below_drewN (Below.refl _ _) _
    clear hn1
    go_wp2_with ((go_at_call 70; refine (l02Key_any _ _).mono ?_; rintro e w' ⟨rfl, rfl⟩))
    go_ret2
    exact ⟨rfl, ((below_a1 w (.cells #[.int .i64 a0, .int .i64 a1, .int .i64 a2, .slice A x.length c] 48)).trans (S1.out.mono (below_a1 w (.cells #[.int .i64 a0, .int .i64 a1, .int .i64 a2, .slice A x.length c] 48)).size))⟩
  | true =>
    have hp : pSignedAt a0 a1 a2 x key = (medI (sgnL x a0.toNat a2.toNat key.toNat a1.toNat), true) := by simp [pSignedAt, hv, hk]
    rw [hp]
    clear hp
    obtain ⟨⟨hw1, hw2⟩, ⟨hd1, hd2⟩, ⟨hs1, hs2⟩, hl, hbd⟩ := vCells_iff' hv
    obtain ⟨hk1, hk2⟩ := inB_iff.1 hk
    have HV := hid hv
    have BX := hid hbd
    clear hv hbd
    obtain ⟨wd, rfl⟩ := Int.eq_ofNat_of_zero_le (show 0 ≤ a0 by omega)
    obtain ⟨dp, rfl⟩ := Int.eq_ofNat_of_zero_le (show 0 ≤ a1 by omega)
    obtain ⟨s, rfl⟩ := Int.eq_ofNat_of_zero_le hs1
    obtain ⟨key, rfl⟩ := Int.eq_ofNat_of_zero_le hk1
    simp only [Int.toNat_natCast]
    have hlx : x.length = wd * dp := by rw [← Int.natCast_mul] at hl; omega
    have hlx4 : x.length ≤ 384 := by rw [hlx]; have := Nat.mul_le_mul (show wd ≤ 64 by omega) (show dp ≤ 6 by omega); omega
    have LX := hid hlx
    clear hl hlx
    go_enter Try.func34, Try.ntmps34
    go_wp2_with fail
    refine (l03Is_any _ c A wd dp s x _ (by simp) (by simp) (by simp) (by simp) HX.out hn).mono ?_
    rw [HV.out]
    rintro e w1 ⟨rfl, n, hn1⟩
    have S1 : Hid (Below (w.alloc (.cells #[.int .i64 wd, .int .i64 dp, .int .i64 s, .slice A x.length c] 48)).heap.size (w.alloc (.cells #[.int .i64 wd, .int .i64 dp, .int .i64 s, .slice A x.length c] 48)) w1) := by rw [hn1]; exact below_drewN (Below.refl _ _) _
    clear hn1
    have X1 := hid (HX.out.below S1.out)
    have Z1 := hid ((below_a1 w (.cells #[.int .i64 wd, .int .i64 dp, .int .i64 s, .slice A x.length c] 48)).trans (S1.out.mono (below_a1 w (.cells #[.int .i64 wd, .int .i64 dp, .int .i64 s, .slice A x.length c] 48)).size))
    have b1 := hid (b0.out.below S1.out)
    clear S1 b0 HX
    obtain ⟨k0, k1, k2, k3⟩ := b1.out.cells4
    have hlw : w.heap.size < w1.heap.size := b1.out.lt
    go_wp2_with ((go_at_call 70; refine (l02Key_any _ _).mono ?_; rintro e w' ⟨rfl, rfl⟩))
    clear k0 k1 k2 k3 hlw hk
    go_loopw [6, 7] (fun v i wr => ∃ k : Nat, k ≤ dp ∧ i = .int .i64 k ∧ Hid (OwnV wr w1.heap.size v (sgnL x wd s key k)) ∧ Hid (Below w1.heap.size w1 wr)) (fun v i _ => dp - (intOf i).toNat)
    case atStart => exact ⟨0, Nat.zero_le _, rfl, OwnV.made _ (Nat.le_refl _), below_a1 _ _⟩
    case round =>
      obtain ⟨k, hkr, rfl, hO, hW⟩ := hrel
      have br := hid (b1.out.below hW.out)
      obtain ⟨k0, k1, k2, k3⟩ := br.out.cells4
      have hlr : w.heap.size < wr.heap.size := br.out.lt
      have hdl := sgnL_length x wd s key k
      have hsz := hW.out.size
      by_cases hlt : k < dp
      · have hi : (k : Int) < (dp : Int) := by omega
        have hltk : placeN wd s key k < x.length := by rw [LX.out]; exact placeN_lt (by omega) hlt
        obtain ⟨b, o, u, rfl, hcw, hun⟩ := X1.out.at_ hltk
        have hbl : b < w1.heap.size := World.block_lt_of_cell? w1 _ hcw
        have hcu : wr.cell? ⟨b, o + placeN wd s key k, none⟩ = some (.int .i64 u) := ((bcell hW.out).1 b _ hbl).trans hcw
        have hub := BX.out u (List.mem_of_getElem? hun.out)
        have hsg := signN_or key (saltN s (1000 + k))
        have hnx := hid (sgnL_succ hun)
        obtain ⟨sg, hsgE⟩ : ∃ z, z = signN key (saltN s (1000 + k)) := ⟨_, rfl⟩
        rw [← hsgE] at hsg hnx
        have HSG := hid hsgE.symm
        have hwr : IntKind.i64.wrap (u * sg) = u * sg := by rw [IntKind.wrap_i64]; rcases hsg with rfl | rfl <;> omega
        have hik : (placeN wd s key k : Int) < (x.length : Int) := by omega
        have hik0 : (0 : Int) ≤ (placeN wd s key k : Int) := by omega
        have hag : u6.ownBlock ≠ some w.heap.size := fun e => by have := (hO.out.lt _ e).2; have := b1.out.lt; omega
        have hagb : u6.ownBlock ≠ some b := fun e => by have := (hO.out.lt _ e).2; omega
        have hol : (sgnL x wd s key k).length ≤ 6 := by omega
        clear hcw hsgE hub hsg
        go_wp2
        go_region_held3 (fun w' => w'.cell? ⟨w.heap.size, 0, none⟩ = some (.int .i64 wd) ∧ w'.cell? ⟨w.heap.size, 2, none⟩ = some (.int .i64 s) ∧ w'.cell? ⟨w.heap.size, 3, none⟩ = some (.slice (some ⟨b, o, none⟩) x.length c) ∧ w'.cell? ⟨b, o + placeN wd s key k, none⟩ = some (.int .i64 u))
          (first | go_keep | (go_split_ands; refine ⟨?_, ?_, ?_, ?_⟩ <;> (first | (rw [hgrow.cell_far _ (by simp; omega) (Ne.symm hag)]; assumption) | (rw [hgrow.cell_far _ (by simp; omega) (Ne.symm hagb)]; assumption))))
          (first
            | (go_at_call 81
               refine (l03Place_any w.heap.size wd s key k _ (by go_split_ands; assumption) (by go_split_ands; assumption) (by omega) (by omega) (by omega) (by omega) (by omega)).mono ?_
               rintro e w' ⟨rfl, m, rfl⟩)
            | (go_at_call 82
               refine (l03Sign_any w.heap.size s key k _ (by go_split_ands; assumption) (by omega) (by omega) (by omega)).mono ?_
               rw [HSG.out]
               rintro e w' ⟨rfl, rfl⟩)
            | (refine step_app_int (by rfl) _ _ (by rfl) (u * sg) wr.heap.size (hO.out.below (below_a1 wr (.cells #[.int .i64 (u * sg)] 2))) (hW.out.alloc hsz (.cells #[.int .i64 (u * sg)] 2)) (Blk.new wr 2 [.int .i64 (u * sg)]) (by rfl) (by rfl) (by omega) (by simp; omega) (h := ?_)
               intro v' w3 O3 W3 hgrow _))
        have O4 := O3
        rw [← hnx.out] at O4
        go_wp2
        exact ⟨⟨k + 1, by omega, by go_num, O4, W3⟩, by simp [intOf]; omega⟩
      · have hi : ¬ (k : Int) < (dp : Int) := by omega
        obtain rfl : k = dp := by omega
        obtain ⟨A3, c3, rfl, hoS⟩ := hO.out.ownS
        obtain ⟨L, hL⟩ : ∃ L, L = sgnL x wd s key k := ⟨_, rfl⟩
        rw [← hL] at hoS hdl ⊢
        have HDL := hid hdl
        clear hdl
        have C1 : Hid (Calls Try.prog 76 #[.slice A3 L.length c3] wr fun e w' => e = .returned (.int .i64 (medI L)) ∧ Below wr.heap.size wr w') := l03Middle_any A3 c3 L _ hoS.rd (by have := HDL.out; omega) (by have := HDL.out; omega)
        have Z2 := hid (Z1.out.trans (hW.out.mono Z1.out.size))
        have HL2 := hid hL
        clear hoS hO hL hW
        go_wp2_with (go_at_call 76; with_reducible refine C1.out.mono ?_; rintro e w5 ⟨rfl, hb5⟩)
        go_ret2
        rw [← HL2.out]
        exact ⟨rfl, Z2.out.trans (hb5.mono Z2.out.size)⟩
set_option maxRecDepth 100000 in
set_option maxHeartbeats 3200000 in
theorem iSignedAt_any (a0 a1 a2 : Int) (A : Option Addr) (c : Nat) (x : List Int) (key : Int) (w : World) (h0 : W64 a0) (h1 : W64 a1) (h2 : W64 a2) (hx : RdL (Value.int .i64) w A x) (hn : x.length ≤ 1048576) (we : ∀ y ∈ x, W64 y) (hkey : W64 key) :
    Calls Try.prog 35 #[.agg #[.int .i64 a0, .int .i64 a1, .int .i64 a2, .slice A x.length c], .int .i64 key] w fun e w' => e = .returned (.tuple #[.int .i64 (pSignedAt a0 a1 a2 x key).1, .bool (pSignedAt a0 a1 a2 x key).2]) ∧ Below w.heap.size w w' := by
  have HX := hid (hx.below (below_a1 w (.cells #[.int .i64 a0, .int .i64 a1, .int .i64 a2, .slice A x.length c] 48)))
  have b0 := hid (Blk.new w 48 [.int .i64 a0, .int .i64 a1, .int .i64 a2, .slice A x.length c])
  have WE := hid we
  clear hx we
  cases hv : vCells a0 a1 a2 x with
  | false =>
    have hp : pSignedAt a0 a1 a2 x key = (0, false) := by simp [pSignedAt, hv]
    rw [hp]
    clear hp
    go_enter Try.func35, Try.ntmps35
    go_wp2_with fail
    refine (iValidCells_any a0 a1 a2 A c x _ h0 h1 h2 HX.out hn WE.out).mono ?_
    rw [hv]
    rintro e w1 ⟨rfl, hb1⟩
    have S1 := hid hb1
    clear hb1
    go_wp2
    go_ret2
    exact ⟨rfl, ((below_a1 w (.cells #[.int .i64 a0, .int .i64 a1, .int .i64 a2, .slice A x.length c] 48)).trans (S1.out.mono (below_a1 w (.cells #[.int .i64 a0, .int .i64 a1, .int .i64 a2, .slice A x.length c] 48)).size))⟩
  | true =>
  cases hk : inB key 0 4294967295 with
  | false =>
    have hp : pSignedAt a0 a1 a2 x key = (0, false) := by simp [pSignedAt, hk]
    rw [hp]
    clear hp
    go_enter Try.func35, Try.ntmps35
    go_wp2_with fail
    refine (iValidCells_any a0 a1 a2 A c x _ h0 h1 h2 HX.out hn WE.out).mono ?_
    rw [hv]
    rintro e w1 ⟨rfl, hb1⟩
    have S1 := hid hb1
    clear hb1
    go_wp2_with ((go_at_call 72; refine (IsKey_any _ _).mono ?_; rintro e w' ⟨rfl, rfl⟩))
    go_ret2
    exact ⟨rfl, ((below_a1 w (.cells #[.int .i64 a0, .int .i64 a1, .int .i64 a2, .slice A x.length c] 48)).trans (S1.out.mono (below_a1 w (.cells #[.int .i64 a0, .int .i64 a1, .int .i64 a2, .slice A x.length c] 48)).size))⟩
  | true =>
    have hp : pSignedAt a0 a1 a2 x key = (medI (sgnL x a0.toNat a2.toNat key.toNat a1.toNat), true) := by simp [pSignedAt, hv, hk]
    rw [hp]
    clear hp
    obtain ⟨⟨hw1, hw2⟩, ⟨hd1, hd2⟩, ⟨hs1, hs2⟩, hl, hbd⟩ := vCells_iff' hv
    obtain ⟨hk1, hk2⟩ := inB_iff.1 hk
    have HV := hid hv
    have BX := hid hbd
    clear hv hbd
    obtain ⟨wd, rfl⟩ := Int.eq_ofNat_of_zero_le (show 0 ≤ a0 by omega)
    obtain ⟨dp, rfl⟩ := Int.eq_ofNat_of_zero_le (show 0 ≤ a1 by omega)
    obtain ⟨s, rfl⟩ := Int.eq_ofNat_of_zero_le hs1
    obtain ⟨key, rfl⟩ := Int.eq_ofNat_of_zero_le hk1
    simp only [Int.toNat_natCast]
    have hlx : x.length = wd * dp := by rw [← Int.natCast_mul] at hl; omega
    have hlx4 : x.length ≤ 384 := by rw [hlx]; have := Nat.mul_le_mul (show wd ≤ 64 by omega) (show dp ≤ 6 by omega); omega
    have LX := hid hlx
    clear hl hlx
    go_enter Try.func35, Try.ntmps35
    go_wp2_with fail
    refine (iValidCells_any wd dp s A c x _ h0 h1 h2 HX.out hn WE.out).mono ?_
    rw [HV.out]
    rintro e w1 ⟨rfl, hb1⟩
    have S1 := hid hb1
    clear hb1
    have X1 := hid (HX.out.below S1.out)
    have Z1 := hid ((below_a1 w (.cells #[.int .i64 wd, .int .i64 dp, .int .i64 s, .slice A x.length c] 48)).trans (S1.out.mono (below_a1 w (.cells #[.int .i64 wd, .int .i64 dp, .int .i64 s, .slice A x.length c] 48)).size))
    have b1 := hid (b0.out.below S1.out)
    clear S1 b0 HX
    obtain ⟨k0, k1, k2, k3⟩ := b1.out.cells4
    have hlw : w.heap.size < w1.heap.size := b1.out.lt
    have hlw' : w.heap.size < w1.heap.size + 1 := by omega
    go_wp2_with (first | (go_at_call 72; refine (IsKey_any _ _).mono ?_; rintro en w' ⟨rfl, rfl⟩) | (go_at_call 83; refine (places_any wd dp s key x.length c _ _ (by omega) (by omega) (by omega) (by omega) (by omega)).mono ?_))
    rintro e w2 ⟨A2, c2, rfl, hoP, hb2⟩
    have hPl := cellsL_length wd s key dp
    obtain ⟨gP, ex, rfl, hgP, hbP⟩ := hoP (by intro h; rw [h] at hPl; simp at hPl; omega)
    have BP := hid hbP
    have W2 : Hid (Below w1.heap.size w1 w2) := (below_a1 w1 (.cells #[] 2)).trans (hb2.mono (by simp))
    have O2 : Hid (OwnV w2 w1.heap.size (.slice (some ⟨w1.heap.size, 0, none⟩) 0 0) []) := (OwnV.made w1 (Nat.le_refl _)).below hb2
    have hmem : Hid (∀ p ∈ cellsL wd s key dp, ∃ m : Nat, p = m ∧ m < x.length) := fun p hp' => by rw [LX.out]; exact cellsL_mem (by omega) hp'
    have hgP2 : w1.heap.size < gP := by simp at hgP; omega
    obtain ⟨P, hPe⟩ : ∃ P, P = cellsL wd s key dp := ⟨_, rfl⟩
    rw [← hPe] at BP hPl hmem ⊢
    have HPe := hid hPe
    clear hPe hoP hbP hb2 k0 k1 k2 k3 hlw hlw' hk hgP
    go_wp2
    go_loopw [6, 22] (fun v i wr => ∃ k : Nat, k ≤ P.length ∧ i = .int .i64 k ∧ Hid (OwnV wr w1.heap.size v (sgnL x wd s key k)) ∧ Hid (Below w1.heap.size w1 wr) ∧ Hid (Blk wr gP 2 (P.map (Value.int .i64) ++ ex)) ∧ Hid (v.ownBlock ≠ some gP)) (fun v i _ => P.length - (intOf i).toNat)
    case atStart => exact ⟨0, Nat.zero_le _, rfl, O2, W2, BP, by show _ ≠ _; intro h; simp [Value.ownBlock] at h; omega⟩
    case round =>
      obtain ⟨k, hkr, rfl, hO, hW, hBP, hvP⟩ := hrel
      have br := hid (b1.out.below hW.out)
      obtain ⟨k0, k1, k2, k3⟩ := br.out.cells4
      have hlr : w.heap.size < wr.heap.size := br.out.lt
      have hdl := sgnL_length x wd s key k
      have hsz := hW.out.size
      by_cases hlt : k < P.length
      · have hi : (k : Int) < (P.length : Int) := by omega
        obtain ⟨b3, o3, p, hA3, hcp, hpk⟩ := (Blk.rd hBP.out).at_ hlt
        injection hA3 with hA3; injection hA3 with e1 e2
        subst e1 e2
        rw [Nat.zero_add] at hcp
        obtain ⟨n, rfl, hnx⟩ := hmem.out p (List.mem_of_getElem? hpk.out)
        have hnp : n = placeN wd s key k := by
          have h1 := hpk.out
          rw [HPe.out, cellsL_at (by omega)] at h1
          injection h1 with h1
          omega
        obtain ⟨b, o, u, rfl, hcw, hun⟩ := X1.out.at_ hnx
        have hbl : b < w1.heap.size := World.block_lt_of_cell? w1 _ hcw
        have hcu : wr.cell? ⟨b, o + n, none⟩ = some (.int .i64 u) := ((bcell hW.out).1 b _ hbl).trans hcw
        have hub := BX.out u (List.mem_of_getElem? hun.out)
        have hsg := signN_or key (saltN s (1000 + k))
        have hnx2 := hid (sgnL_succ (hnp ▸ hun))
        obtain ⟨sg, hsgE⟩ : ∃ z, z = signN key (saltN s (1000 + k)) := ⟨_, rfl⟩
        rw [← hsgE] at hsg hnx2
        have HSG := hid hsgE.symm
        have hwr : IntKind.i64.wrap (u * sg) = u * sg := by rw [IntKind.wrap_i64]; rcases hsg with rfl | rfl <;> omega
        have hik : (n : Int) < (x.length : Int) := by omega
        have hik0 : (0 : Int) ≤ (n : Int) := by omega
        have hol : (sgnL x wd s key k).length ≤ 6 := by omega
        clear hcw hsgE hub hsg hnp
        go_wp2
        go_region_law (first
          | (go_simp
             go_at_call 84
             refine (rowSign_any wd dp s x.length c key k _ _ (by omega) (by omega) (by omega)).mono ?_
             rw [HSG.out]
             rintro e w3 ⟨rfl, hbb⟩
             have hbb := below_drew' hbb
             obtain ⟨p0, p1, p2, p3⟩ := (br.out.below hbb).cells4
             have hcu3 := cell_below hcu hbb
             have O3 := hid (hO.out.below hbb)
             have W3 := hid (hW.out.trans (hbb.mono hsz))
             have BP3 := hid (hBP.out.below hbb)
             clear hbb)
          | (refine step_app_int (by rfl) _ _ (by rfl) (u * sg) w3.heap.size (O3.out.below (below_a1 w3 (.cells #[.int .i64 (u * sg)] 2))) (W3.out.alloc W3.out.size (.cells #[.int .i64 (u * sg)] 2)) (Blk.new w3 2 [.int .i64 (u * sg)]) (by rfl) (by rfl) (by omega) (by have := W3.out.size; simp; omega) (h := ?_)
             intro v' w4 O4 W4 hgrow KB
             obtain ⟨hBP4, hvP4⟩ := KB.out gP _ _ (BP3.out.alloc _) hvP.out
             have BP4 := hid hBP4
             have VP4 := hid hvP4
             clear hBP4 hvP4 hgrow KB))
        all_goals
          have O5 := O4
          rw [← hnx2.out] at O5
          go_wp2
          exact ⟨⟨k + 1, by omega, by go_num, O5, W4, BP4, VP4⟩, by simp [intOf]; omega⟩
      · have hi : ¬ (k : Int) < (P.length : Int) := by omega
        obtain rfl : k = dp := by omega
        obtain ⟨A3, c3, rfl, hoS⟩ := hO.out.ownS
        obtain ⟨L, hL⟩ : ∃ L, L = sgnL x wd s key k := ⟨_, rfl⟩
        rw [← hL] at hoS hdl ⊢
        have HDL := hid hdl
        clear hdl
        have C1 : Hid (Calls Try.prog 80 #[.slice A3 L.length c3] wr fun e w' => e = .returned (.int .i64 (medI L)) ∧ Below wr.heap.size wr w') := medianI_any A3 c3 L _ hoS.rd (by have := HDL.out; omega) (by have := HDL.out; omega)
        have Z2 := hid (Z1.out.trans (hW.out.mono Z1.out.size))
        have HL2 := hid hL
        clear hoS hO hL hW
        go_wp2_with (go_at_call 80; with_reducible refine C1.out.mono ?_; rintro e w5 ⟨rfl, hb5⟩)
        go_ret2
        rw [← HL2.out]
        exact ⟨rfl, Z2.out.trans (hb5.mono Z2.out.size)⟩
end Go.Proofs.Ytbodfepfapjikaa
