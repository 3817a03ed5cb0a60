/-
  CorrectedAt: reference and program, by contracts.
-/
import Derived.Test.YtbodfepfapjikaaCorP
import Derived.Test.YtbodfepfapjikaaMedF
import Derived.Test.YtbodfepfapjikaaSignedAt
import Derived.Deep.QuietTactic
namespace Go.Proofs.Ytbodfepfapjikaa
open Go.RowKit Go.Shelf Go.Sort Ieee
set_option linter.unusedVariables false
set_option linter.unusedSimpArgs false

theorem ret_fb3 {a a' : Nat} {b : Bool} (h : a = a') : Ending.returned (.tuple #[.float .f32 a, .bool b]) = .returned (.tuple #[.float .f32 a', .bool b]) := by rw [h]
theorem quiet_moreZ {P : Program} {f : FuncId} {args : Array Value} {w : World} {n : Nat} {v : Value}
    (h : Calls P f args (w.drewN n) fun e w' => e = .returned v ∧ ∃ m, w' = (w.drewN n).drewN m) : Calls P f args (w.drewN n) fun e w'' => e = .returned v ∧ ∃ m, w'' = w.drewN m :=
  h.mono fun _ _ ⟨he, m, hm⟩ => ⟨he, n + m, by rw [hm, World.drewN_drewN]⟩
theorem finite3_any (r : Nat) (w : World) (h : floatBits .sub .f32 r r = some 0) : Calls Try.prog 127 #[.float .f32 r] w fun e w' => e = .returned (.bool true) ∧ w = w' := by
  have hq : ∀ t w, (binOp .sub t (.float .f32 r) (.float .f32 r)).run Try.prog w = .ok (.float .f32 0) w := fun t w => run_float_arith w .sub t .f32 _ _ _ h
  have hz : FloatKind.f32.format.order 0 0 = some .eq := z32
  clear h
  go_enter Try.func127, Try.ntmps127
  go_wp2_with (simp only [hq])
  go_ret
  exact ⟨ret_bool (by simp [hz]), rfl⟩
theorem number3_any (r : Nat) (w : World) (h : floatBits .sub .f32 r r = some 0) : Calls Try.prog 86 #[.float .f32 r] w fun e w' => e = .returned (.tuple #[.float .f32 r, .bool true]) ∧ w = w' := by
  have HH := hid h
  clear h
  go_enter Try.func86, Try.ntmps86
  go_wp2_with (go_at_call 127; refine (finite3_any r _ HH.out).mono ?_; rintro e w' ⟨rfl, rfl⟩)
  go_ret2
  exact ⟨rfl, rfl⟩
set_option maxRecDepth 100000 in
set_option maxHeartbeats 3200000 in
theorem sCorrectedAt_any (a0 a1 a2 : Int) (A : Option Addr) (c : Nat) (x : List Int) (key : Int) (w : World) (h0 : W64 a0) (h1 : W64 a1) (h2 : W64 a2) (hx : RdL (Value.int .i64) w A x) (hn : x.length ≤ 1048576) (we : ∀ y ∈ x, W64 y) (hkey : W64 key) :
    Calls Try.prog 36 #[.agg #[.int .i64 a0, .int .i64 a1, .int .i64 a2, .slice A x.length c], .int .i64 key] w fun e w' => e = .returned (.tuple #[.float .f32 (pCorrectedAt a0 a1 a2 x key).1, .bool (pCorrectedAt a0 a1 a2 x key).2]) ∧ Below w.heap.size w w' := by
  have HX := hid (hx.below (below_a1 w (.cells #[.int .i64 a0, .int .i64 a1, .int .i64 a2, .slice A x.length c] 48)))
  have b0 := hid (Blk.new w 48 [.int .i64 a0, .int .i64 a1, .int .i64 a2, .slice A x.length c])
  have WE := hid we
  clear hx we
  cases hv : vCells a0 a1 a2 x with
  | false =>
    have hp : pCorrectedAt a0 a1 a2 x key = (0, false) := by simp [pCorrectedAt, hv]
    rw [hp]
    clear hp
    go_enter Try.func36, Try.ntmps36
    go_wp2_with fail
    refine (l03Is_any _ c A a0 a1 a2 x _ (by simp) (by simp) (by simp) (by simp) HX.out hn).mono ?_
    rw [hv]
    rintro e w1 ⟨rfl, n, hn1⟩
    have S1 : Hid (Below (w.alloc (.cells #[.int .i64 a0, .int .i64 a1, .int .i64 a2, .slice A x.length c] 48)).heap.size (w.alloc (.cells #[.int .i64 a0, .int .i64 a1, .int .i64 a2, .slice A x.length c] 48)) w1) := by rw [hn1]; exact below_drewN (Below.refl _ _) _
    clear hn1
    go_wp2
    go_ret2
    exact ⟨rfl, ((below_a1 w (.cells #[.int .i64 a0, .int .i64 a1, .int .i64 a2, .slice A x.length c] 48)).trans (S1.out.mono (below_a1 w (.cells #[.int .i64 a0, .int .i64 a1, .int .i64 a2, .slice A x.length c] 48)).size))⟩
  | true =>
  cases hk : inB key 0 4294967295 with
  | false =>
    have hp : pCorrectedAt a0 a1 a2 x key = (0, false) := by simp [pCorrectedAt, hk]
    rw [hp]
    clear hp
    go_enter Try.func36, Try.ntmps36
    go_wp2_with fail
    refine (l03Is_any _ c A a0 a1 a2 x _ (by simp) (by simp) (by simp) (by simp) HX.out hn).mono ?_
    rw [hv]
    rintro e w1 ⟨rfl, n, hn1⟩
    have S1 : Hid (Below (w.alloc (.cells #[.int .i64 a0, .int .i64 a1, .int .i64 a2, .slice A x.length c] 48)).heap.size (w.alloc (.cells #[.int .i64 a0, .int .i64 a1, .int .i64 a2, .slice A x.length c] 48)) w1) := by rw [hn1]; exact below_drewN (Below.refl _ _) _
    clear hn1
    go_wp2_with ((go_at_call 70; refine (l02Key_any _ _).mono ?_; rintro e w' ⟨rfl, rfl⟩))
    go_ret2
    exact ⟨rfl, ((below_a1 w (.cells #[.int .i64 a0, .int .i64 a1, .int .i64 a2, .slice A x.length c] 48)).trans (S1.out.mono (below_a1 w (.cells #[.int .i64 a0, .int .i64 a1, .int .i64 a2, .slice A x.length c] 48)).size))⟩
  | true =>
    have hp : pCorrectedAt a0 a1 a2 x key = (medF (corL x a0.toNat a2.toNat key.toNat a1.toNat), true) := by simp [pCorrectedAt, hv, hk]
    rw [hp]
    clear hp
    obtain ⟨⟨hw1, hw2⟩, ⟨hd1, hd2⟩, ⟨hs1, hs2⟩, hl, hbd⟩ := vCells_iff' hv
    obtain ⟨hk1, hk2⟩ := inB_iff.1 hk
    have HV := hid hv
    have BX := hid hbd
    clear hv hbd
    obtain ⟨wd, rfl⟩ := Int.eq_ofNat_of_zero_le (show 0 ≤ a0 by omega)
    obtain ⟨dp, rfl⟩ := Int.eq_ofNat_of_zero_le (show 0 ≤ a1 by omega)
    obtain ⟨s, rfl⟩ := Int.eq_ofNat_of_zero_le hs1
    obtain ⟨key, rfl⟩ := Int.eq_ofNat_of_zero_le hk1
    simp only [Int.toNat_natCast]
    have hlx : x.length = wd * dp := by rw [← Int.natCast_mul] at hl; omega
    have hlx4 : x.length ≤ 384 := by rw [hlx]; have := Nat.mul_le_mul (show wd ≤ 64 by omega) (show dp ≤ 6 by omega); omega
    have LX := hid hlx
    clear hl hlx
    go_enter Try.func36, Try.ntmps36
    go_wp2_with fail
    refine (l03Is_any _ c A wd dp s x _ (by simp) (by simp) (by simp) (by simp) HX.out hn).mono ?_
    rw [HV.out]
    rintro e w1 ⟨rfl, n, hn1⟩
    have S1 : Hid (Below (w.alloc (.cells #[.int .i64 wd, .int .i64 dp, .int .i64 s, .slice A x.length c] 48)).heap.size (w.alloc (.cells #[.int .i64 wd, .int .i64 dp, .int .i64 s, .slice A x.length c] 48)) w1) := by rw [hn1]; exact below_drewN (Below.refl _ _) _
    clear hn1
    have X1 := hid (HX.out.below S1.out)
    have Z1 := hid ((below_a1 w (.cells #[.int .i64 wd, .int .i64 dp, .int .i64 s, .slice A x.length c] 48)).trans (S1.out.mono (below_a1 w (.cells #[.int .i64 wd, .int .i64 dp, .int .i64 s, .slice A x.length c] 48)).size))
    have b1 := hid (b0.out.below S1.out)
    clear S1 b0 HX
    obtain ⟨k0, k1, k2, k3⟩ := b1.out.cells4
    have hlw : w.heap.size < w1.heap.size := b1.out.lt
    go_wp2_with ((go_at_call 70; refine (l02Key_any _ _).mono ?_; rintro e w' ⟨rfl, rfl⟩))
    clear k0 k1 k2 k3 hlw hk
    go_loopw [6, 7] (fun v i wr => ∃ (k : Nat) (L : List Nat), k ≤ dp ∧ i = .int .i64 k ∧ Hid (L = isrt ltF (corL x wd s key k)) ∧ Hid (OwnVF wr w1.heap.size v L) ∧ Hid (Below w1.heap.size w1 wr)) (fun v i _ => dp - (intOf i).toNat)
    case atStart => exact ⟨0, [], Nat.zero_le _, rfl, rfl, OwnVF.made _ (Nat.le_refl _), below_a1 _ _⟩
    case round =>
      obtain ⟨k, L, hkr, rfl, hLe, hO, hW⟩ := hrel
      have br := hid (b1.out.below hW.out)
      obtain ⟨k0, k1, k2, k3⟩ := br.out.cells4
      have hlr : w.heap.size < wr.heap.size := br.out.lt
      have HLK : Hid (L.length = k) := by show _ = _; rw [hLe.out, isrt_length, corL_length]
      obtain ⟨A3, c3, rfl, hoS⟩ := hO.out.ownS
      have hsz := hW.out.size
      by_cases hlt : k < dp
      · have hi : (k : Int) < (dp : Int) := by omega
        have hltk : placeN wd s key k < x.length := by rw [LX.out]; exact placeN_lt (by omega) hlt
        obtain ⟨b, o, u, rfl, hcw, hun⟩ := X1.out.at_ hltk
        have hbl : b < w1.heap.size := World.block_lt_of_cell? w1 _ hcw
        have hcu : wr.cell? ⟨b, o + placeN wd s key k, none⟩ = some (.int .i64 u) := ((bcell hW.out).1 b _ hbl).trans hcw
        have hub := BX.out u (List.mem_of_getElem? hun.out)
        have hrb := row_bd (i := k) (show wd ≤ 64 by omega) BX.out
        obtain ⟨row, hrow⟩ : ∃ row, row = (rowL x wd k).sum := ⟨_, rfl⟩
        rw [← hrow] at hrb
        obtain ⟨y1, y2, y3⟩ := corX_spec hub hrb (show 2 ≤ wd by omega) (by omega)
        obtain ⟨z, hz⟩ : ∃ z, z = corX u row wd := ⟨_, rfl⟩
        obtain ⟨qq, hqq⟩ : ∃ q, q = sQ (floatOfInt .f32 (row - u)) (floatOfInt .f32 ((wd : Int) - 1)) := ⟨_, rfl⟩
        rw [← hqq] at y1 y2
        rw [← hz] at y2 y3
        have f1 : ∀ t w, (binOp .quo t (.float .f32 (floatOfInt .f32 (row - u))) (.float .f32 (floatOfInt .f32 ((wd : Int) - 1)))).run Try.prog w = .ok (.float .f32 qq) w := fun t w => run_float_arith w .quo t .f32 _ _ _ y1
        have f2 : ∀ t w, (binOp .sub t (.float .f32 (floatOfInt .f32 u)) (.float .f32 qq)).run Try.prog w = .ok (.float .f32 z) w := fun t w => run_float_arith w .sub t .f32 _ _ _ y2
        have v1 : IntKind.i64.wrap (row - u) = row - u := by rw [IntKind.wrap_i64]; omega
        have v2 : IntKind.i64.wrap ((wd : Int) - 1) = (wd : Int) - 1 := by rw [IntKind.wrap_i64]; omega
        have hLF : Hid (∀ e ∈ L, Fb single e 51) := fun e he => corL_fb (by omega) (by omega) BX.out e (isrt_mem _ (hLe.out ▸ he))
        have HZ := hid y3
        have hnx : Hid (insR ltF L z = isrt ltF (corL x wd s key (k + 1))) := by
          show _ = _
          rw [corL_succ hun, isrt_snoc, ← hLe.out, ← hrow, ← hz]
        have CP : Hid (∀ n, Calls Try.prog 81 #[.pointer (some ⟨w.heap.size, 0, none⟩), .int .i64 key, .int .i64 k] (wr.drewN n) fun e w' => e = .returned (.int .i64 (placeN wd s key k)) ∧ ∃ m, w' = (wr.drewN n).drewN m) := fun n =>
          l03Place_any w.heap.size wd s key k (wr.drewN n) k0 k2 (by omega) (by omega) (by omega) (by omega) (by omega)
        have CR : Hid (∀ n, Calls Try.prog 85 #[.pointer (some ⟨w.heap.size, 0, none⟩), .int .i64 k] (wr.drewN n) fun e w' => e = .returned (.int .i64 row) ∧ ∃ m, w' = (wr.drewN n).drewN m) := fun n => by
          rw [hrow]
          exact l03Row_any w.heap.size wd dp k c (some ⟨b, o, none⟩) x (wr.drewN n) k0 k3 ((X1.out.below hW.out).drewN n) (by omega) (by omega) (by omega) (by omega) LX.out BX.out
        have hik : (placeN wd s key k : Int) < (x.length : Int) := by omega
        have hik0 : (0 : Int) ≤ (placeN wd s key k : Int) := by omega
        clear hcw hub hrb hrow y1 y2 y3 hz hqq hun
        go_wp2
        go_quiet ((go_at_call 81; exact quiet_moreZ (CP.out _)))
        go_wp2
        go_quiet ((go_at_call 85; exact quiet_moreN (CR.out _)))
        go_wp2
        go_loop [10] (fun t => ∃ j : Nat, j ≤ L.length ∧ t = .int .i64 j ∧ Hid (posR ltF z L j = posR ltF z L L.length)) (fun t => (intOf t).toNat)
        case atStart => exact ⟨L.length, Nat.le_refl _, rfl, rfl⟩
        case round =>
          obtain ⟨j, hj, rfl, hpos⟩ := hrel
          rcases Nat.eq_zero_or_pos j with h0 | h0
          · have hn0 : ¬ 0 < j := by omega
            have hpj : Hid (posR ltF z L L.length = j) := by show _ = _; rw [← hpos.out, h0]; rfl
            clear h0
            have hjp : posR ltF z L L.length = j := hpj.out
            have HJP := hid hjp
            have hst : ∀ (a : Addr) (v : Nat) (m : Mode) (w : World), (store a (.float .f32 v) m).run Try.prog w = stored Try.prog w a (.float .f32 v) m := fun a v m w => run_store _ _ _ _ _ rfl
            have hLl : L.length ≤ 1048577 := by have := HLK.out; omega
            clear hpos hpj hoS CP CR f1 f2 v1 v2 hcu hik hik0 k0 k1 k2 k3
            go_wp2_with (at_builtin; refine app_flt rfl _ _ rfl 0 (hO.out.drewN _) (below_drewN hW.out _) rfl rfl hLl (show _ ≤ _ from hW.out.size) ?_)
            intro v' w4 O4 W4 hg4 KP
            obtain ⟨g, cv, u0, hv', hgB, hgl, -, -, -, -⟩ := O4.out.put (j := 0) (by simp)
            subst hv'
            obtain ⟨n1, hn1⟩ : ∃ n1, n1 = (L ++ [0]).length := ⟨_, rfl⟩
            have O5 : Hid (OwnVF w4 w1.heap.size (.slice (some ⟨g, 0, none⟩) n1 cv) (shR L L.length)) := by rw [shR_top, hn1]; exact O4.out
            rw [← hn1]
            have hn1' : n1 = L.length + 1 := by rw [hn1]; simp
            have HN1 := hid hn1'
            have v5 : IntKind.i64.wrap ((n1 : Int) - 1) = (L.length : Int) := by rw [IntKind.wrap_i64]; have := HLK.out; omega
            clear KP O4 hg4 hn1 hn1' hjp
            go_wp2
            go_loopw [11] (fun t wq => ∃ m : Nat, j ≤ m ∧ m ≤ L.length ∧ t = .int .i64 m ∧ Hid (OwnVF wq w1.heap.size (.slice (some ⟨g, 0, none⟩) n1 cv) (shR L m)) ∧ Hid (Below w1.heap.size w1 wq)) (fun t _ => (intOf t).toNat)
            case atStart => exact ⟨L.length, hj, Nat.le_refl _, rfl, O5, W4⟩
            case round =>
              obtain ⟨m, hjm, hmL, rfl, hOm, hWm⟩ := hrel
              by_cases hgt : j < m
              · have hgti : (j : Int) < (m : Int) := by omega
                obtain ⟨q, rfl⟩ : ∃ q, m = q + 1 := ⟨m - 1, by omega⟩
                obtain ⟨y, hy⟩ : ∃ y, L[q]? = some y := ⟨_, List.getElem?_eq_getElem (by omega)⟩
                obtain ⟨g1, c1, y', hg1, -, -, hc1, hf1, hm1, -⟩ := hOm.out.put (j := q) (by rw [shR_length hmL]; omega)
                injection hg1 with hg1 z1 z2; clear z1 z2; injection hg1 with hg1; injection hg1 with hg1
                subst hg1
                obtain rfl : y' = y := by
                  have h1 := hm1.out
                  rw [shR_low (by omega) hmL, List.getElem?_append_left (by omega), hy] at h1
                  injection h1 with h1; exact h1.symm
                obtain ⟨g2, c2, u2, hg2, hgB2, hgl2, hc2, hf2, -, hput⟩ := hOm.out.put (j := q + 1) (by rw [shR_length hmL]; omega)
                injection hg2 with hg2 z1 z2; clear z1 z2; injection hg2 with hg2; injection hg2 with hg2
                subst hg2
                have hO2 := hput y'
                rw [shR_step hy] at hO2
                have v6 : IntKind.i64.wrap (((q + 1 : Nat) : Int) - 1) = (q : Int) := by rw [IntKind.wrap_i64]; have := HLK.out; omega
                have v7 : IntKind.i64.wrap ((q : Int) + 1 - 1) = (q : Int) := by rw [IntKind.wrap_i64]; have := HLK.out; omega
                have l1 : (q : Int) < (n1 : Int) := by have := HN1.out; omega
                have l2 : ((q + 1 : Nat) : Int) < (n1 : Int) := by have := HN1.out; omega
                have l2' : (q : Int) + 1 < (n1 : Int) := by have := HN1.out; omega
                have l3 : (0 : Int) ≤ (q : Int) := by omega
                have W5 := hid (hWm.out.setCell (p := ⟨g, q + 1, none⟩) hgB2 (.float .f32 y'))
                clear hput hm1 hy hOm hWm hgt
                go_wp2
                exact ⟨⟨q, by omega, by omega, by go_num, hO2, W5⟩, by simp [intOf]⟩
              · have hgti : ¬ (j : Int) < (m : Int) := by omega
                obtain rfl : m = j := by omega
                obtain ⟨g2, c2, u2, hg2, hgB2, hgl2, hc2, hf2, -, hput⟩ := hOm.out.put (j := m) (by rw [shR_length hmL]; omega)
                injection hg2 with hg2 z1 z2; clear z1 z2; injection hg2 with hg2; injection hg2 with hg2
                subst hg2
                have hO2 := hput z
                rw [shR_put hmL] at hO2
                have hins : L.take m ++ z :: L.drop m = insR ltF L z := by unfold insR; rw [HJP.out]
                rw [hins] at hO2
                have l1 : (m : Int) < (n1 : Int) := by have := HN1.out; omega
                have l3 : (0 : Int) ≤ (m : Int) := by omega
                have W5 := hid (hWm.out.setCell (p := ⟨g, m, none⟩) hgB2 (.float .f32 z))
                clear hput hOm hWm hgt hins
                go_wp2
                exact ⟨⟨k + 1, insR ltF L z, by omega, by go_num, hnx, hO2, W5⟩, by simp [intOf]; omega⟩
          · obtain ⟨y, hy⟩ : ∃ y, L[j - 1]? = some y := ⟨_, List.getElem?_eq_getElem (by omega)⟩
            have hyf := hLF.out y (List.mem_of_getElem? hy)
            have hsw := ord_swap HZ.out hyf
            obtain ⟨g0, c0', y', hg0, -, -, hcy, -, hym, -⟩ := hO.out.put (j := j - 1) (by omega)
            injection hg0 with hg0
            subst hg0
            obtain rfl : y' = y := by have h1 := hym.out; rw [hy] at h1; injection h1 with h1; exact h1.symm
            have e3 : ((j : Int) - 1).toNat = j - 1 := by omega
            have e4 : (j : Int) - 1 < (L.length : Int) := by omega
            have e5 : (0 : Int) ≤ (j : Int) - 1 := by omega
            have e6 : IntKind.i64.wrap ((j : Int) - 1) = (j : Int) - 1 := by rw [IntKind.wrap_i64]; have := HLK.out; omega
            have hstep : Hid (ltF z y' = true → posR ltF z L (j - 1) = posR ltF z L L.length) := fun h => by
              rw [← hpos.out]
              have := posR_go (lt := ltF) (x := z) hy h
              rw [show j - 1 + 1 = j by omega] at this
              exact this.symm
            have hstop : Hid (ltF z y' = false → posR ltF z L L.length = j) := fun h => by
              rw [← hpos.out]
              have := posR_stop (lt := ltF) (x := z) hy h
              rw [show j - 1 + 1 = j by omega] at this
              exact this
            cases hlt' : ltF z y' with
            | true =>
              have hgd : (FloatKind.f32.format.order y' z == some .gt) = true := by rw [← hlt']; exact hsw
              have hp2 : Hid (posR ltF z L (j - 1) = posR ltF z L L.length) := hstep.out hlt'
              have e7 : (j : Int) - 1 = ((j - 1 : Nat) : Int) := by omega
              have E7 := hid e7
              clear hlt' hsw hstep hstop hym hyf hy e7
              go_wp2
              exact ⟨⟨j - 1, by omega, by rw [E7.out], hp2⟩, by simp [intOf]; omega⟩
            | false =>
              have hgd : (FloatKind.f32.format.order y' z == some .gt) = false := by rw [← hlt']; exact hsw
              have hpj : Hid (posR ltF z L L.length = j) := hstop.out hlt'
              clear hlt' hsw hstep hstop hym hyf hy
              have hjp : posR ltF z L L.length = j := hpj.out
              have HJP := hid hjp
              have hst : ∀ (a : Addr) (v : Nat) (m : Mode) (w : World), (store a (.float .f32 v) m).run Try.prog w = stored Try.prog w a (.float .f32 v) m := fun a v m w => run_store _ _ _ _ _ rfl
              have hLl : L.length ≤ 1048577 := by have := HLK.out; omega
              clear hpos hpj hoS CP CR f1 f2 v1 v2 hcu hik hik0 k0 k1 k2 k3
              go_wp2_with (at_builtin; refine app_flt rfl _ _ rfl 0 (hO.out.drewN _) (below_drewN hW.out _) rfl rfl hLl (show _ ≤ _ from hW.out.size) ?_)
              intro v' w4 O4 W4 hg4 KP
              obtain ⟨g, cv, u0, hv', hgB, hgl, -, -, -, -⟩ := O4.out.put (j := 0) (by simp)
              subst hv'
              obtain ⟨n1, hn1⟩ : ∃ n1, n1 = (L ++ [0]).length := ⟨_, rfl⟩
              have O5 : Hid (OwnVF w4 w1.heap.size (.slice (some ⟨g, 0, none⟩) n1 cv) (shR L L.length)) := by rw [shR_top, hn1]; exact O4.out
              rw [← hn1]
              have hn1' : n1 = L.length + 1 := by rw [hn1]; simp
              have HN1 := hid hn1'
              have v5 : IntKind.i64.wrap ((n1 : Int) - 1) = (L.length : Int) := by rw [IntKind.wrap_i64]; have := HLK.out; omega
              clear KP O4 hg4 hn1 hn1' hjp
              go_wp2
              go_loopw [11] (fun t wq => ∃ m : Nat, j ≤ m ∧ m ≤ L.length ∧ t = .int .i64 m ∧ Hid (OwnVF wq w1.heap.size (.slice (some ⟨g, 0, none⟩) n1 cv) (shR L m)) ∧ Hid (Below w1.heap.size w1 wq)) (fun t _ => (intOf t).toNat)
              case atStart => exact ⟨L.length, hj, Nat.le_refl _, rfl, O5, W4⟩
              case round =>
                obtain ⟨m, hjm, hmL, rfl, hOm, hWm⟩ := hrel
                by_cases hgt : j < m
                · have hgti : (j : Int) < (m : Int) := by omega
                  obtain ⟨q, rfl⟩ : ∃ q, m = q + 1 := ⟨m - 1, by omega⟩
                  obtain ⟨y, hy⟩ : ∃ y, L[q]? = some y := ⟨_, List.getElem?_eq_getElem (by omega)⟩
                  obtain ⟨g1, c1, y', hg1, -, -, hc1, hf1, hm1, -⟩ := hOm.out.put (j := q) (by rw [shR_length hmL]; omega)
                  injection hg1 with hg1 z1 z2; clear z1 z2; injection hg1 with hg1; injection hg1 with hg1
                  subst hg1
                  obtain rfl : y' = y := by
                    have h1 := hm1.out
                    rw [shR_low (by omega) hmL, List.getElem?_append_left (by omega), hy] at h1
                    injection h1 with h1; exact h1.symm
                  obtain ⟨g2, c2, u2, hg2, hgB2, hgl2, hc2, hf2, -, hput⟩ := hOm.out.put (j := q + 1) (by rw [shR_length hmL]; omega)
                  injection hg2 with hg2 z1 z2; clear z1 z2; injection hg2 with hg2; injection hg2 with hg2
                  subst hg2
                  have hO2 := hput y'
                  rw [shR_step hy] at hO2
                  have v6 : IntKind.i64.wrap (((q + 1 : Nat) : Int) - 1) = (q : Int) := by rw [IntKind.wrap_i64]; have := HLK.out; omega
                  have v7 : IntKind.i64.wrap ((q : Int) + 1 - 1) = (q : Int) := by rw [IntKind.wrap_i64]; have := HLK.out; omega
                  have l1 : (q : Int) < (n1 : Int) := by have := HN1.out; omega
                  have l2 : ((q + 1 : Nat) : Int) < (n1 : Int) := by have := HN1.out; omega
                  have l2' : (q : Int) + 1 < (n1 : Int) := by have := HN1.out; omega
                  have l3 : (0 : Int) ≤ (q : Int) := by omega
                  have W5 := hid (hWm.out.setCell (p := ⟨g, q + 1, none⟩) hgB2 (.float .f32 y'))
                  clear hput hm1 hy hOm hWm hgt
                  go_wp2
                  exact ⟨⟨q, by omega, by omega, by go_num, hO2, W5⟩, by simp [intOf]⟩
                · have hgti : ¬ (j : Int) < (m : Int) := by omega
                  obtain rfl : m = j := by omega
                  obtain ⟨g2, c2, u2, hg2, hgB2, hgl2, hc2, hf2, -, hput⟩ := hOm.out.put (j := m) (by rw [shR_length hmL]; omega)
                  injection hg2 with hg2 z1 z2; clear z1 z2; injection hg2 with hg2; injection hg2 with hg2
                  subst hg2
                  have hO2 := hput z
                  rw [shR_put hmL] at hO2
                  have hins : L.take m ++ z :: L.drop m = insR ltF L z := by unfold insR; rw [HJP.out]
                  rw [hins] at hO2
                  have l1 : (m : Int) < (n1 : Int) := by have := HN1.out; omega
                  have l3 : (0 : Int) ≤ (m : Int) := by omega
                  have W5 := hid (hWm.out.setCell (p := ⟨g, m, none⟩) hgB2 (.float .f32 z))
                  clear hput hOm hWm hgt hins
                  go_wp2
                  exact ⟨⟨k + 1, insR ltF L z, by omega, by go_num, hnx, hO2, W5⟩, by simp [intOf]; omega⟩
      · have hi : ¬ (k : Int) < (dp : Int) := by omega
        obtain rfl : k = dp := by omega
        have hLk := HLK.out
        obtain ⟨m, hm⟩ : ∃ m, m = (k - 1) / 2 := ⟨_, rfl⟩
        obtain ⟨g0, c0', u, hg0, -, -, hcu, -, hum, -⟩ := hO.out.put (j := m) (by omega)
        injection hg0 with hg0
        subst hg0
        have hmv : medF (corL x wd s key k) = u := by
          have h1 := medF_at (corL x wd s key k) (by rw [corL_length]; omega)
          rw [corL_length, ← hm, ← hLe.out] at h1
          have h2 := hum.out
          rw [h1] at h2; injection h2
        have hlp : 0 < (corL x wd s key k).length := by rw [corL_length]; omega
        have hmm := medF_mem hlp
        rw [hmv] at hmm
        have hfu : Fb single u 51 := corL_fb (x := x) (wd := wd) (s := s) (key := key) (n := k) (by omega) (by omega) BX.out u hmm
        have CN : Hid (∀ w, Calls Try.prog 86 #[.float .f32 u] w fun e w' => e = .returned (.tuple #[.float .f32 u, .bool true]) ∧ w = w') := fun w => number3_any u w (less_self hfu)
        have hq1 : (m : Int) < (L.length : Int) := by omega
        have hq0 : (0 : Int) ≤ (m : Int) := by omega
        have hq : ((k : Int) - 1) / 2 = (m : Int) := by omega
        have HM := hid hmv
        have Z2 := hid (Z1.out.trans (hW.out.mono Z1.out.size))
        clear hum hmv hLk hm hLe hoS hfu hO hW hlp hmm
        go_wp2_with (go_at_call 86; refine (CN.out _).mono ?_; rintro e w' ⟨rfl, rfl⟩)
        go_ret2
        exact ⟨ret_fb3 HM.out.symm, Z2.out⟩
end Go.Proofs.Ytbodfepfapjikaa
