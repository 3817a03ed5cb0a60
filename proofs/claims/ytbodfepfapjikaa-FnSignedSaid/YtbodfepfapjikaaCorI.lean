/-
  CorrectedAt of the program, by contracts.
-/
import Derived.Test.YtbodfepfapjikaaCorP
import Derived.Test.YtbodfepfapjikaaMedF
import Derived.Test.YtbodfepfapjikaaSignedAt
import Derived.Deep.QuietTactic
namespace Go.Proofs.Ytbodfepfapjikaa
open Go.RowKit Go.Shelf Go.Sort Ieee
set_option linter.unusedVariables false
set_option linter.unusedSimpArgs false

theorem app_flt2 {ops : Array Oper} {rest : List Oper} {o : Oper} {a : Act} {Q : Exit → Act → World → Prop} (hgd : o.guard = none) (s x : Operand)
    (ho : o.op = .call { callee := .builtin .append, args := #[s, x], argTypes := #[92, 92] })
    (y : Nat) {w0 wr : World} {B : Nat} {v : Value} {xs : List Nat} (hown : OwnVF wr B v xs) (hB : Below B w0 wr) (hs : a.eval s = v) (hx : a.eval x = .slice (some ⟨wr.heap.size, 0, none⟩) 1 1)
    (hl : xs.length ≤ 1048577) (hsz : B ≤ wr.heap.size)
    (h : ∀ v' w', Hid (OwnVF w' B v' (xs ++ [y])) → Hid (Below B w0 w') → Hid (KeepBF wr v w' v') → wpList Try.prog ops Q rest (a.put o.dst v') w') :
    wpList Try.prog ops Q (o :: rest) a (wr.alloc (.cells #[.float .f32 y] 54)) := by
  obtain ⟨i0, hi0, hz0, hz1, hz2⟩ := info_parts Try.infoF
  refine wpList_append_own_at (wr.alloc (.cells #[.float .f32 y] 54)) hgd s x 92 ho B 54 i0 (.float .f32 0) 1 4 Try.underlying92 hi0 hz0 hz1 hz2 rfl (by decide) v xs.length _ hs (World.ownsRow.alloc hown _) ⟨wr.heap.size, 0, none⟩ 1 1 [.float .f32 y] hx rfl (cell_one_new _ _ _) ?_ ?_ ?_ ?_ ?_
  · intro u hu; simp at hu; subst hu; rfl
  · simp only [maxLen]; omega
  · omega
  · simp; omega
  · intro v' w1 hown' hgrow _ hat
    refine h v' w1 ?_ ?_ ?_
    · have e : (xs ++ [y]).length = xs.length + 1 := by simp
      unfold OwnVF
      rw [e, List.map_append]; exact hown'
    · exact (hB.alloc hsz _).grown hgrow (by simp; omega) (fun g hg => (World.ownsRow.lt (World.ownsRow.alloc hown (.cells #[.float .f32 y] 54)) g hg).1)
    · intro g2 t2 cs2 hb2 hne2
      have hb2' := hb2.alloc (.cells #[.float .f32 y] 54)
      refine ⟨(hgrow.block g2 hb2'.lt (fun e => hne2 e.symm)).trans hb2', fun e => ?_⟩
      rcases hat with hat | hat
      · exact hne2 (hat ▸ e)
      · rw [hat] at e
        injection e with e
        have := hb2.lt
        simp at e
        omega
set_option maxRecDepth 100000 in
set_option maxHeartbeats 3200000 in
theorem iCorrectedAt_any (a0 a1 a2 : Int) (A : Option Addr) (c : Nat) (x : List Int) (key : Int) (w : World) (h0 : W64 a0) (h1 : W64 a1) (h2 : W64 a2) (hx : RdL (Value.int .i64) w A x) (hn : x.length ≤ 1048576) (we : ∀ y ∈ x, W64 y) (hkey : W64 key) (hcap : x.length ≤ c := by exact Nat.le_refl _) (hcap2 : c ≤ 1048576 := by assumption) :
    Calls Try.prog 37 #[.agg #[.int .i64 a0, .int .i64 a1, .int .i64 a2, .slice A x.length c], .int .i64 key] w fun e w' => e = .returned (.tuple #[.float .f32 (pCorrectedAt a0 a1 a2 x key).1, .bool (pCorrectedAt a0 a1 a2 x key).2]) ∧ Below w.heap.size w w' := by
  have HX := hid (hx.below (below_a1 w (.cells #[.int .i64 a0, .int .i64 a1, .int .i64 a2, .slice A x.length c] 48)))
  have b0 := hid (Blk.new w 48 [.int .i64 a0, .int .i64 a1, .int .i64 a2, .slice A x.length c])
  have WE := hid we
  clear hx we
  cases hv : vCells a0 a1 a2 x with
  | false =>
    have hp : pCorrectedAt a0 a1 a2 x key = (0, false) := by simp [pCorrectedAt, hv]
    rw [hp]
    clear hp
    go_enter Try.func37, Try.ntmps37
    go_wp2_with fail
    refine (iValidCells_any a0 a1 a2 A c x _ h0 h1 h2 HX.out hn WE.out).mono ?_
    rw [hv]
    rintro e w1 ⟨rfl, hb1⟩
    have S1 := hid hb1
    clear hb1
    go_wp2
    go_ret2
    exact ⟨rfl, ((below_a1 w (.cells #[.int .i64 a0, .int .i64 a1, .int .i64 a2, .slice A x.length c] 48)).trans (S1.out.mono (below_a1 w (.cells #[.int .i64 a0, .int .i64 a1, .int .i64 a2, .slice A x.length c] 48)).size))⟩
  | true =>
  cases hk : inB key 0 4294967295 with
  | false =>
    have hp : pCorrectedAt a0 a1 a2 x key = (0, false) := by simp [pCorrectedAt, hk]
    rw [hp]
    clear hp
    go_enter Try.func37, Try.ntmps37
    go_wp2_with fail
    refine (iValidCells_any a0 a1 a2 A c x _ h0 h1 h2 HX.out hn WE.out).mono ?_
    rw [hv]
    rintro e w1 ⟨rfl, hb1⟩
    have S1 := hid hb1
    clear hb1
    go_wp2_with ((go_at_call 72; refine (IsKey_any _ _).mono ?_; rintro e w' ⟨rfl, rfl⟩))
    go_ret2
    exact ⟨rfl, ((below_a1 w (.cells #[.int .i64 a0, .int .i64 a1, .int .i64 a2, .slice A x.length c] 48)).trans (S1.out.mono (below_a1 w (.cells #[.int .i64 a0, .int .i64 a1, .int .i64 a2, .slice A x.length c] 48)).size))⟩
  | true =>
    have hp : pCorrectedAt a0 a1 a2 x key = (medF (corL x a0.toNat a2.toNat key.toNat a1.toNat), true) := by simp [pCorrectedAt, hv, hk]
    rw [hp]
    clear hp
    obtain ⟨⟨hw1, hw2⟩, ⟨hd1, hd2⟩, ⟨hs1, hs2⟩, hl, hbd⟩ := vCells_iff' hv
    obtain ⟨hk1, hk2⟩ := inB_iff.1 hk
    have HV := hid hv
    have BX := hid hbd
    clear hv hbd
    obtain ⟨wd, rfl⟩ := Int.eq_ofNat_of_zero_le (show 0 ≤ a0 by omega)
    obtain ⟨dp, rfl⟩ := Int.eq_ofNat_of_zero_le (show 0 ≤ a1 by omega)
    obtain ⟨s, rfl⟩ := Int.eq_ofNat_of_zero_le hs1
    obtain ⟨key, rfl⟩ := Int.eq_ofNat_of_zero_le hk1
    simp only [Int.toNat_natCast]
    have hlx : x.length = wd * dp := by rw [← Int.natCast_mul] at hl; omega
    have hlx4 : x.length ≤ 384 := by rw [hlx]; have := Nat.mul_le_mul (show wd ≤ 64 by omega) (show dp ≤ 6 by omega); omega
    have LX := hid hlx
    clear hl hlx
    go_enter Try.func37, Try.ntmps37
    go_wp2_with fail
    refine (iValidCells_any wd dp s A c x _ h0 h1 h2 HX.out hn WE.out).mono ?_
    rw [HV.out]
    rintro e w1 ⟨rfl, hb1⟩
    have S1 := hid hb1
    clear hb1
    have X1 := hid (HX.out.below S1.out)
    have Z1 := hid ((below_a1 w (.cells #[.int .i64 wd, .int .i64 dp, .int .i64 s, .slice A x.length c] 48)).trans (S1.out.mono (below_a1 w (.cells #[.int .i64 wd, .int .i64 dp, .int .i64 s, .slice A x.length c] 48)).size))
    have b1 := hid (b0.out.below S1.out)
    clear S1 b0 HX
    obtain ⟨k0, k1, k2, k3⟩ := b1.out.cells4
    have hlw : w.heap.size < w1.heap.size := b1.out.lt
    have hlw' : w.heap.size < w1.heap.size + 1 := by omega
    go_wp2_with (first | (go_at_call 72; refine (IsKey_any _ _).mono ?_; rintro en w' ⟨rfl, rfl⟩) | (go_at_call 83; refine (places_any wd dp s key x.length c _ _ (by omega) (by omega) (by omega) (by omega) (by omega)).mono ?_))
    rintro e w2 ⟨A2, c2, rfl, hoP, hb2⟩
    have hPl := cellsL_length wd s key dp
    obtain ⟨gP, ex, rfl, hgP, hbP⟩ := hoP (by intro h; rw [h] at hPl; simp at hPl; omega)
    have BP := hid hbP
    have W2 : Hid (Below w1.heap.size w1 w2) := (below_a1 w1 (.cells #[] 54)).trans (hb2.mono (by simp))
    have O2 : Hid (OwnVF w2 w1.heap.size (.slice (some ⟨w1.heap.size, 0, none⟩) 0 0) []) := (OwnVF.made w1 (Nat.le_refl _)).below hb2
    have hmem : Hid (∀ p ∈ cellsL wd s key dp, ∃ m : Nat, p = m ∧ m < x.length) := fun p hp' => by rw [LX.out]; exact cellsL_mem (by omega) hp'
    have hgP2 : w1.heap.size < gP := by simp at hgP; omega
    obtain ⟨P, hPe⟩ : ∃ P, P = cellsL wd s key dp := ⟨_, rfl⟩
    rw [← hPe] at BP hPl hmem ⊢
    have HPe := hid hPe
    clear hPe hoP hbP hb2 k0 k1 k2 k3 hlw hlw' hk hgP
    go_wp2
    go_loopw [6, 24] (fun v i wr => ∃ (k : Nat) (L : List Nat), k ≤ P.length ∧ i = .int .i64 k ∧ Hid (L = corL x wd s key k) ∧ Hid (OwnVF wr w1.heap.size v L) ∧ Hid (Below w1.heap.size w1 wr) ∧ Hid (Blk wr gP 2 (P.map (Value.int .i64) ++ ex)) ∧ Hid (v.ownBlock ≠ some gP)) (fun v i _ => P.length - (intOf i).toNat)
    case atStart => exact ⟨0, [], Nat.zero_le _, rfl, rfl, O2, W2, BP, by show _ ≠ _; intro h; simp [Value.ownBlock] at h; omega⟩
    case round =>
      obtain ⟨k, L, hkr, rfl, hLe, hO, hW, hBP, hvP⟩ := hrel
      have br := hid (b1.out.below hW.out)
      obtain ⟨k0, k1, k2, k3⟩ := br.out.cells4
      have hlr : w.heap.size < wr.heap.size := br.out.lt
      have HLK : Hid (L.length = k) := by show _ = _; rw [hLe.out, corL_length]
      have hsz := hW.out.size
      by_cases hlt : k < P.length
      · have hi : (k : Int) < (P.length : Int) := by omega
        obtain ⟨b3, o3, p, hA3, hcp, hpk⟩ := (Blk.rd hBP.out).at_ hlt
        injection hA3 with hA3; injection hA3 with e1 e2
        subst e1 e2
        rw [Nat.zero_add] at hcp
        obtain ⟨n, rfl, hnx⟩ := hmem.out p (List.mem_of_getElem? hpk.out)
        have hnp : n = placeN wd s key k := by
          have h1 := hpk.out
          rw [HPe.out, cellsL_at (by omega)] at h1
          injection h1 with h1
          omega
        obtain ⟨b, o, u, rfl, hcw, hun⟩ := X1.out.at_ hnx
        have hbl : b < w1.heap.size := World.block_lt_of_cell? w1 _ hcw
        have hcu : wr.cell? ⟨b, o + n, none⟩ = some (.int .i64 u) := ((bcell hW.out).1 b _ hbl).trans hcw
        have hub := BX.out u (List.mem_of_getElem? hun.out)
        have hrb := row_bd (i := k) (show wd ≤ 64 by omega) BX.out
        have hLs := hid (corL_succ (hnp ▸ hun))
        obtain ⟨row, hrow⟩ : ∃ row, row = (rowL x wd k).sum := ⟨_, rfl⟩
        rw [← hrow] at hrb hLs
        obtain ⟨y1, y2, y3⟩ := corX_spec hub hrb (show 2 ≤ wd by omega) (by omega)
        obtain ⟨z, hz⟩ : ∃ z, z = corX u row wd := ⟨_, rfl⟩
        obtain ⟨qq, hqq⟩ : ∃ q, q = sQ (floatOfInt .f32 (row - u)) (floatOfInt .f32 ((wd : Int) - 1)) := ⟨_, rfl⟩
        rw [← hqq] at y1 y2
        rw [← hz] at y2 y3 hLs
        have f1 : ∀ t w, (binOp .quo t (.float .f32 (floatOfInt .f32 (row - u))) (.float .f32 (floatOfInt .f32 ((wd : Int) - 1)))).run Try.prog w = .ok (.float .f32 qq) w := fun t w => run_float_arith w .quo t .f32 _ _ _ y1
        have f2 : ∀ t w, (binOp .sub t (.float .f32 (floatOfInt .f32 u)) (.float .f32 qq)).run Try.prog w = .ok (.float .f32 z) w := fun t w => run_float_arith w .sub t .f32 _ _ _ y2
        have v1 : IntKind.i64.wrap (row - u) = row - u := by rw [IntKind.wrap_i64]; omega
        have v2 : IntKind.i64.wrap ((wd : Int) - 1) = (wd : Int) - 1 := by rw [IntKind.wrap_i64]; omega
        have hik : (n : Int) < (x.length : Int) := by omega
        have hik0 : (0 : Int) ≤ (n : Int) := by omega
        have hrl := hid (rowL_length (i := k) LX.out (by omega))
        have HROW := hid hrow
        have XR := hid (X1.out.below hW.out)
        have hkd : k < dp := by omega
        have hol : L.length ≤ 1048577 := by have := HLK.out; omega
        clear hcw hub hrb hrow y1 y2 y3 hz hqq hun hnp
        go_wp2
        go_region_law (first
          | (go_simp
             go_at_call 79
             refine (irow_any wd dp s k x.length c b o _ (by omega) (by omega) hkd (by omega) LX.out hcap hcap2).mono ?_
             rintro e w3 ⟨cr, rfl, hcr, hbb⟩
             have hbb := below_drew' hbb
             obtain ⟨p0, p1, p2, p3⟩ := (br.out.below hbb).cells4
             have hcu3 := cell_below hcu hbb
             have O3 := hid (hO.out.below hbb)
             have W3 := hid (hW.out.trans (hbb.mono hsz))
             have BP3 := hid (hBP.out.below hbb)
             have XR3 := hid (rowL_rd (i := k) (wd := wd) (XR.out.below hbb))
             clear hbb)
          | (go_simp
             go_at_call 87
             refine (sumOf_any' _ wd cr (rowL x wd k) _ hrl XR3.out (by omega) (fun y hy => BX.out y (rowL_mem hy))).mono ?_
             rintro e w4 ⟨rfl, rfl⟩
             rw [← HROW.out]))
        all_goals
          have hfin := hLs
          clear HROW
          go_wp2_with (at_builtin; refine app_flt2 rfl _ _ rfl z O3.out W3.out rfl rfl hol W3.out.size ?_)
          intro v' w5 O5 W5 KB
          obtain ⟨hBP5, hvP5⟩ := KB.out gP _ _ BP3.out hvP.out
          have BP5 := hid hBP5
          have VP5 := hid hvP5
          have NX : Hid (L ++ [z] = corL x wd s key (k + 1)) := by show _ = _; rw [hfin.out, hLe.out]
          clear hBP5 hvP5 KB hfin hLs
          go_wp2
          exact ⟨⟨k + 1, L ++ [z], by omega, by go_num, NX, O5, W5, BP5, VP5⟩, by simp [intOf]; omega⟩
      · have hi : ¬ (k : Int) < (P.length : Int) := by omega
        obtain rfl : k = dp := by omega
        obtain ⟨A3, c3, rfl, hoS⟩ := hO.out.ownS
        have HL2 := hid hLe.out
        have hlp : 0 < L.length := by have := HLK.out; omega
        have hl20 : L.length < 20 := by have := HLK.out; omega
        have C1 : Hid (Calls Try.prog 88 #[.slice A3 L.length c3] wr fun e w' => e = .returned (.float .f32 (medF L)) ∧ Below wr.heap.size wr w') := medianF_any A3 c3 L _ hoS.rd hl20 hlp
        have Z2 := hid (Z1.out.trans (hW.out.mono Z1.out.size))
        clear hoS hO hLe hW hlp hl20
        go_wp2_with (go_at_call 88; with_reducible refine C1.out.mono ?_; rintro e w5 ⟨rfl, hb5⟩)
        go_ret2
        rw [← HL2.out]
        exact ⟨rfl, Z2.out.trans (hb5.mono Z2.out.size)⟩
end Go.Proofs.Ytbodfepfapjikaa
