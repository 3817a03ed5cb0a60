/-
  PutLayers of the reference, by contract.
-/
import Derived.Test.YtnngepnfljkbhaaPutLP
namespace Go.Proofs.Ytnngepnfljkbhaa
open Go.RowKit
set_option linter.unusedVariables false
set_option linter.unusedSimpArgs false

set_option maxRecDepth 100000 in
set_option maxHeartbeats 3200000 in
theorem sPutLayers_any (A : Option Addr) (c : Nat) (L : List Lay) (key by_ : Int) (w : World) (hx : RdC w A L) (hn : L.length ≤ 1048576) (hl : ∀ e ∈ L, e.x.length ≤ 1048576) (hw : W64L L) (hkw : W64 key) (hbw : W64 by_) :
    Calls Try.prog 55 #[.slice A L.length c, .int .i64 key, .int .i64 by_] w (RetCS w (pPutLayers (L.map Lay.plain) key by_)) := by
  have HX := hid hx
  have HL := hid hl
  clear hx hl hw hkw hbw
  cases hv : vLayP (L.map Lay.plain) with
  | false =>
    rw [show pPutLayers (L.map Lay.plain) key by_ = ([], false) by simp [pPutLayers, hv]]
    refine Calls.mono ?_ retCS_no
    go_enter Try.func55, Try.ntmps55
    go_wp2_with fail
    refine (l03Layers_any A c L _ HX.out hn HL.out).mono ?_
    rw [hv]
    rintro e w1 ⟨rfl, n, rfl⟩
    go_wp2
    go_ret2
    exact ⟨rfl, below_drewN (Below.refl _ _) _⟩
  | true =>
  cases hk : inB key 0 4294967295 with
  | false =>
    rw [show pPutLayers (L.map Lay.plain) key by_ = ([], false) by simp [pPutLayers, hk]]
    refine Calls.mono ?_ retCS_no
    go_enter Try.func55, Try.ntmps55
    go_wp2_with fail
    refine (l03Layers_any A c L _ HX.out hn HL.out).mono ?_
    rw [hv]
    rintro e w1 ⟨rfl, n, rfl⟩
    go_wp2_with (first | (go_at_call 96; refine (l02Key_any _ _).mono ?_; rintro e w' ⟨rfl, rfl⟩) | (go_at_call 106; refine (l00In_any _ _ _ _).mono ?_; rintro e w' ⟨rfl, rfl⟩))
    go_ret2
    exact ⟨rfl, below_drewN (Below.refl _ _) _⟩
  | true =>
  cases hb : inB by_ 0 1000000 with
  | false =>
    rw [show pPutLayers (L.map Lay.plain) key by_ = ([], false) by simp [pPutLayers, hb]]
    refine Calls.mono ?_ retCS_no
    go_enter Try.func55, Try.ntmps55
    go_wp2_with fail
    refine (l03Layers_any A c L _ HX.out hn HL.out).mono ?_
    rw [hv]
    rintro e w1 ⟨rfl, n, rfl⟩
    go_wp2_with (first | (go_at_call 96; refine (l02Key_any _ _).mono ?_; rintro e w' ⟨rfl, rfl⟩) | (go_at_call 106; refine (l00In_any _ _ _ _).mono ?_; rintro e w' ⟨rfl, rfl⟩))
    go_ret2
    exact ⟨rfl, below_drewN (Below.refl _ _) _⟩
  | true =>
  obtain ⟨h8, f, hf, hval⟩ := vLayP_iff hv
  obtain ⟨P, hP⟩ : ∃ P, P = L.map Lay.plain := ⟨_, rfl⟩
  have hpp : pPutLayers P key by_ = (match putN P key by_ 8 with | some l => (l, true) | none => ([], false)) := by rw [pPutLayers, hP, hv, hk, hb]; rfl
  have HP := hid hP
  have HPP := hid hpp
  have HV := hid hv
  have HVAL := hid hval
  have H8 := hid h8
  have HK := hid hk
  have HBY := hid hb
  rw [← hP]
  rw [h8]
  clear hP hpp hval hf h8
  have C0 : Hid (Calls Try.prog 120 #[.slice A 8 c] w fun e w' => e = .returned (.bool true) ∧ ∃ n, w' = w.drewN n) := by
    have h := l03Layers_any A c L w HX.out (by have := H8.out; omega) HL.out
    rw [HV.out, H8.out] at h
    exact h
  clear hv
  go_enter Try.func55, Try.ntmps55
  go_wp2_with fail
  refine C0.out.mono ?_
  rintro e w1 ⟨rfl, n, hn1⟩
  have S1 : Hid (Below w.heap.size w w1) := by rw [hn1]; exact below_drewN (Below.refl _ _) _
  have X1 := hid (HX.out.below S1.out)
  clear hn1 C0 HX
  go_wp2_with (first | (go_at_call 96; refine (l02Key_any _ _).mono ?_; rintro e w' ⟨rfl, rfl⟩) | (go_at_call 106; refine (l00In_any _ _ _ _).mono ?_; rintro e w' ⟨rfl, rfl⟩))
  clear hk hb
  go_loopw [8, 27] (fun v t wr => ∃ (j : Nat) (O : List Lay), j ≤ 8 ∧ t = .int .i64 j ∧ Hid (putN P key by_ j = some (O.map Lay.plain)) ∧ Hid (OwnVC wr w1.heap.size v O) ∧ Hid (O.length = j) ∧ Hid (∀ e ∈ O, e.x.length ≤ 384) ∧ Hid (Below w1.heap.size w1 wr)) (fun _ t _ => 8 - (intOf t).toNat)
  case atStart => exact ⟨0, [], Nat.zero_le _, rfl, rfl, OwnVC.made w1 (Nat.le_refl _), rfl, by show ∀ e ∈ [], _; simp, below_a1 _ _⟩
  case round =>
    obtain ⟨j, O, hj8, rfl, hN, hO, hOl, hO3, hW⟩ := hrel
    by_cases hlt : j < 8
    · have hjl : (j : Int) < 8 := by omega
      have hj0 : (0 : Int) ≤ (j : Int) := by omega
      obtain ⟨e, he⟩ : ∃ e, L[j]? = some e := ⟨_, List.getElem?_eq_getElem (by have := H8.out; omega)⟩
      have hPj : P[j]? = some e.plain := by rw [HP.out, List.getElem?_map, he]; rfl
      obtain ⟨hvE, -, -⟩ := HVAL.out j e he
      obtain ⟨⟨hw1, hw2⟩, ⟨hd1, hd2⟩, ⟨hs1, hs2⟩, hxl, hbd⟩ := vCells_iff hvE
      obtain ⟨ea, eb, es, eA, ec, ex⟩ := e
      simp only at hw1 hw2 hd1 hd2 hs1 hs2 hxl hbd
      obtain ⟨wd, rfl⟩ := Int.eq_ofNat_of_zero_le (show 0 ≤ ea by omega)
      obtain ⟨dp, rfl⟩ := Int.eq_ofNat_of_zero_le (show 0 ≤ eb by omega)
      obtain ⟨s, rfl⟩ := Int.eq_ofNat_of_zero_le hs1
      have hxl2 : ex.length = wd * dp := by rw [← Int.natCast_mul] at hxl; omega
      have hwd : 0 < wd := by omega
      have hdp : 0 < dp := by omega
      have hpos : 0 < ex.length := by rw [hxl2]; exact Nat.mul_pos hwd hdp
      have hel := HL.out _ (List.mem_of_getElem? he)
      simp only at hel
      obtain ⟨⟨g, o, rfl, a0, a1, a2, a3⟩, hrd⟩ := (X1.out.below hW.out) j _ he
      simp only at a0 a1 a2 a3 hrd
      have CO := hid (l03Own_off g (o + j * 4) ec eA (wd : Int) (dp : Int) (s : Int) ex wr a0 a1 a2 a3 hrd hpos hel)
      have v1 : IntKind.i64.wrap (4 * (j : Int)) = 4 * (j : Int) := by rw [IntKind.wrap_i64]; omega
      have v2 : IntKind.i64.wrap (28 - 4 * (j : Int)) = 28 - 4 * (j : Int) := by rw [IntKind.wrap_i64]; omega
      have HXL := hid hxl2
      have HBD := hid hbd
      have HPJ := hid hPj
      clear hxl hbd he hvE a0 a1 a2 a3 hrd hxl2 hPj
      go_wp2_with fail
      refine CO.out.mono ?_
      rintro en W2 ⟨A2, c2, rfl, ho2, hb2⟩
      have O2 := hid ho2
      have B2 := hid hb2
      clear CO ho2 hb2
      go_wp2_with fail
      obtain ⟨g2, ex2, rfl, hgB, hblk2⟩ := O2.out (List.ne_nil_of_length_pos hpos)
      have hg2 := hblk2.lt
      obtain ⟨kk, hkk⟩ := Int.eq_ofNat_of_zero_le (inB_iff.1 (key_shr (n := 28 - 4 * j) HK.out)).1
      have hkl : kk < 4294967296 := by have := (inB_iff.1 (key_shr (n := 28 - 4 * j) HK.out)).2; omega
      have hby := inB_iff.1 HBY.out
      have HKK := hid hkk
      rw [hkk]
      have BX := hid (Blk.new W2 41 [.int .i64 wd, .int .i64 dp, .int .i64 s, .slice (some ⟨g2, 0, none⟩) ex.length c2])
      have O3 := hid (O2.out.below (below_a1 W2 (.cells #[.int .i64 wd, .int .i64 dp, .int .i64 s, .slice (some ⟨g2, 0, none⟩) ex.length c2] 41)))
      clear hblk2 hkk
      refine (l03Put_any W2.heap.size c2 g2 wd dp s kk by_ wr.heap.size ex _ BX.out O3.out (by omega) (by omega) (by omega) (by omega) hkl (by omega) HXL.out HBD.out (by omega)).mono ?_
      rintro en W4 ⟨rfl, ho4, ht4⟩
      have O4 := hid ho4
      have BX4 := hid (Blk.touchAll BX.out ht4 (fun p hp => by simp only [List.mem_cons, List.not_mem_nil, or_false] at hp; subst hp; exact OwnS.other O3.out BX.out (by decide)))
      have B4 := hid ((B2.out.trans ((below_a1 W2 (.cells #[.int .i64 wd, .int .i64 dp, .int .i64 s, .slice (some ⟨g2, 0, none⟩) ex.length c2] 41)).mono B2.out.size)).trans (ht4.below1 (by have := B2.out.size; simp; omega) hgB))
      obtain ⟨y, hy⟩ : ∃ y, y = addAt by_ ex (cellsL wd s kk dp) := ⟨_, rfl⟩
      have hyl : y.length = ex.length := by rw [hy, addAt_length]
      have hq : Hid (putQ (Lay.plain ⟨wd, dp, s, eA, ec, ex⟩) (key / 2 ^ (28 - 4 * j)) by_ = if vCells wd dp s y = true then some ((wd : Int), (dp : Int), (s : Int), y) else none) := by show _ = _; rw [HKK.out, hy]; simp only [putQ, Lay.plain, Int.toNat_natCast]; first | rfl | congr
      rw [← hy] at O4
      obtain ⟨x0, x1, x2, x3⟩ := BX4.out.cells4
      rw [← hyl] at x3
      have CI := hid (l03Is_any W2.heap.size c2 _ wd dp s y W4 x0 x1 x2 x3 O4.out.rd (by omega))
      have hlt4 : W2.heap.size < W4.heap.size := BX4.out.lt
      clear ht4 BX O3 ho4 hy x0 x1 x2 x3
      go_wp2_with fail
      refine CI.out.mono ?_
      cases hv2 : vCells wd dp s y with
      | false =>
        rintro en W5 ⟨rfl, n5, hn5⟩
        have S5 : Hid (Below w.heap.size w W5) := by rw [hn5]; exact below_drewN (S1.out.trans ((hW.out.trans (B4.out.mono hW.out.size)).mono S1.out.size)) _
        have hno := hid (putN_no HPJ.out (by rw [hq.out, hv2]; rfl) hlt)
        clear hn5
        go_wp2
        go_ret2
        rw [HPP.out, hno.out]
        exact retCS_no _ _ ⟨rfl, S5.out⟩
      | true =>
        rintro en W5 ⟨rfl, n5, hn5⟩
        have O5 : Hid (OwnS (Value.int .i64) W5 wr.heap.size 2 (some ⟨g2, 0, none⟩) y) := by rw [hn5]; exact O4.out.below (below_drewN (Below.refl _ _) _)
        have BX5 : Hid (Blk W5 W2.heap.size 41 [.int .i64 wd, .int .i64 dp, .int .i64 s, .slice (some ⟨g2, 0, none⟩) y.length c2]) := by rw [hn5, hyl]; exact BX4.out.drewN _
        have B5 : Hid (Below wr.heap.size wr W5) := by rw [hn5]; exact below_drewN B4.out _
        have OV5 := hid (hO.out.below B5.out)
        have W5' := hid (hW.out.trans (B5.out.mono hW.out.size))
        have hap : Hid (∀ (i : Nat) (f : Lay), O[i]? = some f → Apart f.A f.x.length (some ⟨g2, 0, none⟩) y.length) := fun i f hf => OwnS.apart_lt (hO.out.own i f hf) O5.out (Nat.le_refl _)
        have hnext : Hid (putN P key by_ (j + 1) = some ((O ++ [(⟨wd, dp, s, some ⟨g2, 0, none⟩, c2, y⟩ : Lay)]).map Lay.plain)) := by
          show _ = _
          rw [putN_yes hN.out HPJ.out (by rw [hq.out, if_pos hv2])]
          simp [Lay.plain]
        have hy384 : y.length ≤ 384 := by rw [hyl, HXL.out]; exact Nat.le_trans (Nat.mul_le_mul (show wd ≤ 64 by omega) (show dp ≤ 6 by omega)) (by decide)
        have hlen : Hid ((O ++ [(⟨wd, dp, s, some ⟨g2, 0, none⟩, c2, y⟩ : Lay)]).length = j + 1) := by show _ = _; have := hOl.out; simp; omega
        have hb3 : Hid (∀ e ∈ O ++ [(⟨wd, dp, s, some ⟨g2, 0, none⟩, c2, y⟩ : Lay)], e.x.length ≤ 384) := fun e he => by
          rcases List.mem_append.1 he with h | h
          · exact hO3.out e h
          · simp at h; subst h; exact hy384
        have hol : O.length ≤ 1048576 := by have := hOl.out; omega
        obtain ⟨x0, x1, x2, x3⟩ := BX5.out.cells4
        have hlt5 : W2.heap.size < W5.heap.size := BX5.out.lt
        have hWs := hW.out.size
        clear hn5 hO hW B4 B5 BX4 O4 hyl
        go_wp2_with (at_builtin; refine app_lay rfl _ _ rfl ⟨wd, dp, s, some ⟨g2, 0, none⟩, c2, y⟩ OV5.out W5'.out (O5.out.mono hWs) hap.out rfl rfl hol W5'.out.size ?_)
        intro v' w' O6 W6
        go_wp2
        exact ⟨⟨j + 1, _, by omega, by go_num, hnext, O6, hlen, hb3, W6⟩, by simp [intOf]; omega⟩
    · have hjl : ¬ (j : Int) < 8 := by omega
      obtain rfl : j = 8 := by omega
      obtain ⟨Ao, co, rfl, hoc⟩ := hO.out.parts
      have HOC := hid hoc
      have S2 := hid (S1.out.trans (hW.out.mono S1.out.size))
      clear hoc hO
      go_wp2
      go_ret2
      rw [HPP.out, hN.out]
      exact ⟨Ao, co, O, rfl, rfl, HOC.out.mono S1.out.size, by have := hOl.out; omega, hO3.out, S2.out⟩
end Go.Proofs.Ytnngepnfljkbhaa
