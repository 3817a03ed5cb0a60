/-
  PutLayers of the program, by contract.
-/
import Derived.Test.YtmafkkpdcajfoaaPutLS
import Derived.Test.YtmafkkpdcajfoaaLayers
import Derived.Deep.RegionHeld3
import Derived.Deep.CutRange
namespace Go.Proofs.Ytmafkkpdcajfoaa
open Go.RowKit
set_option linter.unusedVariables false
set_option linter.unusedSimpArgs false

set_option maxRecDepth 100000 in
set_option maxHeartbeats 3200000 in
theorem iPutLayers_any (A : Option Addr) (c : Nat) (L : List Lay) (key by_ : Int) (w : World) (hx : RdC w A L) (hn : L.length ≤ 1048576) (hl : ∀ e ∈ L, e.x.length ≤ 1048576) (hw : W64L L) (hkw : W64 key) (hbw : W64 by_) :
    Calls Try.prog 9 #[.slice A L.length c, .int .i64 key, .int .i64 by_] w (RetCS w (pPutLayers (L.map Lay.plain) key by_)) := by
  have HX := hid hx
  have HL := hid hl
  have HWL := hid hw
  clear hx hl hw
  cases hv : vLayP (L.map Lay.plain) with
  | false =>
    rw [show pPutLayers (L.map Lay.plain) key by_ = ([], false) by simp [pPutLayers, hv]]
    refine Calls.mono ?_ retCS_no
    go_enter Try.func9, Try.ntmps9
    go_wp2_with fail
    refine (areLayers_any A c L _ HX.out hn HL.out HWL.out).mono ?_
    rw [hv]
    rintro e w1 ⟨rfl, hb1⟩
    have S1 := hid hb1
    clear hb1
    go_wp2
    go_ret2
    exact ⟨rfl, S1.out⟩
  | true =>
  cases hk : inB key 0 4294967295 with
  | false =>
    rw [show pPutLayers (L.map Lay.plain) key by_ = ([], false) by simp [pPutLayers, hk]]
    refine Calls.mono ?_ retCS_no
    go_enter Try.func9, Try.ntmps9
    go_wp2_with fail
    refine (areLayers_any A c L _ HX.out hn HL.out HWL.out).mono ?_
    rw [hv]
    rintro e w1 ⟨rfl, hb1⟩
    have S1 := hid hb1
    clear hb1
    go_wp2_with (first | (go_at_call 23; refine (IsKey_any _ _).mono ?_; rintro e w' ⟨rfl, rfl⟩) | (go_at_call 27; refine (within_any _ _ _ _).mono ?_; rintro e w' ⟨rfl, rfl⟩))
    go_ret2
    exact ⟨rfl, S1.out⟩
  | true =>
  cases hb : inB by_ 0 1000000 with
  | false =>
    rw [show pPutLayers (L.map Lay.plain) key by_ = ([], false) by simp [pPutLayers, hb]]
    refine Calls.mono ?_ retCS_no
    go_enter Try.func9, Try.ntmps9
    go_wp2_with fail
    refine (areLayers_any A c L _ HX.out hn HL.out HWL.out).mono ?_
    rw [hv]
    rintro e w1 ⟨rfl, hb1⟩
    have S1 := hid hb1
    clear hb1
    go_wp2_with (first | (go_at_call 23; refine (IsKey_any _ _).mono ?_; rintro e w' ⟨rfl, rfl⟩) | (go_at_call 27; refine (within_any _ _ _ _).mono ?_; rintro e w' ⟨rfl, rfl⟩))
    go_ret2
    exact ⟨rfl, S1.out⟩
  | true =>
  obtain ⟨h8, f, hf, hval⟩ := vLayP_iff hv
  obtain ⟨P, hP⟩ : ∃ P, P = L.map Lay.plain := ⟨_, rfl⟩
  have hpp : pPutLayers P key by_ = (match putN P key by_ 8 with | some l => (l, true) | none => ([], false)) := by rw [pPutLayers, hP, hv, hk, hb]; rfl
  have HP := hid hP
  have HPP := hid hpp
  have HV := hid hv
  have HVAL := hid hval
  have H8 := hid h8
  have HK := hid hk
  have HBY := hid hb
  rw [← hP]
  rw [h8]
  clear hP hpp hval hf h8
  have C0 : Hid (Calls Try.prog 26 #[.slice A 8 c] w fun e w' => e = .returned (.bool true) ∧ Below w.heap.size w w') := by
    have h := areLayers_any A c L w HX.out (by have := H8.out; omega) HL.out HWL.out
    rw [HV.out, H8.out] at h
    exact h
  clear hv
  go_enter Try.func9, Try.ntmps9
  go_wp2_with fail
  refine C0.out.mono ?_
  rintro e w1 ⟨rfl, hb1⟩
  have S1 := hid hb1
  have X1 := hid (HX.out.below S1.out)
  clear hb1 C0 HX
  go_wp2_with (first | (go_at_call 23; refine (IsKey_any _ _).mono ?_; rintro e w' ⟨rfl, rfl⟩) | (go_at_call 27; refine (within_any _ _ _ _).mono ?_; rintro e w' ⟨rfl, rfl⟩))
  clear hk hb
  go_loopw [8, 29] (fun v t wr => ∃ (j : Nat) (O : List Lay), j ≤ 8 ∧ t = .int .i64 j ∧ Hid (putN P key by_ j = some (O.map Lay.plain)) ∧ Hid (OwnVC wr w1.heap.size v O) ∧ Hid (O.length = j) ∧ Hid (∀ e ∈ O, e.x.length ≤ 384) ∧ Hid (Below w1.heap.size w1 wr)) (fun _ t _ => 8 - (intOf t).toNat)
  case atStart => exact ⟨0, [], Nat.zero_le _, rfl, rfl, OwnVC.made w1 (Nat.le_refl _), rfl, by show ∀ e ∈ [], _; simp, below_a1 _ _⟩
  case round =>
    obtain ⟨j, O, hj8, rfl, hN, hO, hOl, hO3, hW⟩ := hrel
    by_cases hlt : j < 8
    · have hjl : (j : Int) < 8 := by omega
      have hj0 : (0 : Int) ≤ (j : Int) := by omega
      obtain ⟨e, he⟩ : ∃ e, L[j]? = some e := ⟨_, List.getElem?_eq_getElem (by have := H8.out; omega)⟩
      have hPj : P[j]? = some e.plain := by rw [HP.out, List.getElem?_map, he]; rfl
      obtain ⟨hvE, -, -⟩ := HVAL.out j e he
      obtain ⟨⟨hw1, hw2⟩, ⟨hd1, hd2⟩, ⟨hs1, hs2⟩, hxl, hbd⟩ := vCells_iff hvE
      obtain ⟨ea, eb, es, eA, ec, ex⟩ := e
      simp only at hw1 hw2 hd1 hd2 hs1 hs2 hxl hbd
      obtain ⟨wd, rfl⟩ := Int.eq_ofNat_of_zero_le (show 0 ≤ ea by omega)
      obtain ⟨dp, rfl⟩ := Int.eq_ofNat_of_zero_le (show 0 ≤ eb by omega)
      obtain ⟨s, rfl⟩ := Int.eq_ofNat_of_zero_le hs1
      have hxl2 : ex.length = wd * dp := by rw [← Int.natCast_mul] at hxl; omega
      have hwd : 0 < wd := by omega
      have hdp : 0 < dp := by omega
      have hpos : 0 < ex.length := by rw [hxl2]; exact Nat.mul_pos hwd hdp
      have hel := HL.out _ (List.mem_of_getElem? he)
      simp only at hel
      obtain ⟨⟨g, o, rfl, a0, a1, a2, a3⟩, hrd⟩ := (X1.out.below hW.out) j _ he
      simp only at a0 a1 a2 a3 hrd
      have hgl : g < wr.heap.size := World.block_lt_of_cell? wr _ a0
      have RD := hid (hrd.below (below_a1 wr (.cells #[.int .i64 wd, .int .i64 dp, .int .i64 s, .slice eA ex.length ec] 46)))
      have HXL := hid hxl2
      have HBD := hid hbd
      have HPJ := hid hPj
      have hWE := HWL.out _ (List.mem_of_getElem? he)
      simp only at hWE
      have HWE := hid hWE
      have O1 := hid (hO.out.below (below_a1 wr (.cells #[.int .i64 wd, .int .i64 dp, .int .i64 s, .slice eA ex.length ec] 46)))
      have BX := hid (Blk.new wr 46 [.int .i64 wd, .int .i64 dp, .int .i64 s, .slice eA ex.length ec])
      have W1 := hid (hW.out.alloc hW.out.size (.cells #[.int .i64 wd, .int .i64 dp, .int .i64 s, .slice eA ex.length ec] 46))
      have HVE : Hid (vCells wd dp s ex = true) := hvE
      obtain ⟨kk, hkk⟩ : ∃ q, q = key / 2 ^ (28 - 4 * j) := ⟨_, rfl⟩
      have hkin : inB kk 0 4294967295 = true := hkk ▸ key_shr HK.out
      have hstep := hid (putCells_step (q := (((wd : Int), (dp : Int), (s : Int), ex) : Int × Int × Int × List Int)) (k := kk) (by_ := by_) hvE hkin (by have := inB_iff.1 HBY.out; exact inB_iff.2 ⟨by omega, by omega⟩))
      have HKK := hid hkk
      have hkw2 : W64 kk := w64_of_bounds (by have := inB_iff.1 hkin; omega)
      clear hPj hvE hxl hbd he hrd hO hW hxl2 hWE hkin hkk
      go_wp2
      clear a0 a1 a2 a3
      obtain ⟨gc, hgc⟩ : ∃ q, q = wr.heap.size := ⟨_, rfl⟩
      obtain ⟨wB, hwB⟩ : ∃ q, q = wr.alloc (.cells #[.int .i64 wd, .int .i64 dp, .int .i64 s, .slice eA ex.length ec] 46) := ⟨_, rfl⟩
      have hsz : wB.heap.size = gc + 1 := by rw [hwB, hgc]; simp
      have hgB : gc < wB.heap.size := by omega
      have BX2 : Hid (Blk wB gc 46 [.int .i64 wd, .int .i64 dp, .int .i64 s, .slice eA ex.length ec]) := by rw [hwB, hgc]; exact BX.out
      have RD2 : Hid (RdL (Value.int .i64) wB eA ex) := by rw [hwB]; exact RD.out
      have O2 : Hid (OwnVC wB w1.heap.size u8 O) := by rw [hwB]; exact O1.out
      have W2 : Hid (Below w1.heap.size w1 wB) := by rw [hwB]; exact W1.out
      rw [← hwB, ← hgc]
      clear BX RD O1 W1 hwB hgc hsz
      obtain ⟨x0, x1, x2, x3⟩ := BX2.out.cells4
      have v1 : IntKind.i64.wrap (7 - (j : Int)) = 7 - (j : Int) := by rw [IntKind.wrap_i64]; omega
      have v2 : IntKind.i64.wrap (4 * (7 - (j : Int))) = 28 - 4 * (j : Int) := by rw [IntKind.wrap_i64]; omega
      have v3 : (28 - 4 * (j : Int)).toNat = 28 - 4 * j := by omega
      have v4 : ¬ (28 - 4 * (j : Int)) < 0 := by omega
      have hpne : gc ≠ wB.heap.size := by omega
      have hpne' : wB.heap.size ≠ gc := by omega
      obtain ⟨p, hp⟩ : ∃ p, p = pPutCells wd dp s ex kk by_ := ⟨_, rfl⟩
      have CI : Hid (∀ w', RdL (Value.int .i64) w' eA ex → Calls Try.prog 28 #[.agg #[.int .i64 wd, .int .i64 dp, .int .i64 s, .slice eA ex.length ec], .int .i64 kk, .int .i64 by_] w' (RetCl w' p)) := fun w' hr =>
        hp ▸ iPutCells_any wd dp s eA ec ex kk by_ w' HWE.out.1 HWE.out.2.1 HWE.out.2.2.1 hr hel HWE.out.2.2.2 hkw2 hbw
      rw [HKK.out] at CI
      obtain ⟨⟨p0, p1, p2, px⟩, pt⟩ := p
      have HP' := hid hp
      clear hp
      go_cut [11, 12] from 30 to 51 (fun v b wx => ∃ q A3 c3, v = .pointer (some ⟨q, 0, none⟩) ∧ b = .bool pt ∧ Hid (wB.heap.size ≤ q ∧ px.length ≤ 1048576 ∧ Blk wx q 46 [.int .i64 p0, .int .i64 p1, .int .i64 p2, .slice A3 px.length c3] ∧ OwnS (Value.int .i64) wx wB.heap.size 2 A3 px ∧ Below wB.heap.size wB wx))
      case first =>
        go_region_held3 (fun w' => w'.cell? ⟨gc, 0, none⟩ = some (.int .i64 wd) ∧ w'.cell? ⟨gc, 1, none⟩ = some (.int .i64 dp) ∧ w'.cell? ⟨gc, 2, none⟩ = some (.int .i64 s) ∧ w'.cell? ⟨gc, 3, none⟩ = some (.slice eA ex.length ec)) (first | go_keep | exact hS | (refine ⟨?_, ?_, ?_, ?_⟩ <;> go_keep) | (simp [hpne, hpne']; exact hS))
          (first | (go_at_call 28
                    refine (CI.out _ (RD2.out.drewN 1)).mono ?_
                    rintro e w3 ⟨A3, c3, rfl, hoP, hlP, hbP⟩
                    have hbP := below_drew' hbP
                    have hS := (BX2.out.below hbP).cells4)
                 | (go_at_call 28
                    refine (CI.out _ ((RD2.out.below (below_a1 _ _)).drewN 1)).mono ?_
                    rintro e w3 ⟨A3, c3, rfl, hoP, hlP, hbP⟩
                    have hbP := below_drew' hbP
                    have hS := ((BX2.out.alloc _).below hbP).cells4
                    have hQ := (Blk.new wB 46 [.int .i64 0, .int .i64 0, .int .i64 0, .slice none 0 0]).below hbP
                    obtain ⟨q0, q1, q2, q3⟩ := hQ.cells4
                    have f0 := hQ.frozen 0
                    have f1 := hQ.frozen 1
                    have f2 := hQ.frozen 2
                    have f3 := hQ.frozen 3))
        · go_wp2_with fail
          go_meet
          have hw2 := hbP.size
          exact ⟨w3.heap.size, A3, c3, rfl, rfl, hw2, hlP, Blk.new _ _ _, hoP.below (below_a1 _ _), hbP.alloc hw2 _⟩
        · go_wp2_with fail
          go_meet
          refine ⟨wB.heap.size, A3, c3, rfl, rfl, Nat.le_refl _, hlP, (((hQ.set_ 0 _).set_ 1 _).set_ 2 _).set_ 3 _, ((((hoP.setFar (by simp) _).setFar (by simp) _).setFar (by simp) _).setFar (by simp) _).mono (by simp), ?_⟩
          exact (((((below_a1 wB _).trans (hbP.mono (by simp))).setCell (by simp) _).setCell (by simp) _).setCell (by simp) _).setCell (by simp) _
      case' rest =>
        obtain ⟨q, A3, c3, rfl, rfl, hh⟩ := hcut
        obtain ⟨hq1, hpl, hQ, hO5, hB⟩ := hh.out
        have HQ := hid hQ
        have O5 := hid hO5
        have HB := hid hB
        have hps := HP'.out
        rw [hstep.out] at hps
        have OV5 := hid (O2.out.below HB.out)
        have W5 := hid (W2.out.trans (HB.out.mono W2.out.size))
        have hap : Hid (∀ (i : Nat) (f : Lay), O[i]? = some f → Apart f.A f.x.length A3 px.length) := fun i f hf => OwnS.apart_lt (O2.out.own i f hf) O5.out (Nat.le_refl _)
        have S5 := hid (S1.out.trans (W5.out.mono S1.out.size))
        have hBs := W2.out.size
        clear hh hQ hO5 hB x0 x1 x2 x3 hpne hpne' v1 v2 v3 v4 CI HWE RD2 BX2 W2 HB HP' O2 hstep
        cases hpq : putQ ((wd : Int), (dp : Int), (s : Int), ex) kk by_ with
        | none =>
          rw [hpq] at hps
          injection hps with hps1 hps2
          subst hps2
          have hno := hid (putN_no HPJ.out (by rw [← HKK.out]; exact hpq) hlt)
          clear hps1 hpq
          go_wp2
          go_ret2
          rw [HPP.out, hno.out]
          exact retCS_no _ _ ⟨rfl, S5.out⟩
        | some q' =>
          rw [hpq] at hps
          injection hps with hps1 hps2
          subst hps2
          have hnext : Hid (putN P key by_ (j + 1) = some ((O ++ [(⟨p0, p1, p2, A3, c3, px⟩ : Lay)]).map Lay.plain)) := by
            show _ = _
            rw [putN_yes hN.out HPJ.out (by rw [← HKK.out]; exact hpq), ← hps1]
            simp [Lay.plain]
          have hpx : px.length = ex.length := by
            have h1 := hpq
            rw [← hps1] at h1
            simp only [putQ] at h1
            split at h1
            · injection h1 with h1
              injection h1 with _ h1; injection h1 with _ h1; injection h1 with _ h1
              rw [← h1, addAt_length]
            · cases h1
          have hy384 : px.length ≤ 384 := by rw [hpx, HXL.out]; exact Nat.le_trans (Nat.mul_le_mul (show wd ≤ 64 by omega) (show dp ≤ 6 by omega)) (by decide)
          have hlen : Hid ((O ++ [(⟨p0, p1, p2, A3, c3, px⟩ : Lay)]).length = j + 1) := by show _ = _; have := hOl.out; simp; omega
          have hb3 : Hid (∀ e ∈ O ++ [(⟨p0, p1, p2, A3, c3, px⟩ : Lay)], e.x.length ≤ 384) := fun e he => by
            rcases List.mem_append.1 he with h | h
            · exact hO3.out e h
            · simp at h; subst h; exact hy384
          have hol : O.length ≤ 1048576 := by have := hOl.out; omega
          obtain ⟨x0, x1, x2, x3⟩ := HQ.out.cells4
          have hqlt := HQ.out.lt
          clear hps1 hpq hpx hN
          go_wp2_with (at_builtin; refine app_lay rfl _ _ rfl ⟨p0, p1, p2, A3, c3, px⟩ OV5.out W5.out (O5.out.mono hBs) hap.out rfl rfl hol W5.out.size ?_)
          intro v' w' O6 W6
          go_wp2
          exact ⟨⟨j + 1, _, by omega, by go_num, hnext, O6, hlen, hb3, W6⟩, by simp [intOf]; omega⟩
    · have hjl : ¬ (j : Int) < 8 := by omega
      obtain rfl : j = 8 := by omega
      obtain ⟨Ao, co, rfl, hoc⟩ := hO.out.parts
      have HOC := hid hoc
      have S2 := hid (S1.out.trans (hW.out.mono S1.out.size))
      clear hoc hO
      go_wp2
      go_ret2
      rw [HPP.out, hN.out]
      exact ⟨Ao, co, O, rfl, rfl, HOC.out.mono S1.out.size, by have := hOl.out; omega, hO3.out, S2.out⟩
end Go.Proofs.Ytmafkkpdcajfoaa
