/-
  HeavyLayers of the program, by contract.
-/
import Derived.Test.YtmafkkpdcajfoaaHeavyS
import Derived.Test.YtmafkkpdcajfoaaLayers
namespace Go.Proofs.Ytmafkkpdcajfoaa
open Go.RowKit
set_option linter.unusedVariables false
set_option linter.unusedSimpArgs false

set_option maxRecDepth 100000 in
set_option maxHeartbeats 3200000 in
theorem iHeavyLayers_any (A : Option Addr) (c : Nat) (L : List Lay) (least : Int) (w : World) (hx : RdC w A L) (hn : L.length ≤ 1048576) (hl : ∀ e ∈ L, e.x.length ≤ 1048576) (hw : W64L L) (hlw : W64 least) :
    Calls Try.prog 11 #[.slice A L.length c, .int .i64 least] w (RetHL w (pHeavyLayers (L.map Lay.plain) least)) := by
  have HX := hid hx
  have HL := hid hl
  have HWL := hid hw
  clear hx hl hw hlw
  cases hv : vLayP (L.map Lay.plain) with
  | false =>
    rw [show pHeavyLayers (L.map Lay.plain) least = ([], false) by simp [pHeavyLayers, hv]]
    refine Calls.mono ?_ retHL_no
    go_enter Try.func11, Try.ntmps11
    go_wp2_with fail
    refine (areLayers_any A c L _ HX.out hn HL.out HWL.out).mono ?_
    rw [hv]
    rintro e w1 ⟨rfl, hb1⟩
    go_wp2
    go_ret2
    exact ⟨rfl, hb1⟩
  | true =>
  by_cases hle : 1 ≤ least
  case neg =>
    rw [show pHeavyLayers (L.map Lay.plain) least = ([], false) by simp [pHeavyLayers, hle]]
    refine Calls.mono ?_ retHL_no
    have hlt : least < 1 := by omega
    have HV := hid hv
    clear hv hle
    go_enter Try.func11, Try.ntmps11
    go_wp2_with fail
    refine (areLayers_any A c L _ HX.out hn HL.out HWL.out).mono ?_
    rw [HV.out]
    rintro e w1 ⟨rfl, hb1⟩
    go_wp2
    go_ret2
    exact ⟨rfl, hb1⟩
  obtain ⟨h8, f, hf, hval⟩ := vLayP_iff hv
  obtain ⟨P, hP⟩ : ∃ P, P = L.map Lay.plain := ⟨_, rfl⟩
  have hPl : P.length = 8 := by rw [hP, List.length_map]; exact h8
  have hpp : pHeavyLayers P least = (match heavyP least P [0] with | some l => (l, true) | none => ([], false)) := by rw [pHeavyLayers, hP, hv, decide_eq_true hle]; rfl
  have HP := hid hP
  have HPP := hid hpp
  have HPL := hid hPl
  have HV := hid hv
  have HVAL := hid hval
  have H8 := hid h8
  have hnl : ¬ least < 1 := by omega
  rw [← hP]
  rw [h8]
  clear hP hpp hPl hv hval hf h8 hle
  go_enter Try.func11, Try.ntmps11
  have C0 : Hid (Calls Try.prog 26 #[.slice A 8 c] w fun e w' => e = .returned (.bool true) ∧ Below w.heap.size w w') := by
    have h := areLayers_any A c L w HX.out (by have := H8.out; omega) HL.out HWL.out
    rw [HV.out, H8.out] at h
    exact h
  go_wp2_with fail
  refine C0.out.mono ?_
  rintro e w1 ⟨rfl, hb1⟩
  have S1 := hid hb1
  have X1 := hid (HX.out.below S1.out)
  clear hb1 C0 HX
  go_wp2
  go_loopw [6, 23] (fun v t wr => ∃ (j : Nat) (now : List Int), j ≤ 8 ∧ t = .int .i64 j ∧ Hid (heavyP least (P.drop j) now = heavyP least P [0]) ∧ Hid (OwnV wr w1.heap.size v now) ∧ Hid (now.length ≤ 64) ∧ Hid (∀ p ∈ now, 0 ≤ p ∧ p < (16 : Int) ^ j) ∧ Hid (Below w1.heap.size w1 wr)) (fun _ t _ => 8 - (intOf t).toNat)
  case atStart => exact ⟨0, [0], Nat.zero_le _, rfl, rfl, OwnV.one w1 0 (Nat.le_refl _), by show _ ≤ _; simp, by intro p hp; simp at hp; subst hp; simp, below_a1 _ _⟩
  case round =>
    obtain ⟨j, now, hj8, rfl, hH, hO, hNl, hNb, hW⟩ := hrel
    by_cases hlt : j < 8
    · have hjl : (j : Int) < 8 := by omega
      have hj0 : (0 : Int) ≤ (j : Int) := by omega
      obtain ⟨e, he⟩ : ∃ e, L[j]? = some e := ⟨_, List.getElem?_eq_getElem (by have := H8.out; omega)⟩
      have hPj : P[j]? = some e.plain := by rw [HP.out, List.getElem?_map, he]; rfl
      have hst := hid (heavyP_step (least := least) (now := now) hPj)
      obtain ⟨hvE, -, -⟩ := HVAL.out j e he
      obtain ⟨⟨hw1, hw2⟩, ⟨hd1, hd2⟩, ⟨hs1, hs2⟩, hxl, hbd⟩ := vCells_iff hvE
      have hat := hid (show ∀ key : Nat, atP e.plain key = minAtM 1000000000000 e.x (cellsL e.a.toNat e.s.toNat key e.b.toNat) from fun key => by simp [atP, Lay.plain])
      obtain ⟨q, hq⟩ : ∃ q, q = e.plain := ⟨_, rfl⟩
      rw [← hq] at hst hat
      obtain ⟨ea, eb, es, eA, ec, ex⟩ := e
      simp only at hw1 hw2 hd1 hd2 hs1 hs2 hxl hbd hat
      obtain ⟨wd, rfl⟩ := Int.eq_ofNat_of_zero_le (show 0 ≤ ea by omega)
      obtain ⟨dp, rfl⟩ := Int.eq_ofNat_of_zero_le (show 0 ≤ eb by omega)
      obtain ⟨s, rfl⟩ := Int.eq_ofNat_of_zero_le hs1
      have hxl2 : ex.length = wd * dp := by rw [← Int.natCast_mul] at hxl; omega
      simp only [Int.toNat_natCast] at hat
      obtain ⟨⟨g, o, rfl, a0, a1, a2, a3⟩, hrd⟩ := (X1.out.below hW.out) j _ he
      simp only at a0 a1 a2 a3 hrd
      have hgl : g < wr.heap.size := World.block_lt_of_cell? wr _ a0
      have RD := hid (hrd.below (below_a1 wr (.cells #[.int .i64 wd, .int .i64 dp, .int .i64 s, .slice eA ex.length ec] 46)))
      have HXL := hid hxl2
      have hp8 := pow8 hlt
      have HP8 := hid hp8
      obtain ⟨Aw, cw, rfl, _⟩ := hO.out.ownS
      have O1 := hid (hO.out.below (below_a1 wr (.cells #[.int .i64 wd, .int .i64 dp, .int .i64 s, .slice eA ex.length ec] 46)))
      have BX := hid (Blk.new wr 46 [.int .i64 wd, .int .i64 dp, .int .i64 s, .slice eA ex.length ec])
      have W1 := hid (hW.out.alloc hW.out.size (.cells #[.int .i64 wd, .int .i64 dp, .int .i64 s, .slice eA ex.length ec] 46))
      clear hPj hvE hxl hbd hq he hrd hO hW hp8 hxl2
      go_wp2
      clear a0 a1 a2 a3
      obtain ⟨gc, hgc⟩ : ∃ q, q = wr.heap.size := ⟨_, rfl⟩
      obtain ⟨wB, hwB⟩ : ∃ q, q = wr.alloc (.cells #[.int .i64 wd, .int .i64 dp, .int .i64 s, .slice eA ex.length ec] 46) := ⟨_, rfl⟩
      have hsz : wB.heap.size = gc + 1 := by rw [hwB, hgc]; simp
      have hgB : gc < wB.heap.size := by omega
      have BX2 : Hid (Blk wB gc 46 [.int .i64 wd, .int .i64 dp, .int .i64 s, .slice eA ex.length ec]) := by rw [hwB, hgc]; exact BX.out
      have RD2 : Hid (RdL (Value.int .i64) wB eA ex) := by rw [hwB]; exact RD.out
      have O2 : Hid (OwnV wB w1.heap.size (.slice Aw now.length cw) now) := by rw [hwB]; exact O1.out
      have W2 : Hid (Below w1.heap.size w1 wB) := by rw [hwB]; exact W1.out
      rw [← hwB, ← hgc, ← hsz]
      clear BX RD O1 W1 hwB hgc hsz
      go_loopw [9, 30] (fun u t w2 => ∃ (i : Nat) (nx : List Int), i ≤ now.length ∧ t = .int .i64 i ∧ Hid (stepH q least (now.take i) = nx) ∧ Hid (OwnV w2 wB.heap.size u nx) ∧ Hid (Below wB.heap.size wB w2)) (fun _ t _ => now.length - (intOf t).toNat)
      case atStart => exact ⟨0, [], Nat.zero_le _, rfl, rfl, OwnV.made wB (Nat.le_refl _), below_a1 _ _⟩
      case round =>
        obtain ⟨i, nx, hi, rfl, hS, hU, hW2⟩ := hrel
        by_cases hlti : i < now.length
        · have hil : (i : Int) < (now.length : Int) := by omega
          have hi0 : (0 : Int) ≤ (i : Int) := by omega
          have hnow : now.length ≤ 64 := hNl.out
          obtain ⟨p, hp⟩ : ∃ p, now[i]? = some p := ⟨_, List.getElem?_eq_getElem hlti⟩
          have hpb := hNb.out p (List.mem_of_getElem? hp)
          have hnext := hid (stepH_snoc (q := q) (least := least) hp)
          have hnl2 : nx.length ≤ 16 * 64 := by
            have h1 := stepH_length q least (now.take i)
            rw [hS.out] at h1
            have h2 := hNl.out
            simp at h1; omega
          have HPI := hid hp
          have HNL := hid hnl2
          have hp0 : 0 ≤ p := hpb.1
          have hp1 : 16 * p + 16 ≤ 4294967296 := by have := HP8.out; omega
          clear hp hpb hnl2
          obtain ⟨bq, oq, p', hAq, hcp, hpp'⟩ := (O2.out.below hW2.out).rdS.at_ hlti
          subst hAq
          obtain rfl : p' = p := by have h1 := hpp'.out; rw [HPI.out] at h1; injection h1 with h1; exact h1.symm
          clear hpp'
          go_wp2
          clear hcp
          go_loopw [9, 34] (fun u t w3 => ∃ (d : Nat) (n3 : List Int), d ≤ 16 ∧ t = .int .i64 d ∧ Hid (nx ++ partH q least p' d = n3) ∧ Hid (OwnV w3 wB.heap.size u n3) ∧ Hid (Below wB.heap.size wB w3)) (fun _ t _ => 16 - (intOf t).toNat)
          case atStart => exact ⟨0, nx, Nat.zero_le _, rfl, by show _ = _; simp [partH], hU, hW2⟩
          case round =>
            obtain ⟨d, n3, hd, rfl, hS3, hU3, hW3⟩ := hrel
            have hn3 : n3.length ≤ 1048577 := by
              rw [← hS3.out, List.length_append]
              have h1 := partH_length q least p' d
              have h2 := HNL.out
              omega
            by_cases hltd : d < 16
            · have hdl : (d : Int) < 16 := by omega
              obtain ⟨key, hkey⟩ := Int.eq_ofNat_of_zero_le (show 0 ≤ 16 * p' + (d : Int) by omega)
              have hkl : key < 4294967296 := by omega
              have v1 : IntKind.i64.wrap (16 * p') = 16 * p' := by rw [IntKind.wrap_i64]; omega
              have v2 : IntKind.i64.wrap (16 * p' + (d : Int)) = (key : Int) := by rw [IntKind.wrap_i64]; omega
              obtain ⟨z, hz⟩ : ∃ z, z = minAtM 1000000000000 ex (cellsL wd s key dp) := ⟨_, rfl⟩
              have hzat : Hid (atP q (16 * p' + (d : Int)) = z) := by show _ = _; rw [hkey, hat.out key, hz]
              have hgl3 : gc < wr.heap.size := by have := hW3.out.size; omega
              obtain ⟨x0, x1, x2, x3⟩ := (BX2.out.below hW3.out).cells4
              have C1 : Hid (Calls Try.prog 31 #[.agg #[.int .i64 wd, .int .i64 dp, .int .i64 s, .slice eA ex.length ec], .int .i64 key] wr fun en w' => en = .returned (.int .i64 z) ∧ Below wr.heap.size wr w') := hz ▸ iat_any wd dp s key ec eA ex wr (RD2.out.below hW3.out) (by omega) (by omega) (by omega) (by omega) (by omega) hkl HXL.out
              clear hz
              by_cases hge : least ≤ z
              · have hdc : decide (least ≤ z) = true := decide_eq_true hge
                have hS4 : Hid (nx ++ partH q least p' (d + 1) = n3 ++ [(key : Int)]) := by
                  show _ = _
                  rw [partH_yes (by rw [hzat.out]; exact hge), ← List.append_assoc, hS3.out, hkey]
                clear hge hkey
                go_wp2_with fail
                refine C1.out.mono ?_
                rintro en w' ⟨rfl, hwq⟩
                have hOq : Hid (OwnV w' wB.heap.size u9 n3) := hU3.out.below hwq
                have hWq : Hid (Below wB.heap.size wB w') := hW3.out.trans (hwq.mono hW3.out.size)
                clear hwq C1 hU3 hW3 x0 x1 x2 x3 hgl3
                go_wp2_with (at_builtin; refine app_int rfl _ _ rfl (key : Int) hOq.out hWq.out rfl rfl hn3 hWq.out.size ?_)
                intro v2 w2 O5 W5 hg2 KP2
                clear KP2 hOq hWq hg2
                go_wp2
                exact ⟨⟨d + 1, _, by omega, by go_num, hS4, O5, W5⟩, by simp [intOf]; omega⟩
              · have hdc : decide (least ≤ z) = false := decide_eq_false hge
                have hS4 : Hid (nx ++ partH q least p' (d + 1) = n3) := by
                  show _ = _
                  rw [partH_no (by rw [hzat.out]; exact hge), hS3.out]
                clear hge hkey
                go_wp2_with fail
                refine C1.out.mono ?_
                rintro en w' ⟨rfl, hwq⟩
                have hOq : Hid (OwnV w' wB.heap.size u9 n3) := hU3.out.below hwq
                have hWq : Hid (Below wB.heap.size wB w') := hW3.out.trans (hwq.mono hW3.out.size)
                clear hwq C1 hU3 hW3 x0 x1 x2 x3 hgl3
                go_wp2
                exact ⟨⟨d + 1, _, by omega, by go_num, hS4, hOq, hWq⟩, by simp [intOf]; omega⟩
            · have hdl : ¬ (d : Int) < 16 := by omega
              obtain rfl : d = 16 := by omega
              have hst5 : Hid (stepH q least (now.take (i + 1)) = n3) := by show _ = _; rw [hnext.out, hS.out, hS3.out]
              go_wp2
              exact ⟨⟨i + 1, n3, by omega, by go_num, hst5, hU3, hW3⟩, by simp [intOf]; omega⟩
        · have hil : ¬ (i : Int) < (now.length : Int) := by omega
          obtain rfl : i = now.length := by omega
          have hSn : Hid (stepH q least now = nx) := by have := hS.out; rwa [List.take_of_length_le (Nat.le_refl _)] at this
          have hnxl : nx.length ≤ 16 * 64 := by
            have h1 := stepH_length q least now
            rw [hSn.out] at h1
            have h2 := hNl.out
            omega
          obtain ⟨An, cn, rfl, _⟩ := hU.out.ownS
          by_cases h64 : nx.length > 64
          · have hno : Hid (heavyP least P [0] = none) := by
              show _ = _
              rw [← hH.out, hst.out, hSn.out, if_pos h64]
            have h64i : (64 : Int) < (nx.length : Int) := by omega
            have S2 := hid (S1.out.trans ((W2.out.trans (hW2.out.mono W2.out.size)).mono S1.out.size))
            clear h64
            go_wp2
            go_ret2
            rw [HPP.out, hno.out]
            exact retHL_no _ _ ⟨rfl, S2.out⟩
          · have h64i : ¬ (64 : Int) < (nx.length : Int) := by omega
            have hH2 : Hid (heavyP least (P.drop (j + 1)) nx = heavyP least P [0]) := by
              show _ = _
              rw [← hH.out, hst.out, hSn.out, if_neg h64]
            have hb2 : Hid (∀ p ∈ nx, 0 ≤ p ∧ p < (16 : Int) ^ (j + 1)) := by
              show ∀ p ∈ nx, _
              have h1 := stepH_mem (q := q) (least := least) hNb.out
              rw [hSn.out] at h1
              intro p hp
              have h2 := h1 p hp
              rw [Int.pow_succ]
              omega
            have hl2 : Hid (nx.length ≤ 64) := by show _ ≤ _; omega
            clear h64
            go_wp2
            exact ⟨⟨j + 1, nx, by omega, by go_num, hH2, hU.out.mono W2.out.size, hl2, hb2, W2.out.trans (hW2.out.mono W2.out.size)⟩, by simp [intOf]; omega⟩
    · have hjl : ¬ (j : Int) < 8 := by omega
      obtain rfl : j = 8 := by omega
      have hsome : Hid (heavyP least P [0] = some now) := by
        show _ = _
        rw [← hH.out, List.drop_of_length_le (by rw [HPL.out]; exact Nat.le_refl _)]; rfl
      obtain ⟨Aw, cw, rfl, hos⟩ := hO.out.ownS
      have HOS := hid hos
      have S2 := hid (S1.out.trans (hW.out.mono S1.out.size))
      have hsz := S1.out.size
      clear hos hO
      go_wp2
      go_ret2
      rw [HPP.out, hsome.out]
      exact ⟨Aw, cw, rfl, HOS.out.mono hsz, by have := hNl.out; show now.length ≤ _; omega, S2.out⟩
end Go.Proofs.Ytmafkkpdcajfoaa
