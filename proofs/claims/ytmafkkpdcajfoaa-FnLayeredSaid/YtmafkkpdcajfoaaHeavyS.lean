/-
  HeavyLayers of the reference, by contract.
-/
import Derived.Test.YtmafkkpdcajfoaaHeavyP
namespace Go.Proofs.Ytmafkkpdcajfoaa
open Go.RowKit
set_option linter.unusedVariables false
set_option linter.unusedSimpArgs false

theorem OwnV.rdS {w : World} {B : Nat} {A : Option Addr} {n c : Nat} {xs : List Int} (h : OwnV w B (.slice A n c) xs) : RdL (Value.int .i64) w A xs := by
  obtain ⟨A', c', hv, ho⟩ := h.ownS
  injection hv with h1
  subst h1
  exact ho.rd
theorem pow8 {j : Nat} (h : j < 8) : 16 * (16 : Int) ^ j ≤ 4294967296 := by
  have : j = 0 ∨ j = 1 ∨ j = 2 ∨ j = 3 ∨ j = 4 ∨ j = 5 ∨ j = 6 ∨ j = 7 := by omega
  rcases this with rfl | rfl | rfl | rfl | rfl | rfl | rfl | rfl <;> decide
set_option maxRecDepth 100000 in
set_option maxHeartbeats 3200000 in
theorem sHeavyLayers_any (A : Option Addr) (c : Nat) (L : List Lay) (least : Int) (w : World) (hx : RdC w A L) (hn : L.length ≤ 1048576) (hl : ∀ e ∈ L, e.x.length ≤ 1048576) (hw : W64L L) (hlw : W64 least) :
    Calls Try.prog 10 #[.slice A L.length c, .int .i64 least] w (RetHL w (pHeavyLayers (L.map Lay.plain) least)) := by
  have HX := hid hx
  have HL := hid hl
  clear hx hl hw hlw
  cases hv : vLayP (L.map Lay.plain) with
  | false =>
    rw [show pHeavyLayers (L.map Lay.plain) least = ([], false) by simp [pHeavyLayers, hv]]
    refine Calls.mono ?_ retHL_no
    go_enter Try.func10, Try.ntmps10
    go_wp2_with fail
    refine (l03Layers_any A c L _ HX.out hn HL.out).mono ?_
    rw [hv]
    rintro e w1 ⟨rfl, n, rfl⟩
    go_wp2
    go_ret2
    exact ⟨rfl, below_drewN (Below.refl _ _) _⟩
  | true =>
  by_cases hle : 1 ≤ least
  case neg =>
    rw [show pHeavyLayers (L.map Lay.plain) least = ([], false) by simp [pHeavyLayers, hle]]
    refine Calls.mono ?_ retHL_no
    have hlt : least < 1 := by omega
    have HV := hid hv
    clear hv hle
    go_enter Try.func10, Try.ntmps10
    go_wp2_with fail
    refine (l03Layers_any A c L _ HX.out hn HL.out).mono ?_
    rw [HV.out]
    rintro e w1 ⟨rfl, n, rfl⟩
    go_wp2
    go_ret2
    exact ⟨rfl, below_drewN (Below.refl _ _) _⟩
  obtain ⟨h8, f, hf, hval⟩ := vLayP_iff hv
  obtain ⟨P, hP⟩ : ∃ P, P = L.map Lay.plain := ⟨_, rfl⟩
  have hPl : P.length = 8 := by rw [hP, List.length_map]; exact h8
  have hpp : pHeavyLayers P least = (match heavyP least P [0] with | some l => (l, true) | none => ([], false)) := by rw [pHeavyLayers, hP, hv, decide_eq_true hle]; rfl
  have HP := hid hP
  have HPP := hid hpp
  have HPL := hid hPl
  have HV := hid hv
  have HVAL := hid hval
  have H8 := hid h8
  have hnl : ¬ least < 1 := by omega
  rw [← hP]
  rw [h8]
  clear hP hpp hPl hv hval hf h8 hle
  go_enter Try.func10, Try.ntmps10
  have C0 : Hid (Calls Try.prog 29 #[.slice A 8 c] w fun e w' => e = .returned (.bool true) ∧ ∃ n, w' = w.drewN n) := by
    have h := l03Layers_any A c L w HX.out (by have := H8.out; omega) HL.out
    rw [HV.out, H8.out] at h
    exact h
  go_wp2_with fail
  refine C0.out.mono ?_
  rintro e w1 ⟨rfl, n, hn1⟩
  have S1 : Hid (Below w.heap.size w w1) := by rw [hn1]; exact below_drewN (Below.refl _ _) _
  have X1 := hid (HX.out.below S1.out)
  clear hn1 C0 HX
  go_wp2
  go_loopw [6, 22] (fun v t wr => ∃ (j : Nat) (now : List Int), j ≤ 8 ∧ t = .int .i64 j ∧ Hid (heavyP least (P.drop j) now = heavyP least P [0]) ∧ Hid (OwnV wr w1.heap.size v now) ∧ Hid (now.length ≤ 64) ∧ Hid (∀ p ∈ now, 0 ≤ p ∧ p < (16 : Int) ^ j) ∧ Hid (Below w1.heap.size w1 wr)) (fun _ t _ => 8 - (intOf t).toNat)
  case atStart => exact ⟨0, [0], Nat.zero_le _, rfl, rfl, OwnV.one w1 0 (Nat.le_refl _), by show _ ≤ _; simp, by intro p hp; simp at hp; subst hp; simp, below_a1 _ _⟩
  case round =>
    obtain ⟨j, now, hj8, rfl, hH, hO, hNl, hNb, hW⟩ := hrel
    by_cases hlt : j < 8
    · have hjl : (j : Int) < 8 := by omega
      have hj0 : (0 : Int) ≤ (j : Int) := by omega
      obtain ⟨e, he⟩ : ∃ e, L[j]? = some e := ⟨_, List.getElem?_eq_getElem (by have := H8.out; omega)⟩
      have hPj : P[j]? = some e.plain := by rw [HP.out, List.getElem?_map, he]; rfl
      have hst := hid (heavyP_step (least := least) (now := now) hPj)
      obtain ⟨hvE, _, _⟩ := HVAL.out j e he
      obtain ⟨⟨hw1, hw2⟩, ⟨hd1, hd2⟩, ⟨hs1, hs2⟩, hxl, hbd⟩ := vCells_iff hvE
      have hat := hid (show ∀ key : Nat, atP e.plain key = minAtM 1000000000000 e.x (cellsL e.a.toNat e.s.toNat key e.b.toNat) from fun key => by simp [atP, Lay.plain])
      obtain ⟨q, hq⟩ : ∃ q, q = e.plain := ⟨_, rfl⟩
      rw [← hq] at hst hat
      obtain ⟨ea, eb, es, eA, ec, ex⟩ := e
      simp only at hw1 hw2 hd1 hd2 hs1 hs2 hxl hbd hat
      obtain ⟨wd, rfl⟩ := Int.eq_ofNat_of_zero_le (show 0 ≤ ea by omega)
      obtain ⟨dp, rfl⟩ := Int.eq_ofNat_of_zero_le (show 0 ≤ eb by omega)
      obtain ⟨s, rfl⟩ := Int.eq_ofNat_of_zero_le hs1
      have hxl2 : ex.length = wd * dp := by rw [← Int.natCast_mul] at hxl; omega
      simp only [Int.toNat_natCast] at hat
      obtain ⟨⟨g, o, rfl, a0, a1, a2, a3⟩, hrd⟩ := X1.out j _ he
      simp only at a0 a1 a2 a3 hrd
      have hgl : g < w1.heap.size := World.block_lt_of_cell? w1 _ a0
      have HE := hid (And.intro a0 (And.intro a1 (And.intro a2 a3)))
      have RD := hid hrd
      have BD := hid hbd
      have HXL := hid hxl2
      have hp8 := pow8 hlt
      have HP8 := hid hp8
      obtain ⟨Aw, cw, rfl, _⟩ := hO.out.ownS
      have O1 := hid (hO.out.below (below_a1 wr (.cells #[] 2)))
      have N1 := hid (OwnV.made wr hW.out.size)
      have AP1 : Hid (AptV (.slice (some ⟨wr.heap.size, 0, none⟩) 0 0) (.slice Aw now.length cw)) := fun g1 h1 h2 => by
        simp [Value.ownBlock] at h1
        have := (hO.out.lt g1 h2).1
        omega
      have W1 := hid (hW.out.alloc hW.out.size (.cells #[] 2))
      clear hPj hvE hxl hbd hq he a0 a1 a2 a3 hrd hO hW hp8 hxl2
      go_wp2
      go_loopw [8, 28] (fun u t w2 => ∃ (i : Nat) (nx : List Int), i ≤ now.length ∧ t = .int .i64 i ∧ Hid (stepH q least (now.take i) = nx) ∧ Hid (OwnV w2 w1.heap.size u nx) ∧ Hid (OwnV w2 w1.heap.size (.slice Aw now.length cw) now) ∧ Hid (AptV u (.slice Aw now.length cw)) ∧ Hid (Below w1.heap.size w1 w2)) (fun _ t _ => now.length - (intOf t).toNat)
      case atStart => exact ⟨0, [], Nat.zero_le _, rfl, rfl, N1, O1, AP1, W1⟩
      case round =>
        obtain ⟨i, nx, hi, rfl, hS, hU, hOw, hAp, hW2⟩ := hrel
        by_cases hlti : i < now.length
        · have hil : (i : Int) < (now.length : Int) := by omega
          have hi0 : (0 : Int) ≤ (i : Int) := by omega
          have hnow : now.length ≤ 64 := hNl.out
          obtain ⟨p, hp⟩ : ∃ p, now[i]? = some p := ⟨_, List.getElem?_eq_getElem hlti⟩
          have hpb := hNb.out p (List.mem_of_getElem? hp)
          have hnext := hid (stepH_snoc (q := q) (least := least) hp)
          have hnl2 : nx.length ≤ 16 * 64 := by
            have h1 := stepH_length q least (now.take i)
            rw [hS.out] at h1
            have h2 := hNl.out
            simp at h1; omega
          have HPI := hid hp
          have HNL := hid hnl2
          have hp0 : 0 ≤ p := hpb.1
          have hp1 : 16 * p + 16 ≤ 4294967296 := by have := HP8.out; omega
          clear hp hpb hnl2
          go_wp2
          go_loopw [8, 10] (fun u t w3 => ∃ (d : Nat) (n3 : List Int), d ≤ 16 ∧ t = .int .i64 d ∧ Hid (nx ++ partH q least p d = n3) ∧ Hid (OwnV w3 w1.heap.size u n3) ∧ Hid (OwnV w3 w1.heap.size (.slice Aw now.length cw) now) ∧ Hid (AptV u (.slice Aw now.length cw)) ∧ Hid (Below w1.heap.size w1 w3)) (fun _ t _ => 16 - (intOf t).toNat)
          case atStart => exact ⟨0, nx, Nat.zero_le _, rfl, by show _ = _; simp [partH], hU, hOw, hAp, hW2⟩
          case round =>
            obtain ⟨d, n3, hd, rfl, hS3, hU3, hOw3, hAp3, hW3⟩ := hrel
            have hn3 : n3.length ≤ 1048577 := by
              rw [← hS3.out, List.length_append]
              have h1 := partH_length q least p d
              have h2 := HNL.out
              omega
            by_cases hltd : d < 16
            · have hdl : (d : Int) < 16 := by omega
              obtain ⟨bq, oq, p', hAq, hcp, hpp'⟩ := hOw3.out.rdS.at_ hlti
              subst hAq
              obtain rfl : p' = p := by have h1 := hpp'.out; rw [HPI.out] at h1; injection h1 with h1; exact h1.symm
              obtain ⟨key, hkey⟩ := Int.eq_ofNat_of_zero_le (show 0 ≤ 16 * p' + (d : Int) by omega)
              have hkl : key < 4294967296 := by omega
              have v1 : IntKind.i64.wrap (16 * p') = 16 * p' := by rw [IntKind.wrap_i64]; omega
              have v2 : IntKind.i64.wrap (16 * p' + (d : Int)) = (key : Int) := by rw [IntKind.wrap_i64]; omega
              obtain ⟨z, hz⟩ : ∃ z, z = minAtM 1000000000000 ex (cellsL wd s key dp) := ⟨_, rfl⟩
              have hzat : Hid (atP q (16 * p' + (d : Int)) = z) := by show _ = _; rw [hkey, hat.out key, hz]
              have hcc := fun k => (bcell hW3.out).1 g k hgl
              have a0 := (hcc (o + j * 4)).trans HE.out.1
              have a1 := (hcc (o + j * 4 + 1)).trans HE.out.2.1
              have a2 := (hcc (o + j * 4 + 2)).trans HE.out.2.2.1
              have a3 := (hcc (o + j * 4 + 3)).trans HE.out.2.2.2
              have C1 : Hid (Calls Try.prog 30 #[.pointer (some ⟨g, o + j * 4, none⟩), .int .i64 key] wr fun en w' => en = .returned (.int .i64 z) ∧ ∃ m, w' = wr.drewN m) := hz ▸ l03At_off g (o + j * 4) wd dp s key ec eA ex wr a0 a1 a2 a3 (RD.out.below hW3.out) (by omega) (by omega) (by omega) (by omega) (by omega) hkl HXL.out fun y hy => (BD.out y hy).2
              clear hcc a0 a1 a2 a3 hz hpp'
              have hid1 : (i : Int) < (now.length : Int) := hil
              by_cases hge : least ≤ z
              · have hdc : decide (least ≤ z) = true := decide_eq_true hge
                have hS4 : Hid (nx ++ partH q least p' (d + 1) = n3 ++ [(key : Int)]) := by
                  show _ = _
                  rw [partH_yes (by rw [hzat.out]; exact hge), ← List.append_assoc, hS3.out, hkey]
                clear hge hkey
                go_wp2_with fail
                refine C1.out.mono ?_
                rintro en w' ⟨rfl, m, hwq⟩
                have hOq : Hid (OwnV w' w1.heap.size u8 n3) := by rw [hwq]; exact hU3.out.drewN _
                have hOwq : Hid (OwnV w' w1.heap.size (.slice (some ⟨bq, oq, none⟩) now.length cw) now) := by rw [hwq]; exact hOw3.out.drewN _
                have hWq : Hid (Below w1.heap.size w1 w') := by rw [hwq]; exact below_drewN hW3.out _
                clear hwq C1 hcp hU3 hOw3 hW3
                go_wp2_with (at_builtin; refine app_int rfl _ _ rfl (key : Int) hOq.out hWq.out rfl rfl hn3 hWq.out.size ?_)
                intro v2 w2 O2 W2 hg2 KP2
                obtain ⟨hOw4, hap4⟩ := KP2.out _ _ hOwq.out hAp3.out
                have OW4 := hid hOw4
                have AP4 := hid hap4
                clear KP2 hOw4 hap4 hOq hOwq hWq hg2
                go_wp2
                exact ⟨⟨d + 1, _, by omega, by go_num, hS4, O2, OW4, AP4, W2⟩, by simp [intOf]; omega⟩
              · have hdc : decide (least ≤ z) = false := decide_eq_false hge
                have hS4 : Hid (nx ++ partH q least p' (d + 1) = n3) := by
                  show _ = _
                  rw [partH_no (by rw [hzat.out]; exact hge), hS3.out]
                clear hge hkey
                go_wp2_with fail
                refine C1.out.mono ?_
                rintro en w' ⟨rfl, m, hwq⟩
                have hOq : Hid (OwnV w' w1.heap.size u8 n3) := by rw [hwq]; exact hU3.out.drewN _
                have hOwq : Hid (OwnV w' w1.heap.size (.slice (some ⟨bq, oq, none⟩) now.length cw) now) := by rw [hwq]; exact hOw3.out.drewN _
                have hWq : Hid (Below w1.heap.size w1 w') := by rw [hwq]; exact below_drewN hW3.out _
                clear hwq C1 hcp hU3 hOw3 hW3
                go_wp2
                exact ⟨⟨d + 1, _, by omega, by go_num, hS4, hOq, hOwq, hAp3, hWq⟩, by simp [intOf]; omega⟩
            · have hdl : ¬ (d : Int) < 16 := by omega
              obtain rfl : d = 16 := by omega
              have hst5 : Hid (stepH q least (now.take (i + 1)) = n3) := by show _ = _; rw [hnext.out, hS.out, hS3.out]
              go_wp2
              exact ⟨⟨i + 1, n3, by omega, by go_num, hst5, hU3, hOw3, hAp3, hW3⟩, by simp [intOf]; omega⟩
        · have hil : ¬ (i : Int) < (now.length : Int) := by omega
          obtain rfl : i = now.length := by omega
          have hSn : Hid (stepH q least now = nx) := by have := hS.out; rwa [List.take_of_length_le (Nat.le_refl _)] at this
          have hnxl : nx.length ≤ 16 * 64 := by
            have h1 := stepH_length q least now
            rw [hSn.out] at h1
            have h2 := hNl.out
            omega
          obtain ⟨An, cn, rfl, _⟩ := hU.out.ownS
          by_cases h64 : nx.length > 64
          · have hno : Hid (heavyP least P [0] = none) := by
              show _ = _
              rw [← hH.out, hst.out, hSn.out, if_pos h64]
            have h64i : (64 : Int) < (nx.length : Int) := by omega
            have S2 := hid (S1.out.trans (hW2.out.mono S1.out.size))
            clear h64
            go_wp2
            go_ret2
            rw [HPP.out, hno.out]
            exact retHL_no _ _ ⟨rfl, S2.out⟩
          · have h64i : ¬ (64 : Int) < (nx.length : Int) := by omega
            have hH2 : Hid (heavyP least (P.drop (j + 1)) nx = heavyP least P [0]) := by
              show _ = _
              rw [← hH.out, hst.out, hSn.out, if_neg h64]
            have hb2 : Hid (∀ p ∈ nx, 0 ≤ p ∧ p < (16 : Int) ^ (j + 1)) := by
              show ∀ p ∈ nx, _
              have h1 := stepH_mem (q := q) (least := least) hNb.out
              rw [hSn.out] at h1
              intro p hp
              have h2 := h1 p hp
              rw [Int.pow_succ]
              omega
            have hl2 : Hid (nx.length ≤ 64) := by show _ ≤ _; omega
            clear h64
            go_wp2
            exact ⟨⟨j + 1, nx, by omega, by go_num, hH2, hU, hl2, hb2, hW2⟩, by simp [intOf]; omega⟩
    · have hjl : ¬ (j : Int) < 8 := by omega
      obtain rfl : j = 8 := by omega
      have hsome : Hid (heavyP least P [0] = some now) := by
        show _ = _
        rw [← hH.out, List.drop_of_length_le (by rw [HPL.out]; exact Nat.le_refl _)]; rfl
      obtain ⟨Aw, cw, rfl, hos⟩ := hO.out.ownS
      have HOS := hid hos
      have S2 := hid (S1.out.trans (hW.out.mono S1.out.size))
      have hsz := S1.out.size
      clear hos hO
      go_wp2
      go_ret2
      rw [HPP.out, hsome.out]
      exact ⟨Aw, cw, rfl, HOS.out.mono hsz, by have := hNl.out; show now.length ≤ _; omega, S2.out⟩
end Go.Proofs.Ytmafkkpdcajfoaa
