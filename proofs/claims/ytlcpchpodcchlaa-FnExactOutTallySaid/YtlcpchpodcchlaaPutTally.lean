/-
  Numbers put to a tally, the reference's side, and both laws' functions, by contracts.
-/
import Derived.Test.YtlcpchpodcchlaaMovedTally
namespace Go.Proofs.Ytlcpchpodcchlaa
open Go.RowKit
set_option linter.unusedVariables false

theorem row_blockOf {w : World} {B : Nat} {e : TypeId} {m g n cap : Nat} {l : List Value} (h : w.ownsRow B e m (.slice (some ⟨g, 0, none⟩) n cap) n l) (hn : 0 < n) : ∃ cur, w.heap[g]? = some (.cells cur e (0, 0)) := by
  obtain ⟨_, ⟨h, _⟩ | ⟨g', cap', cur, hv, _, hg, _⟩⟩ := h
  · cases h
  · injection hv with h1
    injection h1 with h1
    injection h1 with h1
    subst h1
    exact ⟨cur, hg⟩

set_option maxRecDepth 100000 in
set_option maxHeartbeats 3200000 in
theorem l04Add_any (p : Nat) (r s : Int) (A : Option Addr) (c : Nat) (x : List Int) (key d : Int) (w : World) (h0 : w.cell? ⟨p, 0, none⟩ = some (.int .i64 r)) (h1 : w.cell? ⟨p, 1, none⟩ = some (.int .i64 s)) (h2 : w.cell? ⟨p, 2, none⟩ = some (.slice A x.length c)) (hx : RdL (Value.int .i64) w A x) (hn : x.length ≤ 1048576) (hd : -1 ≤ d ∧ d ≤ 1) :
    Calls Try.prog 107 #[.pointer (some ⟨p, 0, none⟩), .int .i64 key, .int .i64 d] w (RetTl w (pMoved d r s x key)) := by
  obtain ⟨i0, hi0, hz0, hz1, hz2⟩ := info_parts Try.infoI
  have HX := hid hx
  have HD := hid hd
  have hd1 := hd.1
  have hd2 := hd.2
  have hpl := World.block_lt_of_cell? w _ h0
  have hpl' : p < w.heap.size := hpl
  have hpn : w.heap.size ≠ p := by omega
  have R0 := hid (Blk.new w 77 [.int .i64 0, .int .i64 0, .slice none 0 0])
  clear hx hd hpl
  have c0 : (w.alloc (.cells #[.int .i64 0, .int .i64 0, .slice none 0 0] 77)).cell? ⟨p, 0, none⟩ = some (.int .i64 r) := ((below_a1 w _).cell (p := ⟨p, 0, none⟩) hpl').trans h0
  have c1 : (w.alloc (.cells #[.int .i64 0, .int .i64 0, .slice none 0 0] 77)).cell? ⟨p, 1, none⟩ = some (.int .i64 s) := ((below_a1 w _).cell (p := ⟨p, 1, none⟩) hpl').trans h1
  have c2 : (w.alloc (.cells #[.int .i64 0, .int .i64 0, .slice none 0 0] 77)).cell? ⟨p, 2, none⟩ = some (.slice A x.length c) := ((below_a1 w _).cell (p := ⟨p, 2, none⟩) hpl').trans h2
  have key_ : ∀ u v : Bool, vTally r s x = u → inB key 0 4294967295 = v → (u && v) = false →
      Calls Try.prog 107 #[.pointer (some ⟨p, 0, none⟩), .int .i64 key, .int .i64 d] w (RetTl w ((0, 0, []), false)) := by
    intro u v hu hv hno
    refine Calls.mono ?_ retTl_no
    cases u
    case' true => cases v
    all_goals
      first
      | (exfalso; revert hno; decide)
      | (go_enter Try.func107, Try.ntmps107
         go_wp2_with fail
         refine (l04Tally_any p 0 c A r s x _ c0 c1 c2 (HX.out.below (below_a1 _ _)) hn).mono ?_
         rw [hu]
         rintro e w' ⟨rfl, rfl⟩
         go_wp2_with ((go_at_call 65; refine (l02Key_any _ _).mono ?_; rintro e w' ⟨rfl, rfl⟩))
         refine bodyPost_ret (v := .tuple #[.agg #[.int .i64 0, .int .i64 0, .slice none 0 0], .bool false]) (by simp [results, Try.results107, go_sem]) rfl ⟨rfl, below_a1 _ _⟩)
  cases hgo : (vTally r s x && inB key 0 4294967295) with
  | false =>
    have hp : pMoved d r s x key = ((0, 0, []), false) := by simp only [pMoved, hgo]; rfl
    rw [hp]
    exact key_ _ _ rfl rfl hgo
  | true =>
  have hp : pMoved d r s x key = giveT r s (addAt d x (spotsL key.toNat s.toNat x.length r.toNat)) := by simp only [pMoved, hgo]; rfl
  rw [hp]
  simp only [Bool.and_eq_true] at hgo
  obtain ⟨hv, hk⟩ := hgo
  obtain ⟨⟨hr1, hr2⟩, ⟨hs1, hs2⟩, ⟨hn1, hn2⟩, hbd⟩ := vTally_iff hv
  obtain ⟨hk1, hk2⟩ := inB_iff.1 hk
  obtain ⟨r, rfl⟩ := Int.eq_ofNat_of_zero_le (show 0 ≤ r by omega)
  obtain ⟨s, rfl⟩ := Int.eq_ofNat_of_zero_le hs1
  obtain ⟨key, rfl⟩ := Int.eq_ofNat_of_zero_le hk1
  simp only [Int.toNat_natCast] at hp ⊢
  have HBD := hid hbd
  have HV := hid hv
  have hpos : 0 < x.length := by omega
  obtain ⟨ad, rfl⟩ : ∃ ad, A = some ad := by
    obtain ⟨b, o, hA, _⟩ := HX.out 0 hpos
    exact ⟨_, hA⟩
  clear hbd hp hv key_ h0 h1 h2
  obtain ⟨w1, hw1⟩ : ∃ w1, w1 = w.alloc (.cells #[.int .i64 0, .int .i64 0, .slice none 0 0] 77) := ⟨_, rfl⟩
  have S1 : Hid (Below w.heap.size w w1) := by rw [hw1]; exact below_a1 _ _
  have HX1 := hid (HX.out.below S1.out)
  have hl1 : w.heap.size + 1 ≤ w1.heap.size := by rw [hw1]; simp
  have hp1 : p < w1.heap.size := by omega
  have hp1' : w1.heap.size ≠ p := by omega
  have hp2' : w1.heap.size + 1 ≠ p := by omega
  rw [← hw1] at c0 c1 c2 R0
  go_enter Try.func107, Try.ntmps107
  go_wp2_with fail
  rw [← hw1]
  refine (l04Tally_any p 0 c (some ad) r s x _ c0 c1 c2 HX1.out hn).mono ?_
  rw [HV.out]
  rintro e w' ⟨rfl, rfl⟩
  clear hw1
  go_wp2_with ((go_at_call 65; refine (l02Key_any _ _).mono ?_; rintro e w' ⟨rfl, rfl⟩))
  have N1 : ∀ j u, (x.map (Value.int .i64))[j]? = some u → ((w1.alloc (.cells #[] 2)).drew).cell? (ad.add j) = some u := rd_news (RdL.drewN (HX1.out.below (below_a1 w1 _)) 1)
  have N2 : ∀ j u, (x.map (Value.int .i64))[j]? = some u → (((w1.alloc (.cells #[.int .i64 0, .int .i64 0, .slice none 0 0] 77)).alloc (.cells #[] 2)).drew).cell? (ad.add j) = some u := rd_news (RdL.drewN (HX1.out.below (below_a2 w1 _ _)) 1)
  have N3 : ∀ j u, (x.map (Value.int .i64))[j]? = some u → (((w1.alloc (.cells #[] 2)).alloc (.cells #[.int .i64 0, .int .i64 0, .slice none 0 0] 77)).drew).cell? (ad.add j) = some u := rd_news (RdL.drewN (HX1.out.below (below_a2 w1 _ _)) 1)
  go_cut [8] from 20 to 34 (fun v wx => ∃ q g2 c2 : Nat, v = .pointer (some ⟨q, 0, none⟩) ∧ Hid (w1.heap.size ≤ q ∧ w1.heap.size ≤ g2 ∧ g2 ≠ q ∧ Blk wx q 77 [.int .i64 r, .int .i64 s, .slice (some ⟨g2, 0, none⟩) x.length c2] ∧ OwnS (Value.int .i64) wx w1.heap.size 2 (some ⟨g2, 0, none⟩) x ∧ Below w1.heap.size w1 wx))
  case first =>
    have hpz1 : Hid (some p ≠ some w1.heap.size) := by intro e; injection e with e; omega
    have hpz2 : Hid (some p ≠ some (w1.heap.size + 1)) := by intro e; injection e with e; omega
    go_region_held3 (fun w' => w'.cell? ⟨p, 0, none⟩ = some (.int .i64 r) ∧ w'.cell? ⟨p, 1, none⟩ = some (.int .i64 s) ∧ w'.cell? ⟨p, 2, none⟩ = some (.slice (some ad) x.length c)) (first | exact hS | (refine ⟨?_, ?_, ?_⟩ <;> go_keep))
      (first
      | (refine step_append_lies _ (by rfl) _ _ _ (by rfl) w1.heap.size 2 i0 _ 1 8 Try.underlying22 hi0 hz0 hz1 hz2 rfl (by omega) _ 0 [] (by rfl) (World.ownsRow.drew (World.ownsRow_made w1 #[] 0 (Nat.le_refl _) (Nat.zero_le _) rfl)) ad x.length c (x.map (Value.int .i64)) (by rfl) (by simp) N1 (by intro u hu; obtain ⟨y, _, rfl⟩ := List.mem_map.1 hu; rfl) hpos (by simp only [maxLen]; omega) (by omega) (by simp) (w1.heap.size + 1) (by simp) ?_
         intro gg cap w2 hown2 hgrow hat hlt'
         have W2 : Hid (Below w1.heap.size w1 w2) := (((Below.refl _ _).alloc (Nat.le_refl _) _).drew).grown hgrow (by simp <;> omega) (fun g hg => by simp [Value.ownBlock] at hg; omega)
         have k0 := (W2.out.cell (p := ⟨p, 0, none⟩) hp1).trans c0
         have k1 := (W2.out.cell (p := ⟨p, 1, none⟩) hp1).trans c1
         have k2 := (W2.out.cell (p := ⟨p, 2, none⟩) hp1).trans c2
         have hS := And.intro k0 (And.intro k1 k2)
         have hpw : p < w2.heap.size := by have := W2.out.size; omega
         have hpw' : w2.heap.size ≠ p := by omega
         have cas : Hid (1 = 1) := rfl)
      | (refine step_append_lies _ (by rfl) _ _ _ (by rfl) (w1.heap.size + 1) 2 i0 _ 1 8 Try.underlying22 hi0 hz0 hz1 hz2 rfl (by omega) _ 0 [] (by rfl) (row_start1 w1 _ _).drew ad x.length c (x.map (Value.int .i64)) (by rfl) (by simp) N2 (by intro u hu; obtain ⟨y, _, rfl⟩ := List.mem_map.1 hu; rfl) hpos (by simp only [maxLen]; omega) (by omega) (by simp) (w1.heap.size + 2) (by simp) ?_
         intro gg cap w2 hown2 hgrow hat hlt'
         have W2 : Hid (Below w1.heap.size w1 w2) := ((below_a2 w1 _ _).drew).grown hgrow (by simp <;> omega) (fun g hg => by simp [Value.ownBlock] at hg; omega)
         have k0 := (W2.out.cell (p := ⟨p, 0, none⟩) hp1).trans c0
         have k1 := (W2.out.cell (p := ⟨p, 1, none⟩) hp1).trans c1
         have k2 := (W2.out.cell (p := ⟨p, 2, none⟩) hp1).trans c2
         have hQ : Blk w2 w1.heap.size 77 [.int .i64 0, .int .i64 0, .slice none 0 0] := (hgrow.block w1.heap.size (by simp; omega) (by simp [Value.ownBlock] <;> omega)).trans ((Blk.new w1 _ _).alloc _)
         obtain ⟨q0, q1, q2⟩ := hQ.cells3
         have f0 := hQ.frozen 0
         have f1 := hQ.frozen 1
         have f2 := hQ.frozen 2
         have hS := And.intro k0 (And.intro k1 k2)
         have hpw : p < w2.heap.size := by have := W2.out.size; omega
         have hpw' : w2.heap.size ≠ p := by omega
         have cas : Hid (2 = 2) := rfl)
      | (refine step_append_lies _ (by rfl) _ _ _ (by rfl) w1.heap.size 2 i0 _ 1 8 Try.underlying22 hi0 hz0 hz1 hz2 rfl (by omega) _ 0 [] (by rfl) (World.ownsRow.drew (World.ownsRow.alloc (World.ownsRow_made w1 #[] 0 (Nat.le_refl _) (Nat.zero_le _) rfl) _)) ad x.length c (x.map (Value.int .i64)) (by rfl) (by simp) N3 (by intro u hu; obtain ⟨y, _, rfl⟩ := List.mem_map.1 hu; rfl) hpos (by simp only [maxLen]; omega) (by omega) (by simp; omega) (w1.heap.size + 2) (by simp) ?_
         intro gg cap w2 hown2 hgrow hat hlt'
         have W2 : Hid (Below w1.heap.size w1 w2) := ((below_a2 w1 _ _).drew).grown hgrow (by simp <;> omega) (fun g hg => by simp [Value.ownBlock] at hg; omega)
         have k0 := (W2.out.cell (p := ⟨p, 0, none⟩) hp1).trans c0
         have k1 := (W2.out.cell (p := ⟨p, 1, none⟩) hp1).trans c1
         have k2 := (W2.out.cell (p := ⟨p, 2, none⟩) hp1).trans c2
         have hQ : Blk w2 (w1.heap.size + 1) 77 [.int .i64 0, .int .i64 0, .slice none 0 0] := (hgrow.block (w1.heap.size + 1) (by simp) (by simp [Value.ownBlock] <;> omega)).trans (Blk.new2 w1 _ _ _)
         obtain ⟨q0, q1, q2⟩ := hQ.cells3
         have f0 := hQ.frozen 0
         have f1 := hQ.frozen 1
         have f2 := hQ.frozen 2
         have hS := And.intro k0 (And.intro k1 k2)
         have hpw : p < w2.heap.size := by have := W2.out.size; omega
         have hpw' : w2.heap.size ≠ p := by omega
         have cas : Hid (3 = 3) := rfl))
    · have hgl := hown2.lt gg rfl
      have O := ownS_lit (f := Value.int .i64) (xs := x) (n := 0 + x.length) (by simpa using hown2) (by simp) (by simp)
      go_wp2_with fail
      go_meet
      have hw2 := W2.out.size
      exact ⟨w2.heap.size, gg, cap, rfl, hw2, by omega, by omega, Blk.new _ _ _, O.below (below_a1 _ _), W2.out.alloc hw2 _⟩
    · have hgl := hown2.lt gg rfl
      have hgn : gg ≠ w1.heap.size + 1 := by
        intro e
        have h1 := hQ.lt
        obtain ⟨cur, h2⟩ := row_blockOf hown2 (by omega)
        subst e
        have h3 : w2.heap[w1.heap.size + 1]? = _ := hQ
        rw [h3] at h2
        injection h2 with h2
        injection h2 with _ h4
        exact absurd h4 (by decide)
      have O := ownS_lit (f := Value.int .i64) (xs := x) (n := 0 + x.length) (by simpa using hown2) (by simp) (by simp)
      go_wp2_with fail
      go_meet
      refine ⟨w1.heap.size + 1, gg, cap, rfl, by omega, by omega, hgn, ((hQ.set_ 0 _).set_ 1 _).set_ 2 _, ?_, ?_⟩
      · exact ((O.setOther hQ (by decide) 0 _).setOther (hQ.set_ 0 _) (by decide) 1 _).setOther ((hQ.set_ 0 _).set_ 1 _) (by decide) 2 _
      · exact ((W2.out.setCell (by simp) _).setCell (by simp) _).setCell (by simp) _
    · have hgl := hown2.lt gg rfl
      have O := ownS_lit (f := Value.int .i64) (xs := x) (n := 0 + x.length) (by simpa using hown2) (by simp) (by simp)
      go_wp2_with fail
      go_meet
      refine ⟨w1.heap.size, gg, cap, rfl, by omega, by omega, by omega, ((hQ.set_ 0 _).set_ 1 _).set_ 2 _, ?_, ?_⟩
      · exact (((O.setFar (by simp) _).setFar (by simp) _).setFar (by simp) _).mono (by omega)
      · exact ((W2.out.setCell (by simp) _).setCell (by simp) _).setCell (by simp) _
  case rest =>
    obtain ⟨q, g2, c2x, rfl, hh⟩ := hcut
    obtain ⟨hq1, hg1, hgq, hQ, hO, hB⟩ := hh.out
    have HQ := hid hQ
    have HO := hid hO
    have HB := hid hB
    have S2 := hid (S1.out.trans (hB.mono (by omega)))
    have hlc := hB.size
    have k0 := (HB.out.cell (p := ⟨p, 0, none⟩) hp1).trans c0
    have k1 := (HB.out.cell (p := ⟨p, 1, none⟩) hp1).trans c1
    have k2 := (HB.out.cell (p := ⟨p, 2, none⟩) hp1).trans c2
    have hpc : p < wc.heap.size := by omega
    clear hh hQ hO hB N1 N2 N3
    have hS0 := And.intro k0 (And.intro k1 k2)
    go_wp2
    go_region_held3 (fun w' => w'.cell? ⟨p, 0, none⟩ = some (.int .i64 r) ∧ w'.cell? ⟨p, 1, none⟩ = some (.int .i64 s) ∧ w'.cell? ⟨p, 2, none⟩ = some (.slice (some ad) x.length c)) (first | exact hS | exact hS0 | go_keep)
      (first
        | (go_at_call 132
           refine (l04Places_any key s r x.length _ (by omega) (by omega) (by omega) (by omega)).mono ?_
           rintro e w3 ⟨A3, c3, rfl, hoP, hbP⟩
           have hbP := below_drew' hbP
           have hS := And.intro ((hbP.cell (p := ⟨p, 0, none⟩) hpc).trans k0) (And.intro ((hbP.cell (p := ⟨p, 1, none⟩) hpc).trans k1) ((hbP.cell (p := ⟨p, 2, none⟩) hpc).trans k2))))
    have hbP' : Below wc.heap.size wc w3 := hbP
    have hoP' : OwnS (Value.int .i64) w3 wc.heap.size 2 A3 (spotsL key s x.length r) := hoP
    clear hoP hbP hS hS0 k0 k1 k2
    have HP := hid hoP'
    have O3 := hid (HO.out.below hbP')
    have Q3 := hid (HQ.out.below hbP')
    have R3 := hid ((R0.out.below HB.out).below hbP')
    have S3 : Hid (Below w.heap.size w w3) := S2.out.trans (hbP'.mono (by omega))
    have hl3 := hbP'.size
    have HA := hid (OwnS.apart_lt HO.out hoP' (Nat.le_refl _))
    have hPl := spotsL_length key s x.length r
    have hmem : Hid (∀ p ∈ spotsL key s x.length r, ∃ m : Nat, p = m ∧ m < x.length) := fun p hp' => spotsL_mem (by omega) hp'
    obtain ⟨P, hPe⟩ : ∃ P, P = spotsL key s x.length r := ⟨_, rfl⟩
    rw [← hPe] at HA HP hPl hmem ⊢
    have HPe := hid hPe
    have hP8 : P.length ≤ 8 := by omega
    clear hPe hPl hoP' hbP' c0 c1 c2
    go_wp2
    go_loopw [10] (fun j wi => ∃ m : Nat, m ≤ P.length ∧ j = .int .i64 m ∧ Hid (OwnS (Value.int .i64) wi w1.heap.size 2 (some ⟨g2, 0, none⟩) (addAt d x (P.take m))) ∧ Hid (Touch w3 wi (some ⟨g2, 0, none⟩) x.length)) (fun j _ => P.length - (intOf j).toNat)
    case atStart => exact ⟨0, Nat.zero_le _, rfl, by rw [addAt_zero]; exact O3, Touch.refl⟩
    case round =>
      obtain ⟨m, hmr, rfl, hom, hTm⟩ := hrel
      by_cases hlm : m < P.length
      · have him : (m : Int) < (P.length : Int) := by omega
        obtain ⟨b3, o3, p', hA3, hcp, hpk⟩ := (HP.out.touch hTm.out HA.out).rd.at_ hlm
        have hb3 : b3 ≠ g2 := by
          rcases HA.out with h | h | h
          · omega
          · omega
          · exact fun e => h g2 0 b3 o3 rfl hA3 e.symm
        have hb3' := Ne.symm hb3
        subst hA3
        obtain ⟨n, rfl, hnx⟩ := hmem.out p' (List.mem_of_getElem? hpk.out)
        have hlen := addAt_length d x (P.take m)
        obtain ⟨g', u, hg', hgB', hcy, hfy, hym, hput⟩ := hom.out.put (j := n) (by omega)
        injection hg' with hg'; injection hg' with hg'
        subst hg'
        have hbu := addAt_bound (l := P.take m) (D := 1) HBD.out HD.out (by omega) u (List.mem_of_getElem? hym.out)
        have hkl : (P.take m).length ≤ 8 := by simp; omega
        have hO2 := hput (u + d)
        rw [addAt_succ hpk hym] at hO2
        have hT2 := hid (hTm.out.set_ (by omega) n (.int .i64 (u + d)))
        obtain ⟨q0, q1, q2⟩ := (Q3.out.touch hTm.out hgq).cells3
        have hgq' := Ne.symm hgq
        have hn' : (n : Int) < (x.length : Int) := by omega
        have hn0 : (0 : Int) ≤ (n : Int) := by omega
        have hub1 : -8 ≤ u := by omega
        have hub2 : u ≤ 1000008 := by omega
        have e1 : IntKind.i64.wrap (u + d) = u + d := by rw [IntKind.wrap_i64]; omega
        clear hput q0 q1 hlen hgB' hbu hkl hym
        go_wp2
        go_region
        go_wp2
        exact ⟨⟨m + 1, by omega, by go_num, hO2, ⟨hT2.out.os, hT2.out.tape, hT2.out.output, hT2.out.size, hT2.out.block⟩⟩, by simp [intOf]; omega⟩
      · have him : ¬ (m : Int) < (P.length : Int) := by omega
        have he := hom.out
        rw [List.take_of_length_le (show P.length ≤ m by omega)] at he
        have O4 := hid he
        have hyl : (addAt d x P).length = x.length := addAt_length _ _ _
        have HYL := hid hyl
        obtain ⟨q0, q1, q2⟩ := (Q3.out.touch hTm.out hgq).cells3
        have R4 := hid (R3.out.touch hTm.out (by omega))
        have S4 : Hid (Below w.heap.size w wr) := S3.out.trans ((hTm.out.below O3.out).mono (by omega))
        have hll : (addAt d x P).length ≤ 1048576 := by omega
        have q2' := q2
        rw [← HYL.out] at q2'
        have HVAL := hid (l04Tally_any q 0 c2x (some ⟨g2, 0, none⟩) r s (addAt d x P) wr q0 q1 q2' O4.out.rd hll)
        obtain ⟨d0, d1, d2⟩ := R4.out.cells3
        have f0 := R4.out.frozen 0
        have f1 := R4.out.frozen 1
        have f2 := R4.out.frozen 2
        clear he hyl hll q2'
        cases hv2 : vTally r s (addAt d x P) with
        | false =>
          go_wp2_with fail
          refine HVAL.out.mono ?_
          rw [hv2]
          rintro e w' ⟨rfl, rfl⟩
          go_wp2
          have hPP := HPe.out
          clear HPe HVAL
          subst hPP
          refine bodyPost_ret (v := .tuple #[.agg #[.int .i64 0, .int .i64 0, .slice none 0 0], .bool false]) (by simp [results, Try.results107, go_sem, d0, d1, d2]) rfl ?_
          rw [show giveT (r : Int) (s : Int) (addAt d x (spotsL key s x.length r)) = ((0, 0, []), false) by simp only [giveT, hv2]; rfl]
          refine retTl_no _ _ ⟨rfl, ?_⟩
          exact ((S4.out.setCell (by simp <;> omega) _).setCell (by simp <;> omega) _).setCell (by simp <;> omega) _
        | true =>
          go_wp2_with fail
          refine HVAL.out.mono ?_
          rw [hv2]
          rintro e w' ⟨rfl, rfl⟩
          go_wp2
          have hPP := HPe.out
          clear HPe HVAL
          subst hPP
          refine bodyPost_ret (v := .tuple #[.agg #[.int .i64 r, .int .i64 s, .slice (some ⟨g2, 0, none⟩) x.length c2x], .bool true]) (by simp [results, Try.results107, go_sem, d0, d1, d2]) rfl ?_
          rw [show giveT (r : Int) (s : Int) (addAt d x (spotsL key s x.length r)) = (((r : Int), (s : Int), addAt d x (spotsL key s x.length r)), true) by simp only [giveT, hv2]; rfl]
          refine ⟨some ⟨g2, 0, none⟩, c2x, by simp only [HYL.out], ?_, by simp only [HYL.out]; omega, ?_⟩
          · exact (((O4.out.setFar (by simp <;> omega) _).setFar (by simp <;> omega) _).setFar (by simp <;> omega) _).mono (by omega)
          · exact ((S4.out.setCell (by simp <;> omega) _).setCell (by simp <;> omega) _).setCell (by simp <;> omega) _
set_option maxHeartbeats 1600000 in
theorem iPutTally_any (r s : Int) (A : Option Addr) (c : Nat) (x : List Int) (key : Int) (w : World) (hr : W64 r) (hs : W64 s) (hx : RdL (Value.int .i64) w A x) (hn : x.length ≤ 1048576) (we : ∀ y ∈ x, W64 y) (hkey : W64 key) :
    Calls Try.prog 60 #[.agg #[.int .i64 r, .int .i64 s, .slice A x.length c], .int .i64 key] w (RetTl w (pPutTally r s x key)) := by
  have HX := hid hx
  have WE := hid we
  have R0 := hid (Blk.new2 w (.cells #[.int .i64 r, .int .i64 s, .slice A x.length c] 77) 77 [.int .i64 0, .int .i64 0, .slice none 0 0])
  obtain ⟨p, hp⟩ : ∃ p, p = pPutTally r s x key := ⟨_, rfl⟩
  have HP : Hid (p = pMoved (1) r s x key) := hp
  rw [← hp]
  clear hp hx we
  go_enter Try.func60, Try.ntmps60
  go_wp2_with fail
  refine (moved_any r s A c x key (1) _ hr hs (HX.out.below (below_a2 _ _ _)) hn WE.out (by omega)).mono ?_
  rw [← HP.out]
  rintro e w1 ⟨A1, c1, rfl, ho, hl, hb⟩
  have R1 := hid (R0.out.below hb)
  have S1 := below_call (below_a2 _ _ _) hb
  have O1 := hid (ho.mono (B' := w.heap.size + 2) (by simp))
  clear ho hb HX R0 hr hs hkey HP
  obtain ⟨d0, d1, d2⟩ := R1.out.cells3
  have f0 := R1.out.frozen 0
  have f1 := R1.out.frozen 1
  have f2 := R1.out.frozen 2
  go_wp2
  refine bodyPost_ret (v := .tuple #[.agg #[.int .i64 p.1.1, .int .i64 p.1.2.1, .slice A1 p.1.2.2.length c1], .bool p.2]) (by simp [results, Try.results60, go_sem, d0, d1, d2]) rfl ⟨A1, c1, rfl, ?_, hl, ?_⟩
  · exact (((O1.out.setFar (by simp <;> omega) _).setFar (by simp <;> omega) _).setFar (by simp <;> omega) _).mono (by omega)
  · exact ((S1.out.setCell (by simp <;> omega) _).setCell (by simp <;> omega) _).setCell (by simp <;> omega) _
set_option maxHeartbeats 1600000 in
theorem sPutTally_any (r s : Int) (A : Option Addr) (c : Nat) (x : List Int) (key : Int) (w : World) (hr : W64 r) (hs : W64 s) (hx : RdL (Value.int .i64) w A x) (hn : x.length ≤ 1048576) (we : ∀ y ∈ x, W64 y) (hkey : W64 key) :
    Calls Try.prog 59 #[.agg #[.int .i64 r, .int .i64 s, .slice A x.length c], .int .i64 key] w (RetTl w (pPutTally r s x key)) := by
  have HX := hid hx
  have B0 := hid ((Blk.new w 77 [.int .i64 r, .int .i64 s, .slice A x.length c]).alloc (.cells #[.int .i64 0, .int .i64 0, .slice none 0 0] 77))
  have R0 := hid (Blk.new2 w (.cells #[.int .i64 r, .int .i64 s, .slice A x.length c] 77) 77 [.int .i64 0, .int .i64 0, .slice none 0 0])
  obtain ⟨p, hp⟩ : ∃ p, p = pPutTally r s x key := ⟨_, rfl⟩
  have HP : Hid (p = pMoved (1) r s x key) := hp
  rw [← hp]
  clear hp hx we
  obtain ⟨k0, k1, k2⟩ := B0.out.cells3
  go_enter Try.func59, Try.ntmps59
  go_wp2_with fail
  refine (l04Add_any w.heap.size r s A c x key (1) _ k0 k1 k2 (HX.out.below (below_a2 _ _ _)) hn (by omega)).mono ?_
  rw [← HP.out]
  rintro e w1 ⟨A1, c1, rfl, ho, hl, hb⟩
  have R1 := hid (R0.out.below hb)
  have S1 := below_call (below_a2 _ _ _) hb
  have O1 := hid (ho.mono (B' := w.heap.size + 2) (by simp))
  clear ho hb HX R0 hr hs hkey HP k0 k1 k2
  obtain ⟨d0, d1, d2⟩ := R1.out.cells3
  have f0 := R1.out.frozen 0
  have f1 := R1.out.frozen 1
  have f2 := R1.out.frozen 2
  go_wp2
  refine bodyPost_ret (v := .tuple #[.agg #[.int .i64 p.1.1, .int .i64 p.1.2.1, .slice A1 p.1.2.2.length c1], .bool p.2]) (by simp [results, Try.results59, go_sem, d0, d1, d2]) rfl ⟨A1, c1, rfl, ?_, hl, ?_⟩
  · exact (((O1.out.setFar (by simp <;> omega) _).setFar (by simp <;> omega) _).setFar (by simp <;> omega) _).mono (by omega)
  · exact ((S1.out.setCell (by simp <;> omega) _).setCell (by simp <;> omega) _).setCell (by simp <;> omega) _
set_option maxHeartbeats 1600000 in
theorem iOutTally_any (r s : Int) (A : Option Addr) (c : Nat) (x : List Int) (key : Int) (w : World) (hr : W64 r) (hs : W64 s) (hx : RdL (Value.int .i64) w A x) (hn : x.length ≤ 1048576) (we : ∀ y ∈ x, W64 y) (hkey : W64 key) :
    Calls Try.prog 55 #[.agg #[.int .i64 r, .int .i64 s, .slice A x.length c], .int .i64 key] w (RetTl w (pOutTally r s x key)) := by
  have HX := hid hx
  have WE := hid we
  have R0 := hid (Blk.new2 w (.cells #[.int .i64 r, .int .i64 s, .slice A x.length c] 77) 77 [.int .i64 0, .int .i64 0, .slice none 0 0])
  obtain ⟨p, hp⟩ : ∃ p, p = pOutTally r s x key := ⟨_, rfl⟩
  have HP : Hid (p = pMoved (-1) r s x key) := hp
  rw [← hp]
  clear hp hx we
  go_enter Try.func55, Try.ntmps55
  go_wp2_with fail
  refine (moved_any r s A c x key (-1) _ hr hs (HX.out.below (below_a2 _ _ _)) hn WE.out (by omega)).mono ?_
  rw [← HP.out]
  rintro e w1 ⟨A1, c1, rfl, ho, hl, hb⟩
  have R1 := hid (R0.out.below hb)
  have S1 := below_call (below_a2 _ _ _) hb
  have O1 := hid (ho.mono (B' := w.heap.size + 2) (by simp))
  clear ho hb HX R0 hr hs hkey HP
  obtain ⟨d0, d1, d2⟩ := R1.out.cells3
  have f0 := R1.out.frozen 0
  have f1 := R1.out.frozen 1
  have f2 := R1.out.frozen 2
  go_wp2
  refine bodyPost_ret (v := .tuple #[.agg #[.int .i64 p.1.1, .int .i64 p.1.2.1, .slice A1 p.1.2.2.length c1], .bool p.2]) (by simp [results, Try.results55, go_sem, d0, d1, d2]) rfl ⟨A1, c1, rfl, ?_, hl, ?_⟩
  · exact (((O1.out.setFar (by simp <;> omega) _).setFar (by simp <;> omega) _).setFar (by simp <;> omega) _).mono (by omega)
  · exact ((S1.out.setCell (by simp <;> omega) _).setCell (by simp <;> omega) _).setCell (by simp <;> omega) _
set_option maxHeartbeats 1600000 in
theorem sOutTally_any (r s : Int) (A : Option Addr) (c : Nat) (x : List Int) (key : Int) (w : World) (hr : W64 r) (hs : W64 s) (hx : RdL (Value.int .i64) w A x) (hn : x.length ≤ 1048576) (we : ∀ y ∈ x, W64 y) (hkey : W64 key) :
    Calls Try.prog 53 #[.agg #[.int .i64 r, .int .i64 s, .slice A x.length c], .int .i64 key] w (RetTl w (pOutTally r s x key)) := by
  have HX := hid hx
  have B0 := hid ((Blk.new w 77 [.int .i64 r, .int .i64 s, .slice A x.length c]).alloc (.cells #[.int .i64 0, .int .i64 0, .slice none 0 0] 77))
  have R0 := hid (Blk.new2 w (.cells #[.int .i64 r, .int .i64 s, .slice A x.length c] 77) 77 [.int .i64 0, .int .i64 0, .slice none 0 0])
  obtain ⟨p, hp⟩ : ∃ p, p = pOutTally r s x key := ⟨_, rfl⟩
  have HP : Hid (p = pMoved (-1) r s x key) := hp
  rw [← hp]
  clear hp hx we
  obtain ⟨k0, k1, k2⟩ := B0.out.cells3
  go_enter Try.func53, Try.ntmps53
  go_wp2_with fail
  refine (l04Add_any w.heap.size r s A c x key (-1) _ k0 k1 k2 (HX.out.below (below_a2 _ _ _)) hn (by omega)).mono ?_
  rw [← HP.out]
  rintro e w1 ⟨A1, c1, rfl, ho, hl, hb⟩
  have R1 := hid (R0.out.below hb)
  have S1 := below_call (below_a2 _ _ _) hb
  have O1 := hid (ho.mono (B' := w.heap.size + 2) (by simp))
  clear ho hb HX R0 hr hs hkey HP k0 k1 k2
  obtain ⟨d0, d1, d2⟩ := R1.out.cells3
  have f0 := R1.out.frozen 0
  have f1 := R1.out.frozen 1
  have f2 := R1.out.frozen 2
  go_wp2
  refine bodyPost_ret (v := .tuple #[.agg #[.int .i64 p.1.1, .int .i64 p.1.2.1, .slice A1 p.1.2.2.length c1], .bool p.2]) (by simp [results, Try.results53, go_sem, d0, d1, d2]) rfl ⟨A1, c1, rfl, ?_, hl, ?_⟩
  · exact (((O1.out.setFar (by simp <;> omega) _).setFar (by simp <;> omega) _).setFar (by simp <;> omega) _).mono (by omega)
  · exact ((S1.out.setCell (by simp <;> omega) _).setCell (by simp <;> omega) _).setCell (by simp <;> omega) _
end Go.Proofs.Ytlcpchpodcchlaa
