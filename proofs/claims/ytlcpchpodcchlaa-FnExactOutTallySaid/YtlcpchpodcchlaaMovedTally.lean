/-
  Numbers put to a tally: reference and program, by contracts.
-/
import Derived.Test.YtlcpchpodcchlaaInTally
import Derived.Test.YtlcpchpodcchlaaOwn
import Derived.Test.YtlcpchpodcchlaaAdd
import Derived.Test.YtlcpchpodcchlaaPutSieve
import Derived.Deep.RegionLaw
namespace Go.Proofs.Ytlcpchpodcchlaa
open Go.RowKit
set_option linter.unusedVariables false

/-- It hands back a tally of its own, and whether it could. -/
def RetTl (w : World) (p : (Int × Int × List Int) × Bool) (e : Ending) (w' : World) : Prop := ∃ A c,
  e = .returned (.tuple #[.agg #[.int .i64 p.1.1, .int .i64 p.1.2.1, .slice A p.1.2.2.length c], .bool p.2]) ∧ OwnS (Value.int .i64) w' w.heap.size 2 A p.1.2.2 ∧ p.1.2.2.length ≤ 1048576 ∧ Below w.heap.size w w'
theorem retTl_no {w : World} : ∀ (e : Ending) (w' : World), (e = .returned (.tuple #[.agg #[.int .i64 0, .int .i64 0, .slice none 0 0], .bool false]) ∧ Below w.heap.size w w') → RetTl w ((0, 0, []), false) e w' :=
  fun e w' ⟨he, hb⟩ => ⟨none, 0, he, OwnS.nil, by simp, hb⟩
theorem t64_of_bounds {a : Int} (h : -9223372036854775808 ≤ a ∧ a ≤ 9223372036854775807) : W64 a := by
  simpa [W64, Lit.wf, IntKind.min, IntKind.max, IntKind.signed, IntKind.bits] using h
/-- A tally, if it is valid. -/
def giveT (r s : Int) (x : List Int) : (Int × Int × List Int) × Bool := if vTally r s x = true then ((r, s, x), true) else ((0, 0, []), false)
/-- What a tally is after a number has been put. -/
def pMoved (d : Int) (r s : Int) (x : List Int) (key : Int) : (Int × Int × List Int) × Bool :=
  if (vTally r s x && inB key 0 4294967295) = true then giveT r s (addAt d x (spotsL key.toNat s.toNat x.length r.toNat)) else ((0, 0, []), false)
/-- What PutTally returns. -/
def pPutTally (r s : Int) (x : List Int) (key : Int) : (Int × Int × List Int) × Bool := pMoved 1 r s x key
/-- What OutTally returns. -/
def pOutTally (r s : Int) (x : List Int) (key : Int) : (Int × Int × List Int) × Bool := pMoved (-1) r s x key

set_option maxRecDepth 100000 in
set_option maxHeartbeats 3200000 in
theorem moved_any (r s : Int) (A : Option Addr) (c : Nat) (x : List Int) (key d : Int) (w : World) (hr : W64 r) (hs : W64 s) (hx : RdL (Value.int .i64) w A x) (hn : x.length ≤ 1048576) (we : ∀ y ∈ x, W64 y) (hd : -1 ≤ d ∧ d ≤ 1) :
    Calls Try.prog 108 #[.agg #[.int .i64 r, .int .i64 s, .slice A x.length c], .int .i64 key, .int .i64 d] w (RetTl w (pMoved d r s x key)) := by
  have HX := hid hx
  have WE := hid we
  have HD := hid hd
  have hd1 := hd.1
  have hd2 := hd.2
  have B0 := hid ((Blk.new w 77 [.int .i64 r, .int .i64 s, .slice A x.length c]).alloc (.cells #[.int .i64 0, .int .i64 0, .slice none 0 0] 77))
  have R0 := hid (Blk.new2 w (.cells #[.int .i64 r, .int .i64 s, .slice A x.length c] 77) 77 [.int .i64 0, .int .i64 0, .slice none 0 0])
  clear hx we hd
  have key_ : ∀ u v : Bool, vTally r s x = u → inB key 0 4294967295 = v → (u && v) = false →
      Calls Try.prog 108 #[.agg #[.int .i64 r, .int .i64 s, .slice A x.length c], .int .i64 key, .int .i64 d] w (RetTl w ((0, 0, []), false)) := by
    intro u v hu hv hno
    refine Calls.mono ?_ retTl_no
    cases u
    case' true => cases v
    all_goals
      first
      | (exfalso; revert hno; decide)
      | (go_enter Try.func108, Try.ntmps108
         go_wp2_with fail
         refine (iValidTally_any r s A c x _ hr hs (HX.out.below (below_a2 _ _ _)) hn WE.out).mono ?_
         rw [hu]
         rintro e w1 ⟨rfl, hb⟩
         obtain ⟨d0, d1, d2⟩ := (R0.out.below hb).cells3
         have f0 := (R0.out.below hb).frozen 0
         have f1 := (R0.out.below hb).frozen 1
         have f2 := (R0.out.below hb).frozen 2
         have S1 := below_call (below_a2 _ _ _) hb
         clear hb B0 R0 hu hno
         go_wp2_with ((go_at_call 69; refine (IsKey_any _ _).mono ?_; rintro e w' ⟨rfl, rfl⟩))
         refine bodyPost_ret (v := .tuple #[.agg #[.int .i64 0, .int .i64 0, .slice none 0 0], .bool false]) (by simp [results, Try.results108, go_sem, d0, d1, d2]) rfl ⟨rfl, ?_⟩
         exact ((S1.out.setCell (by simp) _).setCell (by simp) _).setCell (by simp) _)
  cases hgo : (vTally r s x && inB key 0 4294967295) with
  | false =>
    have hp : pMoved d r s x key = ((0, 0, []), false) := by simp only [pMoved, hgo]; rfl
    rw [hp]
    exact key_ _ _ rfl rfl hgo
  | true =>
  have hp : pMoved d r s x key = giveT r s (addAt d x (spotsL key.toNat s.toNat x.length r.toNat)) := by simp only [pMoved, hgo]; rfl
  rw [hp]
  simp only [Bool.and_eq_true] at hgo
  obtain ⟨hv, hk⟩ := hgo
  obtain ⟨⟨hr1, hr2⟩, ⟨hs1, hs2⟩, ⟨hn1, hn2⟩, hbd⟩ := vTally_iff hv
  obtain ⟨hk1, hk2⟩ := inB_iff.1 hk
  obtain ⟨r, rfl⟩ := Int.eq_ofNat_of_zero_le (show 0 ≤ r by omega)
  obtain ⟨s, rfl⟩ := Int.eq_ofNat_of_zero_le hs1
  obtain ⟨key, rfl⟩ := Int.eq_ofNat_of_zero_le hk1
  simp only [Int.toNat_natCast] at hp ⊢
  have HBD := hid hbd
  have HV := hid hv
  clear hbd hp hv key_
  have hbu0 : ∀ y ∈ addAt d x (spotsL key s x.length r), W64 y := fun y hy => by
    have := addAt_bound (l := spotsL key s x.length r) (D := 1) HBD.out HD.out (by omega) y hy
    rw [spotsL_length] at this
    exact t64_of_bounds (by omega)
  have HBU := hid hbu0
  clear hbu0
  go_enter Try.func108, Try.ntmps108
  go_wp2_with fail
  refine (iValidTally_any r s A c x _ hr hs (HX.out.below (below_a2 _ _ _)) hn WE.out).mono ?_
  rw [HV.out]
  rintro e w1 ⟨rfl, hb⟩
  have B1 := hid (B0.out.below hb)
  have R1 := hid (R0.out.below hb)
  have S1 := below_call (below_a2 _ _ _) hb
  have HX1 := hid (HX.out.below S1.out)
  have hl1 : w.heap.size + 2 ≤ w1.heap.size := by have := hb.size; simp at this; omega
  clear hb B0 R0
  obtain ⟨c0, c1, c2⟩ := B1.out.cells3
  go_wp2_with ((go_at_call 69; refine (IsKey_any _ _).mono ?_; rintro e w' ⟨rfl, rfl⟩))
  have hpne : w.heap.size ≠ w1.heap.size := by omega
  have hpne' : w1.heap.size ≠ w.heap.size := by omega
  go_cut [8] from 20 to 27 (fun v wx => ∃ q g2 c2 : Nat, v = .pointer (some ⟨q, 0, none⟩) ∧ Hid (w1.heap.size ≤ q ∧ w1.heap.size ≤ g2 ∧ g2 ≠ q ∧ Blk wx q 77 [.int .i64 r, .int .i64 s, .slice (some ⟨g2, 0, none⟩) x.length c2] ∧ OwnS (Value.int .i64) wx w1.heap.size 2 (some ⟨g2, 0, none⟩) x ∧ Below w1.heap.size w1 wx))
  case first =>
    go_region_held3 (fun w' => w'.cell? ⟨w.heap.size, 0, none⟩ = some (.int .i64 r) ∧ w'.cell? ⟨w.heap.size, 1, none⟩ = some (.int .i64 s) ∧ w'.cell? ⟨w.heap.size, 2, none⟩ = some (.slice A x.length c)) (first | go_keep | exact hS | (refine ⟨?_, ?_, ?_⟩ <;> go_keep) | (simp [hpne, hpne']; exact hS))
      (first | (go_at_call 96
                refine (cloneI_any A c x _ (HX1.out.drewN 1) hn).mono ?_
                rintro e w2 ⟨A2, c2', rfl, hoP, hbP⟩
                have hbP := below_drew' hbP
                have hS := (B1.out.below hbP).cells3)
             | (go_at_call 96
                refine (cloneI_any A c x _ ((HX1.out.below (below_a1 _ _)).drewN 1) hn).mono ?_
                rintro e w2 ⟨A2, c2', rfl, hoP, hbP⟩
                have hbP := below_drew' hbP
                have hS := ((B1.out.alloc _).below hbP).cells3
                have hQ := (Blk.new w1 77 [.int .i64 0, .int .i64 0, .slice none 0 0]).below hbP
                obtain ⟨q0, q1, q2⟩ := hQ.cells3
                have f0 := hQ.frozen 0
                have f1 := hQ.frozen 1
                have f2 := hQ.frozen 2))
    · go_wp2_with fail
      go_meet
      obtain ⟨g2, ex, rfl, hgB, hgb⟩ := hoP (by rintro rfl; simp at hn1)
      have hgl := hgb.lt
      have hw2 := hbP.size
      exact ⟨w2.heap.size, g2, c2', rfl, hw2, hgB, by omega, Blk.new _ _ _, hoP.below (below_a1 _ _), hbP.alloc hw2 _⟩
    · go_wp2_with fail
      go_meet
      obtain ⟨g2, ex, rfl, hgB, hgb⟩ := hoP (by rintro rfl; simp at hn1)
      have hgB' : w1.heap.size + 1 ≤ g2 := by simpa using hgB
      refine ⟨w1.heap.size, g2, c2', rfl, Nat.le_refl _, by omega, by omega, ((hQ.set_ 0 _).set_ 1 _).set_ 2 _, (((hoP.setFar (by simp) _).setFar (by simp) _).setFar (by simp) _).mono (by simp), ?_⟩
      exact ((((below_a1 w1 _).trans (hbP.mono (by simp))).setCell (by simp) _).setCell (by simp) _).setCell (by simp) _
  case rest =>
    obtain ⟨q, g2, c2x, rfl, hh⟩ := hcut
    obtain ⟨hq1, hg1, hgq, hQ, hO, hB⟩ := hh.out
    have HQ := hid hQ
    have HO := hid hO
    have HB := hid hB
    have S2 := hid (S1.out.trans (hB.mono (by omega)))
    have hlc := hB.size
    clear hh hQ hO hB c0 c1 c2 hpne hpne'
    obtain ⟨c0, c1, c2⟩ := (B1.out.below HB.out).cells3
    go_wp2_with fail
    refine (spots_any key s r x.length _ (by omega) (by omega) (by omega) (by omega)).mono ?_
    rintro e w3 ⟨A3, c3, rfl, hoP, hbP⟩
    have HP := hid hoP
    have O3 := hid (HO.out.below hbP)
    have Q3 := hid (HQ.out.below hbP)
    have R3 := hid ((R1.out.below HB.out).below hbP)
    have S3 : Hid (Below w.heap.size w w3) := S2.out.trans (hbP.mono (by omega))
    have hl3 := hbP.size
    have HA := hid (OwnS.apart_lt HO.out hoP (Nat.le_refl _))
    have hPl := spotsL_length key s x.length r
    have hmem : Hid (∀ p ∈ spotsL key s x.length r, ∃ m : Nat, p = m ∧ m < x.length) := fun p hp' => spotsL_mem (by omega) hp'
    obtain ⟨P, hPe⟩ : ∃ P, P = spotsL key s x.length r := ⟨_, rfl⟩
    rw [← hPe] at HA HP hPl hmem HBU ⊢
    have HPe := hid hPe
    have hP8 : P.length ≤ 8 := by omega
    clear hPe hPl hoP hbP c0 c1 c2
    go_wp2
    go_loopw [38] (fun j wi => ∃ m : Nat, m ≤ P.length ∧ j = .int .i64 m ∧ Hid (OwnS (Value.int .i64) wi w1.heap.size 2 (some ⟨g2, 0, none⟩) (addAt d x (P.take m))) ∧ Hid (Touch w3 wi (some ⟨g2, 0, none⟩) x.length)) (fun j _ => P.length - (intOf j).toNat)
    case atStart => exact ⟨0, Nat.zero_le _, rfl, by rw [addAt_zero]; exact O3, Touch.refl⟩
    case round =>
      obtain ⟨m, hmr, rfl, hom, hTm⟩ := hrel
      by_cases hlm : m < P.length
      · have him : (m : Int) < (P.length : Int) := by omega
        obtain ⟨b3, o3, p, rfl, hcp, hpk⟩ := (HP.out.touch hTm.out HA.out).rd.at_ hlm
        obtain ⟨n, rfl, hnx⟩ := hmem.out p (List.mem_of_getElem? hpk.out)
        have hlen := addAt_length d x (P.take m)
        obtain ⟨g', u, hg', hgB', hcy, hfy, hym, hput⟩ := hom.out.put (j := n) (by omega)
        injection hg' with hg'; injection hg' with hg'
        subst hg'
        have hbu := addAt_bound (l := P.take m) (D := 1) HBD.out HD.out (by omega) u (List.mem_of_getElem? hym.out)
        have hkl : (P.take m).length ≤ 8 := by simp; omega
        have hO2 := hput (u + d)
        rw [addAt_succ hpk hym] at hO2
        have hT2 := hid (hTm.out.set_ (by omega) n (.int .i64 (u + d)))
        obtain ⟨q0, q1, q2⟩ := (Q3.out.touch hTm.out hgq).cells3
        have hn' : (n : Int) < (x.length : Int) := by omega
        have hn0 : (0 : Int) ≤ (n : Int) := by omega
        have hub1 : -8 ≤ u := by omega
        have hub2 : u ≤ 1000008 := by omega
        clear hput q0 q1 hlen hgB' hbu hkl hym
        go_wp2
        exact ⟨⟨m + 1, by omega, by go_num, hO2, hT2⟩, by simp [intOf]; omega⟩
      · have him : ¬ (m : Int) < (P.length : Int) := by omega
        have he := hom.out
        rw [List.take_of_length_le (show P.length ≤ m by omega)] at he
        have O4 := hid he
        have hyl : (addAt d x P).length = x.length := addAt_length _ _ _
        have HYL := hid hyl
        obtain ⟨q0, q1, q2⟩ := (Q3.out.touch hTm.out hgq).cells3
        have Q4 := hid (Q3.out.touch hTm.out hgq)
        have R4 := hid (R3.out.touch hTm.out (by omega))
        have S4 : Hid (Below w.heap.size w wr) := S3.out.trans ((hTm.out.below O3.out).mono (by omega))
        have hll : (addAt d x P).length ≤ 1048576 := by omega
        have hval := iValidTally_any r s (some ⟨g2, 0, none⟩) c2x (addAt d x P) wr hr hs O4.out.rd hll HBU.out
        rw [HYL.out] at hval
        have HVAL := hid hval
        clear he hyl hval hll
        go_wp2_with fail
        refine HVAL.out.mono ?_
        rintro e w4 ⟨rfl, hb⟩
        have S5 := hid (S4.out.trans (hb.mono S4.out.size))
        have O5 := hid (O4.out.below hb)
        clear q0 q1 q2
        obtain ⟨q0, q1, q2⟩ := (Q4.out.below hb).cells3
        obtain ⟨d0, d1, d2⟩ := (R4.out.below hb).cells3
        have f0 := (R4.out.below hb).frozen 0
        have f1 := (R4.out.below hb).frozen 1
        have f2 := (R4.out.below hb).frozen 2
        clear hb
        cases hv2 : vTally r s (addAt d x P) with
        | false =>
          go_wp2
          have hPP := HPe.out
          clear HPe
          subst hPP
          refine bodyPost_ret (v := .tuple #[.agg #[.int .i64 0, .int .i64 0, .slice none 0 0], .bool false]) (by simp [results, Try.results108, go_sem, d0, d1, d2]) rfl ?_
          rw [show giveT (r : Int) (s : Int) (addAt d x (spotsL key s x.length r)) = ((0, 0, []), false) by simp only [giveT, hv2]; rfl]
          refine retTl_no _ _ ⟨rfl, ?_⟩
          exact ((S5.out.setCell (by simp <;> omega) _).setCell (by simp <;> omega) _).setCell (by simp <;> omega) _
        | true =>
          go_wp2
          have hPP := HPe.out
          clear HPe
          subst hPP
          refine bodyPost_ret (v := .tuple #[.agg #[.int .i64 r, .int .i64 s, .slice (some ⟨g2, 0, none⟩) x.length c2x], .bool true]) (by simp [results, Try.results108, go_sem, d0, d1, d2]) rfl ?_
          rw [show giveT (r : Int) (s : Int) (addAt d x (spotsL key s x.length r)) = (((r : Int), (s : Int), addAt d x (spotsL key s x.length r)), true) by simp only [giveT, hv2]; rfl]
          refine ⟨some ⟨g2, 0, none⟩, c2x, by simp only [HYL.out], ?_, by simp only [HYL.out]; omega, ?_⟩
          · exact (((O5.out.setFar (by simp <;> omega) _).setFar (by simp <;> omega) _).setFar (by simp <;> omega) _).mono (by omega)
          · exact ((S5.out.setCell (by simp <;> omega) _).setCell (by simp <;> omega) _).setCell (by simp <;> omega) _
end Go.Proofs.Ytlcpchpodcchlaa
