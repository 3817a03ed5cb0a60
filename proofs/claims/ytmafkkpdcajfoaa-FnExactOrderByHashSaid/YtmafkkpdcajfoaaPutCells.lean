/-
  Numbers put to the cells of a key: reference and program, by contracts.
-/
import Derived.Test.YtmafkkpdcajfoaaNewCells
import Derived.Test.YtmafkkpdcajfoaaAdd
import Derived.Test.YtmafkkpdcajfoaaPutSieve
import Derived.Deep.RegionLaw
namespace Go.Proofs.Ytmafkkpdcajfoaa
open Go.RowKit
set_option linter.unusedVariables false

/-- What PutCells returns. -/
def pPutCells (a0 a1 a2 : Int) (x : List Int) (key by_ : Int) : (Int × Int × Int × List Int) × Bool :=
  if (vCells a0 a1 a2 x && inB key 0 4294967295 && inB by_ (-1000000) 1000000) = true then giveP a0 a1 a2 (addAt by_ x (cellsL a0.toNat a2.toNat key.toNat a1.toNat)) else ((0, 0, 0, []), false)
theorem vCells_iff' {a0 a1 a2 : Int} {x : List Int} (h : vCells a0 a1 a2 x = true) : (2 ≤ a0 ∧ a0 ≤ 64) ∧ (1 ≤ a1 ∧ a1 ≤ 6) ∧ (0 ≤ a2 ∧ a2 ≤ 4294967295) ∧ (x.length : Int) = a0 * a1 ∧ ∀ y ∈ x, -1000000000000 ≤ y ∧ y ≤ 1000000000000 := by
  simp only [vCells, Bool.and_eq_true, decide_eq_true_eq, inB_iff] at h
  refine ⟨h.1.1.1.1, h.1.1.1.2, h.1.1.2, h.1.2, fun y hy => ?_⟩
  have := h.2
  unfold allB at this
  rw [List.all_eq_true] at this
  exact inB_iff.1 (this y hy)
theorem cellsL_at' {wd s key dp k : Nat} (h : k < dp) : (cellsL wd s key dp)[k]? = some (placeN wd s key k : Int) := by simp [cellsL, h]

set_option maxHeartbeats 800000 in
theorem copyCells_any (a0 a1 a2 : Int) (A : Option Addr) (c : Nat) (x : List Int) (w : World) (hx : RdL (Value.int .i64) w A x) (hn : x.length ≤ 1048576) :
    Calls Try.prog 45 #[.agg #[.int .i64 a0, .int .i64 a1, .int .i64 a2, .slice A x.length c]] w fun e w' => ∃ A' c', e = .returned (.agg #[.int .i64 a0, .int .i64 a1, .int .i64 a2, .slice A' x.length c']) ∧ OwnS (Value.int .i64) w' w.heap.size 2 A' x ∧ Below w.heap.size w w' := by
  have HX := hid hx
  have B0 := hid ((Blk.new w 46 [.int .i64 a0, .int .i64 a1, .int .i64 a2, .slice A x.length c]).alloc (.cells #[.int .i64 0, .int .i64 0, .int .i64 0, .slice none 0 0] 46))
  have R0 := hid (Blk.new2 w (.cells #[.int .i64 a0, .int .i64 a1, .int .i64 a2, .slice A x.length c] 46) 46 [.int .i64 0, .int .i64 0, .int .i64 0, .slice none 0 0])
  clear hx
  go_enter Try.func45, Try.ntmps45
  go_wp2_with fail
  refine (cloneI_any A c x _ (HX.out.below (below_a2 _ _ _)) hn).mono ?_
  rintro e w1 ⟨A1, c1, rfl, ho, hb⟩
  obtain ⟨c0, c1', c2, c3⟩ := (B0.out.below hb).cells4
  have g3 := (B0.out.below hb).frozen 3
  obtain ⟨d0, d1, d2, d3⟩ := (R0.out.below hb).cells4
  have f0 := (R0.out.below hb).frozen 0
  have f1 := (R0.out.below hb).frozen 1
  have f2 := (R0.out.below hb).frozen 2
  have f3 := (R0.out.below hb).frozen 3
  have S1 := below_call (below_a2 _ _ _) hb
  have O1 := hid (ho.mono (B' := w.heap.size + 2) (by simp))
  clear hb B0 R0 ho
  go_wp2
  refine bodyPost_ret (v := .agg #[.int .i64 a0, .int .i64 a1, .int .i64 a2, .slice A1 x.length c1]) (by simp [results, Try.results45, go_sem, d0, d1, d2, d3]) rfl ⟨A1, c1, rfl, ?_, ?_⟩
  · exact (((((O1.out.setFar (by simp <;> omega) _).setFar (by simp <;> omega) _).setFar (by simp <;> omega) _).setFar (by simp <;> omega) _).setFar (by simp <;> omega) _).mono (by omega)
  · exact ((((S1.out.setCell (by simp) _).setCell (by simp) _).setCell (by simp) _).setCell (by simp) _).setCell (by simp) _
set_option maxRecDepth 100000 in
set_option maxHeartbeats 3200000 in
theorem iPutCells_any (a0 a1 a2 : Int) (A : Option Addr) (c : Nat) (x : List Int) (key by_ : Int) (w : World) (h0 : W64 a0) (h1 : W64 a1) (h2 : W64 a2) (hx : RdL (Value.int .i64) w A x) (hn : x.length ≤ 1048576) (we : ∀ y ∈ x, W64 y) (hkey : W64 key) (hby : W64 by_) :
    Calls Try.prog 28 #[.agg #[.int .i64 a0, .int .i64 a1, .int .i64 a2, .slice A x.length c], .int .i64 key, .int .i64 by_] w (RetCl w (pPutCells a0 a1 a2 x key by_)) := by
  have HX := hid hx
  have WE := hid we
  have B0 := hid ((Blk.new w 46 [.int .i64 a0, .int .i64 a1, .int .i64 a2, .slice A x.length c]).alloc (.cells #[.int .i64 0, .int .i64 0, .int .i64 0, .slice none 0 0] 46))
  have R0 := hid (Blk.new2 w (.cells #[.int .i64 a0, .int .i64 a1, .int .i64 a2, .slice A x.length c] 46) 46 [.int .i64 0, .int .i64 0, .int .i64 0, .slice none 0 0])
  clear hx we hkey hby
  have key_ : ∀ u v z : Bool, vCells a0 a1 a2 x = u → inB key 0 4294967295 = v → inB by_ (-1000000) 1000000 = z → (u && v && z) = false →
      Calls Try.prog 28 #[.agg #[.int .i64 a0, .int .i64 a1, .int .i64 a2, .slice A x.length c], .int .i64 key, .int .i64 by_] w (RetCl w ((0, 0, 0, []), false)) := by
    intro u v z hu hv hz hno
    refine Calls.mono ?_ retCl_no
    cases u
    case' true =>
      cases v
      case' true => cases z
    all_goals
      first
      | (exfalso; revert hno; decide)
      | (go_enter Try.func28, Try.ntmps28
         go_wp2_with fail
         refine (iValidCells_any a0 a1 a2 A c x _ h0 h1 h2 (HX.out.below (below_a2 _ _ _)) hn WE.out).mono ?_
         rw [hu]
         rintro e w1 ⟨rfl, hb⟩
         obtain ⟨d0, d1, d2, d3⟩ := (R0.out.below hb).cells4
         have f0 := (R0.out.below hb).frozen 0
         have f1 := (R0.out.below hb).frozen 1
         have f2 := (R0.out.below hb).frozen 2
         have f3 := (R0.out.below hb).frozen 3
         have S1 := below_call (below_a2 _ _ _) hb
         clear hb B0 R0 hu hno
         go_wp2_with (first | (go_at_call 27; refine (within_any _ _ _ _).mono ?_; rintro e w' ⟨rfl, rfl⟩) | (go_at_call 23; refine (IsKey_any _ _).mono ?_; rintro e w' ⟨rfl, rfl⟩))
         refine bodyPost_ret (v := .tuple #[.agg #[.int .i64 0, .int .i64 0, .int .i64 0, .slice none 0 0], .bool false]) (by simp [results, Try.results28, go_sem, d0, d1, d2, d3]) rfl ⟨rfl, ?_⟩
         exact (((S1.out.setCell (by simp) _).setCell (by simp) _).setCell (by simp) _).setCell (by simp) _)
  cases hgo : (vCells a0 a1 a2 x && inB key 0 4294967295 && inB by_ (-1000000) 1000000) with
  | false =>
    have hp : pPutCells a0 a1 a2 x key by_ = ((0, 0, 0, []), false) := by simp only [pPutCells, hgo]; rfl
    rw [hp]
    exact key_ _ _ _ rfl rfl rfl hgo
  | true =>
  have hp : pPutCells a0 a1 a2 x key by_ = giveP a0 a1 a2 (addAt by_ x (cellsL a0.toNat a2.toNat key.toNat a1.toNat)) := by simp only [pPutCells, hgo]; rfl
  rw [hp]
  simp only [Bool.and_eq_true] at hgo
  obtain ⟨⟨hv, hk⟩, hby⟩ := hgo
  obtain ⟨⟨hw1, hw2⟩, ⟨hd1, hd2⟩, ⟨hs1, hs2⟩, hl, hbd⟩ := vCells_iff' hv
  obtain ⟨hk1, hk2⟩ := inB_iff.1 hk
  obtain ⟨hby1, hby2⟩ := inB_iff.1 hby
  obtain ⟨wd, rfl⟩ := Int.eq_ofNat_of_zero_le (show 0 ≤ a0 by omega)
  obtain ⟨dp, rfl⟩ := Int.eq_ofNat_of_zero_le (show 0 ≤ a1 by omega)
  obtain ⟨s, rfl⟩ := Int.eq_ofNat_of_zero_le hs1
  obtain ⟨key, rfl⟩ := Int.eq_ofNat_of_zero_le hk1
  simp only [Int.toNat_natCast] at hp ⊢
  have hl' : x.length = wd * dp := by rw [← Int.natCast_mul] at hl; omega
  have HL := hid hl'
  have hlx : x.length ≤ 384 := by rw [hl']; have := Nat.mul_le_mul (show wd ≤ 64 by omega) (show dp ≤ 6 by omega); omega
  have hlp : 0 < x.length := by rw [hl']; exact Nat.mul_pos (by omega) (by omega)
  have HBD := hid hbd
  have HV := hid hv
  clear hl hl' hbd hp hv key_
  go_enter Try.func28, Try.ntmps28
  go_wp2_with fail
  refine (iValidCells_any wd dp s A c x _ h0 h1 h2 (HX.out.below (below_a2 _ _ _)) hn WE.out).mono ?_
  rw [HV.out]
  rintro e w1 ⟨rfl, hb⟩
  have B1 := hid (B0.out.below hb)
  have R1 := hid (R0.out.below hb)
  have S1 := below_call (below_a2 _ _ _) hb
  have hl1 : w.heap.size + 2 ≤ w1.heap.size := by have := hb.size; simp at this; omega
  clear hb B0 R0
  obtain ⟨k0, k1, k2, k3⟩ := B1.out.cells4
  go_wp2_with (first | (go_at_call 27; refine (within_any _ _ _ _).mono ?_; rintro e w' ⟨rfl, rfl⟩) | (go_at_call 23; refine (IsKey_any _ _).mono ?_; rintro e w' ⟨rfl, rfl⟩))
  refine (copyCells_any wd dp s A c x _ (HX.out.below S1.out) hn).mono ?_
  rintro e w2 ⟨A1, c1, rfl, ho, hb⟩
  clear k0 k1 k2 k3 hk hby
  have ho' : OwnS (Value.int .i64) w2 (w.heap.size + 2) 2 A1 x := ho.mono hl1
  obtain ⟨g, ex, rfl, hgB, hgb⟩ := ho' (by rintro rfl; simp at hlp)
  have hgl := hgb.lt
  have hl2 := hb.size
  have S2 : Hid (Below w.heap.size w w2) := S1.out.trans (hb.mono (by omega))
  have O2 := hid (ho'.below (below_a1 w2 (.cells #[.int .i64 wd, .int .i64 dp, .int .i64 s, .slice (some ⟨g, 0, none⟩) x.length c1] 46)))
  have R2 := hid ((R1.out.below hb).below (below_a1 w2 (.cells #[.int .i64 wd, .int .i64 dp, .int .i64 s, .slice (some ⟨g, 0, none⟩) x.length c1] 46)))
  have Q2 := hid (Blk.new w2 46 [.int .i64 wd, .int .i64 dp, .int .i64 s, .slice (some ⟨g, 0, none⟩) x.length c1])
  clear hgb hb ho ho' R1 B1
  go_wp2_with fail
  refine (places_any wd dp s key x.length c1 _ _ (by omega) (by omega) (by omega) (by omega) (by omega)).mono ?_
  rintro e w3 ⟨A3, c3, rfl, hoP, hbP⟩
  have HP := hid hoP
  have O3 := hid (O2.out.below hbP)
  have Q3 := hid (Q2.out.below hbP)
  have R3 := hid (R2.out.below hbP)
  have S3 : Hid (Below w.heap.size w w3) := (S2.out.alloc (by omega) _).trans (hbP.mono (by simp; omega))
  have hl3 : w2.heap.size + 1 ≤ w3.heap.size := by have := hbP.size; simp at this; omega
  have HA := hid (OwnS.apart_lt O2.out hoP (Nat.le_refl _))
  have hPl := cellsL_length wd s key dp
  have hmem : Hid (∀ p ∈ cellsL wd s key dp, ∃ m : Nat, p = m ∧ m < x.length) := fun p hp' => by rw [HL.out]; exact cellsL_mem (by omega) hp'
  obtain ⟨P, hPe⟩ : ∃ P, P = cellsL wd s key dp := ⟨_, rfl⟩
  rw [← hPe] at HA HP hPl hmem ⊢
  have hP8 : P.length ≤ 6 := by omega
  have HPe := hid hPe
  clear hPe hPl hoP hbP O2 Q2 R2
  go_wp2
  go_loopw [31] (fun j wi => ∃ m : Nat, m ≤ P.length ∧ j = .int .i64 m ∧ Hid (OwnS (Value.int .i64) wi (w.heap.size + 2) 2 (some ⟨g, 0, none⟩) (addAt by_ x (P.take m))) ∧ Hid (Touch w3 wi (some ⟨g, 0, none⟩) x.length)) (fun j _ => P.length - (intOf j).toNat)
  case atStart => exact ⟨0, Nat.zero_le _, rfl, by rw [addAt_zero]; exact O3, Touch.refl⟩
  case round =>
    obtain ⟨m, hmr, rfl, hom, hTm⟩ := hrel
    by_cases hlm : m < P.length
    · have him : (m : Int) < (P.length : Int) := by omega
      obtain ⟨b3, o3, p, rfl, hcp, hpk⟩ := (HP.out.touch hTm.out HA.out).rd.at_ hlm
      obtain ⟨n, rfl, hnx⟩ := hmem.out p (List.mem_of_getElem? hpk.out)
      have hlen := addAt_length by_ x (P.take m)
      obtain ⟨g', u, hg', hgB', hcy, hfy, hym, hput⟩ := hom.out.put (j := n) (by omega)
      injection hg' with hg'; injection hg' with hg'
      subst hg'
      have hbu := addAt_bound (l := P.take m) (D := 1000000) HBD.out ⟨hby1, hby2⟩ (by omega) u (List.mem_of_getElem? hym.out)
      have hkl : (P.take m).length ≤ 6 := by simp; omega
      have hO2 := hput (u + by_)
      rw [addAt_succ hpk hym] at hO2
      have hT2 := hid (hTm.out.set_ (by omega) n (.int .i64 (u + by_)))
      obtain ⟨q0, q1, q2, q3⟩ := (Q3.out.touch hTm.out (by omega)).cells4
      have hn' : (n : Int) < (x.length : Int) := by omega
      have hn0 : (0 : Int) ≤ (n : Int) := by omega
      have hub1 : -1000006000000 ≤ u := by omega
      have hub2 : u ≤ 1000006000000 := by omega
      clear hput q0 q1 q2 hlen hgB' hbu hkl hym
      go_wp2
      exact ⟨⟨m + 1, by omega, by go_num, hO2, hT2⟩, by simp [intOf]; omega⟩
    · have him : ¬ (m : Int) < (P.length : Int) := by omega
      have he := hom.out
      rw [List.take_of_length_le (show P.length ≤ m by omega)] at he
      have O4 := hid he
      have T4 := hTm
      have hyl : (addAt by_ x P).length = x.length := addAt_length _ _ _
      have HYL := hid hyl
      have hbu : ∀ y ∈ addAt by_ x P, W64 y := fun y hy => by
        have := addAt_bound (l := P) (D := 1000000) HBD.out ⟨hby1, hby2⟩ (by omega) y hy
        exact w64_of_bounds (by omega)
      have HBU := hid hbu
      obtain ⟨q0, q1, q2, q3⟩ := (Q3.out.touch hTm.out (by omega)).cells4
      have R4 := hid (R3.out.touch hTm.out (by omega))
      have S4 : Hid (Below w.heap.size w wr) := S3.out.trans ((hTm.out.below O3.out).mono (by omega))
      clear he hyl hbu
      go_wp2_with fail
      refine (ifCells_any wd dp s _ x.length c1 (addAt by_ x P) _ h0 h1 h2 HYL.out O4.out.rd hn HBU.out).mono ?_
      rintro e w4 ⟨b0, b1, b2, A', n', c', t, rfl, hG, hb⟩
      have S5 := hid (S4.out.trans (hb.mono S4.out.size))
      have O5 := hid (O4.out.below hb)
      obtain ⟨d0, d1, d2, d3⟩ := (R4.out.below hb).cells4
      have f0 := (R4.out.below hb).frozen 0
      have f1 := (R4.out.below hb).frozen 1
      have f2 := (R4.out.below hb).frozen 2
      have f3 := (R4.out.below hb).frozen 3
      clear hb q0 q1 q2 q3
      go_wp2
      have hPP := HPe.out
      clear HPe
      subst hPP
      refine bodyPost_ret (v := .tuple #[.agg #[.int .i64 b0, .int .i64 b1, .int .i64 b2, .slice A' n' c'], .bool t]) (by simp [results, Try.results28, go_sem, d0, d1, d2, d3]) rfl (retCl_give hG.out ?_ HYL.out hn ?_)
      · exact ((((O5.out.setFar (by simp <;> omega) _).setFar (by simp <;> omega) _).setFar (by simp <;> omega) _).setFar (by simp <;> omega) _).mono (by omega)
      · exact (((S5.out.setCell (by simp <;> omega) _).setCell (by simp <;> omega) _).setCell (by simp <;> omega) _).setCell (by simp <;> omega) _
end Go.Proofs.Ytmafkkpdcajfoaa
