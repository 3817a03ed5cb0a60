/-
  A finger taken out, and looked for: reference and program, by contracts. Printed by gen_outfinger.py.
-/
import Derived.Test.YtnngepnfljkbhaaOutFinger
namespace Go.Proofs.Ytnngepnfljkbhaa
open Go.RowKit
set_option linter.unusedVariables false
set_option linter.unusedSimpArgs false

/-- It hands back a salt and cells of its own, and whether it could. -/
def RetFg (w : World) (p : (Int × List Int) × Bool) (e : Ending) (w' : World) : Prop := ∃ A c,
  e = .returned (.tuple #[.agg #[.int .i64 p.1.1, .slice A p.1.2.length c], .bool p.2]) ∧ OwnS (Value.int .i64) w' w.heap.size 2 A p.1.2 ∧ p.1.2.length ≤ 1048576 ∧ Below w.heap.size w w'
theorem retFg_no {w : World} : ∀ (e : Ending) (w' : World), (e = .returned (.tuple #[.agg #[.int .i64 0, .slice none 0 0], .bool false]) ∧ Below w.heap.size w w') → RetFg w ((0, []), false) e w' :=
  fun e w' ⟨he, hb⟩ => ⟨none, 0, he, OwnS.nil, by simp, hb⟩
/-- Where the finger of a key lies. -/
def placeF (s : Nat) (x : List Int) (key : Nat) : Option Int := findAt x (fingerN key s) (houseL (houseN key s x.length) ++ houseL (otherN (fingerN key s) (houseN key s x.length) s x.length))
/-- What comes back. -/
def outF (s : Int) (x : List Int) (o : Option Int) : (Int × List Int) × Bool := match o with | some p => ((s, x.set p.toNat 0), true) | none => ((0, []), false)
/-- What OutFinger returns. -/
def pOutFinger (s : Int) (x : List Int) (key : Int) : (Int × List Int) × Bool :=
  if (vFingers s x && inB key 0 4294967295) = true then outF s x (placeF s.toNat x key.toNat) else ((0, []), false)
theorem pOutFinger_no {s : Int} {x : List Int} {key : Int} (h : (vFingers s x && inB key 0 4294967295) = false) : pOutFinger s x key = ((0, []), false) := by unfold pOutFinger; rw [if_neg (by simp [h])]
theorem below_of_same' {w w' : World} (h : w = w') : Below w.heap.size w w' := by subst h; exact Below.refl _ _
theorem touch_undrew {w w' : World} {l : List (Option Addr × Nat)} (h : TouchAll w.drew w' l) : TouchAll w w' l := ⟨h.os, h.tape, h.output, h.size, h.block⟩

set_option maxRecDepth 100000 in
set_option maxHeartbeats 3200000 in
theorem sOutFinger_any (s : Int) (A : Option Addr) (c : Nat) (x : List Int) (key : Int) (w : World) (hs : W64 s) (hx : RdL (Value.int .i64) w A x) (hn : x.length ≤ 1048576) (we : ∀ y ∈ x, W64 y) (hkey : W64 key) :
    Calls Try.prog 42 #[.agg #[.int .i64 s, .slice A x.length c], .int .i64 key] w (RetFg w (pOutFinger s x key)) := by
  have HX := hid hx
  have WX := hid we
  clear hx we
  have BA0 := hid ((Blk.new w 62 [.int .i64 s, .slice A x.length c]).alloc (.cells #[.int .i64 0, .slice none 0 0] 62))
  have R0 := hid (Blk.new2 w (.cells #[.int .i64 s, .slice A x.length c] 62) 62 [.int .i64 0, .slice none 0 0])
  obtain ⟨k0, k1⟩ := BA0.out.cells2
  have key_ : ∀ u v : Bool, vFingers s x = u → inB key 0 4294967295 = v → (u && v) = false →
      Calls Try.prog 42 #[.agg #[.int .i64 s, .slice A x.length c], .int .i64 key] w (RetFg w ((0, []), false)) := by
    intro u v hu hv hno
    refine Calls.mono ?_ retFg_no
    cases u
    case' true => cases v
    all_goals
      first
      | (exfalso; revert hno; decide)
      | (go_enter Try.func42, Try.ntmps42
         go_wp2_with fail
         refine (l04Fingers_any w.heap.size 0 c A s x _ k0 k1 (HX.out.below (below_a2 _ _ _)) hn).mono ?_
         rw [hu]
         rintro e w1 ⟨rfl, hww⟩
         have hb := below_of_same' hww
         clear hww
         obtain ⟨d0, d1⟩ := (R0.out.below hb).cells2
         have f0 := (R0.out.below hb).frozen 0
         have f1 := (R0.out.below hb).frozen 1
         have S1 := below_call (below_a2 _ _ _) hb
         clear hb k0 k1 BA0 R0 hu hno
         go_wp2_with ((go_at_call 96; refine (l02Key_any _ _).mono ?_; rintro e w' ⟨rfl, rfl⟩))
         refine bodyPost_ret (v := .tuple #[.agg #[.int .i64 0, .slice none 0 0], .bool false]) (by simp [results, Try.results42, go_sem, d0, d1]) rfl ⟨rfl, ?_⟩
         exact (S1.out.setCell (by simp <;> omega) _).setCell (by simp <;> omega) _)
  cases hgo : (vFingers s x && inB key 0 4294967295) with
  | false =>
    rw [pOutFinger_no hgo]
    exact key_ _ _ rfl rfl hgo
  | true =>
  have hgo' := hgo
  simp only [Bool.and_eq_true] at hgo
  obtain ⟨hv, hk⟩ := hgo
  obtain ⟨⟨hs1, hs2⟩, ⟨hpw, hn1, hn2⟩, hbd⟩ := vFingers_iff hv
  obtain ⟨hk1, hk2⟩ := inB_iff.1 hk
  obtain ⟨s, rfl⟩ := Int.eq_ofNat_of_zero_le hs1
  obtain ⟨key, rfl⟩ := Int.eq_ofNat_of_zero_le hk1
  obtain ⟨pf, hpfe⟩ : ∃ pf, pf = placeF s x key := ⟨_, rfl⟩
  have hp : pOutFinger (s : Int) x key = outF s x pf := by
    unfold pOutFinger; rw [if_pos hgo', Int.toNat_natCast, Int.toNat_natCast, hpfe]
  have hlp : 0 < x.length := by omega
  have hfg := fingerN_le key s
  have hhl := houseN_lt (key := key) (s := s) hn1
  obtain ⟨fg, hfe⟩ : ∃ fg, fg = fingerN key s := ⟨_, rfl⟩
  obtain ⟨hs_, hhe⟩ : ∃ h, h = houseN key s x.length := ⟨_, rfl⟩
  rw [← hfe] at hfg
  rw [← hhe] at hhl
  have hpf' : pf = findAt x fg (houseL hs_ ++ houseL (otherN fg hs_ s x.length)) := by rw [hpfe, hfe, hhe]; rfl
  have HFE := hid hfe
  have HHE := hid hhe
  have HPW := hid hpw
  have HPF := hid hpf'
  have HP := hid hp
  have HV := hid hv
  clear hfe hhe hpw hbd hpfe hpf' hp hgo' hv key_
  go_enter Try.func42, Try.ntmps42
  go_wp2_with fail
  refine (l04Fingers_any w.heap.size 0 c A s x _ k0 k1 (HX.out.below (below_a2 _ _ _)) hn).mono ?_
  rw [HV.out]
  rintro e w1 ⟨rfl, hww⟩
  have hb := below_of_same' hww
  clear hww
  have BA1 := hid (BA0.out.below hb)
  have BR1 := hid (R0.out.below hb)
  have S1 := below_call (below_a2 _ _ _) hb
  have hl1 : w.heap.size + 2 ≤ w1.heap.size := by have := hb.size; simp at this; omega
  clear hb k0 k1 BA0 R0
  obtain ⟨k0, k1⟩ := BA1.out.cells2
  go_wp2_with ((go_at_call 96; refine (l02Key_any _ _).mono ?_; rintro e w' ⟨rfl, rfl⟩))
  clear hk
  refine (l04OwnFingers_any w.heap.size c A s x _ k0 k1 (HX.out.below S1.out) hlp hn).mono ?_
  rintro e w3 ⟨A1, c1, rfl, ho, hb⟩
  clear k0 k1
  have ho' : OwnS (Value.int .i64) w3 w1.heap.size 2 A1 x := ho
  obtain ⟨g, ex, rfl, hgB, hgb⟩ := ho' (by rintro rfl; simp at hlp)
  have hgl := hgb.lt
  have hl3 := hb.size
  obtain ⟨wq, hwc⟩ : ∃ wq, wq = w3.alloc (.cells #[.int .i64 s, .slice (some ⟨g, 0, none⟩) x.length c1] 62) := ⟨_, rfl⟩
  obtain ⟨q, hq⟩ : ∃ q, q = w3.heap.size := ⟨_, rfl⟩
  have HQ : Hid (Blk wq q 62 [.int .i64 s, .slice (some ⟨g, 0, none⟩) x.length c1]) := by rw [hwc, hq]; exact Blk.new _ _ _
  have HO : Hid (OwnS (Value.int .i64) wq w1.heap.size 2 (some ⟨g, 0, none⟩) x) := by rw [hwc]; exact ho'.below (below_a1 _ _)
  have HB : Hid (Below w1.heap.size w1 wq) := by rw [hwc]; exact hb.alloc hl3 _
  have hgq : g ≠ q := by omega
  have hq1_ : w1.heap.size ≤ q := by omega
  have BR2 := hid (BR1.out.below HB.out)
  have S2 := hid (S1.out.trans (HB.out.mono (by omega)))
  have hsz : w.heap.size ≤ wq.heap.size := by have := HB.out.size; omega
  have hszq : w1.heap.size ≤ wq.heap.size := HB.out.size
  obtain ⟨k0, k1⟩ := HQ.out.cells2
  clear hgb hb ho ho'
  go_wp2_with fail
  rw [← hwc, ← hq]
  clear hwc hq
  refine (l04Finger_any q s x.length c1 key _ _ k0 k1 (by omega) (by omega) hn2).mono ?_
  rw [← HFE.out, ← HHE.out]
  rintro e w5 ⟨rfl, m, rfl⟩
  clear k0 k1
  go_wp2_with fail
  refine (l04Find_any q s c1 fg hs_ fg _ x _ (HQ.out.drewN m) (HO.out.rd.drewN m) (by omega) (by omega) HPW.out hn1 hn2 hhl).mono ?_
  rw [← HPF.out]
  rintro e w6 ⟨rfl, hb⟩
  have HQ6 := hid ((HQ.out.drewN m).below hb)
  have HO6 := hid ((show OwnS (Value.int .i64) (wq.drewN m) w1.heap.size 2 (some ⟨g, 0, none⟩) x from HO.out).below hb)
  have BR6 := hid ((BR2.out.drewN m).below hb)
  have S6 := hid (S2.out.trans ((below_undrew hb).mono hsz))
  have hsz6 : w.heap.size + 2 ≤ w6.heap.size := by have := hb.size; simp at this; omega
  clear hb
  obtain ⟨d0, d1⟩ := BR6.out.cells2
  have f0 := BR6.out.frozen 0
  have f1 := BR6.out.frozen 1
  obtain ⟨q0, q1⟩ := HQ6.out.cells2
  cases hpf : pf with
  | none =>
    have hp : pOutFinger s x key = ((0, []), false) := by rw [HP.out, hpf]; rfl
    have HPP := hid hp
    subst hpf
    simp only [Option.getD_none]
    clear hp
    go_wp2
    refine bodyPost_ret (v := .tuple #[.agg #[.int .i64 0, .slice none 0 0], .bool false]) (by simp [results, Try.results42, go_sem, d0, d1]) rfl ?_
    rw [HPP.out]
    refine retFg_no _ _ ⟨rfl, ?_⟩
    exact (S6.out.setCell (by simp <;> omega) _).setCell (by simp <;> omega) _
  | some p =>
    obtain ⟨hmm, _⟩ := findAt_some (by rw [← HPF.out, hpf] : findAt x fg _ = some p)
    obtain ⟨n, rfl, hnx⟩ : ∃ n : Nat, p = n ∧ n < x.length := by
      rw [List.mem_append] at hmm
      rcases hmm with hmm | hmm
      · exact houseL_mem hhl p hmm
      · exact houseL_mem (otherN_lt HPW.out hhl hn2) p hmm
    have hp : pOutFinger (s : Int) x key = (((s : Int), x.set n 0), true) := by rw [HP.out, hpf]; rfl
    have HPP := hid hp
    subst hpf
    simp only [Option.getD_some]
    clear hp hmm
    obtain ⟨g', u, hg', hgB', hcg, hfg6, hxu, hput⟩ := HO6.out.put hnx
    injection hg' with hg'; injection hg' with hg'
    subst hg'
    have hO7 := hput 0
    have TT := hid ((Touch.refl (w := w6) (A := some ⟨g, 0, none⟩) (n := x.length)).set_ (by omega) n (.int .i64 0))
    have HZL : Hid ((x.set n 0).length = x.length) := by show _ = _; simp
    have hi1 : (n : Int) < (x.length : Int) := by omega
    have hi0 : (0 : Int) ≤ (n : Int) := by omega
    have BR7 := hid (BR6.out.touch TT.out (by omega))
    have S7 := hid (S6.out.trans ((TT.out.below HO6.out).mono (by omega)))
    have n1 : g ≠ q := hgq
    have n1' := Ne.symm n1
    have n2 : g ≠ w.heap.size + 1 := by omega
    have n2' := Ne.symm n2
    clear hput hgB' hxu
    go_wp2
    refine bodyPost_ret (v := .tuple #[.agg #[.int .i64 s, .slice (some ⟨g, 0, none⟩) x.length c1], .bool true]) (by simp [results, Try.results42, go_sem, d0, d1]) rfl ?_
    rw [HPP.out]
    refine ⟨some ⟨g, 0, none⟩, c1, by show Ending.returned _ = Ending.returned _; rw [HZL.out], ?_, by show (x.set n 0).length ≤ 1048576; rw [HZL.out]; omega, ?_⟩
    · exact ((hO7.out.setFar (by simp <;> omega) _).setFar (by simp <;> omega) _).mono (by omega)
    · exact (S7.out.setCell (by simp <;> omega) _).setCell (by simp <;> omega) _

set_option maxRecDepth 100000 in
set_option maxHeartbeats 3200000 in
theorem iOutFinger_any (s : Int) (A : Option Addr) (c : Nat) (x : List Int) (key : Int) (w : World) (hs : W64 s) (hx : RdL (Value.int .i64) w A x) (hn : x.length ≤ 1048576) (we : ∀ y ∈ x, W64 y) (hkey : W64 key) :
    Calls Try.prog 44 #[.agg #[.int .i64 s, .slice A x.length c], .int .i64 key] w (RetFg w (pOutFinger s x key)) := by
  have HX := hid hx
  have WX := hid we
  clear hx we
  have BA0 := hid ((Blk.new w 62 [.int .i64 s, .slice A x.length c]).alloc (.cells #[.int .i64 0, .slice none 0 0] 62))
  have R0 := hid (Blk.new2 w (.cells #[.int .i64 s, .slice A x.length c] 62) 62 [.int .i64 0, .slice none 0 0])
  obtain ⟨k0, k1⟩ := BA0.out.cells2
  have key_ : ∀ u v : Bool, vFingers s x = u → inB key 0 4294967295 = v → (u && v) = false →
      Calls Try.prog 44 #[.agg #[.int .i64 s, .slice A x.length c], .int .i64 key] w (RetFg w ((0, []), false)) := by
    intro u v hu hv hno
    refine Calls.mono ?_ retFg_no
    cases u
    case' true => cases v
    all_goals
      first
      | (exfalso; revert hno; decide)
      | (go_enter Try.func44, Try.ntmps44
         go_wp2_with fail
         refine (iValidFingers_any s A c x _ hs (HX.out.below (below_a2 _ _ _)) hn WX.out).mono ?_
         rw [hu]
         rintro e w1 ⟨rfl, hb⟩
         obtain ⟨d0, d1⟩ := (R0.out.below hb).cells2
         have f0 := (R0.out.below hb).frozen 0
         have f1 := (R0.out.below hb).frozen 1
         have S1 := below_call (below_a2 _ _ _) hb
         clear hb k0 k1 BA0 R0 hu hno
         go_wp2_with ((go_at_call 89; refine (IsKey_any _ _).mono ?_; rintro e w' ⟨rfl, rfl⟩))
         refine bodyPost_ret (v := .tuple #[.agg #[.int .i64 0, .slice none 0 0], .bool false]) (by simp [results, Try.results44, go_sem, d0, d1]) rfl ⟨rfl, ?_⟩
         exact (S1.out.setCell (by simp <;> omega) _).setCell (by simp <;> omega) _)
  cases hgo : (vFingers s x && inB key 0 4294967295) with
  | false =>
    rw [pOutFinger_no hgo]
    exact key_ _ _ rfl rfl hgo
  | true =>
  have hgo' := hgo
  simp only [Bool.and_eq_true] at hgo
  obtain ⟨hv, hk⟩ := hgo
  obtain ⟨⟨hs1, hs2⟩, ⟨hpw, hn1, hn2⟩, hbd⟩ := vFingers_iff hv
  obtain ⟨hk1, hk2⟩ := inB_iff.1 hk
  obtain ⟨s, rfl⟩ := Int.eq_ofNat_of_zero_le hs1
  obtain ⟨key, rfl⟩ := Int.eq_ofNat_of_zero_le hk1
  obtain ⟨pf, hpfe⟩ : ∃ pf, pf = placeF s x key := ⟨_, rfl⟩
  have hp : pOutFinger (s : Int) x key = outF s x pf := by
    unfold pOutFinger; rw [if_pos hgo', Int.toNat_natCast, Int.toNat_natCast, hpfe]
  have hlp : 0 < x.length := by omega
  have hfg := fingerN_le key s
  have hhl := houseN_lt (key := key) (s := s) hn1
  obtain ⟨fg, hfe⟩ : ∃ fg, fg = fingerN key s := ⟨_, rfl⟩
  obtain ⟨hs_, hhe⟩ : ∃ h, h = houseN key s x.length := ⟨_, rfl⟩
  rw [← hfe] at hfg
  rw [← hhe] at hhl
  have hpf' : pf = findAt x fg (houseL hs_ ++ houseL (otherN fg hs_ s x.length)) := by rw [hpfe, hfe, hhe]; rfl
  have HFE := hid hfe
  have HHE := hid hhe
  have HPW := hid hpw
  have HPF := hid hpf'
  have HP := hid hp
  have HV := hid hv
  clear hfe hhe hpw hbd hpfe hpf' hp hgo' hv key_
  go_enter Try.func44, Try.ntmps44
  go_wp2_with fail
  refine (iValidFingers_any s A c x _ hs (HX.out.below (below_a2 _ _ _)) hn WX.out).mono ?_
  rw [HV.out]
  rintro e w1 ⟨rfl, hb⟩
  have BA1 := hid (BA0.out.below hb)
  have BR1 := hid (R0.out.below hb)
  have S1 := below_call (below_a2 _ _ _) hb
  have hl1 : w.heap.size + 2 ≤ w1.heap.size := by have := hb.size; simp at this; omega
  clear hb k0 k1 BA0 R0
  obtain ⟨k0, k1⟩ := BA1.out.cells2
  go_wp2_with ((go_at_call 89; refine (IsKey_any _ _).mono ?_; rintro e w' ⟨rfl, rfl⟩))
  clear hk
  refine (copyFingers_any s A c x _ (HX.out.below S1.out) hn).mono ?_
  rintro e w3 ⟨A1, c1, rfl, ho, hb⟩
  clear k0 k1
  have ho' : OwnS (Value.int .i64) w3 w1.heap.size 2 A1 x := ho
  obtain ⟨g, ex, rfl, hgB, hgb⟩ := ho' (by rintro rfl; simp at hlp)
  have hgl := hgb.lt
  have hl3 := hb.size
  obtain ⟨wq, hwc⟩ : ∃ wq, wq = w3.alloc (.cells #[.int .i64 s, .slice (some ⟨g, 0, none⟩) x.length c1] 62) := ⟨_, rfl⟩
  obtain ⟨q, hq⟩ : ∃ q, q = w3.heap.size := ⟨_, rfl⟩
  have HQ : Hid (Blk wq q 62 [.int .i64 s, .slice (some ⟨g, 0, none⟩) x.length c1]) := by rw [hwc, hq]; exact Blk.new _ _ _
  have HO : Hid (OwnS (Value.int .i64) wq w1.heap.size 2 (some ⟨g, 0, none⟩) x) := by rw [hwc]; exact ho'.below (below_a1 _ _)
  have HB : Hid (Below w1.heap.size w1 wq) := by rw [hwc]; exact hb.alloc hl3 _
  have hgq : g ≠ q := by omega
  have hq1_ : w1.heap.size ≤ q := by omega
  have BR2 := hid (BR1.out.below HB.out)
  have S2 := hid (S1.out.trans (HB.out.mono (by omega)))
  have hsz : w.heap.size ≤ wq.heap.size := by have := HB.out.size; omega
  have hszq : w1.heap.size ≤ wq.heap.size := HB.out.size
  obtain ⟨k0, k1⟩ := HQ.out.cells2
  clear hgb hb ho ho'
  go_wp2_with fail
  rw [← hwc, ← hq]
  clear hwc hq
  refine (ifinger_any s x.length c1 key _ _ (by omega) (by omega) hn2).mono ?_
  rw [← HFE.out, ← HHE.out]
  rintro e w5 ⟨rfl, hb⟩
  clear k0 k1
  have HQ5 := hid (HQ.out.below hb)
  have HO5 := hid (HO.out.below hb)
  have BR5 := hid (BR2.out.below hb)
  have S5 := hid (S2.out.trans (hb.mono hsz))
  have hsz5 : w.heap.size + 2 ≤ w5.heap.size := by have := hb.size; omega
  clear hb
  have hgB := hgB
  obtain ⟨q0, q1⟩ := HQ5.out.cells2
  go_wp2
  have tok1 : True := trivial
  cases hf1 : findAt x fg (houseL hs_) with
  | some p =>
    obtain ⟨hmm, _⟩ := findAt_some hf1
    obtain ⟨n, rfl, hnx⟩ := houseL_mem hhl p hmm
    have hp : pOutFinger (s : Int) x key = (((s : Int), x.set n 0), true) := by rw [HP.out, HPF.out, findAt_append, hf1]; rfl
    have HPP := hid hp
    have hq1 : (findAt x fg (houseL hs_)).isSome = true := by rw [hf1]; rfl
    have HC := hid (chgAt_some (u := 0) hf1)
    have HZL : Hid ((x.set n 0).length = x.length) := by show _ = _; simp
    clear hf1 hp hmm
    refine wp_region_noPanic ?_
    refine wp_region_held_drew (S := fun w' => w'.cell? ⟨q, 0, none⟩ = some (.int .i64 s) ∧ w'.cell? ⟨q, 1, none⟩ = some (.slice (some ⟨g, 0, none⟩) x.length c1)) (by kernel_rfl) ⟨q0, q1⟩ (fun hHeld => ?_)
    refine wpAnyH_take (i := 0) (v := ?_) rfl (by kernel_rfl) (by kernel_rfl) (by kernel_rfl) (fun _ _ _ h => h) (Or.inl ⟨by rfl, ?_⟩) (by assumption) ?_
    rotate_left
    · intro w hSw
      (try dsimp only at hSw)
      go_simp
      all_goals with_reducible rfl
    try simp only [Act.put, List.setIfInBounds_toArray, List.set_cons_zero, List.set_cons_succ, List.getElem_toArray, List.getElem_cons_succ, List.getElem_cons_zero]
    refine wpAnyH_take (i := 1) (v := ?_) rfl (by kernel_rfl) (by kernel_rfl) (by kernel_rfl) (fun _ _ _ h => h) (Or.inl ⟨by rfl, ?_⟩) (by assumption) ?_
    rotate_left
    · intro w hSw
      (try dsimp only at hSw)
      go_simp
      all_goals with_reducible rfl
    try simp only [Act.put, List.setIfInBounds_toArray, List.set_cons_zero, List.set_cons_succ, List.getElem_toArray, List.getElem_cons_succ, List.getElem_cons_zero]
    refine wpAnyH_take (i := 2) (v := ?_) rfl (by kernel_rfl) (by kernel_rfl) (by kernel_rfl) (fun _ _ _ h => h) (Or.inl ⟨by rfl, ?_⟩) (by assumption) ?_
    rotate_left
    · intro w hSw
      (try dsimp only at hSw)
      go_simp
      all_goals with_reducible rfl
    try simp only [Act.put, List.setIfInBounds_toArray, List.set_cons_zero, List.set_cons_succ, List.getElem_toArray, List.getElem_cons_succ, List.getElem_cons_zero]
    refine wpAnyH_ready (rs := [3]) (by kernel_rfl) (by simp) ?_
    refine AllReadyH.cons rfl (fun K hK => ?_) AllReadyH.nil
    rw [if_pos (by rfl)]
    simp only [List.getElem_toArray, List.getElem_cons_succ, List.getElem_cons_zero]
    go_simp
    (go_at_call 103
     have _t := tok1
     refine (change_any s g c1 w1.heap.size hs_ x fg 0 _ (show OwnS (Value.int .i64) w5.drew w1.heap.size 2 (some ⟨g, 0, none⟩) x from HO5.out) hn1 hn2 hhl).mono ?_
     rw [hq1]
     rintro e w6 ⟨rfl, hO6, hT6⟩
     have HQ6 := hid (HQ5.out.touchAll (touch_undrew hT6) (by intro p hp; simp at hp; subst hp; exact .inr fun o e => by injection e with e; injection e with e; omega))
     have HR6 := hid (BR5.out.touchAll (touch_undrew hT6) (by intro p hp; simp at hp; subst hp; exact .inr fun o e => by injection e with e; injection e with e; omega))
     have HO6 := hid hO6
     have S6 := hid (S5.out.trans ((touch_undrew hT6).below1 (B := w.heap.size) (by omega) (by omega)))
     have hsz6 : w5.heap.size ≤ w6.heap.size := (touch_undrew hT6).size
     have hS := HQ6.out.cells2
     clear hO6 hT6 tok1)
    go_wp2_with fail
    refine hK.out _ _ hS (fun hHeld => ?_)
    clear hK K
    try simp only [Act.put, List.setIfInBounds_toArray, List.set_cons_zero, List.set_cons_succ, List.getElem_toArray, List.getElem_cons_succ, List.getElem_cons_zero]
    refine wpAnyH_take (i := 4) (v := ?_) rfl (by kernel_rfl) (by kernel_rfl) (by kernel_rfl) (fun _ _ _ h => h) (Or.inl ⟨by rfl, ?_⟩) (by assumption) ?_
    rotate_left
    · intro w hSw
      (try dsimp only at hSw)
      go_simp
      all_goals with_reducible rfl
    try simp only [Act.put, List.setIfInBounds_toArray, List.set_cons_zero, List.set_cons_succ, List.getElem_toArray, List.getElem_cons_succ, List.getElem_cons_zero]
    refine wpAnyH_take (i := 5) (v := undef) rfl (by kernel_rfl) (by kernel_rfl) (by kernel_rfl) (fun _ _ _ h => h) (Or.inr ⟨by rfl, rfl⟩) (by assumption) ?_
    try simp only [Act.put, List.setIfInBounds_toArray, List.set_cons_zero, List.set_cons_succ, List.getElem_toArray, List.getElem_cons_succ, List.getElem_cons_zero]
    refine wpAnyH_take (i := 6) (v := undef) rfl (by kernel_rfl) (by kernel_rfl) (by kernel_rfl) (fun _ _ _ h => h) (Or.inr ⟨by rfl, rfl⟩) (by assumption) ?_
    try simp only [Act.put, List.setIfInBounds_toArray, List.set_cons_zero, List.set_cons_succ, List.getElem_toArray, List.getElem_cons_succ, List.getElem_cons_zero]
    refine wpAnyH_take (i := 7) (v := undef) rfl (by kernel_rfl) (by kernel_rfl) (by kernel_rfl) (fun _ _ _ h => h) (Or.inr ⟨by rfl, rfl⟩) (by assumption) ?_
    try simp only [Act.put, List.setIfInBounds_toArray, List.set_cons_zero, List.set_cons_succ, List.getElem_toArray, List.getElem_cons_succ, List.getElem_cons_zero]
    refine wpAnyH_take (i := 8) (v := undef) rfl (by kernel_rfl) (by kernel_rfl) (by kernel_rfl) (fun _ _ _ h => h) (Or.inr ⟨by rfl, rfl⟩) (by assumption) ?_
    try simp only [Act.put, List.setIfInBounds_toArray, List.set_cons_zero, List.set_cons_succ, List.getElem_toArray, List.getElem_cons_succ, List.getElem_cons_zero]
    refine wpAnyH_take (i := 9) (v := undef) rfl (by kernel_rfl) (by kernel_rfl) (by kernel_rfl) (fun _ _ _ h => h) (Or.inr ⟨by rfl, rfl⟩) (by assumption) ?_
    try simp only [Act.put, List.setIfInBounds_toArray, List.set_cons_zero, List.set_cons_succ, List.getElem_toArray, List.getElem_cons_succ, List.getElem_cons_zero]
    refine wpAnyH_take (i := 10) (v := undef) rfl (by kernel_rfl) (by kernel_rfl) (by kernel_rfl) (fun _ _ _ h => h) (Or.inr ⟨by rfl, rfl⟩) (by assumption) ?_
    try simp only [Act.put, List.setIfInBounds_toArray, List.set_cons_zero, List.set_cons_succ, List.getElem_toArray, List.getElem_cons_succ, List.getElem_cons_zero]
    refine wpAnyH_take (i := 11) (v := undef) rfl (by kernel_rfl) (by kernel_rfl) (by kernel_rfl) (fun _ _ _ h => h) (Or.inr ⟨by rfl, rfl⟩) (by assumption) ?_
    try simp only [Act.put, List.setIfInBounds_toArray, List.set_cons_zero, List.set_cons_succ, List.getElem_toArray, List.getElem_cons_succ, List.getElem_cons_zero]
    refine wpAnyH_take (i := 12) (v := ?_) rfl (by kernel_rfl) (by kernel_rfl) (by kernel_rfl) (fun _ _ _ h => h) (Or.inl ⟨by rfl, ?_⟩) (by assumption) ?_
    rotate_left
    · intro w hSw
      (try dsimp only at hSw)
      go_simp
      all_goals with_reducible rfl
    try simp only [Act.put, List.setIfInBounds_toArray, List.set_cons_zero, List.set_cons_succ, List.getElem_toArray, List.getElem_cons_succ, List.getElem_cons_zero]
    refine wpAnyH_done (by kernel_rfl) ?_ _
    refine NoPanic.normal ?_
    all_goals
      obtain ⟨d0, d1⟩ := HR6.out.cells2
      have f0 := HR6.out.frozen 0
      have f1 := HR6.out.frozen 1
      obtain ⟨qq0, qq1⟩ := HQ6.out.cells2
      go_wp2
      refine bodyPost_ret (v := .tuple #[.agg #[.int .i64 s, .slice (some ⟨g, 0, none⟩) x.length c1], .bool true]) (by simp [results, Try.results44, go_sem, d0, d1]) rfl ?_
      rw [HPP.out]
      refine ⟨some ⟨g, 0, none⟩, c1, by show Ending.returned _ = Ending.returned _; rw [HZL.out], ?_, by show (x.set n 0).length ≤ 1048576; rw [HZL.out]; omega, ?_⟩
      · exact (((show OwnS (Value.int .i64) w6 w1.heap.size 2 (some ⟨g, 0, none⟩) (x.set n 0) by have := HO6.out; rw [HC.out] at this; exact this).setFar (by simp <;> omega) _).setFar (by simp <;> omega) _).mono (by omega)
      · exact (S6.out.setCell (by simp <;> omega) _).setCell (by simp <;> omega) _
  | none =>
    have tok2 : True := trivial
    have tok3 : True := trivial
    have hq1 : (findAt x fg (houseL hs_)).isSome = false := by rw [hf1]; rfl
    have HC := hid (chgAt_none (u := 0) hf1)
    have hoL := otherN_lt (finger := fg) (s := s) HPW.out hhl hn2
    obtain ⟨o, hoe⟩ : ∃ o, o = otherN fg hs_ s x.length := ⟨_, rfl⟩
    have HOE := hid hoe
    rw [← hoe] at hoL
    have HPF2 : Hid (pf = findAt x fg (houseL o)) := by show _ = _; rw [HPF.out, findAt_append, hf1, hoe]; rfl
    have hpq : (findAt x fg (houseL o)).isSome = pf.isSome := by rw [HPF2.out]
    have HPQ := hid hpq
    clear hf1 hoe hpq
    cases hpf : pf with
    | none =>
      have hp : pOutFinger s x key = ((0, []), false) := by rw [HP.out, hpf]; rfl
      have HPP := hid hp
      rw [hpf] at HPQ
      have hq3 : Hid ((findAt x fg (houseL o)).isSome = false) := HPQ.out
      clear hp hpf
      (first
          | go_region_held3 (fun w' => w'.cell? ⟨q, 0, none⟩ = some (.int .i64 s) ∧ w'.cell? ⟨q, 1, none⟩ = some (.slice (some ⟨g, 0, none⟩) x.length c1)) (first | go_keep | exact hS | (refine ⟨?_, ?_⟩ <;> go_keep))
        (first
          | (go_at_call 103
             have _t := tok1
             refine (change_any s g c1 w1.heap.size hs_ x fg 0 _ (show OwnS (Value.int .i64) w5.drew w1.heap.size 2 (some ⟨g, 0, none⟩) x from HO5.out) hn1 hn2 hhl).mono ?_
             rw [hq1, HC.out]
             rintro e w6 ⟨rfl, hO6, hT6⟩
             have HQ6 := hid (HQ5.out.touchAll (touch_undrew hT6) (by intro p hp; simp at hp; subst hp; exact .inr fun o e => by injection e with e; injection e with e; omega))
             have HR6 := hid (BR5.out.touchAll (touch_undrew hT6) (by intro p hp; simp at hp; subst hp; exact .inr fun o e => by injection e with e; injection e with e; omega))
             have HO6 := hid hO6
             have S6 := hid (S5.out.trans ((touch_undrew hT6).below1 (B := w.heap.size) (by omega) (by omega)))
             have hsz6 : w5.heap.size ≤ w6.heap.size := (touch_undrew hT6).size
             have hS := HQ6.out.cells2
             clear hO6 hT6 tok1)
          | (go_at_call 104
             have _t := tok2
             refine (iother_any s x.length c1 fg hs_ _ _ (by omega) (by omega) hn1 hn2 (by omega)).mono ?_
             rw [← HOE.out]
             rintro e w7 ⟨rfl, hb7⟩
             have HQ7 := hid (HQ6.out.below hb7)
             have HR7 := hid (HR6.out.below hb7)
             have HO7 := hid (HO6.out.below hb7)
             have hsz7 : w6.heap.size ≤ w7.heap.size := hb7.size
             have S7 := hid (S6.out.trans (hb7.mono (by omega)))
             have hS := HQ7.out.cells2
             clear hb7 tok2)
          | (go_at_call 103
             have _t := tok3
             refine (change_any s g c1 w1.heap.size o x fg 0 _ HO7.out hn1 hn2 hoL).mono ?_
             rw [hq3.out]
             rintro e w8 ⟨rfl, hO8, hT8⟩
             have HQ8 := hid (HQ7.out.touchAll hT8 (by intro p hp; simp at hp; subst hp; exact .inr fun o e => by injection e with e; injection e with e; omega))
             have HR8 := hid (HR7.out.touchAll hT8 (by intro p hp; simp at hp; subst hp; exact .inr fun o e => by injection e with e; injection e with e; omega))
             have HO8 := hid hO8
             have S8 := hid (S7.out.trans (hT8.below1 (B := w.heap.size) (by omega) (by omega)))
             have hsz8 : w7.heap.size ≤ w8.heap.size := hT8.size
             have hS := HQ8.out.cells2
             clear hO8 hT8 tok3))
          | fail)
      all_goals
        obtain ⟨d0, d1⟩ := HR8.out.cells2
        have f0 := HR8.out.frozen 0
        have f1 := HR8.out.frozen 1
        go_wp2
        refine bodyPost_ret (v := .tuple #[.agg #[.int .i64 0, .slice none 0 0], .bool false]) (by simp [results, Try.results44, go_sem, d0, d1]) rfl ?_
        rw [HPP.out]
        refine retFg_no _ _ ⟨rfl, ?_⟩
        exact (S8.out.setCell (by simp <;> omega) _).setCell (by simp <;> omega) _
    | some p =>
      obtain ⟨hmm, _⟩ := findAt_some (by rw [← HPF2.out, hpf] : findAt x fg (houseL o) = some p)
      obtain ⟨n, rfl, hnx⟩ := houseL_mem hoL p hmm
      have hp : pOutFinger (s : Int) x key = (((s : Int), x.set n 0), true) := by rw [HP.out, hpf]; rfl
      have HPP := hid hp
      have HC2 : Hid (chgAt x fg 0 (houseL o) = x.set n 0) := by show _ = _; rw [chgAt_some (by rw [← HPF2.out, hpf])]; rfl
      rw [hpf] at HPQ
      have hq3 : Hid ((findAt x fg (houseL o)).isSome = true) := HPQ.out
      have HZL : Hid ((x.set n 0).length = x.length) := by show _ = _; simp
      clear hp hpf hmm
      (first
          | go_region_held3 (fun w' => w'.cell? ⟨q, 0, none⟩ = some (.int .i64 s) ∧ w'.cell? ⟨q, 1, none⟩ = some (.slice (some ⟨g, 0, none⟩) x.length c1)) (first | go_keep | exact hS | (refine ⟨?_, ?_⟩ <;> go_keep))
        (first
          | (go_at_call 103
             have _t := tok1
             refine (change_any s g c1 w1.heap.size hs_ x fg 0 _ (show OwnS (Value.int .i64) w5.drew w1.heap.size 2 (some ⟨g, 0, none⟩) x from HO5.out) hn1 hn2 hhl).mono ?_
             rw [hq1, HC.out]
             rintro e w6 ⟨rfl, hO6, hT6⟩
             have HQ6 := hid (HQ5.out.touchAll (touch_undrew hT6) (by intro p hp; simp at hp; subst hp; exact .inr fun o e => by injection e with e; injection e with e; omega))
             have HR6 := hid (BR5.out.touchAll (touch_undrew hT6) (by intro p hp; simp at hp; subst hp; exact .inr fun o e => by injection e with e; injection e with e; omega))
             have HO6 := hid hO6
             have S6 := hid (S5.out.trans ((touch_undrew hT6).below1 (B := w.heap.size) (by omega) (by omega)))
             have hsz6 : w5.heap.size ≤ w6.heap.size := (touch_undrew hT6).size
             have hS := HQ6.out.cells2
             clear hO6 hT6 tok1)
          | (go_at_call 104
             have _t := tok2
             refine (iother_any s x.length c1 fg hs_ _ _ (by omega) (by omega) hn1 hn2 (by omega)).mono ?_
             rw [← HOE.out]
             rintro e w7 ⟨rfl, hb7⟩
             have HQ7 := hid (HQ6.out.below hb7)
             have HR7 := hid (HR6.out.below hb7)
             have HO7 := hid (HO6.out.below hb7)
             have hsz7 : w6.heap.size ≤ w7.heap.size := hb7.size
             have S7 := hid (S6.out.trans (hb7.mono (by omega)))
             have hS := HQ7.out.cells2
             clear hb7 tok2)
          | (go_at_call 103
             have _t := tok3
             refine (change_any s g c1 w1.heap.size o x fg 0 _ HO7.out hn1 hn2 hoL).mono ?_
             rw [hq3.out]
             rintro e w8 ⟨rfl, hO8, hT8⟩
             have HQ8 := hid (HQ7.out.touchAll hT8 (by intro p hp; simp at hp; subst hp; exact .inr fun o e => by injection e with e; injection e with e; omega))
             have HR8 := hid (HR7.out.touchAll hT8 (by intro p hp; simp at hp; subst hp; exact .inr fun o e => by injection e with e; injection e with e; omega))
             have HO8 := hid hO8
             have S8 := hid (S7.out.trans (hT8.below1 (B := w.heap.size) (by omega) (by omega)))
             have hsz8 : w7.heap.size ≤ w8.heap.size := hT8.size
             have hS := HQ8.out.cells2
             clear hO8 hT8 tok3))
          | fail)
      all_goals
        obtain ⟨d0, d1⟩ := HR8.out.cells2
        have f0 := HR8.out.frozen 0
        have f1 := HR8.out.frozen 1
        obtain ⟨qq0, qq1⟩ := HQ8.out.cells2
        go_wp2
        refine bodyPost_ret (v := .tuple #[.agg #[.int .i64 s, .slice (some ⟨g, 0, none⟩) x.length c1], .bool true]) (by simp [results, Try.results44, go_sem, d0, d1]) rfl ?_
        rw [HPP.out]
        refine ⟨some ⟨g, 0, none⟩, c1, by show Ending.returned _ = Ending.returned _; rw [HZL.out], ?_, by show (x.set n 0).length ≤ 1048576; rw [HZL.out]; omega, ?_⟩
        · exact (((show OwnS (Value.int .i64) w8 w1.heap.size 2 (some ⟨g, 0, none⟩) (x.set n 0) by have := HO8.out; rw [HC2.out] at this; exact this).setFar (by simp <;> omega) _).setFar (by simp <;> omega) _).mono (by omega)
        · exact (S8.out.setCell (by simp <;> omega) _).setCell (by simp <;> omega) _


end Go.Proofs.Ytnngepnfljkbhaa
