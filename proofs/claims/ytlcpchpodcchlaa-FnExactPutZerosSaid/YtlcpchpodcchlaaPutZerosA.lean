/-
  A key put into zeros: reference and program, by contracts. Printed by gen_putzeros.py.
-/
import Derived.Test.YtlcpchpodcchlaaJoinZeros
import Derived.Deep.RegionLaw
import Derived.Deep.RegionHeld3
namespace Go.Proofs.Ytlcpchpodcchlaa
open Go.RowKit
set_option linter.unusedVariables false
set_option linter.unusedSimpArgs false

/-- The cells behind a key. -/
def putZ (lzF : Nat → Nat) (s : Nat) (x : List Int) (key : Nat) : List Int := x.set (belowN key s x.length) (max (x.getD (belowN key s x.length) 0) ((lzF (hashN key (saltN s 1)) : Int) + 1))
/-- What PutZeros returns. -/
def pPutZerosL (lzF : Nat → Nat) (s : Int) (x : List Int) (key : Int) : (Int × List Int) × Bool := if (vZeros s x && inB key 0 4294967295) = true then ((s, putZ lzF s.toNat x key.toNat), true) else ((0, []), false)

theorem idxZ (bn g c1 : Nat) (x : List Int) (w : World) (hi1 : (bn : Int) < (x.length : Int)) (hi0 : (0 : Int) ≤ (bn : Int)) : (Instr.indexAt 22 (.slice (some ⟨g, 0, none⟩) x.length c1) (.int .i64 bn)).run Try.prog w = .ok (.pointer (some ⟨g, bn, none⟩)) w := by
  go_simp
set_option maxRecDepth 100000 in
set_option maxHeartbeats 3200000 in
theorem sPutZeros_of (lzF : Nat → Nat) (hlzF : ∀ x, lzF x ≤ 32) (HC : Hid (∀ (x : Nat) (w : World), x < 4294967296 → Calls Try.prog 114 #[.int .i64 x] w fun e w' => e = .returned (.int .i64 (lzF x)) ∧ w = w')) (s : Int) (A : Option Addr) (c : Nat) (x : List Int) (key : Int) (w : World) (hs : W64 s) (hx : RdL (Value.int .i64) w A x) (hn : x.length ≤ 1048576) (we : ∀ y ∈ x, W64 y) (hkey : W64 key) :
    Calls Try.prog 63 #[.agg #[.int .i64 s, .slice A x.length c], .int .i64 key] w (RetIL w (pPutZerosL lzF s x key)) := by
  have HX := hid hx
  have WX := hid we
  clear hx we
  have BA0 := hid ((Blk.new w 55 [.int .i64 s, .slice A x.length c]).alloc (.cells #[.int .i64 0, .slice none 0 0] 55))
  have R0 := hid (Blk.new2 w (.cells #[.int .i64 s, .slice A x.length c] 55) 55 [.int .i64 0, .slice none 0 0])
  obtain ⟨k0, k1⟩ := BA0.out.cells2
  have key_ : ∀ u v : Bool, vZeros s x = u → inB key 0 4294967295 = v → (u && v) = false →
      Calls Try.prog 63 #[.agg #[.int .i64 s, .slice A x.length c], .int .i64 key] w (RetIL w ((0, []), false)) := by
    intro u v hu hv hno
    refine Calls.mono ?_ retIL_no
    cases u
    case' true => cases v
    all_goals
      first
      | (exfalso; revert hno; decide)
      | (go_enter Try.func63, Try.ntmps63
         go_wp2_with fail
         refine (l04Zeros_any w.heap.size 0 c A s x _ k0 k1 (HX.out.below (below_a2 _ _ _)) hn).mono ?_
         rw [hu]
         rintro e w1 ⟨rfl, hww⟩
         have hb := below_of_same hww
         clear hww
         obtain ⟨d0, d1⟩ := (R0.out.below hb).cells2
         have f0 := (R0.out.below hb).frozen 0
         have f1 := (R0.out.below hb).frozen 1
         have S1 := below_call (below_a2 _ _ _) hb
         clear hb k0 k1 BA0 R0 hu hno
         go_wp2_with ((go_at_call 65; refine (l02Key_any _ _).mono ?_; rintro e w' ⟨rfl, rfl⟩))
         refine bodyPost_ret (v := .tuple #[.agg #[.int .i64 0, .slice none 0 0], .bool false]) (by simp [results, Try.results63, go_sem, d0, d1]) rfl ⟨rfl, ?_⟩
         exact (S1.out.setCell (by simp <;> omega) _).setCell (by simp <;> omega) _)
  cases hgo : (vZeros s x && inB key 0 4294967295) with
  | false =>
    have hp : pPutZerosL lzF s x key = ((0, []), false) := by simp only [pPutZerosL, hgo]; rfl
    rw [hp]
    exact key_ _ _ rfl rfl hgo
  | true =>
  have hp : pPutZerosL lzF s x key = ((s, putZ lzF s.toNat x key.toNat), true) := by simp only [pPutZerosL, hgo]; rfl
  rw [hp]
  simp only [Bool.and_eq_true] at hgo
  obtain ⟨hv, hk⟩ := hgo
  obtain ⟨⟨hs1, hs2⟩, ⟨hn1, hn2⟩, hbd⟩ := vZeros_iff hv
  obtain ⟨hk1, hk2⟩ := inB_iff.1 hk
  obtain ⟨s, rfl⟩ := Int.eq_ofNat_of_zero_le hs1
  obtain ⟨key, rfl⟩ := Int.eq_ofNat_of_zero_le hk1
  simp only [Int.toNat_natCast] at hp ⊢
  have hlp : 0 < x.length := by omega
  have HBD := hid hbd
  have HV := hid hv
  clear hbd hp hv key_
  go_enter Try.func63, Try.ntmps63
  go_wp2_with fail
  refine (l04Zeros_any w.heap.size 0 c A s x _ k0 k1 (HX.out.below (below_a2 _ _ _)) hn).mono ?_
  rw [HV.out]
  rintro e w1 ⟨rfl, hww⟩
  have hb := below_of_same hww
  clear hww
  have BA1 := hid (BA0.out.below hb)
  have BR1 := hid (R0.out.below hb)
  have S1 := below_call (below_a2 _ _ _) hb
  have hl1 : w.heap.size + 2 ≤ w1.heap.size := by have := hb.size; simp at this; omega
  clear hb k0 k1 BA0 R0
  obtain ⟨k0, k1⟩ := BA1.out.cells2
  go_wp2_with ((go_at_call 65; refine (l02Key_any _ _).mono ?_; rintro e w' ⟨rfl, rfl⟩))
  clear hk
  refine (l04OwnZeros_any w.heap.size c A s x _ k0 k1 (HX.out.below S1.out) hlp hn).mono ?_
  rintro e w3 ⟨A1, c1, rfl, ho, hb⟩
  clear k0 k1
  have ho' : OwnS (Value.int .i64) w3 w1.heap.size 2 A1 x := ho
  obtain ⟨g, ex, rfl, hgB, hgb⟩ := ho' (by rintro rfl; simp at hlp)
  have hgl := hgb.lt
  have hl3 := hb.size
  obtain ⟨wq, hwc⟩ : ∃ wq, wq = w3.alloc (.cells #[.int .i64 s, .slice (some ⟨g, 0, none⟩) x.length c1] 55) := ⟨_, rfl⟩
  obtain ⟨q, hq⟩ : ∃ q, q = w3.heap.size := ⟨_, rfl⟩
  have HQ : Hid (Blk wq q 55 [.int .i64 s, .slice (some ⟨g, 0, none⟩) x.length c1]) := by rw [hwc, hq]; exact Blk.new _ _ _
  have HO : Hid (OwnS (Value.int .i64) wq w1.heap.size 2 (some ⟨g, 0, none⟩) x) := by rw [hwc]; exact ho'.below (below_a1 _ _)
  have HB : Hid (Below w1.heap.size w1 wq) := by rw [hwc]; exact hb.alloc hl3 _
  have hgq : g ≠ q := by omega
  have hq1 : w1.heap.size ≤ q := by omega
  obtain ⟨k0, k1⟩ := (BA1.out.below HB.out).cells2
  have kk0 := k0
  have kk1 := k1
  rw [hwc] at kk0 kk1
  clear hgb hb ho ho' k0 k1
  go_wp2_with (first | (go_at_call 113; refine (l02Below_any key s x.length _ (by omega) (by omega) (by omega)).mono ?_; rintro e w' ⟨rfl, rfl⟩))
  rw [← hwc, ← hq]
  clear kk0 kk1 hwc hq
  obtain ⟨q0, q1⟩ := HQ.out.cells2
  have hlc := HB.out.size
  have hat := belowN_lt key s x.length (by omega)
  obtain ⟨g', u, hg', hgB', hcg, hfg, hxu, hput⟩ := HO.out.put hat
  injection hg' with hg'; injection hg' with hg'
  subst hg'
  have hub := HBD.out u (List.mem_of_getElem? hxu.out)
  have hu1 := hub.1
  have hu2 := hub.2
  obtain ⟨hh, hhe⟩ : ∃ hh, hh = hashN key (saltN s 1) := ⟨_, rfl⟩
  obtain ⟨lz, hle⟩ : ∃ lz, lz = lzF hh := ⟨_, rfl⟩
  have hlz := hlzF hh
  rw [← hle] at hlz
  have HLE : Hid (lzF (hashN key (saltN s 1)) = lz) := by show _ = _; rw [hle, hhe]
  have C1 : Hid (∀ w, Calls Try.prog 116 #[.int .i64 s, .int .i64 1] w fun e w'' => e = .returned (.int .i64 (saltN s 1)) ∧ w'' = w) := fun w => (l04Salt_any s 1 w (by omega) (by omega)).mono fun _ _ ⟨h, h'⟩ => ⟨h, h'.symm⟩
  have C2 : Hid (∀ w, Calls Try.prog 115 #[.int .i64 key, .int .i64 (saltN s 1)] w fun e w'' => e = .returned (.int .i64 hh) ∧ w'' = w) := fun w => (l02Hash_any key (saltN s 1) w (by omega) (saltN_lt _ _)).mono fun _ _ ⟨h, h'⟩ => ⟨by rw [h, hhe], h'.symm⟩
  have C3 : Hid (∀ w, Calls Try.prog 114 #[.int .i64 hh] w fun e w'' => e = .returned (.int .i64 lz) ∧ w'' = w) := fun w => (HC.out hh w (by rw [hhe]; exact hashN_lt _ _)).mono fun _ _ ⟨h, h'⟩ => ⟨by rw [h, hle], h'.symm⟩
  have C4 : Hid (∀ w, Calls Try.prog 94 #[.int .i64 u, .int .i64 ((lz : Int) + 1)] w fun e w'' => e = .returned (.int .i64 (max u ((lz : Int) + 1))) ∧ w'' = w) := fun w => (l00Max_any _ _ w).mono fun _ _ ⟨h, h'⟩ => ⟨h, h'.symm⟩
  clear hle hhe
  have hi1 : (belowN key s x.length : Int) < (x.length : Int) := by omega
  have hi0 : (0 : Int) ≤ (belowN key s x.length : Int) := by omega
  have HZL : Hid ((putZ lzF s x key).length = x.length) := by show _ = _; unfold putZ; simp
  have S2 := hid (S1.out.trans (HB.out.mono (by omega)))
  have BR2 := hid (BR1.out.below HB.out)
  have hq2 : q ≠ g := Ne.symm hgq
  clear hgB' hub q0
  have e1 : IntKind.i64.wrap (1 + (lz : Int)) = (lz : Int) + 1 := by rw [IntKind.wrap_i64]; omega
  obtain ⟨k0, k1⟩ := (BA1.out.below HB.out).cells2
  have hqs0 : w.heap.size ≠ g := by omega
  have hqs0' := Ne.symm hqs0
  generalize hbn : belowN key s x.length = bn at *
  have HBN := hid hbn
  clear hbn
  go_wp2
  go_cut [6] from 24 to 40 (fun v wx => v = .pointer (some ⟨q, 0, none⟩) ∧ Hid (wx = (wq.setCell ⟨g, bn, none⟩ (.int .i64 (max u ((lz : Int) + 1)))).drew))
  case first =>
    refine wp_region_noPanic ?_
    refine wp_region_held_drew (S := fun w' => w'.cell? ⟨q, 1, none⟩ = some (.slice (some ⟨g, 0, none⟩) x.length c1) ∧ w'.cell? ⟨w.heap.size, 0, none⟩ = some (.int .i64 s)) (by kernel_rfl) ⟨q1, k0⟩ (fun hHeld => ?_)
    refine wpAnyH_take (i := 0) (v := ?_) rfl (by kernel_rfl) (by kernel_rfl) (by kernel_rfl) (fun _ _ _ h => h) (Or.inl ⟨by rfl, ?_⟩) (by assumption) ?_
    rotate_left
    · intro w hSw
      (try dsimp only at hSw)
      go_simp
      all_goals with_reducible rfl
    try simp only [Act.put, List.setIfInBounds_toArray, List.set_cons_zero, List.set_cons_succ, List.getElem_toArray, List.getElem_cons_succ, List.getElem_cons_zero]
    refine wpAnyH_take (i := 1) (v := ?_) rfl (by kernel_rfl) (by kernel_rfl) (by kernel_rfl) (fun _ _ _ h => h) (Or.inl ⟨by rfl, ?_⟩) (by assumption) ?_
    rotate_left
    · intro w hSw
      (try dsimp only at hSw)
      go_simp
      all_goals with_reducible rfl
    try simp only [Act.put, List.setIfInBounds_toArray, List.set_cons_zero, List.set_cons_succ, List.getElem_toArray, List.getElem_cons_succ, List.getElem_cons_zero]
    refine wpAnyH_take (i := 2) (v := ?_) rfl (by kernel_rfl) (by kernel_rfl) (by kernel_rfl) (fun _ _ _ h => h) (Or.inl ⟨by rfl, ?_⟩) (by assumption) ?_
    rotate_left
    · intro w hSw
      (try dsimp only at hSw)
      go_simp
      all_goals with_reducible rfl
    try simp only [Act.put, List.setIfInBounds_toArray, List.set_cons_zero, List.set_cons_succ, List.getElem_toArray, List.getElem_cons_succ, List.getElem_cons_zero]
    refine wpAnyH_take (i := 3) (v := ?_) rfl (by kernel_rfl) (by kernel_rfl) (by kernel_rfl) (fun _ _ _ h => h) (Or.inl ⟨by rfl, ?_⟩) (by assumption) ?_
    rotate_left
    · intro w hSw
      (try dsimp only at hSw)
      go_simp
      all_goals with_reducible rfl
    try simp only [Act.put, List.setIfInBounds_toArray, List.set_cons_zero, List.set_cons_succ, List.getElem_toArray, List.getElem_cons_succ, List.getElem_cons_zero]
    refine wpAnyH_take (i := 4) (v := ?_) rfl (by kernel_rfl) (by kernel_rfl) (by kernel_rfl) (fun _ _ _ h => h) (Or.inl ⟨by rfl, ?_⟩) (by assumption) ?_
    rotate_left
    · intro w hSw
      (try dsimp only at hSw)
      go_simp
      all_goals with_reducible rfl
    try simp only [Act.put, List.setIfInBounds_toArray, List.set_cons_zero, List.set_cons_succ, List.getElem_toArray, List.getElem_cons_succ, List.getElem_cons_zero]
    refine wpAnyH_take (i := 5) (v := ?_) rfl (by kernel_rfl) (by kernel_rfl) (by kernel_rfl) (fun _ _ _ h => h) (Or.inl ⟨by rfl, ?_⟩) (by assumption) ?_
    rotate_left
    · intro w hSw
      (try dsimp only at hSw)
      go_simp
      all_goals with_reducible rfl
    try simp only [Act.put, List.setIfInBounds_toArray, List.set_cons_zero, List.set_cons_succ, List.getElem_toArray, List.getElem_cons_succ, List.getElem_cons_zero]
    refine wpAnyH_take (i := 6) (v := .pointer (some ⟨g, bn, none⟩)) rfl (by kernel_rfl) (by kernel_rfl) (by kernel_rfl) (fun _ _ _ h => h) (Or.inl ⟨by rfl, ?_⟩) (by assumption) ?_
    · intro w hSw
      have h := idxZ bn g c1 x w hi1 hi0
      clear hi0 hi1 hSw hHeld hput hxu hcg hfg hat
      simp [execOp, Act.eval, h]
    try simp only [Act.put, List.setIfInBounds_toArray, List.set_cons_zero, List.set_cons_succ, List.getElem_toArray, List.getElem_cons_succ, List.getElem_cons_zero]
    refine wpAnyH_take (i := 8) (v := ?_) rfl (by kernel_rfl) (by kernel_rfl) (by kernel_rfl) (fun _ _ _ h => h) (Or.inl ⟨by rfl, ?_⟩) (by assumption) ?_
    rotate_left
    · intro w hSw
      (try dsimp only at hSw)
      go_simp
      all_goals with_reducible rfl
    try simp only [Act.put, List.setIfInBounds_toArray, List.set_cons_zero, List.set_cons_succ, List.getElem_toArray, List.getElem_cons_succ, List.getElem_cons_zero]
    refine wpAnyH_take (i := 9) (v := ?_) rfl (by kernel_rfl) (by kernel_rfl) (by kernel_rfl) (fun _ _ _ h => h) (Or.inl ⟨by rfl, ?_⟩) (by assumption) ?_
    rotate_left
    · intro w hSw
      (try dsimp only at hSw)
      go_simp
      all_goals with_reducible rfl
    try simp only [Act.put, List.setIfInBounds_toArray, List.set_cons_zero, List.set_cons_succ, List.getElem_toArray, List.getElem_cons_succ, List.getElem_cons_zero]
    refine wpAnyH_take (i := 10) (v := ?_) rfl (by kernel_rfl) (by kernel_rfl) (by kernel_rfl) (fun _ _ _ h => h) (Or.inl ⟨by rfl, ?_⟩) (by assumption) ?_
    rotate_left
    · intro w hSw
      (try dsimp only at hSw)
      go_simp
      all_goals with_reducible rfl
    try simp only [Act.put, List.setIfInBounds_toArray, List.set_cons_zero, List.set_cons_succ, List.getElem_toArray, List.getElem_cons_succ, List.getElem_cons_zero]
    refine wpAnyH_ready (rs := [7, 11]) (by kernel_rfl) (by simp) ?_
    refine AllReadyH.cons rfl (fun K hK => ?_) (AllReadyH.cons rfl (fun K hK => ?_) AllReadyH.nil)
    · rw [if_pos (by rfl)]
      simp only [List.getElem_toArray, List.getElem_cons_succ, List.getElem_cons_zero]
      go_simp
      refine hK.out _ _ (by first | assumption | go_keep) (fun hHeld => ?_)
      clear hK K
      try simp only [Act.put, List.setIfInBounds_toArray, List.set_cons_zero, List.set_cons_succ, List.getElem_toArray, List.getElem_cons_succ, List.getElem_cons_zero]
      refine wpAnyH_ready (rs := [11]) (by kernel_rfl) (by simp) ?_
      refine AllReadyH.cons rfl (fun K hK => ?_) AllReadyH.nil
      rw [if_pos (by rfl)]
      simp only [List.getElem_toArray, List.getElem_cons_succ, List.getElem_cons_zero]
      go_simp
      go_at_call 116
      refine (C1.out _).mono ?_
      rintro e w' ⟨rfl, rfl⟩
      go_wp2_with fail
      refine hK.out _ _ (by first | assumption | go_keep) (fun hHeld => ?_)
      clear hK K
      try simp only [Act.put, List.setIfInBounds_toArray, List.set_cons_zero, List.set_cons_succ, List.getElem_toArray, List.getElem_cons_succ, List.getElem_cons_zero]
      refine wpAnyH_ready (rs := [12]) (by kernel_rfl) (by simp) ?_
      refine AllReadyH.cons rfl (fun K hK => ?_) AllReadyH.nil
      rw [if_pos (by rfl)]
      simp only [List.getElem_toArray, List.getElem_cons_succ, List.getElem_cons_zero]
      go_simp
      go_at_call 115
      refine (C2.out _).mono ?_
      rintro e w' ⟨rfl, rfl⟩
      go_wp2_with fail
      refine hK.out _ _ (by first | assumption | go_keep) (fun hHeld => ?_)
      clear hK K
      try simp only [Act.put, List.setIfInBounds_toArray, List.set_cons_zero, List.set_cons_succ, List.getElem_toArray, List.getElem_cons_succ, List.getElem_cons_zero]
      refine wpAnyH_ready (rs := [13]) (by kernel_rfl) (by simp) ?_
      refine AllReadyH.cons rfl (fun K hK => ?_) AllReadyH.nil
      rw [if_pos (by rfl)]
      simp only [List.getElem_toArray, List.getElem_cons_succ, List.getElem_cons_zero]
      go_simp
      go_at_call 114
      refine (C3.out _).mono ?_
      rintro e w' ⟨rfl, rfl⟩
      go_wp2_with fail
      refine hK.out _ _ (by first | assumption | go_keep) (fun hHeld => ?_)
      clear hK K
      try simp only [Act.put, List.setIfInBounds_toArray, List.set_cons_zero, List.set_cons_succ, List.getElem_toArray, List.getElem_cons_succ, List.getElem_cons_zero]
      refine wpAnyH_take (i := 14) (v := ?_) rfl (by kernel_rfl) (by kernel_rfl) (by kernel_rfl) (fun _ _ _ h => h) (Or.inl ⟨by rfl, ?_⟩) (by assumption) ?_
      rotate_left
      · intro w hSw
        (try dsimp only at hSw)
        go_simp
        all_goals with_reducible rfl
      try simp only [Act.put, List.setIfInBounds_toArray, List.set_cons_zero, List.set_cons_succ, List.getElem_toArray, List.getElem_cons_succ, List.getElem_cons_zero]
      refine wpAnyH_ready (rs := [15]) (by kernel_rfl) (by simp) ?_
      refine AllReadyH.cons rfl (fun K hK => ?_) AllReadyH.nil
      rw [if_pos (by rfl)]
      simp only [List.getElem_toArray, List.getElem_cons_succ, List.getElem_cons_zero]
      go_simp
      go_at_call 94
      refine (C4.out _).mono ?_
      rintro e w' ⟨rfl, rfl⟩
      go_wp2_with fail
      refine hK.out _ _ (by first | assumption | go_keep) (fun hHeld => ?_)
      clear hK K
      try simp only [Act.put, List.setIfInBounds_toArray, List.set_cons_zero, List.set_cons_succ, List.getElem_toArray, List.getElem_cons_succ, List.getElem_cons_zero]
      refine wpAnyH_take (i := 16) (v := .pointer (some ⟨g, bn, none⟩)) rfl (by kernel_rfl) (by kernel_rfl) (by kernel_rfl) (fun _ _ _ h => h) (Or.inl ⟨by rfl, ?_⟩) (by assumption) ?_
      · intro w hSw
        have h := idxZ bn g c1 x w hi1 hi0
        clear hi0 hi1 hSw hHeld hput hxu hcg hfg hat
        simp [execOp, Act.eval, h]
      try simp only [Act.put, List.setIfInBounds_toArray, List.set_cons_zero, List.set_cons_succ, List.getElem_toArray, List.getElem_cons_succ, List.getElem_cons_zero]
      refine wpAnyH_ready (rs := [17]) (by kernel_rfl) (by simp) ?_
      refine AllReadyH.cons rfl (fun K hK => ?_) AllReadyH.nil
      rw [if_pos (by rfl)]
      simp only [List.getElem_toArray, List.getElem_cons_succ, List.getElem_cons_zero]
      go_simp
      refine hK.out _ _ (by first | assumption | go_keep) (fun hHeld => ?_)
      clear hK K
      try simp only [Act.put, List.setIfInBounds_toArray, List.set_cons_zero, List.set_cons_succ, List.getElem_toArray, List.getElem_cons_succ, List.getElem_cons_zero]
      refine wpAnyH_done (by kernel_rfl) ?_ _
      refine NoPanic.normal ?_
      go_wp2_with fail
      go_meet
      exact ⟨rfl, rfl⟩
    · rw [if_pos (by rfl)]
      simp only [List.getElem_toArray, List.getElem_cons_succ, List.getElem_cons_zero]
      go_simp
      go_at_call 116
      refine (C1.out _).mono ?_
      rintro e w' ⟨rfl, rfl⟩
      go_wp2_with fail
      refine hK.out _ _ (by first | assumption | go_keep) (fun hHeld => ?_)
      clear hK K
      try simp only [Act.put, List.setIfInBounds_toArray, List.set_cons_zero, List.set_cons_succ, List.getElem_toArray, List.getElem_cons_succ, List.getElem_cons_zero]
      refine wpAnyH_ready (rs := [7, 12]) (by kernel_rfl) (by simp) ?_
      refine AllReadyH.cons rfl (fun K hK => ?_) (AllReadyH.cons rfl (fun K hK => ?_) AllReadyH.nil)
      · rw [if_pos (by rfl)]
        simp only [List.getElem_toArray, List.getElem_cons_succ, List.getElem_cons_zero]
        go_simp
        refine hK.out _ _ (by first | assumption | go_keep) (fun hHeld => ?_)
        clear hK K
        try simp only [Act.put, List.setIfInBounds_toArray, List.set_cons_zero, List.set_cons_succ, List.getElem_toArray, List.getElem_cons_succ, List.getElem_cons_zero]
        refine wpAnyH_ready (rs := [12]) (by kernel_rfl) (by simp) ?_
        refine AllReadyH.cons rfl (fun K hK => ?_) AllReadyH.nil
        rw [if_pos (by rfl)]
        simp only [List.getElem_toArray, List.getElem_cons_succ, List.getElem_cons_zero]
        go_simp
        go_at_call 115
        refine (C2.out _).mono ?_
        rintro e w' ⟨rfl, rfl⟩
        go_wp2_with fail
        refine hK.out _ _ (by first | assumption | go_keep) (fun hHeld => ?_)
        clear hK K
        try simp only [Act.put, List.setIfInBounds_toArray, List.set_cons_zero, List.set_cons_succ, List.getElem_toArray, List.getElem_cons_succ, List.getElem_cons_zero]
        refine wpAnyH_ready (rs := [13]) (by kernel_rfl) (by simp) ?_
        refine AllReadyH.cons rfl (fun K hK => ?_) AllReadyH.nil
        rw [if_pos (by rfl)]
        simp only [List.getElem_toArray, List.getElem_cons_succ, List.getElem_cons_zero]
        go_simp
        go_at_call 114
        refine (C3.out _).mono ?_
        rintro e w' ⟨rfl, rfl⟩
        go_wp2_with fail
        refine hK.out _ _ (by first | assumption | go_keep) (fun hHeld => ?_)
        clear hK K
        try simp only [Act.put, List.setIfInBounds_toArray, List.set_cons_zero, List.set_cons_succ, List.getElem_toArray, List.getElem_cons_succ, List.getElem_cons_zero]
        refine wpAnyH_take (i := 14) (v := ?_) rfl (by kernel_rfl) (by kernel_rfl) (by kernel_rfl) (fun _ _ _ h => h) (Or.inl ⟨by rfl, ?_⟩) (by assumption) ?_
        rotate_left
        · intro w hSw
          (try dsimp only at hSw)
          go_simp
          all_goals with_reducible rfl
        try simp only [Act.put, List.setIfInBounds_toArray, List.set_cons_zero, List.set_cons_succ, List.getElem_toArray, List.getElem_cons_succ, List.getElem_cons_zero]
        refine wpAnyH_ready (rs := [15]) (by kernel_rfl) (by simp) ?_
        refine AllReadyH.cons rfl (fun K hK => ?_) AllReadyH.nil
        rw [if_pos (by rfl)]
        simp only [List.getElem_toArray, List.getElem_cons_succ, List.getElem_cons_zero]
        go_simp
        go_at_call 94
        refine (C4.out _).mono ?_
        rintro e w' ⟨rfl, rfl⟩
        go_wp2_with fail
        refine hK.out _ _ (by first | assumption | go_keep) (fun hHeld => ?_)
        clear hK K
        try simp only [Act.put, List.setIfInBounds_toArray, List.set_cons_zero, List.set_cons_succ, List.getElem_toArray, List.getElem_cons_succ, List.getElem_cons_zero]
        refine wpAnyH_take (i := 16) (v := .pointer (some ⟨g, bn, none⟩)) rfl (by kernel_rfl) (by kernel_rfl) (by kernel_rfl) (fun _ _ _ h => h) (Or.inl ⟨by rfl, ?_⟩) (by assumption) ?_
        · intro w hSw
          have h := idxZ bn g c1 x w hi1 hi0
          clear hi0 hi1 hSw hHeld hput hxu hcg hfg hat
          simp [execOp, Act.eval, h]
        try simp only [Act.put, List.setIfInBounds_toArray, List.set_cons_zero, List.set_cons_succ, List.getElem_toArray, List.getElem_cons_succ, List.getElem_cons_zero]
        refine wpAnyH_ready (rs := [17]) (by kernel_rfl) (by simp) ?_
        refine AllReadyH.cons rfl (fun K hK => ?_) AllReadyH.nil
        rw [if_pos (by rfl)]
        simp only [List.getElem_toArray, List.getElem_cons_succ, List.getElem_cons_zero]
        go_simp
        refine hK.out _ _ (by first | assumption | go_keep) (fun hHeld => ?_)
        clear hK K
        try simp only [Act.put, List.setIfInBounds_toArray, List.set_cons_zero, List.set_cons_succ, List.getElem_toArray, List.getElem_cons_succ, List.getElem_cons_zero]
        refine wpAnyH_done (by kernel_rfl) ?_ _
        refine NoPanic.normal ?_
        go_wp2_with fail
        go_meet
        exact ⟨rfl, rfl⟩
      · rw [if_pos (by rfl)]
        simp only [List.getElem_toArray, List.getElem_cons_succ, List.getElem_cons_zero]
        go_simp
        go_at_call 115
        refine (C2.out _).mono ?_
        rintro e w' ⟨rfl, rfl⟩
        go_wp2_with fail
        refine hK.out _ _ (by first | assumption | go_keep) (fun hHeld => ?_)
        clear hK K
        try simp only [Act.put, List.setIfInBounds_toArray, List.set_cons_zero, List.set_cons_succ, List.getElem_toArray, List.getElem_cons_succ, List.getElem_cons_zero]
        refine wpAnyH_ready (rs := [7, 13]) (by kernel_rfl) (by simp) ?_
        refine AllReadyH.cons rfl (fun K hK => ?_) (AllReadyH.cons rfl (fun K hK => ?_) AllReadyH.nil)
        · rw [if_pos (by rfl)]
          simp only [List.getElem_toArray, List.getElem_cons_succ, List.getElem_cons_zero]
          go_simp
          refine hK.out _ _ (by first | assumption | go_keep) (fun hHeld => ?_)
          clear hK K
          try simp only [Act.put, List.setIfInBounds_toArray, List.set_cons_zero, List.set_cons_succ, List.getElem_toArray, List.getElem_cons_succ, List.getElem_cons_zero]
          refine wpAnyH_ready (rs := [13]) (by kernel_rfl) (by simp) ?_
          refine AllReadyH.cons rfl (fun K hK => ?_) AllReadyH.nil
          rw [if_pos (by rfl)]
          simp only [List.getElem_toArray, List.getElem_cons_succ, List.getElem_cons_zero]
          go_simp
          go_at_call 114
          refine (C3.out _).mono ?_
          rintro e w' ⟨rfl, rfl⟩
          go_wp2_with fail
          refine hK.out _ _ (by first | assumption | go_keep) (fun hHeld => ?_)
          clear hK K
          try simp only [Act.put, List.setIfInBounds_toArray, List.set_cons_zero, List.set_cons_succ, List.getElem_toArray, List.getElem_cons_succ, List.getElem_cons_zero]
          refine wpAnyH_take (i := 14) (v := ?_) rfl (by kernel_rfl) (by kernel_rfl) (by kernel_rfl) (fun _ _ _ h => h) (Or.inl ⟨by rfl, ?_⟩) (by assumption) ?_
          rotate_left
          · intro w hSw
            (try dsimp only at hSw)
            go_simp
            all_goals with_reducible rfl
          try simp only [Act.put, List.setIfInBounds_toArray, List.set_cons_zero, List.set_cons_succ, List.getElem_toArray, List.getElem_cons_succ, List.getElem_cons_zero]
          refine wpAnyH_ready (rs := [15]) (by kernel_rfl) (by simp) ?_
          refine AllReadyH.cons rfl (fun K hK => ?_) AllReadyH.nil
          rw [if_pos (by rfl)]
          simp only [List.getElem_toArray, List.getElem_cons_succ, List.getElem_cons_zero]
          go_simp
          go_at_call 94
          refine (C4.out _).mono ?_
          rintro e w' ⟨rfl, rfl⟩
          go_wp2_with fail
          refine hK.out _ _ (by first | assumption | go_keep) (fun hHeld => ?_)
          clear hK K
          try simp only [Act.put, List.setIfInBounds_toArray, List.set_cons_zero, List.set_cons_succ, List.getElem_toArray, List.getElem_cons_succ, List.getElem_cons_zero]
          refine wpAnyH_take (i := 16) (v := .pointer (some ⟨g, bn, none⟩)) rfl (by kernel_rfl) (by kernel_rfl) (by kernel_rfl) (fun _ _ _ h => h) (Or.inl ⟨by rfl, ?_⟩) (by assumption) ?_
          · intro w hSw
            have h := idxZ bn g c1 x w hi1 hi0
            clear hi0 hi1 hSw hHeld hput hxu hcg hfg hat
            simp [execOp, Act.eval, h]
          try simp only [Act.put, List.setIfInBounds_toArray, List.set_cons_zero, List.set_cons_succ, List.getElem_toArray, List.getElem_cons_succ, List.getElem_cons_zero]
          refine wpAnyH_ready (rs := [17]) (by kernel_rfl) (by simp) ?_
          refine AllReadyH.cons rfl (fun K hK => ?_) AllReadyH.nil
          rw [if_pos (by rfl)]
          simp only [List.getElem_toArray, List.getElem_cons_succ, List.getElem_cons_zero]
          go_simp
          refine hK.out _ _ (by first | assumption | go_keep) (fun hHeld => ?_)
          clear hK K
          try simp only [Act.put, List.setIfInBounds_toArray, List.set_cons_zero, List.set_cons_succ, List.getElem_toArray, List.getElem_cons_succ, List.getElem_cons_zero]
          refine wpAnyH_done (by kernel_rfl) ?_ _
          refine NoPanic.normal ?_
          go_wp2_with fail
          go_meet
          exact ⟨rfl, rfl⟩
        · rw [if_pos (by rfl)]
          simp only [List.getElem_toArray, List.getElem_cons_succ, List.getElem_cons_zero]
          go_simp
          go_at_call 114
          refine (C3.out _).mono ?_
          rintro e w' ⟨rfl, rfl⟩
          go_wp2_with fail
          refine hK.out _ _ (by first | assumption | go_keep) (fun hHeld => ?_)
          clear hK K
          try simp only [Act.put, List.setIfInBounds_toArray, List.set_cons_zero, List.set_cons_succ, List.getElem_toArray, List.getElem_cons_succ, List.getElem_cons_zero]
          refine wpAnyH_take (i := 14) (v := ?_) rfl (by kernel_rfl) (by kernel_rfl) (by kernel_rfl) (fun _ _ _ h => h) (Or.inl ⟨by rfl, ?_⟩) (by assumption) ?_
          rotate_left
          · intro w hSw
            (try dsimp only at hSw)
            go_simp
            all_goals with_reducible rfl
          try simp only [Act.put, List.setIfInBounds_toArray, List.set_cons_zero, List.set_cons_succ, List.getElem_toArray, List.getElem_cons_succ, List.getElem_cons_zero]
          refine wpAnyH_ready (rs := [7]) (by kernel_rfl) (by simp) ?_
          refine AllReadyH.cons rfl (fun K hK => ?_) AllReadyH.nil
          rw [if_pos (by rfl)]
          simp only [List.getElem_toArray, List.getElem_cons_succ, List.getElem_cons_zero]
          go_simp
          refine hK.out _ _ (by first | assumption | go_keep) (fun hHeld => ?_)
          clear hK K
          try simp only [Act.put, List.setIfInBounds_toArray, List.set_cons_zero, List.set_cons_succ, List.getElem_toArray, List.getElem_cons_succ, List.getElem_cons_zero]
          refine wpAnyH_ready (rs := [15]) (by kernel_rfl) (by simp) ?_
          refine AllReadyH.cons rfl (fun K hK => ?_) AllReadyH.nil
          rw [if_pos (by rfl)]
          simp only [List.getElem_toArray, List.getElem_cons_succ, List.getElem_cons_zero]
          go_simp
          go_at_call 94
          refine (C4.out _).mono ?_
          rintro e w' ⟨rfl, rfl⟩
          go_wp2_with fail
          refine hK.out _ _ (by first | assumption | go_keep) (fun hHeld => ?_)
          clear hK K
          try simp only [Act.put, List.setIfInBounds_toArray, List.set_cons_zero, List.set_cons_succ, List.getElem_toArray, List.getElem_cons_succ, List.getElem_cons_zero]
          refine wpAnyH_take (i := 16) (v := .pointer (some ⟨g, bn, none⟩)) rfl (by kernel_rfl) (by kernel_rfl) (by kernel_rfl) (fun _ _ _ h => h) (Or.inl ⟨by rfl, ?_⟩) (by assumption) ?_
          · intro w hSw
            have h := idxZ bn g c1 x w hi1 hi0
            clear hi0 hi1 hSw hHeld hput hxu hcg hfg hat
            simp [execOp, Act.eval, h]
          try simp only [Act.put, List.setIfInBounds_toArray, List.set_cons_zero, List.set_cons_succ, List.getElem_toArray, List.getElem_cons_succ, List.getElem_cons_zero]
          refine wpAnyH_ready (rs := [17]) (by kernel_rfl) (by simp) ?_
          refine AllReadyH.cons rfl (fun K hK => ?_) AllReadyH.nil
          rw [if_pos (by rfl)]
          simp only [List.getElem_toArray, List.getElem_cons_succ, List.getElem_cons_zero]
          go_simp
          refine hK.out _ _ (by first | assumption | go_keep) (fun hHeld => ?_)
          clear hK K
          try simp only [Act.put, List.setIfInBounds_toArray, List.set_cons_zero, List.set_cons_succ, List.getElem_toArray, List.getElem_cons_succ, List.getElem_cons_zero]
          refine wpAnyH_done (by kernel_rfl) ?_ _
          refine NoPanic.normal ?_
          go_wp2_with fail
          go_meet
          exact ⟨rfl, rfl⟩
  case' rest =>
    obtain ⟨rfl, hwx⟩ := hcut
    clear q1 hcg
    have hput2 := (hput (max u ((lz : Int) + 1))).out
    have hpz : x.set (bn) (max u ((lz : Int) + 1)) = putZ lzF s x key := by
      unfold putZ
      rw [HBN.out, HLE.out]
      rw [List.getD_eq_getElem?_getD, hxu.out]
      rfl
    rw [hpz] at hput2
    have TT := hid ((Touch.refl (w := wq) (A := some ⟨g, 0, none⟩) (n := x.length)).set_ (by omega) (bn) (.int .i64 (max u ((lz : Int) + 1))))
    have SS0 := S2.out.trans ((TT.out.below HO.out).mono (by omega))
    have HPUT : Hid (OwnS (Value.int .i64) wc w1.heap.size 2 (some ⟨g, 0, none⟩) (putZ lzF s x key)) := by rw [hwx.out]; exact hput2
    have SS : Hid (Below w.heap.size w wc) := by rw [hwx.out]; exact ⟨SS0.os, SS0.tape, SS0.output, SS0.size, SS0.block⟩
    have BRz : Hid (Blk wc (w.heap.size + 1) 55 [.int .i64 0, .slice none 0 0]) := by rw [hwx.out]; exact (BR2.out.touch TT.out (by omega)).drewN 1
    have HQz : Hid (Blk wc q 55 [.int .i64 s, .slice (some ⟨g, 0, none⟩) x.length c1]) := by rw [hwx.out]; exact (HQ.out.touch TT.out hgq).drewN 1
    obtain ⟨d0, d1⟩ := BRz.out.cells2
    have f0 := BRz.out.frozen 0
    have f1 := BRz.out.frozen 1
    obtain ⟨qq0, qq1⟩ := HQz.out.cells2
    clear hput hput2 hpz hwx
    go_wp2
    refine bodyPost_ret (v := .tuple #[.agg #[.int .i64 s, .slice (some ⟨g, 0, none⟩) x.length c1], .bool true]) (by simp [results, Try.results63, go_sem, d0, d1]) rfl ⟨some ⟨g, 0, none⟩, c1, by show Ending.returned _ = Ending.returned _; rw [HZL.out], ?_, by show (putZ lzF s x key).length ≤ 1048576; rw [HZL.out]; omega, ?_⟩
    · exact ((HPUT.out.setFar (by simp <;> omega) _).setFar (by simp <;> omega) _).mono (by omega)
    · exact (SS.out.setCell (by simp <;> omega) _).setCell (by simp <;> omega) _

set_option maxRecDepth 100000 in
set_option maxHeartbeats 3200000 in
theorem iPutZeros_of (lzF : Nat → Nat) (hlzF : ∀ x, lzF x ≤ 32) (HC : Hid (∀ (x : Nat) (w : World), x < 4294967296 → Calls Try.prog 118 #[.int .i64 x] w fun e w' => e = .returned (.tuple #[.int .i64 (lzF x), .bool true]) ∧ w = w')) (s : Int) (A : Option Addr) (c : Nat) (x : List Int) (key : Int) (w : World) (hs : W64 s) (hx : RdL (Value.int .i64) w A x) (hn : x.length ≤ 1048576) (we : ∀ y ∈ x, W64 y) (hkey : W64 key) :
    Calls Try.prog 64 #[.agg #[.int .i64 s, .slice A x.length c], .int .i64 key] w (RetIL w (pPutZerosL lzF s x key)) := by
  have HX := hid hx
  have WX := hid we
  clear hx we
  have BA0 := hid ((Blk.new w 55 [.int .i64 s, .slice A x.length c]).alloc (.cells #[.int .i64 0, .slice none 0 0] 55))
  have R0 := hid (Blk.new2 w (.cells #[.int .i64 s, .slice A x.length c] 55) 55 [.int .i64 0, .slice none 0 0])
  obtain ⟨k0, k1⟩ := BA0.out.cells2
  have key_ : ∀ u v : Bool, vZeros s x = u → inB key 0 4294967295 = v → (u && v) = false →
      Calls Try.prog 64 #[.agg #[.int .i64 s, .slice A x.length c], .int .i64 key] w (RetIL w ((0, []), false)) := by
    intro u v hu hv hno
    refine Calls.mono ?_ retIL_no
    cases u
    case' true => cases v
    all_goals
      first
      | (exfalso; revert hno; decide)
      | (go_enter Try.func64, Try.ntmps64
         go_wp2_with fail
         refine (iValidZeros_any s A c x _ hs (HX.out.below (below_a2 _ _ _)) hn WX.out).mono ?_
         rw [hu]
         rintro e w1 ⟨rfl, hb⟩
         obtain ⟨d0, d1⟩ := (R0.out.below hb).cells2
         have f0 := (R0.out.below hb).frozen 0
         have f1 := (R0.out.below hb).frozen 1
         have S1 := below_call (below_a2 _ _ _) hb
         clear hb k0 k1 BA0 R0 hu hno
         go_wp2_with ((go_at_call 69; refine (IsKey_any _ _).mono ?_; rintro e w' ⟨rfl, rfl⟩))
         refine bodyPost_ret (v := .tuple #[.agg #[.int .i64 0, .slice none 0 0], .bool false]) (by simp [results, Try.results64, go_sem, d0, d1]) rfl ⟨rfl, ?_⟩
         exact (S1.out.setCell (by simp <;> omega) _).setCell (by simp <;> omega) _)
  cases hgo : (vZeros s x && inB key 0 4294967295) with
  | false =>
    have hp : pPutZerosL lzF s x key = ((0, []), false) := by simp only [pPutZerosL, hgo]; rfl
    rw [hp]
    exact key_ _ _ rfl rfl hgo
  | true =>
  have hp : pPutZerosL lzF s x key = ((s, putZ lzF s.toNat x key.toNat), true) := by simp only [pPutZerosL, hgo]; rfl
  rw [hp]
  simp only [Bool.and_eq_true] at hgo
  obtain ⟨hv, hk⟩ := hgo
  obtain ⟨⟨hs1, hs2⟩, ⟨hn1, hn2⟩, hbd⟩ := vZeros_iff hv
  obtain ⟨hk1, hk2⟩ := inB_iff.1 hk
  obtain ⟨s, rfl⟩ := Int.eq_ofNat_of_zero_le hs1
  obtain ⟨key, rfl⟩ := Int.eq_ofNat_of_zero_le hk1
  simp only [Int.toNat_natCast] at hp ⊢
  have hlp : 0 < x.length := by omega
  have HBD := hid hbd
  have HV := hid hv
  clear hbd hp hv key_
  go_enter Try.func64, Try.ntmps64
  go_wp2_with fail
  refine (iValidZeros_any s A c x _ hs (HX.out.below (below_a2 _ _ _)) hn WX.out).mono ?_
  rw [HV.out]
  rintro e w1 ⟨rfl, hb⟩
  have BA1 := hid (BA0.out.below hb)
  have BR1 := hid (R0.out.below hb)
  have S1 := below_call (below_a2 _ _ _) hb
  have hl1 : w.heap.size + 2 ≤ w1.heap.size := by have := hb.size; simp at this; omega
  clear hb k0 k1 BA0 R0
  obtain ⟨k0, k1⟩ := BA1.out.cells2
  go_wp2_with ((go_at_call 69; refine (IsKey_any _ _).mono ?_; rintro e w' ⟨rfl, rfl⟩))
  clear hk
  have HX2 := hid (HX.out.below S1.out)
  have hpne : w.heap.size ≠ w1.heap.size := by omega
  have hpne' : w1.heap.size ≠ w.heap.size := by omega
  obtain ⟨c0, c1⟩ := BA1.out.cells2
  clear k0 k1
  go_wp2
  go_cut [6] from 19 to 24 (fun v wx => ∃ q g2 c2 : Nat, v = .pointer (some ⟨q, 0, none⟩) ∧ Hid (w1.heap.size ≤ q ∧ w1.heap.size ≤ g2 ∧ g2 ≠ q ∧ Blk wx q 55 [.int .i64 s, .slice (some ⟨g2, 0, none⟩) x.length c2] ∧ OwnS (Value.int .i64) wx w1.heap.size 2 (some ⟨g2, 0, none⟩) x ∧ Below w1.heap.size w1 wx))
  case first =>
    go_region_held3 (fun w' => w'.cell? ⟨w.heap.size, 0, none⟩ = some (.int .i64 s) ∧ w'.cell? ⟨w.heap.size, 1, none⟩ = some (.slice A x.length c)) (first | go_keep | exact hS | (refine ⟨?_, ?_⟩ <;> go_keep) | (simp [hpne, hpne']; exact hS))
      (first | (go_at_call 96
                refine (cloneI_any A c x _ (HX2.out.drewN 1) hn).mono ?_
                rintro e w3 ⟨A2, c2', rfl, hoP, hbP⟩
                have hbP := below_drew' hbP
                have hS := (BA1.out.below hbP).cells2)
             | (go_at_call 96
                refine (cloneI_any A c x _ ((HX2.out.below (below_a1 _ _)).drewN 1) hn).mono ?_
                rintro e w3 ⟨A2, c2', rfl, hoP, hbP⟩
                have hbP := below_drew' hbP
                have hS := ((BA1.out.alloc _).below hbP).cells2
                have hQ := (Blk.new w1 55 [.int .i64 0, .slice none 0 0]).below hbP
                obtain ⟨q0, q1⟩ := hQ.cells2
                have f0 := hQ.frozen 0
                have f1 := hQ.frozen 1))
    · go_wp2_with fail
      go_meet
      obtain ⟨g2, ex, rfl, hgB, hgb⟩ := hoP (by rintro rfl; simp at hlp)
      have hgl := hgb.lt
      have hw2 := hbP.size
      exact ⟨w3.heap.size, g2, c2', rfl, hw2, hgB, by omega, Blk.new _ _ _, hoP.below (below_a1 _ _), hbP.alloc hw2 _⟩
    · go_wp2_with fail
      go_meet
      obtain ⟨g2, ex, rfl, hgB, hgb⟩ := hoP (by rintro rfl; simp at hlp)
      have hgB' : w1.heap.size + 1 ≤ g2 := by simpa using hgB
      refine ⟨w1.heap.size, g2, c2', rfl, Nat.le_refl _, by omega, by omega, (hQ.set_ 0 _).set_ 1 _, ((hoP.setFar (by simp) _).setFar (by simp) _).mono (by simp), ?_⟩
      exact (((below_a1 w1 _).trans (hbP.mono (by simp))).setCell (by simp) _).setCell (by simp) _
  case' rest =>
    obtain ⟨q, g, c1', rfl, hh⟩ := hcut
    obtain ⟨hq1, hgB, hgq, hQ, hO, hB⟩ := hh.out
    have HQ := hid hQ
    have HO := hid hO
    have HB := hid hB
    clear hh hQ hO hB c0 c1 hpne hpne' HX2
    obtain ⟨wq, hwq⟩ : ∃ wq, wq = wc := ⟨_, rfl⟩
    subst hwq
    obtain ⟨k0, k1⟩ := (BA1.out.below HB.out).cells2
    go_wp2_with (first | (go_at_call 117; refine (ibelow_any key s x.length _ (by omega) (by omega) (by omega)).mono ?_; rintro e w' ⟨rfl, rfl⟩) | (go_at_call 120; refine (salted_any s 1 _ (by omega) (by omega)).mono ?_; rintro e w' ⟨rfl, rfl⟩) | (go_at_call 119; refine (ihash_any key (saltN s 1) _ (by omega) (saltN_lt _ _)).mono ?_; rintro e w' ⟨rfl, rfl⟩) | (go_at_call 118; refine (HC.out (hashN key (saltN s 1)) _ (hashN_lt _ _)).mono ?_; rintro e w' ⟨rfl, rfl⟩))
    clear k0 k1
    obtain ⟨q0, q1⟩ := HQ.out.cells2
    have hlc := HB.out.size
    have hat := belowN_lt key s x.length (by omega)
    obtain ⟨g', u, hg', hgB', hcg, hfg, hxu, hput⟩ := HO.out.put hat
    injection hg' with hg'; injection hg' with hg'
    subst hg'
    have hub := HBD.out u (List.mem_of_getElem? hxu.out)
    have hu1 := hub.1
    have hu2 := hub.2
    have hlz := hlzF (hashN key (saltN s 1))
    have hi1 : (belowN key s x.length : Int) < (x.length : Int) := by omega
    have hi0 : (0 : Int) ≤ (belowN key s x.length : Int) := by omega
    have HZL : Hid ((putZ lzF s x key).length = x.length) := by show _ = _; unfold putZ; simp
    have S2 := hid (S1.out.trans (HB.out.mono (by omega)))
    have BR2 := hid (BR1.out.below HB.out)
    have hq2 : q ≠ g := Ne.symm hgq
    clear hgB' hub q0
    have e1 : IntKind.i64.wrap ((lzF (hashN key (saltN s 1)) : Int) + 1) = (lzF (hashN key (saltN s 1)) : Int) + 1 := by rw [IntKind.wrap_i64]; omega
    generalize hbn : belowN key s x.length = bn at *
    have HBN := hid hbn
    clear hbn
    generalize hle : lzF (hashN key (saltN s 1)) = lz at *
    have HLE := hid hle
    clear hle
    go_wp2
    go_cut [6] from 41 to 52 (fun v wx => v = .pointer (some ⟨q, 0, none⟩) ∧ Hid (wx = (wq.setCell ⟨g, bn, none⟩ (.int .i64 (max u ((lz : Int) + 1)))).drew))
    case first =>
      by_cases huv : (lz : Int) + 1 ≤ u
      · have hmx : max u ((lz : Int) + 1) = u := by omega
        have HMX := hid hmx
        clear hmx
        refine wp_region_noPanic ?_
        refine wp_region_held_drew (S := fun w' => w'.cell? ⟨q, 1, none⟩ = some (.slice (some ⟨g, 0, none⟩) x.length c1')) (by kernel_rfl) q1 (fun hHeld => ?_)
        refine wpAnyH_take (i := 0) (v := ?_) rfl (by kernel_rfl) (by kernel_rfl) (by kernel_rfl) (fun _ _ _ h => h) (Or.inl ⟨by rfl, ?_⟩) (by assumption) ?_
        rotate_left
        · intro w hSw
          (try dsimp only at hSw)
          go_simp
          all_goals with_reducible rfl
        try simp only [Act.put, List.setIfInBounds_toArray, List.set_cons_zero, List.set_cons_succ, List.getElem_toArray, List.getElem_cons_succ, List.getElem_cons_zero]
        refine wpAnyH_take (i := 1) (v := ?_) rfl (by kernel_rfl) (by kernel_rfl) (by kernel_rfl) (fun _ _ _ h => h) (Or.inl ⟨by rfl, ?_⟩) (by assumption) ?_
        rotate_left
        · intro w hSw
          (try dsimp only at hSw)
          go_simp
          all_goals with_reducible rfl
        try simp only [Act.put, List.setIfInBounds_toArray, List.set_cons_zero, List.set_cons_succ, List.getElem_toArray, List.getElem_cons_succ, List.getElem_cons_zero]
        refine wpAnyH_take (i := 2) (v := ?_) rfl (by kernel_rfl) (by kernel_rfl) (by kernel_rfl) (fun _ _ _ h => h) (Or.inl ⟨by rfl, ?_⟩) (by assumption) ?_
        rotate_left
        · intro w hSw
          (try dsimp only at hSw)
          go_simp
          all_goals with_reducible rfl
        try simp only [Act.put, List.setIfInBounds_toArray, List.set_cons_zero, List.set_cons_succ, List.getElem_toArray, List.getElem_cons_succ, List.getElem_cons_zero]
        refine wpAnyH_take (i := 3) (v := ?_) rfl (by kernel_rfl) (by kernel_rfl) (by kernel_rfl) (fun _ _ _ h => h) (Or.inl ⟨by rfl, ?_⟩) (by assumption) ?_
        rotate_left
        · intro w hSw
          (try dsimp only at hSw)
          go_simp
          all_goals with_reducible rfl
        try simp only [Act.put, List.setIfInBounds_toArray, List.set_cons_zero, List.set_cons_succ, List.getElem_toArray, List.getElem_cons_succ, List.getElem_cons_zero]
        refine wpAnyH_take (i := 4) (v := ?_) rfl (by kernel_rfl) (by kernel_rfl) (by kernel_rfl) (fun _ _ _ h => h) (Or.inl ⟨by rfl, ?_⟩) (by assumption) ?_
        rotate_left
        · intro w hSw
          (try dsimp only at hSw)
          go_simp
          all_goals with_reducible rfl
        try simp only [Act.put, List.setIfInBounds_toArray, List.set_cons_zero, List.set_cons_succ, List.getElem_toArray, List.getElem_cons_succ, List.getElem_cons_zero]
        refine wpAnyH_take (i := 5) (v := ?_) rfl (by kernel_rfl) (by kernel_rfl) (by kernel_rfl) (fun _ _ _ h => h) (Or.inl ⟨by rfl, ?_⟩) (by assumption) ?_
        rotate_left
        · intro w hSw
          (try dsimp only at hSw)
          go_simp
          all_goals with_reducible rfl
        try simp only [Act.put, List.setIfInBounds_toArray, List.set_cons_zero, List.set_cons_succ, List.getElem_toArray, List.getElem_cons_succ, List.getElem_cons_zero]
        refine wpAnyH_take (i := 6) (v := .pointer (some ⟨g, bn, none⟩)) rfl (by kernel_rfl) (by kernel_rfl) (by kernel_rfl) (fun _ _ _ h => h) (Or.inl ⟨by rfl, ?_⟩) (by assumption) ?_
        · intro w hSw
          have h := idxZ bn g c1' x w hi1 hi0
          clear hi0 hi1 hSw hHeld hput hxu hcg hfg hat
          simp [execOp, Act.eval, h]
        try simp only [Act.put, List.setIfInBounds_toArray, List.set_cons_zero, List.set_cons_succ, List.getElem_toArray, List.getElem_cons_succ, List.getElem_cons_zero]
        refine wpAnyH_take (i := 8) (v := ?_) rfl (by kernel_rfl) (by kernel_rfl) (by kernel_rfl) (fun _ _ _ h => h) (Or.inl ⟨by rfl, ?_⟩) (by assumption) ?_
        rotate_left
        · intro w hSw
          (try dsimp only at hSw)
          go_simp
          all_goals with_reducible rfl
        try simp only [Act.put, List.setIfInBounds_toArray, List.set_cons_zero, List.set_cons_succ, List.getElem_toArray, List.getElem_cons_succ, List.getElem_cons_zero]
        refine wpAnyH_take (i := 9) (v := ?_) rfl (by kernel_rfl) (by kernel_rfl) (by kernel_rfl) (fun _ _ _ h => h) (Or.inl ⟨by rfl, ?_⟩) (by assumption) ?_
        rotate_left
        · intro w hSw
          (try dsimp only at hSw)
          go_simp
          all_goals with_reducible rfl
        try simp only [Act.put, List.setIfInBounds_toArray, List.set_cons_zero, List.set_cons_succ, List.getElem_toArray, List.getElem_cons_succ, List.getElem_cons_zero]
        refine wpAnyH_ready (rs := [7]) (by kernel_rfl) (by simp) ?_
        refine AllReadyH.cons rfl (fun K hK => ?_) AllReadyH.nil
        rw [if_pos (by rfl)]
        simp only [List.getElem_toArray, List.getElem_cons_succ, List.getElem_cons_zero]
        go_simp
        refine hK.out _ _ (by first | assumption | go_keep) (fun hHeld => ?_)
        clear hK K
        try simp only [Act.put, List.setIfInBounds_toArray, List.set_cons_zero, List.set_cons_succ, List.getElem_toArray, List.getElem_cons_succ, List.getElem_cons_zero]
        refine wpAnyH_take (i := 10) (v := ?_) rfl (by kernel_rfl) (by kernel_rfl) (by kernel_rfl) (fun _ _ _ h => h) (Or.inl ⟨by rfl, ?_⟩) (by assumption) ?_
        rotate_left
        · intro w hSw
          (try dsimp only at hSw)
          go_simp
          all_goals with_reducible rfl
        try simp only [Act.put, List.setIfInBounds_toArray, List.set_cons_zero, List.set_cons_succ, List.getElem_toArray, List.getElem_cons_succ, List.getElem_cons_zero]
        refine wpAnyH_take (i := 11) (v := .pointer (some ⟨g, bn, none⟩)) rfl (by kernel_rfl) (by kernel_rfl) (by kernel_rfl) (fun _ _ _ h => h) (Or.inl ⟨by rfl, ?_⟩) (by assumption) ?_
        · intro w hSw
          have h := idxZ bn g c1' x w hi1 hi0
          clear hi0 hi1 hSw hHeld hput hxu hcg hfg hat
          simp [execOp, Act.eval, h]
        try simp only [Act.put, List.setIfInBounds_toArray, List.set_cons_zero, List.set_cons_succ, List.getElem_toArray, List.getElem_cons_succ, List.getElem_cons_zero]
        refine wpAnyH_ready (rs := [12]) (by kernel_rfl) (by simp) ?_
        refine AllReadyH.cons rfl (fun K hK => ?_) AllReadyH.nil
        rw [if_pos (by rfl)]
        simp only [List.getElem_toArray, List.getElem_cons_succ, List.getElem_cons_zero]
        go_simp
        refine hK.out _ _ (by first | assumption | go_keep) (fun hHeld => ?_)
        clear hK K
        try simp only [Act.put, List.setIfInBounds_toArray, List.set_cons_zero, List.set_cons_succ, List.getElem_toArray, List.getElem_cons_succ, List.getElem_cons_zero]
        refine wpAnyH_done (by kernel_rfl) ?_ _
        refine NoPanic.normal ?_
        go_wp2_with fail
        go_meet
        exact ⟨rfl, by show _ = _; rw [HMX.out]⟩
      · have hmx : max u ((lz : Int) + 1) = (lz : Int) + 1 := by omega
        have HMX := hid hmx
        clear hmx
        refine wp_region_noPanic ?_
        refine wp_region_held_drew (S := fun w' => w'.cell? ⟨q, 1, none⟩ = some (.slice (some ⟨g, 0, none⟩) x.length c1')) (by kernel_rfl) q1 (fun hHeld => ?_)
        refine wpAnyH_take (i := 0) (v := ?_) rfl (by kernel_rfl) (by kernel_rfl) (by kernel_rfl) (fun _ _ _ h => h) (Or.inl ⟨by rfl, ?_⟩) (by assumption) ?_
        rotate_left
        · intro w hSw
          (try dsimp only at hSw)
          go_simp
          all_goals with_reducible rfl
        try simp only [Act.put, List.setIfInBounds_toArray, List.set_cons_zero, List.set_cons_succ, List.getElem_toArray, List.getElem_cons_succ, List.getElem_cons_zero]
        refine wpAnyH_take (i := 1) (v := ?_) rfl (by kernel_rfl) (by kernel_rfl) (by kernel_rfl) (fun _ _ _ h => h) (Or.inl ⟨by rfl, ?_⟩) (by assumption) ?_
        rotate_left
        · intro w hSw
          (try dsimp only at hSw)
          go_simp
          all_goals with_reducible rfl
        try simp only [Act.put, List.setIfInBounds_toArray, List.set_cons_zero, List.set_cons_succ, List.getElem_toArray, List.getElem_cons_succ, List.getElem_cons_zero]
        refine wpAnyH_take (i := 2) (v := ?_) rfl (by kernel_rfl) (by kernel_rfl) (by kernel_rfl) (fun _ _ _ h => h) (Or.inl ⟨by rfl, ?_⟩) (by assumption) ?_
        rotate_left
        · intro w hSw
          (try dsimp only at hSw)
          go_simp
          all_goals with_reducible rfl
        try simp only [Act.put, List.setIfInBounds_toArray, List.set_cons_zero, List.set_cons_succ, List.getElem_toArray, List.getElem_cons_succ, List.getElem_cons_zero]
        refine wpAnyH_take (i := 3) (v := ?_) rfl (by kernel_rfl) (by kernel_rfl) (by kernel_rfl) (fun _ _ _ h => h) (Or.inl ⟨by rfl, ?_⟩) (by assumption) ?_
        rotate_left
        · intro w hSw
          (try dsimp only at hSw)
          go_simp
          all_goals with_reducible rfl
        try simp only [Act.put, List.setIfInBounds_toArray, List.set_cons_zero, List.set_cons_succ, List.getElem_toArray, List.getElem_cons_succ, List.getElem_cons_zero]
        refine wpAnyH_take (i := 4) (v := ?_) rfl (by kernel_rfl) (by kernel_rfl) (by kernel_rfl) (fun _ _ _ h => h) (Or.inl ⟨by rfl, ?_⟩) (by assumption) ?_
        rotate_left
        · intro w hSw
          (try dsimp only at hSw)
          go_simp
          all_goals with_reducible rfl
        try simp only [Act.put, List.setIfInBounds_toArray, List.set_cons_zero, List.set_cons_succ, List.getElem_toArray, List.getElem_cons_succ, List.getElem_cons_zero]
        refine wpAnyH_take (i := 5) (v := ?_) rfl (by kernel_rfl) (by kernel_rfl) (by kernel_rfl) (fun _ _ _ h => h) (Or.inl ⟨by rfl, ?_⟩) (by assumption) ?_
        rotate_left
        · intro w hSw
          (try dsimp only at hSw)
          go_simp
          all_goals with_reducible rfl
        try simp only [Act.put, List.setIfInBounds_toArray, List.set_cons_zero, List.set_cons_succ, List.getElem_toArray, List.getElem_cons_succ, List.getElem_cons_zero]
        refine wpAnyH_take (i := 6) (v := .pointer (some ⟨g, bn, none⟩)) rfl (by kernel_rfl) (by kernel_rfl) (by kernel_rfl) (fun _ _ _ h => h) (Or.inl ⟨by rfl, ?_⟩) (by assumption) ?_
        · intro w hSw
          have h := idxZ bn g c1' x w hi1 hi0
          clear hi0 hi1 hSw hHeld hput hxu hcg hfg hat
          simp [execOp, Act.eval, h]
        try simp only [Act.put, List.setIfInBounds_toArray, List.set_cons_zero, List.set_cons_succ, List.getElem_toArray, List.getElem_cons_succ, List.getElem_cons_zero]
        refine wpAnyH_take (i := 8) (v := ?_) rfl (by kernel_rfl) (by kernel_rfl) (by kernel_rfl) (fun _ _ _ h => h) (Or.inl ⟨by rfl, ?_⟩) (by assumption) ?_
        rotate_left
        · intro w hSw
          (try dsimp only at hSw)
          go_simp
          all_goals with_reducible rfl
        try simp only [Act.put, List.setIfInBounds_toArray, List.set_cons_zero, List.set_cons_succ, List.getElem_toArray, List.getElem_cons_succ, List.getElem_cons_zero]
        refine wpAnyH_take (i := 9) (v := ?_) rfl (by kernel_rfl) (by kernel_rfl) (by kernel_rfl) (fun _ _ _ h => h) (Or.inl ⟨by rfl, ?_⟩) (by assumption) ?_
        rotate_left
        · intro w hSw
          (try dsimp only at hSw)
          go_simp
          all_goals with_reducible rfl
        try simp only [Act.put, List.setIfInBounds_toArray, List.set_cons_zero, List.set_cons_succ, List.getElem_toArray, List.getElem_cons_succ, List.getElem_cons_zero]
        refine wpAnyH_ready (rs := [7]) (by kernel_rfl) (by simp) ?_
        refine AllReadyH.cons rfl (fun K hK => ?_) AllReadyH.nil
        rw [if_pos (by rfl)]
        simp only [List.getElem_toArray, List.getElem_cons_succ, List.getElem_cons_zero]
        go_simp
        refine hK.out _ _ (by first | assumption | go_keep) (fun hHeld => ?_)
        clear hK K
        try simp only [Act.put, List.setIfInBounds_toArray, List.set_cons_zero, List.set_cons_succ, List.getElem_toArray, List.getElem_cons_succ, List.getElem_cons_zero]
        refine wpAnyH_take (i := 10) (v := ?_) rfl (by kernel_rfl) (by kernel_rfl) (by kernel_rfl) (fun _ _ _ h => h) (Or.inl ⟨by rfl, ?_⟩) (by assumption) ?_
        rotate_left
        · intro w hSw
          (try dsimp only at hSw)
          go_simp
          all_goals with_reducible rfl
        try simp only [Act.put, List.setIfInBounds_toArray, List.set_cons_zero, List.set_cons_succ, List.getElem_toArray, List.getElem_cons_succ, List.getElem_cons_zero]
        refine wpAnyH_take (i := 11) (v := .pointer (some ⟨g, bn, none⟩)) rfl (by kernel_rfl) (by kernel_rfl) (by kernel_rfl) (fun _ _ _ h => h) (Or.inl ⟨by rfl, ?_⟩) (by assumption) ?_
        · intro w hSw
          have h := idxZ bn g c1' x w hi1 hi0
          clear hi0 hi1 hSw hHeld hput hxu hcg hfg hat
          simp [execOp, Act.eval, h]
        try simp only [Act.put, List.setIfInBounds_toArray, List.set_cons_zero, List.set_cons_succ, List.getElem_toArray, List.getElem_cons_succ, List.getElem_cons_zero]
        refine wpAnyH_ready (rs := [12]) (by kernel_rfl) (by simp) ?_
        refine AllReadyH.cons rfl (fun K hK => ?_) AllReadyH.nil
        rw [if_pos (by rfl)]
        simp only [List.getElem_toArray, List.getElem_cons_succ, List.getElem_cons_zero]
        go_simp
        refine hK.out _ _ (by first | assumption | go_keep) (fun hHeld => ?_)
        clear hK K
        try simp only [Act.put, List.setIfInBounds_toArray, List.set_cons_zero, List.set_cons_succ, List.getElem_toArray, List.getElem_cons_succ, List.getElem_cons_zero]
        refine wpAnyH_done (by kernel_rfl) ?_ _
        refine NoPanic.normal ?_
        go_wp2_with fail
        go_meet
        exact ⟨rfl, by show _ = _; rw [HMX.out]⟩
    case' rest =>
      obtain ⟨rfl, hwx⟩ := hcut
      clear q1 hcg
      have hput2 := (hput (max u ((lz : Int) + 1))).out
      have hpz : x.set (bn) (max u ((lz : Int) + 1)) = putZ lzF s x key := by
        unfold putZ
        rw [HBN.out, HLE.out]
        rw [List.getD_eq_getElem?_getD, hxu.out]
        rfl
      rw [hpz] at hput2
      have TT := hid ((Touch.refl (w := wq) (A := some ⟨g, 0, none⟩) (n := x.length)).set_ (by omega) (bn) (.int .i64 (max u ((lz : Int) + 1))))
      have SS0 := S2.out.trans ((TT.out.below HO.out).mono (by omega))
      have HPUT : Hid (OwnS (Value.int .i64) wc w1.heap.size 2 (some ⟨g, 0, none⟩) (putZ lzF s x key)) := by rw [hwx.out]; exact hput2
      have SS : Hid (Below w.heap.size w wc) := by rw [hwx.out]; exact ⟨SS0.os, SS0.tape, SS0.output, SS0.size, SS0.block⟩
      have BRz : Hid (Blk wc (w.heap.size + 1) 55 [.int .i64 0, .slice none 0 0]) := by rw [hwx.out]; exact (BR2.out.touch TT.out (by omega)).drewN 1
      have HQz : Hid (Blk wc q 55 [.int .i64 s, .slice (some ⟨g, 0, none⟩) x.length c1']) := by rw [hwx.out]; exact (HQ.out.touch TT.out hgq).drewN 1
      obtain ⟨d0, d1⟩ := BRz.out.cells2
      have f0 := BRz.out.frozen 0
      have f1 := BRz.out.frozen 1
      obtain ⟨qq0, qq1⟩ := HQz.out.cells2
      clear hput hput2 hpz hwx
      go_wp2
      refine bodyPost_ret (v := .tuple #[.agg #[.int .i64 s, .slice (some ⟨g, 0, none⟩) x.length c1'], .bool true]) (by simp [results, Try.results64, go_sem, d0, d1]) rfl ⟨some ⟨g, 0, none⟩, c1', by show Ending.returned _ = Ending.returned _; rw [HZL.out], ?_, by show (putZ lzF s x key).length ≤ 1048576; rw [HZL.out]; omega, ?_⟩
      · exact ((HPUT.out.setFar (by simp <;> omega) _).setFar (by simp <;> omega) _).mono (by omega)
      · exact (SS.out.setCell (by simp <;> omega) _).setCell (by simp <;> omega) _

end Go.Proofs.Ytlcpchpodcchlaa
