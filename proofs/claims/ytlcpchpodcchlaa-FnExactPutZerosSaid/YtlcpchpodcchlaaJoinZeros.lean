/-
  Joined zeros: reference and program, by contracts. Printed by gen_zeros.py.
-/
import Derived.Test.YtlcpchpodcchlaaFingers
import Derived.Test.YtlcpchpodcchlaaOwn
import Derived.Test.YtlcpchpodcchlaaPutSieve
namespace Go.Proofs.Ytlcpchpodcchlaa
open Go.RowKit
set_option linter.unusedVariables false

/-- It hands back a salt and cells of its own, and whether it could. -/
def RetIL (w : World) (p : (Int × List Int) × Bool) (e : Ending) (w' : World) : Prop := ∃ A c,
  e = .returned (.tuple #[.agg #[.int .i64 p.1.1, .slice A p.1.2.length c], .bool p.2]) ∧ OwnS (Value.int .i64) w' w.heap.size 2 A p.1.2 ∧ p.1.2.length ≤ 1048576 ∧ Below w.heap.size w w'
theorem retIL_no {w : World} : ∀ (e : Ending) (w' : World), (e = .returned (.tuple #[.agg #[.int .i64 0, .slice none 0 0], .bool false]) ∧ Below w.heap.size w w') → RetIL w ((0, []), false) e w' :=
  fun e w' ⟨he, hb⟩ => ⟨none, 0, he, OwnS.nil, by simp, hb⟩
theorem vZeros_iff {s : Int} {x : List Int} (h : vZeros s x = true) : (0 ≤ s ∧ s ≤ 4294967295) ∧ (16 ≤ x.length ∧ x.length ≤ 256) ∧ ∀ y ∈ x, 0 ≤ y ∧ y ≤ 33 := by
  simp only [vZeros, Bool.and_eq_true, inB_iff, powB, decide_eq_true_eq] at h
  obtain ⟨⟨h1, ⟨⟨_, h2⟩, h3⟩⟩, h4⟩ := h
  refine ⟨h1, by omega, fun y hy => ?_⟩
  unfold allB at h4
  rw [List.all_eq_true] at h4
  exact inB_iff.1 (h4 y hy)
/-- Two zeros are valid and have equal salts and sizes. -/
def alikeZ (s : Int) (x : List Int) (s' : Int) (y : List Int) : Bool := vZeros s x && vZeros s' y && (s == s') && ((x.length : Int) == (y.length : Int))
theorem alikeZ_iff {s : Int} {x : List Int} {s' : Int} {y : List Int} (h : alikeZ s x s' y = true) : vZeros s x = true ∧ vZeros s' y = true ∧ s = s' ∧ x.length = y.length := by
  simp only [alikeZ, Bool.and_eq_true, beq_iff_eq] at h
  exact ⟨h.1.1.1, h.1.1.2, h.1.2, by omega⟩
/-- What JoinZeros returns. -/
def pJoinZeros (s : Int) (x : List Int) (s' : Int) (y : List Int) : (Int × List Int) × Bool := if alikeZ s x s' y = true then ((s, List.zipWith max x y), true) else ((0, []), false)
theorem pJoinZeros_no {s : Int} {x : List Int} {s' : Int} {y : List Int} (h : alikeZ s x s' y = false) : pJoinZeros s x s' y = ((0, []), false) := by simp [pJoinZeros, h]
theorem pJoinZeros_yes {s : Int} {x : List Int} {s' : Int} {y : List Int} (h : alikeZ s x s' y = true) : pJoinZeros s x s' y = ((s, List.zipWith max x y), true) := by simp [pJoinZeros, h]
theorem below_of_same {w w' : World} (h : w = w') : Below w.heap.size w w' := by subst h; exact Below.refl _ _
theorem zipM_at {f : Int → Int → Int} {x y : List Int} {k : Nat} {a b : Int} (h : Hid (x[k]? = some a)) (h' : Hid (y[k]? = some b)) : (List.zipWith f x y)[k]? = some (f a b) := by
  rw [List.getElem?_zipWith, h.out, h'.out]
theorem l00Max_any (a b : Int) (w : World) : Calls Try.prog 94 #[.int .i64 a, .int .i64 b] w fun e w' => e = .returned (.int .i64 (max a b)) ∧ w = w' := by
  by_cases h : a > b <;>
  · go_enter Try.func94, Try.ntmps94
    go_wp2
    go_ret
    exact ⟨ret_int (by omega), rfl⟩

set_option maxRecDepth 100000 in
set_option maxHeartbeats 3200000 in
theorem sJoinZeros_any (s : Int) (A : Option Addr) (c : Nat) (x : List Int) (s' : Int) (A' : Option Addr) (c' : Nat) (y : List Int) (w : World) (hs : W64 s) (hx : RdL (Value.int .i64) w A x) (hn : x.length ≤ 1048576) (we : ∀ y ∈ x, W64 y) (hs' : W64 s') (hy : RdL (Value.int .i64) w A' y) (hn' : y.length ≤ 1048576) (we' : ∀ z ∈ y, W64 z) :
    Calls Try.prog 37 #[.agg #[.int .i64 s, .slice A x.length c], .agg #[.int .i64 s', .slice A' y.length c']] w (RetIL w (pJoinZeros s x s' y)) := by
  have HX := hid hx
  have HY := hid hy
  have WX := hid we
  have WY := hid we'
  clear hx hy we we'
  have BA0 := hid (((Blk.new w 55 [.int .i64 s, .slice A x.length c]).alloc (.cells #[.int .i64 s', .slice A' y.length c'] 55)).alloc (.cells #[.int .i64 0, .slice none 0 0] 55))
  have BB0 := hid ((Blk.new2 w (.cells #[.int .i64 s, .slice A x.length c] 55) 55 [.int .i64 s', .slice A' y.length c']).alloc (.cells #[.int .i64 0, .slice none 0 0] 55))
  have R0 := hid (Blk.new3 w (.cells #[.int .i64 s, .slice A x.length c] 55) (.cells #[.int .i64 s', .slice A' y.length c'] 55) 55 [.int .i64 0, .slice none 0 0])
  obtain ⟨k0, k1⟩ := BA0.out.cells2
  obtain ⟨l0, l1⟩ := BB0.out.cells2
  cases ha : vZeros s x with
  | false =>
    rw [pJoinZeros_no (by simp [alikeZ, ha])]
    refine Calls.mono ?_ retIL_no
    go_enter Try.func37, Try.ntmps37
    go_wp2_with fail
    refine (l04Zeros_any w.heap.size 0 c A s x _ k0 k1 (HX.out.below (below_a3 _ _ _ _)) hn).mono ?_
    rw [ha]
    rintro e w1 ⟨rfl, hww⟩
    have hb := below_of_same hww
    clear hww
    obtain ⟨d0, d1⟩ := (R0.out.below hb).cells2
    have f0 := (R0.out.below hb).frozen 0
    have f1 := (R0.out.below hb).frozen 1
    have S1 := below_call (below_a3 _ _ _ _) hb
    clear hb k0 k1 l0 l1 BA0 BB0 R0
    go_wp2
    refine bodyPost_ret (v := .tuple #[.agg #[.int .i64 0, .slice none 0 0], .bool false]) (by simp [results, Try.results37, go_sem, d0, d1]) rfl ⟨rfl, ?_⟩
    exact (S1.out.setCell (by simp <;> omega) _).setCell (by simp <;> omega) _
  | true =>
  have key : ∀ b v z : Bool, vZeros s' y = b → (s == s') = v → ((x.length : Int) == (y.length : Int)) = z → (b && v && z) = false →
      Calls Try.prog 37 #[.agg #[.int .i64 s, .slice A x.length c], .agg #[.int .i64 s', .slice A' y.length c']] w (RetIL w ((0, []), false)) := by
    intro b v z hb0 hv hz hno
    have hv' : (s != s') = !v := by rw [← hv]; rfl
    have hz' : ((x.length : Int) != (y.length : Int)) = !z := by rw [← hz]; rfl
    refine Calls.mono ?_ retIL_no
    cases b
    case' true =>
      cases v
      case' true => cases z
    all_goals
      try simp only [Bool.not_false, Bool.not_true] at hv' hz'
      first
      | (exfalso; revert hno; decide)
      | (go_enter Try.func37, Try.ntmps37
         go_wp2_with fail
         refine (l04Zeros_any w.heap.size 0 c A s x _ k0 k1 (HX.out.below (below_a3 _ _ _ _)) hn).mono ?_
         rw [ha]
         rintro e w1 ⟨rfl, hww⟩
         have hb := below_of_same hww
         clear hww
         have BA1 := hid (BA0.out.below hb)
         have BB1 := hid (BB0.out.below hb)
         have BR1 := hid (R0.out.below hb)
         have S1 := below_call (below_a3 _ _ _ _) hb
         clear hb k0 k1 l0 l1 BA0 BB0 R0
         obtain ⟨k0, k1⟩ := BA1.out.cells2
         obtain ⟨l0, l1⟩ := BB1.out.cells2
         go_wp2_with fail
         refine (l04Zeros_any (w.heap.size + 1) 0 c' A' s' y _ l0 l1 (HY.out.below S1.out) hn').mono ?_
         rw [hb0]
         rintro e w2 ⟨rfl, hww⟩
         have hb := below_of_same hww
         clear hww
         clear k0 k1 l0 l1
         obtain ⟨k0, k1⟩ := (BA1.out.below hb).cells2
         obtain ⟨l0, l1⟩ := (BB1.out.below hb).cells2
         obtain ⟨d0, d1⟩ := (BR1.out.below hb).cells2
         have f0 := (BR1.out.below hb).frozen 0
         have f1 := (BR1.out.below hb).frozen 1
         have S2 := hid (S1.out.trans (hb.mono S1.out.size))
         clear hb hno hv hz
         go_wp2
         refine bodyPost_ret (v := .tuple #[.agg #[.int .i64 0, .slice none 0 0], .bool false]) (by simp [results, Try.results37, go_sem, d0, d1]) rfl ⟨rfl, ?_⟩
         exact (S2.out.setCell (by simp <;> omega) _).setCell (by simp <;> omega) _)
  cases hal : alikeZ s x s' y with
  | false =>
    rw [pJoinZeros_no hal]
    refine key _ _ _ rfl rfl rfl ?_
    simp only [alikeZ, ha, Bool.true_and] at hal
    exact hal
  | true =>
  obtain ⟨hv, hv', rfl, hxy⟩ := alikeZ_iff hal
  have HXY := hid hxy
  obtain ⟨⟨hs1, hs2⟩, ⟨hn1, hn2⟩, hbd⟩ := vZeros_iff hv
  have hxl1 : x.length ≤ y.length := by omega
  have hxl2 : y.length ≤ x.length := by omega
  have hlp : 0 < x.length := by omega
  have tz : ((x.length : Int) != (y.length : Int)) = false := by simp; omega
  have HV' := hid hv'
  have HA' := hid ha
  rw [pJoinZeros_yes hal]
  clear hxy hal key hv' hbd hv ha
  go_enter Try.func37, Try.ntmps37
  go_wp2_with fail
  refine (l04Zeros_any w.heap.size 0 c A s x _ k0 k1 (HX.out.below (below_a3 _ _ _ _)) hn).mono ?_
  rw [HA'.out]
  rintro e w1 ⟨rfl, hww⟩
  have hb := below_of_same hww
  clear hww
  have BA1 := hid (BA0.out.below hb)
  have BB1 := hid (BB0.out.below hb)
  have BR1 := hid (R0.out.below hb)
  have S1 := below_call (below_a3 _ _ _ _) hb
  have hl1 : w.heap.size + 3 ≤ w1.heap.size := by have := hb.size; simp at this; omega
  clear hb k0 k1 l0 l1 BA0 BB0 R0
  obtain ⟨k0, k1⟩ := BA1.out.cells2
  obtain ⟨l0, l1⟩ := BB1.out.cells2
  go_wp2_with fail
  refine (l04Zeros_any (w.heap.size + 1) 0 c' A' s y _ l0 l1 (HY.out.below S1.out) hn').mono ?_
  rw [HV'.out]
  rintro e w2 ⟨rfl, hww⟩
  have hb := below_of_same hww
  clear hww
  clear k0 k1 l0 l1
  have BA2 := hid (BA1.out.below hb)
  have BB2 := hid (BB1.out.below hb)
  have BR2 := hid (BR1.out.below hb)
  have S2 := hid (S1.out.trans (hb.mono S1.out.size))
  have hl2 : w.heap.size + 3 ≤ w2.heap.size := by have := hb.size; omega
  clear hb BA1 BB1 BR1
  obtain ⟨k0, k1⟩ := BA2.out.cells2
  obtain ⟨l0, l1⟩ := BB2.out.cells2
  clear k0 k1
  obtain ⟨k0, k1⟩ := BA2.out.cells2
  go_wp2_with fail
  refine (l04OwnZeros_any w.heap.size c A s x _ k0 k1 (HX.out.below S2.out) hlp hn).mono ?_
  rintro e w3 ⟨A1, c1, rfl, ho, hb⟩
  clear k0 k1
  have ho' : OwnS (Value.int .i64) w3 w2.heap.size 2 A1 x := ho
  obtain ⟨g, ex, rfl, hgB, hgb⟩ := ho' (by rintro rfl; simp at hlp)
  have hgl := hgb.lt
  have hl3 := hb.size
  obtain ⟨wc, hwc⟩ : ∃ wc, wc = w3.alloc (.cells #[.int .i64 s, .slice (some ⟨g, 0, none⟩) x.length c1] 55) := ⟨_, rfl⟩
  obtain ⟨q, hq⟩ : ∃ q, q = w3.heap.size := ⟨_, rfl⟩
  have HQ : Hid (Blk wc q 55 [.int .i64 s, .slice (some ⟨g, 0, none⟩) x.length c1]) := by rw [hwc, hq]; exact Blk.new _ _ _
  have HO : Hid (OwnS (Value.int .i64) wc w2.heap.size 2 (some ⟨g, 0, none⟩) x) := by rw [hwc]; exact ho'.below (below_a1 _ _)
  have HB : Hid (Below w2.heap.size w2 wc) := by rw [hwc]; exact hb.alloc hl3 _
  have hgq : g ≠ q := by omega
  have hq1 : w2.heap.size ≤ q := by omega
  clear hgb hb ho ho'
  go_wp2
  rw [← hwc, ← hq]
  clear hwc hq
  go_loopw [7] (fun i wr => ∃ k : Nat, k ≤ y.length ∧ i = .int .i64 k ∧ Hid (OwnS (Value.int .i64) wr w2.heap.size 2 (some ⟨g, 0, none⟩) (fillUp k (List.zipWith max x y) x)) ∧ Hid (Touch wc wr (some ⟨g, 0, none⟩) x.length)) (fun i _ => y.length - (intOf i).toNat)
  case atStart => exact ⟨0, Nat.zero_le _, rfl, by rw [fillUp_zero]; exact HO, Touch.refl⟩
  case round =>
    obtain ⟨k, hkr, rfl, hok, hT⟩ := hrel
    have hlc := HB.out.size
    have T1 := hid (hT.out.below HO.out)
    have SR := hid ((S2.out.trans (HB.out.mono (by omega))).trans (T1.out.mono (by omega)))
    obtain ⟨k0, k1⟩ := ((BA2.out.below HB.out).touch hT.out (by omega)).cells2
    obtain ⟨l0, l1⟩ := ((BB2.out.below HB.out).touch hT.out (by omega)).cells2
    obtain ⟨q0, q1⟩ := (HQ.out.touch hT.out (by omega)).cells2
    by_cases hlt : k < y.length
    · have hi : (k : Int) < (y.length : Int) := by omega
      have hix : (k : Int) < (x.length : Int) := by omega
      obtain ⟨by', oy, v, hA', hcy, hyk⟩ := (HY.out.below SR.out).at_ (k := k) (by omega)
      obtain ⟨by2, oy2, _, hA2', hcy2, _⟩ := HY.out.at_ (k := k) (by omega)
      have hby : by' < w.heap.size := by
        have := World.block_lt_of_cell? w _ hcy2
        rw [hA'] at hA2'; injection hA2' with h; injection h with h; simp at this; omega
      subst hA'
      obtain ⟨bx, ox, u0, hA, hcx, hxk⟩ := (HX.out.below SR.out).at_ (k := k) (by omega)
      obtain ⟨bx2, ox2, _, hA2, hcx2, _⟩ := HX.out.at_ (k := k) (by omega)
      have hbx : bx < w.heap.size := by
        have := World.block_lt_of_cell? w _ hcx2
        rw [hA] at hA2; injection hA2 with h; injection h with h; simp at this; omega
      subst hA
      clear hA2' hcy2 hA2 hcx2
      have hzl : (List.zipWith max x y).length = x.length := by rw [List.length_zipWith]; omega
      have hfl' : (fillUp k (List.zipWith max x y) x).length = x.length := fillUp_length (by omega) (by omega)
      have hfl : k < (fillUp k (List.zipWith max x y) x).length := by omega
      obtain ⟨g', u, hg', hgB', hcg, hfg, htm, hput⟩ := hok.out.put hfl
      injection hg' with hg'; injection hg' with hg'
      subst hg'
      have hxu : Hid (x[k]? = some u) := by
        have := htm.out
        rw [fillUp_at (by omega)] at this
        exact this
      obtain rfl : u0 = u := by have h1 := hxk.out; rw [hxu.out] at h1; injection h1 with h1; exact h1.symm
      have hz := zipM_at (f := max) hxk hyk
      have hO2 : Hid (OwnS (Value.int .i64) (wr.setCell ⟨g, k, none⟩ (.int .i64 (max u0 v))) w2.heap.size 2 (some ⟨g, 0, none⟩) (fillUp (k + 1) (List.zipWith max x y) x)) := by
        have h := hput (max u0 v)
        rw [fillUp_step hz (by omega)] at h
        exact h
      have hT2 := hid (hT.out.set_ (by omega) k (.int .i64 (max u0 v)))
      obtain ⟨u, hu⟩ : ∃ u, u = u0 := ⟨_, rfl⟩
      subst hu
      have n0 : bx ≠ g := by omega
      have n1 : by' ≠ g := by omega
      have n2 : w.heap.size + 1 ≠ g := by omega
      have n3 : q ≠ g := by omega
      have n4 : w.heap.size ≠ g := by omega
      have n0' := Ne.symm n0
      have n1' := Ne.symm n1
      have n2' := Ne.symm n2
      have n3' := Ne.symm n3
      have n4' := Ne.symm n4
      clear hput k0 l0 q0 hfl hfl' hgB' hz hxu htm hzl
      go_wp2
      go_region_held3 (fun w' => w'.cell? ⟨q, 1, none⟩ = some (.slice (some ⟨g, 0, none⟩) x.length c1) ∧ w'.cell? ⟨w.heap.size, 1, none⟩ = some (.slice (some ⟨bx, ox, none⟩) x.length c) ∧ w'.cell? ⟨w.heap.size + 1, 1, none⟩ = some (.slice (some ⟨by', oy, none⟩) y.length c') ∧ w'.cell? ⟨bx, ox + k, none⟩ = some (.int .i64 u) ∧ w'.cell? ⟨by', oy + k, none⟩ = some (.int .i64 v)) (first | go_keep | (refine ⟨?_, ?_, ?_, ?_, ?_⟩ <;> go_keep))
        (first
          | (go_at_call 94
             refine (l00Max_any _ _ _).mono ?_
             rintro e w' ⟨rfl, rfl⟩))
      go_wp2
      exact ⟨⟨k + 1, by omega, by go_num, hO2, ⟨hT2.out.os, hT2.out.tape, hT2.out.output, hT2.out.size, hT2.out.block⟩⟩, by simp [intOf]; omega⟩
    · have hi : ¬ (k : Int) < (y.length : Int) := by omega
      have he := hok.out
      have hzl : (List.zipWith max x y).length = k := by rw [List.length_zipWith]; omega
      have hxk : x.length = k := by omega
      rw [fillUp_all hzl hxk] at he
      have HZ := hid hzl
      have HK := hid hxk
      have O4 := hid he
      obtain ⟨d0, d1⟩ := ((BR2.out.below HB.out).touch hT.out (by omega)).cells2
      have f0 := ((BR2.out.below HB.out).touch hT.out (by omega)).frozen 0
      have f1 := ((BR2.out.below HB.out).touch hT.out (by omega)).frozen 1
      clear he hzl hxk
      go_wp2
      refine bodyPost_ret (v := .tuple #[.agg #[.int .i64 s, .slice (some ⟨g, 0, none⟩) x.length c1], .bool true]) (by simp [results, Try.results37, go_sem, d0, d1]) rfl ⟨some ⟨g, 0, none⟩, c1, by show Ending.returned _ = Ending.returned _; rw [HZ.out, HK.out], ?_, by show (List.zipWith max x y).length ≤ 1048576; rw [HZ.out]; omega, ?_⟩
      · exact ((O4.out.setFar (by simp <;> omega) _).setFar (by simp <;> omega) _).mono (by omega)
      · exact (SR.out.setCell (by simp <;> omega) _).setCell (by simp <;> omega) _

set_option maxRecDepth 100000 in
set_option maxHeartbeats 3200000 in
theorem iJoinZeros_any (s : Int) (A : Option Addr) (c : Nat) (x : List Int) (s' : Int) (A' : Option Addr) (c' : Nat) (y : List Int) (w : World) (hs : W64 s) (hx : RdL (Value.int .i64) w A x) (hn : x.length ≤ 1048576) (we : ∀ y ∈ x, W64 y) (hs' : W64 s') (hy : RdL (Value.int .i64) w A' y) (hn' : y.length ≤ 1048576) (we' : ∀ z ∈ y, W64 z) :
    Calls Try.prog 39 #[.agg #[.int .i64 s, .slice A x.length c], .agg #[.int .i64 s', .slice A' y.length c']] w (RetIL w (pJoinZeros s x s' y)) := by
  have HX := hid hx
  have HY := hid hy
  have WX := hid we
  have WY := hid we'
  clear hx hy we we'
  have BA0 := hid (((Blk.new w 55 [.int .i64 s, .slice A x.length c]).alloc (.cells #[.int .i64 s', .slice A' y.length c'] 55)).alloc (.cells #[.int .i64 0, .slice none 0 0] 55))
  have BB0 := hid ((Blk.new2 w (.cells #[.int .i64 s, .slice A x.length c] 55) 55 [.int .i64 s', .slice A' y.length c']).alloc (.cells #[.int .i64 0, .slice none 0 0] 55))
  have R0 := hid (Blk.new3 w (.cells #[.int .i64 s, .slice A x.length c] 55) (.cells #[.int .i64 s', .slice A' y.length c'] 55) 55 [.int .i64 0, .slice none 0 0])
  obtain ⟨k0, k1⟩ := BA0.out.cells2
  obtain ⟨l0, l1⟩ := BB0.out.cells2
  cases ha : vZeros s x with
  | false =>
    rw [pJoinZeros_no (by simp [alikeZ, ha])]
    refine Calls.mono ?_ retIL_no
    go_enter Try.func39, Try.ntmps39
    go_wp2_with fail
    refine (iValidZeros_any s A c x _ hs (HX.out.below (below_a3 _ _ _ _)) hn WX.out).mono ?_
    rw [ha]
    rintro e w1 ⟨rfl, hb⟩
    obtain ⟨d0, d1⟩ := (R0.out.below hb).cells2
    have f0 := (R0.out.below hb).frozen 0
    have f1 := (R0.out.below hb).frozen 1
    have S1 := below_call (below_a3 _ _ _ _) hb
    clear hb k0 k1 l0 l1 BA0 BB0 R0
    go_wp2
    refine bodyPost_ret (v := .tuple #[.agg #[.int .i64 0, .slice none 0 0], .bool false]) (by simp [results, Try.results39, go_sem, d0, d1]) rfl ⟨rfl, ?_⟩
    exact (S1.out.setCell (by simp <;> omega) _).setCell (by simp <;> omega) _
  | true =>
  have key : ∀ b v z : Bool, vZeros s' y = b → (s == s') = v → ((x.length : Int) == (y.length : Int)) = z → (b && v && z) = false →
      Calls Try.prog 39 #[.agg #[.int .i64 s, .slice A x.length c], .agg #[.int .i64 s', .slice A' y.length c']] w (RetIL w ((0, []), false)) := by
    intro b v z hb0 hv hz hno
    have hv' : (s != s') = !v := by rw [← hv]; rfl
    have hz' : ((x.length : Int) != (y.length : Int)) = !z := by rw [← hz]; rfl
    refine Calls.mono ?_ retIL_no
    cases b
    case' true =>
      cases v
      case' true => cases z
    all_goals
      try simp only [Bool.not_false, Bool.not_true] at hv' hz'
      first
      | (exfalso; revert hno; decide)
      | (go_enter Try.func39, Try.ntmps39
         go_wp2_with fail
         refine (iValidZeros_any s A c x _ hs (HX.out.below (below_a3 _ _ _ _)) hn WX.out).mono ?_
         rw [ha]
         rintro e w1 ⟨rfl, hb⟩
         have BA1 := hid (BA0.out.below hb)
         have BB1 := hid (BB0.out.below hb)
         have BR1 := hid (R0.out.below hb)
         have S1 := below_call (below_a3 _ _ _ _) hb
         clear hb k0 k1 l0 l1 BA0 BB0 R0
         obtain ⟨k0, k1⟩ := BA1.out.cells2
         obtain ⟨l0, l1⟩ := BB1.out.cells2
         go_wp2_with fail
         refine (iValidZeros_any s' A' c' y _ hs' (HY.out.below S1.out) hn' WY.out).mono ?_
         rw [hb0]
         rintro e w2 ⟨rfl, hb⟩
         clear k0 k1 l0 l1
         obtain ⟨k0, k1⟩ := (BA1.out.below hb).cells2
         obtain ⟨l0, l1⟩ := (BB1.out.below hb).cells2
         obtain ⟨d0, d1⟩ := (BR1.out.below hb).cells2
         have f0 := (BR1.out.below hb).frozen 0
         have f1 := (BR1.out.below hb).frozen 1
         have S2 := hid (S1.out.trans (hb.mono S1.out.size))
         clear hb hno hv hz
         go_wp2
         refine bodyPost_ret (v := .tuple #[.agg #[.int .i64 0, .slice none 0 0], .bool false]) (by simp [results, Try.results39, go_sem, d0, d1]) rfl ⟨rfl, ?_⟩
         exact (S2.out.setCell (by simp <;> omega) _).setCell (by simp <;> omega) _)
  cases hal : alikeZ s x s' y with
  | false =>
    rw [pJoinZeros_no hal]
    refine key _ _ _ rfl rfl rfl ?_
    simp only [alikeZ, ha, Bool.true_and] at hal
    exact hal
  | true =>
  obtain ⟨hv, hv', rfl, hxy⟩ := alikeZ_iff hal
  have HXY := hid hxy
  obtain ⟨⟨hs1, hs2⟩, ⟨hn1, hn2⟩, hbd⟩ := vZeros_iff hv
  have hxl1 : x.length ≤ y.length := by omega
  have hxl2 : y.length ≤ x.length := by omega
  have hlp : 0 < x.length := by omega
  have tz : ((x.length : Int) != (y.length : Int)) = false := by simp; omega
  have HV' := hid hv'
  have HA' := hid ha
  rw [pJoinZeros_yes hal]
  clear hxy hal key hv' hbd hv ha
  go_enter Try.func39, Try.ntmps39
  go_wp2_with fail
  refine (iValidZeros_any s A c x _ hs (HX.out.below (below_a3 _ _ _ _)) hn WX.out).mono ?_
  rw [HA'.out]
  rintro e w1 ⟨rfl, hb⟩
  have BA1 := hid (BA0.out.below hb)
  have BB1 := hid (BB0.out.below hb)
  have BR1 := hid (R0.out.below hb)
  have S1 := below_call (below_a3 _ _ _ _) hb
  have hl1 : w.heap.size + 3 ≤ w1.heap.size := by have := hb.size; simp at this; omega
  clear hb k0 k1 l0 l1 BA0 BB0 R0
  obtain ⟨k0, k1⟩ := BA1.out.cells2
  obtain ⟨l0, l1⟩ := BB1.out.cells2
  go_wp2_with fail
  refine (iValidZeros_any s A' c' y _ hs (HY.out.below S1.out) hn' WY.out).mono ?_
  rw [HV'.out]
  rintro e w2 ⟨rfl, hb⟩
  clear k0 k1 l0 l1
  have BA2 := hid (BA1.out.below hb)
  have BB2 := hid (BB1.out.below hb)
  have BR2 := hid (BR1.out.below hb)
  have S2 := hid (S1.out.trans (hb.mono S1.out.size))
  have hl2 : w.heap.size + 3 ≤ w2.heap.size := by have := hb.size; omega
  clear hb BA1 BB1 BR1
  obtain ⟨k0, k1⟩ := BA2.out.cells2
  obtain ⟨l0, l1⟩ := BB2.out.cells2
  clear k0 k1
  have HX2 := hid (HX.out.below S2.out)
  have hpne : w.heap.size ≠ w2.heap.size := by omega
  have hpne' : w2.heap.size ≠ w.heap.size := by omega
  obtain ⟨c0, c1⟩ := BA2.out.cells2
  go_wp2
  go_cut [6] from 34 to 39 (fun v wx => ∃ q g2 c2 : Nat, v = .pointer (some ⟨q, 0, none⟩) ∧ Hid (w2.heap.size ≤ q ∧ w2.heap.size ≤ g2 ∧ g2 ≠ q ∧ Blk wx q 55 [.int .i64 s, .slice (some ⟨g2, 0, none⟩) x.length c2] ∧ OwnS (Value.int .i64) wx w2.heap.size 2 (some ⟨g2, 0, none⟩) x ∧ Below w2.heap.size w2 wx))
  case first =>
    go_region_held3 (fun w' => w'.cell? ⟨w.heap.size, 0, none⟩ = some (.int .i64 s) ∧ w'.cell? ⟨w.heap.size, 1, none⟩ = some (.slice A x.length c)) (first | go_keep | exact hS | (refine ⟨?_, ?_⟩ <;> go_keep) | (simp [hpne, hpne']; exact hS))
      (first | (go_at_call 96
                refine (cloneI_any A c x _ (HX2.out.drewN 1) hn).mono ?_
                rintro e w3 ⟨A2, c2', rfl, hoP, hbP⟩
                have hbP := below_drew' hbP
                have hS := (BA2.out.below hbP).cells2)
             | (go_at_call 96
                refine (cloneI_any A c x _ ((HX2.out.below (below_a1 _ _)).drewN 1) hn).mono ?_
                rintro e w3 ⟨A2, c2', rfl, hoP, hbP⟩
                have hbP := below_drew' hbP
                have hS := ((BA2.out.alloc _).below hbP).cells2
                have hQ := (Blk.new w2 55 [.int .i64 0, .slice none 0 0]).below hbP
                obtain ⟨q0, q1⟩ := hQ.cells2
                have f0 := hQ.frozen 0
                have f1 := hQ.frozen 1))
    · go_wp2_with fail
      go_meet
      obtain ⟨g2, ex, rfl, hgB, hgb⟩ := hoP (by rintro rfl; simp at hlp)
      have hgl := hgb.lt
      have hw2 := hbP.size
      exact ⟨w3.heap.size, g2, c2', rfl, hw2, hgB, by omega, Blk.new _ _ _, hoP.below (below_a1 _ _), hbP.alloc hw2 _⟩
    · go_wp2_with fail
      go_meet
      obtain ⟨g2, ex, rfl, hgB, hgb⟩ := hoP (by rintro rfl; simp at hlp)
      have hgB' : w2.heap.size + 1 ≤ g2 := by simpa using hgB
      refine ⟨w2.heap.size, g2, c2', rfl, Nat.le_refl _, by omega, by omega, (hQ.set_ 0 _).set_ 1 _, ((hoP.setFar (by simp) _).setFar (by simp) _).mono (by simp), ?_⟩
      exact (((below_a1 w2 _).trans (hbP.mono (by simp))).setCell (by simp) _).setCell (by simp) _
  case' rest =>
    obtain ⟨q, g, c1', rfl, hh⟩ := hcut
    obtain ⟨hq1, hgB, hgq, hQ, hO, hB⟩ := hh.out
    have HQ := hid hQ
    have HO := hid hO
    have HB := hid hB
    clear hh hQ hO hB c0 c1 hpne hpne' HX2
    obtain ⟨l0, l1⟩ := (BB2.out.below HB.out).cells2
    obtain ⟨q0, q1⟩ := HQ.out.cells2
    go_wp2
    go_loopw [43] (fun i wr => ∃ k : Nat, k ≤ y.length ∧ i = .int .i64 k ∧ Hid (OwnS (Value.int .i64) wr w2.heap.size 2 (some ⟨g, 0, none⟩) (fillUp k (List.zipWith max x y) x)) ∧ Hid (Touch wc wr (some ⟨g, 0, none⟩) x.length)) (fun i _ => y.length - (intOf i).toNat)
    case atStart => exact ⟨0, Nat.zero_le _, rfl, by rw [fillUp_zero]; exact HO, Touch.refl⟩
    case round =>
      obtain ⟨k, hkr, rfl, hok, hT⟩ := hrel
      have hlc := HB.out.size
      have T1 := hid (hT.out.below HO.out)
      have SR := hid ((S2.out.trans (HB.out.mono (by omega))).trans (T1.out.mono (by omega)))
      clear l0 l1 q0 q1
      obtain ⟨k0, k1⟩ := ((BA2.out.below HB.out).touch hT.out (by omega)).cells2
      obtain ⟨l0, l1⟩ := ((BB2.out.below HB.out).touch hT.out (by omega)).cells2
      obtain ⟨q0, q1⟩ := (HQ.out.touch hT.out (by omega)).cells2
      by_cases hlt : k < y.length
      · have hi : (k : Int) < (y.length : Int) := by omega
        have hix : (k : Int) < (x.length : Int) := by omega
        obtain ⟨by', oy, v, hA', hcy, hyk⟩ := (HY.out.below SR.out).at_ (k := k) (by omega)
        obtain ⟨by2, oy2, _, hA2', hcy2, _⟩ := HY.out.at_ (k := k) (by omega)
        have hby : by' < w.heap.size := by
          have := World.block_lt_of_cell? w _ hcy2
          rw [hA'] at hA2'; injection hA2' with h; injection h with h; simp at this; omega
        subst hA'
        obtain ⟨bx, ox, u0, hA, hcx, hxk⟩ := (HX.out.below SR.out).at_ (k := k) (by omega)
        obtain ⟨bx2, ox2, _, hA2, hcx2, _⟩ := HX.out.at_ (k := k) (by omega)
        have hbx : bx < w.heap.size := by
          have := World.block_lt_of_cell? w _ hcx2
          rw [hA] at hA2; injection hA2 with h; injection h with h; simp at this; omega
        subst hA
        clear hA2' hcy2 hA2 hcx2
        have hzl : (List.zipWith max x y).length = x.length := by rw [List.length_zipWith]; omega
        have hfl' : (fillUp k (List.zipWith max x y) x).length = x.length := fillUp_length (by omega) (by omega)
        have hfl : k < (fillUp k (List.zipWith max x y) x).length := by omega
        obtain ⟨g', u, hg', hgB', hcg, hfg, htm, hput⟩ := hok.out.put hfl
        injection hg' with hg'; injection hg' with hg'
        subst hg'
        have hxu : Hid (x[k]? = some u) := by
          have := htm.out
          rw [fillUp_at (by omega)] at this
          exact this
        obtain rfl : u0 = u := by have h1 := hxk.out; rw [hxu.out] at h1; injection h1 with h1; exact h1.symm
        have hz := zipM_at (f := max) hxk hyk
        have hO2 : Hid (OwnS (Value.int .i64) (wr.setCell ⟨g, k, none⟩ (.int .i64 (max u0 v))) w2.heap.size 2 (some ⟨g, 0, none⟩) (fillUp (k + 1) (List.zipWith max x y) x)) := by
          have h := hput (max u0 v)
          rw [fillUp_step hz (by omega)] at h
          exact h
        have hT2 := hid (hT.out.set_ (by omega) k (.int .i64 (max u0 v)))
        obtain ⟨u, hu⟩ : ∃ u, u = u0 := ⟨_, rfl⟩
        subst hu
        have n0 : bx ≠ g := by omega
        have n1 : by' ≠ g := by omega
        have n2 : w.heap.size + 1 ≠ g := by omega
        have n3 : q ≠ g := by omega
        have n4 : w.heap.size ≠ g := by omega
        have n0' := Ne.symm n0
        have n1' := Ne.symm n1
        have n2' := Ne.symm n2
        have n3' := Ne.symm n3
        have n4' := Ne.symm n4
        clear hput k0 l0 q0 hfl hfl' hgB' hz hxu htm hzl
        by_cases huv : v ≤ u
        · rw [show max u v = u by omega] at hO2 hT2
          go_wp2
          go_region
          go_wp2
          exact ⟨⟨k + 1, by omega, by go_num, hO2, ⟨hT2.out.os, hT2.out.tape, hT2.out.output, hT2.out.size, hT2.out.block⟩⟩, by simp [intOf]; omega⟩
        · rw [show max u v = v by omega] at hO2 hT2
          go_wp2
          go_region
          go_wp2
          exact ⟨⟨k + 1, by omega, by go_num, hO2, ⟨hT2.out.os, hT2.out.tape, hT2.out.output, hT2.out.size, hT2.out.block⟩⟩, by simp [intOf]; omega⟩
      · have hi : ¬ (k : Int) < (y.length : Int) := by omega
        have he := hok.out
        have hzl : (List.zipWith max x y).length = k := by rw [List.length_zipWith]; omega
        have hxk : x.length = k := by omega
        rw [fillUp_all hzl hxk] at he
        have HZ := hid hzl
        have HK := hid hxk
        have O4 := hid he
        obtain ⟨d0, d1⟩ := ((BR2.out.below HB.out).touch hT.out (by omega)).cells2
        have f0 := ((BR2.out.below HB.out).touch hT.out (by omega)).frozen 0
        have f1 := ((BR2.out.below HB.out).touch hT.out (by omega)).frozen 1
        clear he hzl hxk
        go_wp2
        refine bodyPost_ret (v := .tuple #[.agg #[.int .i64 s, .slice (some ⟨g, 0, none⟩) x.length c1'], .bool true]) (by simp [results, Try.results39, go_sem, d0, d1]) rfl ⟨some ⟨g, 0, none⟩, c1', by show Ending.returned _ = Ending.returned _; rw [HZ.out, HK.out], ?_, by show (List.zipWith max x y).length ≤ 1048576; rw [HZ.out]; omega, ?_⟩
        · exact ((O4.out.setFar (by simp <;> omega) _).setFar (by simp <;> omega) _).mono (by omega)
        · exact (SR.out.setCell (by simp <;> omega) _).setCell (by simp <;> omega) _

end Go.Proofs.Ytlcpchpodcchlaa
