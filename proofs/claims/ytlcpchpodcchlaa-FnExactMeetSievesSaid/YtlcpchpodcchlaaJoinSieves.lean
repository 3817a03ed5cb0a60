/-
  Joined and met sieves: reference and program, by contracts. Printed by gen_both.py.
-/
import Derived.Test.YtlcpchpodcchlaaBothSieves
import Derived.Test.YtlcpchpodcchlaaPutSieve
import Derived.Deep.RegionLaw
namespace Go.Proofs.Ytlcpchpodcchlaa
open Go.RowKit
set_option linter.unusedVariables false

theorem ownsRow_setFar {w : World} {B : Nat} {e : TypeId} {v : Value} {n m : Nat} {l : List Value} (h : w.ownsRow B e m v n l) {b o : Nat} {sp} (hb : ∀ g, v.ownBlock = some g → g ≠ b) (u : Value) : (w.setCell ⟨b, o, sp⟩ u).ownsRow B e m v n l :=
  h.kept (row := some b) ⟨rfl, rfl, rfl, by simp, fun k _ hk => Below.heap_setCell _ _ _ _ (by rintro rfl; exact hk rfl)⟩ (by
    cases hv : v.ownBlock with
    | none => exact .inl rfl
    | some g => exact .inr fun e => by injection e with e; exact hb g hv e)
theorem pBoth_no {f : Bool → Bool → Bool} {r s : Int} {x : List Bool} {r' s' : Int} {y : List Bool} (h : alikeS r s x.length r' s' y.length = false) : pBoth f r s x r' s' y = ((0, 0, []), false) := by simp [pBoth, h]
theorem pBoth_yes {f : Bool → Bool → Bool} {r s : Int} {x : List Bool} {r' s' : Int} {y : List Bool} (h : alikeS r s x.length r' s' y.length = true) : pBoth f r s x r' s' y = ((r, s, List.zipWith f x y), true) := by simp [pBoth, h]
theorem alikeS_iff {r s : Int} {n : Nat} {r' s' : Int} {n' : Nat} (h : alikeS r s n r' s' n' = true) : vSieve r s n = true ∧ vSieve r' s' n' = true ∧ r = r' ∧ s = s' ∧ n = n' := by
  simp only [alikeS, Bool.and_eq_true, beq_iff_eq] at h
  exact ⟨h.1.1.1.1, h.1.1.1.2, h.1.1.2, h.1.2, by omega⟩
theorem zip_at {f : Bool → Bool → Bool} {x y : List Bool} {k : Nat} {a b : Bool} (h : Hid (x[k]? = some a)) (h' : Hid (y[k]? = some b)) : (List.zipWith f x y)[k]? = some (f a b) := by
  rw [List.getElem?_zipWith, h.out, h'.out]
theorem zip_take {f : Bool → Bool → Bool} {x y : List Bool} {k : Nat} {a b : Bool} (h : Hid (x[k]? = some a)) (h' : Hid (y[k]? = some b)) : (List.zipWith f (x.take k) (y.take k)) ++ [f a b] = List.zipWith f (x.take (k + 1)) (y.take (k + 1)) := by
  have hx : k < x.length := by
    rcases Nat.lt_or_ge k x.length with h1 | h1
    · exact h1
    · have := h.out; rw [List.getElem?_eq_none h1] at this; cases this
  have hy : k < y.length := by
    rcases Nat.lt_or_ge k y.length with h1 | h1
    · exact h1
    · have := h'.out; rw [List.getElem?_eq_none h1] at this; cases this
  rw [List.take_add_one, List.take_add_one, h.out, h'.out, List.zipWith_append (by simp; omega)]
  simp

set_option maxRecDepth 100000 in
set_option maxHeartbeats 3200000 in
theorem sJoinSieves0_any (r s : Int) (A : Option Addr) (c : Nat) (x : List Bool) (r' s' : Int) (A' : Option Addr) (c' : Nat) (y : List Bool) (w : World) (hr : W64 r) (hs : W64 s) (hx : RdL Value.bool w A x) (hn : x.length ≤ 1048576) (hr' : W64 r') (hs' : W64 s') (hy : RdL Value.bool w A' y) (hn' : y.length ≤ 1048576) :
    Calls Try.prog 30 #[.agg #[.int .i64 r, .int .i64 s, .slice A x.length c], .agg #[.int .i64 r', .int .i64 s', .slice A' y.length c']] w (RetSv w (pBoth (fun a b => a || b) r s x r' s' y)) := by
  have HX := hid hx
  have HY := hid hy
  clear hx hy hr hs hr' hs'
  obtain ⟨k0, k1, k2⟩ := (((Blk.new w 42 [.int .i64 r, .int .i64 s, .slice A x.length c]).alloc (.cells #[.int .i64 r', .int .i64 s', .slice A' y.length c'] 42)).alloc (.cells #[.int .i64 0, .int .i64 0, .slice none 0 0] 42)).cells3
  obtain ⟨l0, l1, l2⟩ := ((Blk.new2 w (.cells #[.int .i64 r, .int .i64 s, .slice A x.length c] 42) 42 [.int .i64 r', .int .i64 s', .slice A' y.length c']).alloc (.cells #[.int .i64 0, .int .i64 0, .slice none 0 0] 42)).cells3
  cases hal : alikeS r s x.length r' s' y.length with
  | false =>
    rw [pBoth_no hal]
    refine Calls.mono ?_ retSv_no
    go_enter Try.func30, Try.ntmps30
    go_wp2_with fail
    refine (l04Alike_any w.heap.size (w.heap.size + 1) x.length y.length c c' A A' r s r' s' _ k0 k1 k2 l0 l1 l2).mono ?_
    rintro e w1 ⟨rfl, m, hm⟩
    have hb := below_of_draw hm
    clear hm k0 k1 k2 l0 l1 l2
    have R1 := hid ((Blk.new3 w (.cells #[.int .i64 r, .int .i64 s, .slice A x.length c] 42) (.cells #[.int .i64 r', .int .i64 s', .slice A' y.length c'] 42) 42 [.int .i64 0, .int .i64 0, .slice none 0 0]).below hb)
    have S1 := below_call (below_a3 _ _ _ _) hb
    clear hb
    obtain ⟨d0, d1, d2⟩ := R1.out.cells3
    have f0 := R1.out.frozen 0
    have f1 := R1.out.frozen 1
    have f2 := R1.out.frozen 2
    go_wp2
    refine bodyPost_ret (v := .tuple #[.agg #[.int .i64 0, .int .i64 0, .slice none 0 0], .bool false]) (by simp [results, Try.results30, go_sem, d0, d1, d2]) rfl ⟨rfl, ?_⟩
    exact ((S1.out.setCell (by simp <;> omega) _).setCell (by simp <;> omega) _).setCell (by simp <;> omega) _
  | true =>
  obtain ⟨hv, hv', rfl, rfl, hxy⟩ := alikeS_iff hal
  have HXY := hid hxy
  obtain ⟨⟨hr1, hr2⟩, ⟨hs1, hs2⟩, hn1, hn2⟩ := vSieve_iff hv
  rw [pBoth_yes hal]
  clear hxy
  go_enter Try.func30, Try.ntmps30
  go_wp2_with fail
  refine (l04Alike_any w.heap.size (w.heap.size + 1) x.length y.length c c' A A' r s r s _ k0 k1 k2 l0 l1 l2).mono ?_
  rintro e w0 ⟨rfl, m, hm⟩
  have hb := below_of_draw hm
  clear hm k0 k1 k2 l0 l1 l2
  have BA0 := hid ((((Blk.new w 42 [.int .i64 r, .int .i64 s, .slice A x.length c]).alloc _).alloc _).below hb)
  have BB0 := hid (((Blk.new2 w _ 42 [.int .i64 r, .int .i64 s, .slice A' y.length c']).alloc _).below hb)
  have BR0 := hid ((Blk.new3 w _ _ 42 [.int .i64 0, .int .i64 0, .slice none 0 0]).below hb)
  have S0 := below_call (below_a3 _ _ _ _) hb
  have hl0 : w.heap.size + 3 ≤ w0.heap.size := by have := hb.size; simp at this; omega
  clear hb
  obtain ⟨k0, k1, k2⟩ := BA0.out.cells3
  go_wp2_with fail
  refine (l04Own_any w.heap.size c A r s x _ k0 k1 k2 (HX.out.below S0.out) (by omega) hn).mono ?_
  rintro e w1 ⟨A1, c1, rfl, ho, hb⟩
  clear k0 k1 k2
  have ho' : OwnS Value.bool w1 (w.heap.size + 3) 4 A1 x := ho.mono hl0
  obtain ⟨g, ex, rfl, hgB, hgb⟩ := ho' (by rintro rfl; simp at hn1)
  have hgl := hgb.lt
  have hl1 := hb.size
  have S1 : Hid (Below w.heap.size w w1) := S0.out.trans (hb.mono (by omega))
  have O1 := hid (ho'.below (below_a1 w1 (.cells #[.int .i64 r, .int .i64 s, .slice (some ⟨g, 0, none⟩) x.length c1] 42)))
  have Q1 := hid (Blk.new w1 42 [.int .i64 r, .int .i64 s, .slice (some ⟨g, 0, none⟩) x.length c1])
  have BA := hid ((BA0.out.below hb).below (below_a1 w1 (.cells #[.int .i64 r, .int .i64 s, .slice (some ⟨g, 0, none⟩) x.length c1] 42)))
  have BB := hid ((BB0.out.below hb).below (below_a1 w1 (.cells #[.int .i64 r, .int .i64 s, .slice (some ⟨g, 0, none⟩) x.length c1] 42)))
  have BR := hid ((BR0.out.below hb).below (below_a1 w1 (.cells #[.int .i64 r, .int .i64 s, .slice (some ⟨g, 0, none⟩) x.length c1] 42)))
  clear hgb hb ho ho' hv hv' hal BA0 BB0 BR0
  go_wp2
  go_loopw [7] (fun i wr => ∃ k : Nat, k ≤ y.length ∧ i = .int .i64 k ∧ Hid (OwnS Value.bool wr (w.heap.size + 3) 4 (some ⟨g, 0, none⟩) (fillUp k (List.zipWith (fun a b => a || b) x y) x)) ∧ Hid (Touch (w1.alloc (.cells #[.int .i64 r, .int .i64 s, .slice (some ⟨g, 0, none⟩) x.length c1] 42)) wr (some ⟨g, 0, none⟩) x.length)) (fun i _ => y.length - (intOf i).toNat)
  case atStart => exact ⟨0, Nat.zero_le _, rfl, by rw [fillUp_zero]; exact O1, Touch.refl⟩
  case round =>
    obtain ⟨k, hkr, rfl, hok, hT⟩ := hrel
    have hxl1 : x.length ≤ y.length := by have := HXY.out; omega
    have hxl2 : y.length ≤ x.length := by have := HXY.out; omega
    have T1 := hid (hT.out.below O1.out)
    have SR := hid ((S1.out.alloc (by omega) _).trans (T1.out.mono (by omega)))
    obtain ⟨a0, a1, a2⟩ := (BA.out.touch hT.out (by omega)).cells3
    obtain ⟨b0, b1, b2⟩ := (BB.out.touch hT.out (by omega)).cells3
    obtain ⟨q0, q1, q2⟩ := (Q1.out.touch hT.out (by omega)).cells3
    by_cases hlt : k < y.length
    · have hi : (k : Int) < (y.length : Int) := by omega
      have hix : (k : Int) < (x.length : Int) := by omega
      obtain ⟨bx, ox, u, hA, hcx, hxk⟩ := (HX.out.below SR.out).at_ (k := k) (by omega)
      obtain ⟨by', oy, v, hA', hcy, hyk⟩ := (HY.out.below SR.out).at_ hlt
      obtain ⟨bx', ox', _, hA2, hcx2, _⟩ := HX.out.at_ (k := k) (by omega)
      obtain ⟨by2, oy2, _, hA2', hcy2, _⟩ := HY.out.at_ hlt
      have hbx : bx < w.heap.size := by
        have := World.block_lt_of_cell? w _ hcx2
        rw [hA] at hA2; injection hA2 with h; injection h with h; simp at this; omega
      have hby : by' < w.heap.size := by
        have := World.block_lt_of_cell? w _ hcy2
        rw [hA'] at hA2'; injection hA2' with h; injection h with h; simp at this; omega
      subst hA hA'
      clear hA2 hA2' hcx2 hcy2
      have hz := zip_at (f := (fun a b => a || b)) hxk hyk
      have hfl' : (fillUp k (List.zipWith (fun a b => a || b) x y) x).length = x.length := fillUp_length (by simp; omega) (by omega)
      have hfl : k < (fillUp k (List.zipWith (fun a b => a || b) x y) x).length := by omega
      clear hfl'
      obtain ⟨g', t, hg', hgB', hcg, hfg, htm, hput⟩ := hok.out.put hfl
      injection hg' with hg'; injection hg' with hg'
      subst hg'
      have hO2 := hput ((fun a b => a || b) u v)
      rw [fillUp_step hz (by omega)] at hO2
      have hT2 := hid ((hT.out.set_ (by omega) k (.bool ((fun a b => a || b) u v))).drewN 1)
      have n1 : bx ≠ g := by omega
      have n2 : by' ≠ g := by omega
      have n3 : w.heap.size ≠ g := by omega
      have n4 : w.heap.size + 1 ≠ g := by omega
      have n5 : w1.heap.size ≠ g := by omega
      have n1' := Ne.symm n1
      have n2' := Ne.symm n2
      have n3' := Ne.symm n3
      have n4' := Ne.symm n4
      have n5' := Ne.symm n5
      clear hput a0 a1 b0 b1 q0 q1 hfl hgB' hz
      cases u with
      | true =>
        cases v with
        | true =>
          have hO2 : Hid (OwnS Value.bool (wr.setCell ⟨g, k, none⟩ (.bool true)) (w.heap.size + 3) 4 (some ⟨g, 0, none⟩) (fillUp (k + 1) (List.zipWith (fun a b => a || b) x y) x)) := hO2
          have hT2 : Hid (Touch (w1.alloc (.cells #[.int .i64 r, .int .i64 s, .slice (some ⟨g, 0, none⟩) x.length c1] 42)) ((wr.setCell ⟨g, k, none⟩ (.bool true)).drewN 1) (some ⟨g, 0, none⟩) x.length) := hT2
          go_wp2
          go_region
          go_wp2
          exact ⟨⟨k + 1, by omega, by go_num, hO2, hT2⟩, by simp [intOf]; omega⟩
        | false =>
          have hO2 : Hid (OwnS Value.bool (wr.setCell ⟨g, k, none⟩ (.bool true)) (w.heap.size + 3) 4 (some ⟨g, 0, none⟩) (fillUp (k + 1) (List.zipWith (fun a b => a || b) x y) x)) := hO2
          have hT2 : Hid (Touch (w1.alloc (.cells #[.int .i64 r, .int .i64 s, .slice (some ⟨g, 0, none⟩) x.length c1] 42)) ((wr.setCell ⟨g, k, none⟩ (.bool true)).drewN 1) (some ⟨g, 0, none⟩) x.length) := hT2
          go_wp2
          go_region
          go_wp2
          exact ⟨⟨k + 1, by omega, by go_num, hO2, hT2⟩, by simp [intOf]; omega⟩
      | false =>
        cases v with
        | true =>
          have hO2 : Hid (OwnS Value.bool (wr.setCell ⟨g, k, none⟩ (.bool true)) (w.heap.size + 3) 4 (some ⟨g, 0, none⟩) (fillUp (k + 1) (List.zipWith (fun a b => a || b) x y) x)) := hO2
          have hT2 : Hid (Touch (w1.alloc (.cells #[.int .i64 r, .int .i64 s, .slice (some ⟨g, 0, none⟩) x.length c1] 42)) ((wr.setCell ⟨g, k, none⟩ (.bool true)).drewN 1) (some ⟨g, 0, none⟩) x.length) := hT2
          go_wp2
          go_region
          go_wp2
          exact ⟨⟨k + 1, by omega, by go_num, hO2, hT2⟩, by simp [intOf]; omega⟩
        | false =>
          have hO2 : Hid (OwnS Value.bool (wr.setCell ⟨g, k, none⟩ (.bool false)) (w.heap.size + 3) 4 (some ⟨g, 0, none⟩) (fillUp (k + 1) (List.zipWith (fun a b => a || b) x y) x)) := hO2
          have hT2 : Hid (Touch (w1.alloc (.cells #[.int .i64 r, .int .i64 s, .slice (some ⟨g, 0, none⟩) x.length c1] 42)) ((wr.setCell ⟨g, k, none⟩ (.bool false)).drewN 1) (some ⟨g, 0, none⟩) x.length) := hT2
          go_wp2
          go_region
          go_wp2
          exact ⟨⟨k + 1, by omega, by go_num, hO2, hT2⟩, by simp [intOf]; omega⟩
    · have hi : ¬ (k : Int) < (y.length : Int) := by omega
      obtain ⟨d0, d1, d2⟩ := (BR.out.touch hT.out (by omega)).cells3
      have f0 := (BR.out.touch hT.out (by omega)).frozen 0
      have f1 := (BR.out.touch hT.out (by omega)).frozen 1
      have f2 := (BR.out.touch hT.out (by omega)).frozen 2
      obtain rfl : k = y.length := by omega
      go_wp2
      have he := hok.out
      rw [fillUp_all (by simp; omega) HXY.out] at he
      have hzl : (List.zipWith (fun a b => a || b) x y).length = x.length := by simp; omega
      refine bodyPost_ret (v := .tuple #[.agg #[.int .i64 r, .int .i64 s, .slice (some ⟨g, 0, none⟩) x.length c1], .bool true]) (by simp [results, Try.results30, go_sem, d0, d1, d2]) rfl ⟨some ⟨g, 0, none⟩, c1, by rw [hzl], ?_, by rw [hzl]; omega, ?_⟩
      · exact (((he.setFar (by simp <;> omega) _).setFar (by simp <;> omega) _).setFar (by simp <;> omega) _).mono (by omega)
      · exact ((SR.out.setCell (by simp <;> omega) _).setCell (by simp <;> omega) _).setCell (by simp <;> omega) _
/-- What JoinSieves returns. -/
def pJoinSieves (r s : Int) (x : List Bool) (r' s' : Int) (y : List Bool) : (Int × Int × List Bool) × Bool := pBoth (fun a b => a || b) r s x r' s' y
theorem sJoinSieves_any (r s : Int) (A : Option Addr) (c : Nat) (x : List Bool) (r' s' : Int) (A' : Option Addr) (c' : Nat) (y : List Bool) (w : World) (hr : W64 r) (hs : W64 s) (hx : RdL Value.bool w A x) (hn : x.length ≤ 1048576) (hr' : W64 r') (hs' : W64 s') (hy : RdL Value.bool w A' y) (hn' : y.length ≤ 1048576) :
    Calls Try.prog 30 #[.agg #[.int .i64 r, .int .i64 s, .slice A x.length c], .agg #[.int .i64 r', .int .i64 s', .slice A' y.length c']] w (RetSv w (pJoinSieves r s x r' s' y)) :=
  sJoinSieves0_any r s A c x r' s' A' c' y w hr hs hx hn hr' hs' hy hn'

set_option maxRecDepth 100000 in
set_option maxHeartbeats 3200000 in
theorem sMeetSieves0_any (r s : Int) (A : Option Addr) (c : Nat) (x : List Bool) (r' s' : Int) (A' : Option Addr) (c' : Nat) (y : List Bool) (w : World) (hr : W64 r) (hs : W64 s) (hx : RdL Value.bool w A x) (hn : x.length ≤ 1048576) (hr' : W64 r') (hs' : W64 s') (hy : RdL Value.bool w A' y) (hn' : y.length ≤ 1048576) :
    Calls Try.prog 34 #[.agg #[.int .i64 r, .int .i64 s, .slice A x.length c], .agg #[.int .i64 r', .int .i64 s', .slice A' y.length c']] w (RetSv w (pBoth (fun a b => a && b) r s x r' s' y)) := by
  have HX := hid hx
  have HY := hid hy
  clear hx hy hr hs hr' hs'
  obtain ⟨k0, k1, k2⟩ := (((Blk.new w 42 [.int .i64 r, .int .i64 s, .slice A x.length c]).alloc (.cells #[.int .i64 r', .int .i64 s', .slice A' y.length c'] 42)).alloc (.cells #[.int .i64 0, .int .i64 0, .slice none 0 0] 42)).cells3
  obtain ⟨l0, l1, l2⟩ := ((Blk.new2 w (.cells #[.int .i64 r, .int .i64 s, .slice A x.length c] 42) 42 [.int .i64 r', .int .i64 s', .slice A' y.length c']).alloc (.cells #[.int .i64 0, .int .i64 0, .slice none 0 0] 42)).cells3
  cases hal : alikeS r s x.length r' s' y.length with
  | false =>
    rw [pBoth_no hal]
    refine Calls.mono ?_ retSv_no
    go_enter Try.func34, Try.ntmps34
    go_wp2_with fail
    refine (l04Alike_any w.heap.size (w.heap.size + 1) x.length y.length c c' A A' r s r' s' _ k0 k1 k2 l0 l1 l2).mono ?_
    rintro e w1 ⟨rfl, m, hm⟩
    have hb := below_of_draw hm
    clear hm k0 k1 k2 l0 l1 l2
    have R1 := hid ((Blk.new3 w (.cells #[.int .i64 r, .int .i64 s, .slice A x.length c] 42) (.cells #[.int .i64 r', .int .i64 s', .slice A' y.length c'] 42) 42 [.int .i64 0, .int .i64 0, .slice none 0 0]).below hb)
    have S1 := below_call (below_a3 _ _ _ _) hb
    clear hb
    obtain ⟨d0, d1, d2⟩ := R1.out.cells3
    have f0 := R1.out.frozen 0
    have f1 := R1.out.frozen 1
    have f2 := R1.out.frozen 2
    go_wp2
    refine bodyPost_ret (v := .tuple #[.agg #[.int .i64 0, .int .i64 0, .slice none 0 0], .bool false]) (by simp [results, Try.results34, go_sem, d0, d1, d2]) rfl ⟨rfl, ?_⟩
    exact ((S1.out.setCell (by simp <;> omega) _).setCell (by simp <;> omega) _).setCell (by simp <;> omega) _
  | true =>
  obtain ⟨hv, hv', rfl, rfl, hxy⟩ := alikeS_iff hal
  have HXY := hid hxy
  obtain ⟨⟨hr1, hr2⟩, ⟨hs1, hs2⟩, hn1, hn2⟩ := vSieve_iff hv
  rw [pBoth_yes hal]
  clear hxy
  go_enter Try.func34, Try.ntmps34
  go_wp2_with fail
  refine (l04Alike_any w.heap.size (w.heap.size + 1) x.length y.length c c' A A' r s r s _ k0 k1 k2 l0 l1 l2).mono ?_
  rintro e w0 ⟨rfl, m, hm⟩
  have hb := below_of_draw hm
  clear hm k0 k1 k2 l0 l1 l2
  have BA0 := hid ((((Blk.new w 42 [.int .i64 r, .int .i64 s, .slice A x.length c]).alloc _).alloc _).below hb)
  have BB0 := hid (((Blk.new2 w _ 42 [.int .i64 r, .int .i64 s, .slice A' y.length c']).alloc _).below hb)
  have BR0 := hid ((Blk.new3 w _ _ 42 [.int .i64 0, .int .i64 0, .slice none 0 0]).below hb)
  have S0 := below_call (below_a3 _ _ _ _) hb
  have hl0 : w.heap.size + 3 ≤ w0.heap.size := by have := hb.size; simp at this; omega
  clear hb
  obtain ⟨k0, k1, k2⟩ := BA0.out.cells3
  go_wp2_with fail
  refine (l04Own_any w.heap.size c A r s x _ k0 k1 k2 (HX.out.below S0.out) (by omega) hn).mono ?_
  rintro e w1 ⟨A1, c1, rfl, ho, hb⟩
  clear k0 k1 k2
  have ho' : OwnS Value.bool w1 (w.heap.size + 3) 4 A1 x := ho.mono hl0
  obtain ⟨g, ex, rfl, hgB, hgb⟩ := ho' (by rintro rfl; simp at hn1)
  have hgl := hgb.lt
  have hl1 := hb.size
  have S1 : Hid (Below w.heap.size w w1) := S0.out.trans (hb.mono (by omega))
  have O1 := hid (ho'.below (below_a1 w1 (.cells #[.int .i64 r, .int .i64 s, .slice (some ⟨g, 0, none⟩) x.length c1] 42)))
  have Q1 := hid (Blk.new w1 42 [.int .i64 r, .int .i64 s, .slice (some ⟨g, 0, none⟩) x.length c1])
  have BA := hid ((BA0.out.below hb).below (below_a1 w1 (.cells #[.int .i64 r, .int .i64 s, .slice (some ⟨g, 0, none⟩) x.length c1] 42)))
  have BB := hid ((BB0.out.below hb).below (below_a1 w1 (.cells #[.int .i64 r, .int .i64 s, .slice (some ⟨g, 0, none⟩) x.length c1] 42)))
  have BR := hid ((BR0.out.below hb).below (below_a1 w1 (.cells #[.int .i64 r, .int .i64 s, .slice (some ⟨g, 0, none⟩) x.length c1] 42)))
  clear hgb hb ho ho' hv hv' hal BA0 BB0 BR0
  go_wp2
  go_loopw [7] (fun i wr => ∃ k : Nat, k ≤ y.length ∧ i = .int .i64 k ∧ Hid (OwnS Value.bool wr (w.heap.size + 3) 4 (some ⟨g, 0, none⟩) (fillUp k (List.zipWith (fun a b => a && b) x y) x)) ∧ Hid (Touch (w1.alloc (.cells #[.int .i64 r, .int .i64 s, .slice (some ⟨g, 0, none⟩) x.length c1] 42)) wr (some ⟨g, 0, none⟩) x.length)) (fun i _ => y.length - (intOf i).toNat)
  case atStart => exact ⟨0, Nat.zero_le _, rfl, by rw [fillUp_zero]; exact O1, Touch.refl⟩
  case round =>
    obtain ⟨k, hkr, rfl, hok, hT⟩ := hrel
    have hxl1 : x.length ≤ y.length := by have := HXY.out; omega
    have hxl2 : y.length ≤ x.length := by have := HXY.out; omega
    have T1 := hid (hT.out.below O1.out)
    have SR := hid ((S1.out.alloc (by omega) _).trans (T1.out.mono (by omega)))
    obtain ⟨a0, a1, a2⟩ := (BA.out.touch hT.out (by omega)).cells3
    obtain ⟨b0, b1, b2⟩ := (BB.out.touch hT.out (by omega)).cells3
    obtain ⟨q0, q1, q2⟩ := (Q1.out.touch hT.out (by omega)).cells3
    by_cases hlt : k < y.length
    · have hi : (k : Int) < (y.length : Int) := by omega
      have hix : (k : Int) < (x.length : Int) := by omega
      obtain ⟨bx, ox, u, hA, hcx, hxk⟩ := (HX.out.below SR.out).at_ (k := k) (by omega)
      obtain ⟨by', oy, v, hA', hcy, hyk⟩ := (HY.out.below SR.out).at_ hlt
      obtain ⟨bx', ox', _, hA2, hcx2, _⟩ := HX.out.at_ (k := k) (by omega)
      obtain ⟨by2, oy2, _, hA2', hcy2, _⟩ := HY.out.at_ hlt
      have hbx : bx < w.heap.size := by
        have := World.block_lt_of_cell? w _ hcx2
        rw [hA] at hA2; injection hA2 with h; injection h with h; simp at this; omega
      have hby : by' < w.heap.size := by
        have := World.block_lt_of_cell? w _ hcy2
        rw [hA'] at hA2'; injection hA2' with h; injection h with h; simp at this; omega
      subst hA hA'
      clear hA2 hA2' hcx2 hcy2
      have hz := zip_at (f := (fun a b => a && b)) hxk hyk
      have hfl' : (fillUp k (List.zipWith (fun a b => a && b) x y) x).length = x.length := fillUp_length (by simp; omega) (by omega)
      have hfl : k < (fillUp k (List.zipWith (fun a b => a && b) x y) x).length := by omega
      clear hfl'
      obtain ⟨g', t, hg', hgB', hcg, hfg, htm, hput⟩ := hok.out.put hfl
      injection hg' with hg'; injection hg' with hg'
      subst hg'
      have hO2 := hput ((fun a b => a && b) u v)
      rw [fillUp_step hz (by omega)] at hO2
      have hT2 := hid ((hT.out.set_ (by omega) k (.bool ((fun a b => a && b) u v))).drewN 1)
      have n1 : bx ≠ g := by omega
      have n2 : by' ≠ g := by omega
      have n3 : w.heap.size ≠ g := by omega
      have n4 : w.heap.size + 1 ≠ g := by omega
      have n5 : w1.heap.size ≠ g := by omega
      have n1' := Ne.symm n1
      have n2' := Ne.symm n2
      have n3' := Ne.symm n3
      have n4' := Ne.symm n4
      have n5' := Ne.symm n5
      clear hput a0 a1 b0 b1 q0 q1 hfl hgB' hz
      cases u with
      | true =>
        cases v with
        | true =>
          have hO2 : Hid (OwnS Value.bool (wr.setCell ⟨g, k, none⟩ (.bool true)) (w.heap.size + 3) 4 (some ⟨g, 0, none⟩) (fillUp (k + 1) (List.zipWith (fun a b => a && b) x y) x)) := hO2
          have hT2 : Hid (Touch (w1.alloc (.cells #[.int .i64 r, .int .i64 s, .slice (some ⟨g, 0, none⟩) x.length c1] 42)) ((wr.setCell ⟨g, k, none⟩ (.bool true)).drewN 1) (some ⟨g, 0, none⟩) x.length) := hT2
          go_wp2
          go_region
          go_wp2
          exact ⟨⟨k + 1, by omega, by go_num, hO2, hT2⟩, by simp [intOf]; omega⟩
        | false =>
          have hO2 : Hid (OwnS Value.bool (wr.setCell ⟨g, k, none⟩ (.bool false)) (w.heap.size + 3) 4 (some ⟨g, 0, none⟩) (fillUp (k + 1) (List.zipWith (fun a b => a && b) x y) x)) := hO2
          have hT2 : Hid (Touch (w1.alloc (.cells #[.int .i64 r, .int .i64 s, .slice (some ⟨g, 0, none⟩) x.length c1] 42)) ((wr.setCell ⟨g, k, none⟩ (.bool false)).drewN 1) (some ⟨g, 0, none⟩) x.length) := hT2
          go_wp2
          go_region
          go_wp2
          exact ⟨⟨k + 1, by omega, by go_num, hO2, hT2⟩, by simp [intOf]; omega⟩
      | false =>
        cases v with
        | true =>
          have hO2 : Hid (OwnS Value.bool (wr.setCell ⟨g, k, none⟩ (.bool false)) (w.heap.size + 3) 4 (some ⟨g, 0, none⟩) (fillUp (k + 1) (List.zipWith (fun a b => a && b) x y) x)) := hO2
          have hT2 : Hid (Touch (w1.alloc (.cells #[.int .i64 r, .int .i64 s, .slice (some ⟨g, 0, none⟩) x.length c1] 42)) ((wr.setCell ⟨g, k, none⟩ (.bool false)).drewN 1) (some ⟨g, 0, none⟩) x.length) := hT2
          go_wp2
          go_region
          go_wp2
          exact ⟨⟨k + 1, by omega, by go_num, hO2, hT2⟩, by simp [intOf]; omega⟩
        | false =>
          have hO2 : Hid (OwnS Value.bool (wr.setCell ⟨g, k, none⟩ (.bool false)) (w.heap.size + 3) 4 (some ⟨g, 0, none⟩) (fillUp (k + 1) (List.zipWith (fun a b => a && b) x y) x)) := hO2
          have hT2 : Hid (Touch (w1.alloc (.cells #[.int .i64 r, .int .i64 s, .slice (some ⟨g, 0, none⟩) x.length c1] 42)) ((wr.setCell ⟨g, k, none⟩ (.bool false)).drewN 1) (some ⟨g, 0, none⟩) x.length) := hT2
          go_wp2
          go_region
          go_wp2
          exact ⟨⟨k + 1, by omega, by go_num, hO2, hT2⟩, by simp [intOf]; omega⟩
    · have hi : ¬ (k : Int) < (y.length : Int) := by omega
      obtain ⟨d0, d1, d2⟩ := (BR.out.touch hT.out (by omega)).cells3
      have f0 := (BR.out.touch hT.out (by omega)).frozen 0
      have f1 := (BR.out.touch hT.out (by omega)).frozen 1
      have f2 := (BR.out.touch hT.out (by omega)).frozen 2
      obtain rfl : k = y.length := by omega
      go_wp2
      have he := hok.out
      rw [fillUp_all (by simp; omega) HXY.out] at he
      have hzl : (List.zipWith (fun a b => a && b) x y).length = x.length := by simp; omega
      refine bodyPost_ret (v := .tuple #[.agg #[.int .i64 r, .int .i64 s, .slice (some ⟨g, 0, none⟩) x.length c1], .bool true]) (by simp [results, Try.results34, go_sem, d0, d1, d2]) rfl ⟨some ⟨g, 0, none⟩, c1, by rw [hzl], ?_, by rw [hzl]; omega, ?_⟩
      · exact (((he.setFar (by simp <;> omega) _).setFar (by simp <;> omega) _).setFar (by simp <;> omega) _).mono (by omega)
      · exact ((SR.out.setCell (by simp <;> omega) _).setCell (by simp <;> omega) _).setCell (by simp <;> omega) _
/-- What MeetSieves returns. -/
def pMeetSieves (r s : Int) (x : List Bool) (r' s' : Int) (y : List Bool) : (Int × Int × List Bool) × Bool := pBoth (fun a b => a && b) r s x r' s' y
theorem sMeetSieves_any (r s : Int) (A : Option Addr) (c : Nat) (x : List Bool) (r' s' : Int) (A' : Option Addr) (c' : Nat) (y : List Bool) (w : World) (hr : W64 r) (hs : W64 s) (hx : RdL Value.bool w A x) (hn : x.length ≤ 1048576) (hr' : W64 r') (hs' : W64 s') (hy : RdL Value.bool w A' y) (hn' : y.length ≤ 1048576) :
    Calls Try.prog 34 #[.agg #[.int .i64 r, .int .i64 s, .slice A x.length c], .agg #[.int .i64 r', .int .i64 s', .slice A' y.length c']] w (RetSv w (pMeetSieves r s x r' s' y)) :=
  sMeetSieves0_any r s A c x r' s' A' c' y w hr hs hx hn hr' hs' hy hn'

end Go.Proofs.Ytlcpchpodcchlaa
