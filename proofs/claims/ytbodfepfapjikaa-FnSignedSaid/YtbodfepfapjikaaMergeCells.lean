/-
  Cells that are alike, merged cells: reference and program, by contracts. Printed by gen_merge.py.
-/
import Derived.Test.YtbodfepfapjikaaPutCells
namespace Go.Proofs.Ytbodfepfapjikaa
open Go.RowKit
set_option linter.unusedVariables false

/-- Two cells are valid and have equal sides and salts. -/
def alikeC (a0 a1 a2 : Int) (x : List Int) (b0 b1 b2 : Int) (y : List Int) : Bool := vCells a0 a1 a2 x && vCells b0 b1 b2 y && (a0 == b0) && (a1 == b1) && (a2 == b2)
theorem alikeC_iff {a0 a1 a2 : Int} {x : List Int} {b0 b1 b2 : Int} {y : List Int} (h : alikeC a0 a1 a2 x b0 b1 b2 y = true) : vCells a0 a1 a2 x = true ∧ vCells b0 b1 b2 y = true ∧ a0 = b0 ∧ a1 = b1 ∧ a2 = b2 := by
  simp only [alikeC, Bool.and_eq_true, beq_iff_eq] at h
  exact ⟨h.1.1.1.1, h.1.1.1.2, h.1.1.2, h.1.2, h.2⟩
/-- What MergeCells returns. -/
def pMergeCells (a0 a1 a2 : Int) (x : List Int) (b0 b1 b2 : Int) (y : List Int) : (Int × Int × Int × List Int) × Bool :=
  if alikeC a0 a1 a2 x b0 b1 b2 y = true then giveP a0 a1 a2 (List.zipWith (fun a b => a + b) x y) else ((0, 0, 0, []), false)
theorem pMergeCells_no {a0 a1 a2 : Int} {x : List Int} {b0 b1 b2 : Int} {y : List Int} (h : alikeC a0 a1 a2 x b0 b1 b2 y = false) : pMergeCells a0 a1 a2 x b0 b1 b2 y = ((0, 0, 0, []), false) := by simp [pMergeCells, h]
theorem pMergeCells_yes {a0 a1 a2 : Int} {x : List Int} {b0 b1 b2 : Int} {y : List Int} (h : alikeC a0 a1 a2 x b0 b1 b2 y = true) : pMergeCells a0 a1 a2 x b0 b1 b2 y = giveP a0 a1 a2 (List.zipWith (fun a b => a + b) x y) := by simp [pMergeCells, h]
theorem zipI_at {f : Int → Int → Int} {x y : List Int} {k : Nat} {a b : Int} (h : Hid (x[k]? = some a)) (h' : Hid (y[k]? = some b)) : (List.zipWith f x y)[k]? = some (f a b) := by
  rw [List.getElem?_zipWith, h.out, h'.out]
theorem zipAdd_w64 {x y : List Int} (hx : ∀ z ∈ x, -1000000000000 ≤ z ∧ z ≤ 1000000000000) (hy : ∀ z ∈ y, -1000000000000 ≤ z ∧ z ≤ 1000000000000) : ∀ z ∈ List.zipWith (fun a b => a + b) x y, W64 z := by
  intro z hz
  rw [List.mem_iff_getElem?] at hz
  obtain ⟨i, hi⟩ := hz
  rw [List.getElem?_zipWith] at hi
  cases hxa : x[i]? with
  | none => rw [hxa] at hi; cases hi
  | some a =>
    cases hyb : y[i]? with
    | none => rw [hxa, hyb] at hi; cases hi
    | some b =>
      rw [hxa, hyb] at hi
      injection hi with hi
      have h1 := hx a (List.mem_of_getElem? hxa)
      have h2 := hy b (List.mem_of_getElem? hyb)
      subst hi
      exact w64_of_bounds (by omega)

set_option maxRecDepth 100000 in
set_option maxHeartbeats 3200000 in
theorem alike_any (a0 a1 a2 : Int) (A : Option Addr) (c : Nat) (x : List Int) (b0 b1 b2 : Int) (A' : Option Addr) (c' : Nat) (y : List Int) (w : World) (h0 : W64 a0) (h1 : W64 a1) (h2 : W64 a2) (hx : RdL (Value.int .i64) w A x) (hn : x.length ≤ 1048576) (we : ∀ y ∈ x, W64 y) (h0' : W64 b0) (h1' : W64 b1) (h2' : W64 b2) (hy : RdL (Value.int .i64) w A' y) (hn' : y.length ≤ 1048576) (we' : ∀ z ∈ y, W64 z) :
    Calls Try.prog 110 #[.agg #[.int .i64 a0, .int .i64 a1, .int .i64 a2, .slice A x.length c], .agg #[.int .i64 b0, .int .i64 b1, .int .i64 b2, .slice A' y.length c']] w fun e w' => e = .returned (.bool (alikeC a0 a1 a2 x b0 b1 b2 y)) ∧ Below w.heap.size w w' := by
  have HX := hid hx
  have HY := hid hy
  have WX := hid we
  have WY := hid we'
  clear hx hy we we'
  have BA0 := hid ((Blk.new w 48 [.int .i64 a0, .int .i64 a1, .int .i64 a2, .slice A x.length c]).alloc (.cells #[.int .i64 b0, .int .i64 b1, .int .i64 b2, .slice A' y.length c'] 48))
  have BB0 := hid (Blk.new2 w (.cells #[.int .i64 a0, .int .i64 a1, .int .i64 a2, .slice A x.length c] 48) 48 [.int .i64 b0, .int .i64 b1, .int .i64 b2, .slice A' y.length c'])
  cases ha : vCells a0 a1 a2 x with
  | false =>
    have hv := hid (show alikeC a0 a1 a2 x b0 b1 b2 y = false by simp [alikeC, ha])
    go_enter Try.func110, Try.ntmps110
    go_wp2_with fail
    refine (iValidCells_any a0 a1 a2 A c x _ h0 h1 h2 (HX.out.below (below_a2 _ _ _)) hn WX.out).mono ?_
    rintro e w1 ⟨rfl, hb⟩
    have S1 := below_call (below_a2 _ _ _) hb
    clear hb
    go_wp2
    go_ret
    exact ⟨ret_bool hv.out.symm, S1.out⟩
  | true =>
  have key : ∀ b u v z : Bool, vCells b0 b1 b2 y = b → (a0 == b0) = u → (a1 == b1) = v → (a2 == b2) = z →
      Calls Try.prog 110 #[.agg #[.int .i64 a0, .int .i64 a1, .int .i64 a2, .slice A x.length c], .agg #[.int .i64 b0, .int .i64 b1, .int .i64 b2, .slice A' y.length c']] w fun e w' => e = .returned (.bool (b && u && v && z)) ∧ Below w.heap.size w w' := by
    intro b u v z hb0 hu hv hz
    cases b
    case' true =>
      cases u
      case' true =>
        cases v
        case' true => cases z
    all_goals
      go_enter Try.func110, Try.ntmps110
      go_wp2_with fail
      refine (iValidCells_any a0 a1 a2 A c x _ h0 h1 h2 (HX.out.below (below_a2 _ _ _)) hn WX.out).mono ?_
      rw [ha]
      rintro e w1 ⟨rfl, hb⟩
      have BA1 := hid (BA0.out.below hb)
      have BB1 := hid (BB0.out.below hb)
      have S1 := below_call (below_a2 _ _ _) hb
      clear hb
      obtain ⟨l0, l1, l2, l3⟩ := BB1.out.cells4
      go_wp2_with fail
      refine (iValidCells_any b0 b1 b2 A' c' y _ h0' h1' h2' (HY.out.below S1.out) hn' WY.out).mono ?_
      rw [hb0]
      rintro e w2 ⟨rfl, hb⟩
      clear l0 l1 l2 l3
      obtain ⟨k0, k1, k2, k3⟩ := (BA1.out.below hb).cells4
      obtain ⟨l0, l1, l2, l3⟩ := (BB1.out.below hb).cells4
      have S2 := hid (S1.out.trans (hb.mono S1.out.size))
      clear hb
      go_wp2
      go_ret
      exact ⟨by simp, S2.out⟩
  have := key _ _ _ _ rfl rfl rfl rfl
  simp only [alikeC, ha, Bool.true_and]
  exact this


set_option maxRecDepth 100000 in
set_option maxHeartbeats 3200000 in
theorem iMergeCells_any (a0 a1 a2 : Int) (A : Option Addr) (c : Nat) (x : List Int) (b0 b1 b2 : Int) (A' : Option Addr) (c' : Nat) (y : List Int) (w : World) (h0 : W64 a0) (h1 : W64 a1) (h2 : W64 a2) (hx : RdL (Value.int .i64) w A x) (hn : x.length ≤ 1048576) (we : ∀ y ∈ x, W64 y) (h0' : W64 b0) (h1' : W64 b1) (h2' : W64 b2) (hy : RdL (Value.int .i64) w A' y) (hn' : y.length ≤ 1048576) (we' : ∀ z ∈ y, W64 z) :
    Calls Try.prog 58 #[.agg #[.int .i64 a0, .int .i64 a1, .int .i64 a2, .slice A x.length c], .agg #[.int .i64 b0, .int .i64 b1, .int .i64 b2, .slice A' y.length c']] w (RetCl w (pMergeCells a0 a1 a2 x b0 b1 b2 y)) := by
  have HX := hid hx
  have HY := hid hy
  have WX := hid we
  have WY := hid we'
  clear hx hy we we'
  cases hal : alikeC a0 a1 a2 x b0 b1 b2 y with
  | false =>
    rw [pMergeCells_no hal]
    refine Calls.mono ?_ retCl_no
    obtain ⟨k0, k1, k2, k3⟩ := (((Blk.new w 48 [.int .i64 a0, .int .i64 a1, .int .i64 a2, .slice A x.length c]).alloc (.cells #[.int .i64 b0, .int .i64 b1, .int .i64 b2, .slice A' y.length c'] 48)).alloc (.cells #[.int .i64 0, .int .i64 0, .int .i64 0, .slice none 0 0] 48)).cells4
    obtain ⟨l0, l1, l2, l3⟩ := ((Blk.new2 w (.cells #[.int .i64 a0, .int .i64 a1, .int .i64 a2, .slice A x.length c] 48) 48 [.int .i64 b0, .int .i64 b1, .int .i64 b2, .slice A' y.length c']).alloc (.cells #[.int .i64 0, .int .i64 0, .int .i64 0, .slice none 0 0] 48)).cells4
    go_enter Try.func58, Try.ntmps58
    go_wp2_with fail
    refine (alike_any a0 a1 a2 A c x b0 b1 b2 A' c' y _ h0 h1 h2 (HX.out.below (below_a3 _ _ _ _)) hn WX.out h0' h1' h2' (HY.out.below (below_a3 _ _ _ _)) hn' WY.out).mono ?_
    rintro e w1 ⟨rfl, hb⟩
    have R1 := hid ((Blk.new3 w (.cells #[.int .i64 a0, .int .i64 a1, .int .i64 a2, .slice A x.length c] 48) (.cells #[.int .i64 b0, .int .i64 b1, .int .i64 b2, .slice A' y.length c'] 48) 48 [.int .i64 0, .int .i64 0, .int .i64 0, .slice none 0 0]).below hb)
    have S1 := below_call (below_a3 _ _ _ _) hb
    clear hb k0 k1 k2 k3 l0 l1 l2 l3
    obtain ⟨d0, d1, d2, d3⟩ := R1.out.cells4
    have f0 := R1.out.frozen 0
    have f1 := R1.out.frozen 1
    have f2 := R1.out.frozen 2
    have f3 := R1.out.frozen 3
    go_wp2
    refine bodyPost_ret (v := .tuple #[.agg #[.int .i64 0, .int .i64 0, .int .i64 0, .slice none 0 0], .bool false]) (by simp [results, Try.results58, go_sem, d0, d1, d2, d3]) rfl ⟨rfl, ?_⟩
    exact (((S1.out.setCell (by simp <;> omega) _).setCell (by simp <;> omega) _).setCell (by simp <;> omega) _).setCell (by simp <;> omega) _
  | true =>
  obtain ⟨hv, hv', rfl, rfl, rfl⟩ := alikeC_iff hal
  obtain ⟨⟨hw1, hw2⟩, ⟨hd1, hd2⟩, ⟨hs1, hs2⟩, hl, hbd⟩ := vCells_iff' hv
  obtain ⟨_, _, _, hl', hbd'⟩ := vCells_iff' hv'
  have hxy1 : x.length ≤ y.length := by omega
  have hxy2 : y.length ≤ x.length := by omega
  have hm1 := (mul_sides (inB_iff.2 ⟨hw1, hw2⟩) (inB_iff.2 ⟨hd1, hd2⟩)).1
  have hlp : 0 < x.length := by omega
  have HBD := hid hbd
  have HBD' := hid hbd'
  have HAL := hid hal
  have HZW := hid (zipAdd_w64 hbd hbd')
  have HYL : Hid ((List.zipWith (fun a b => a + b) x y).length = x.length) := by show _ = _; rw [List.length_zipWith]; omega
  rw [pMergeCells_yes hal]
  clear hl hl' hbd hbd' hal hv hv' hm1
  have BA0 := hid (((Blk.new w 48 [.int .i64 a0, .int .i64 a1, .int .i64 a2, .slice A x.length c]).alloc (.cells #[.int .i64 a0, .int .i64 a1, .int .i64 a2, .slice A' y.length c'] 48)).alloc (.cells #[.int .i64 0, .int .i64 0, .int .i64 0, .slice none 0 0] 48))
  have BB0 := hid ((Blk.new2 w (.cells #[.int .i64 a0, .int .i64 a1, .int .i64 a2, .slice A x.length c] 48) 48 [.int .i64 a0, .int .i64 a1, .int .i64 a2, .slice A' y.length c']).alloc (.cells #[.int .i64 0, .int .i64 0, .int .i64 0, .slice none 0 0] 48))
  have R0 := hid (Blk.new3 w (.cells #[.int .i64 a0, .int .i64 a1, .int .i64 a2, .slice A x.length c] 48) (.cells #[.int .i64 a0, .int .i64 a1, .int .i64 a2, .slice A' y.length c'] 48) 48 [.int .i64 0, .int .i64 0, .int .i64 0, .slice none 0 0])
  obtain ⟨k0, k1, k2, k3⟩ := BA0.out.cells4
  obtain ⟨l0, l1, l2, l3⟩ := BB0.out.cells4
  go_enter Try.func58, Try.ntmps58
  go_wp2_with fail
  refine (alike_any a0 a1 a2 A c x a0 a1 a2 A' c' y _ h0 h1 h2 (HX.out.below (below_a3 _ _ _ _)) hn WX.out h0 h1 h2 (HY.out.below (below_a3 _ _ _ _)) hn' WY.out).mono ?_
  rintro e w1 ⟨rfl, hb⟩
  rw [HAL.out]
  clear k0 k1 k2 k3 l0 l1 l2 l3
  have BA1 := hid (BA0.out.below hb)
  have BB1 := hid (BB0.out.below hb)
  have R1 := hid (R0.out.below hb)
  have S1 := below_call (below_a3 _ _ _ _) hb
  have hl1 : w.heap.size + 3 ≤ w1.heap.size := by have := hb.size; simp at this; omega
  clear hb BA0 BB0 R0
  obtain ⟨k0, k1, k2, k3⟩ := BA1.out.cells4
  go_wp2_with fail
  refine (copyCells_any a0 a1 a2 A c x _ (HX.out.below S1.out) hn).mono ?_
  rintro e w2 ⟨A1, c1, rfl, ho, hb⟩
  clear k0 k1 k2 k3
  have ho' : OwnS (Value.int .i64) w2 (w.heap.size + 3) 2 A1 x := ho.mono hl1
  obtain ⟨g, ex, rfl, hgB, hgb⟩ := ho' (by rintro rfl; simp at hlp)
  have hgl := hgb.lt
  have hl2 := hb.size
  have S2 : Hid (Below w.heap.size w w2) := S1.out.trans (hb.mono (by omega))
  have O2 := hid (ho'.below (below_a1 w2 (.cells #[.int .i64 a0, .int .i64 a1, .int .i64 a2, .slice (some ⟨g, 0, none⟩) x.length c1] 48)))
  have Q2 := hid (Blk.new w2 48 [.int .i64 a0, .int .i64 a1, .int .i64 a2, .slice (some ⟨g, 0, none⟩) x.length c1])
  have BB2 := hid ((BB1.out.below hb).below (below_a1 w2 (.cells #[.int .i64 a0, .int .i64 a1, .int .i64 a2, .slice (some ⟨g, 0, none⟩) x.length c1] 48)))
  have R2 := hid ((R1.out.below hb).below (below_a1 w2 (.cells #[.int .i64 a0, .int .i64 a1, .int .i64 a2, .slice (some ⟨g, 0, none⟩) x.length c1] 48)))
  clear hgb hb ho ho' BA1 BB1 R1
  obtain ⟨l0, l1, l2, l3⟩ := BB2.out.cells4
  obtain ⟨q0, q1, q2, q3⟩ := Q2.out.cells4
  have na : w.heap.size + 1 < w2.heap.size := by omega
  have nb : w.heap.size < w2.heap.size := by omega
  go_wp2
  go_loopw [19] (fun i wr => ∃ k : Nat, k ≤ x.length ∧ i = .int .i64 k ∧ Hid (OwnS (Value.int .i64) wr (w.heap.size + 3) 2 (some ⟨g, 0, none⟩) (fillUp k (List.zipWith (fun a b => a + b) x y) x)) ∧ Hid (Touch (w2.alloc (.cells #[.int .i64 a0, .int .i64 a1, .int .i64 a2, .slice (some ⟨g, 0, none⟩) x.length c1] 48)) wr (some ⟨g, 0, none⟩) x.length)) (fun i _ => x.length - (intOf i).toNat)
  case atStart => exact ⟨0, Nat.zero_le _, rfl, by rw [fillUp_zero]; exact O2, Touch.refl⟩
  case round =>
    obtain ⟨k, hkr, rfl, hok, hT⟩ := hrel
    have T1 := hid (hT.out.below O2.out)
    have SR := hid ((S2.out.alloc (by omega) _).trans (T1.out.mono (by omega)))
    clear l0 l1 l2 l3 q0 q1 q2 q3
    obtain ⟨l0, l1, l2, l3⟩ := (BB2.out.touch hT.out (by omega)).cells4
    obtain ⟨q0, q1, q2, q3⟩ := (Q2.out.touch hT.out (by omega)).cells4
    by_cases hlt : k < x.length
    · have hi : (k : Int) < (x.length : Int) := by omega
      have hiy : (k : Int) < (y.length : Int) := by omega
      obtain ⟨by', oy, v, hA', hcy, hyk⟩ := (HY.out.below SR.out).at_ (k := k) (by omega)
      obtain ⟨by2, oy2, _, hA2', hcy2, _⟩ := HY.out.at_ (k := k) (by omega)
      have hby : by' < w.heap.size := by
        have := World.block_lt_of_cell? w _ hcy2
        rw [hA'] at hA2'; injection hA2' with h; injection h with h; simp at this; omega
      subst hA'
      clear hA2' hcy2
      have hfl' : (fillUp k (List.zipWith (fun a b => a + b) x y) x).length = x.length := fillUp_length (by rw [HYL.out]; omega) (by omega)
      have hfl : k < (fillUp k (List.zipWith (fun a b => a + b) x y) x).length := by omega
      obtain ⟨g', u, hg', hgB', hcg, hfg, htm, hput⟩ := hok.out.put hfl
      injection hg' with hg'; injection hg' with hg'
      subst hg'
      have hxu : Hid (x[k]? = some u) := by
        have := htm.out
        rw [fillUp_at (by rw [HYL.out]; omega)] at this
        exact this
      have hz := zipI_at (f := fun a b => a + b) hxu hyk
      have hu := HBD.out u (List.mem_of_getElem? hxu.out)
      have hv := HBD'.out v (List.mem_of_getElem? hyk.out)
      have hu1 := hu.1
      have hu2 := hu.2
      have hv1 := hv.1
      have hv2 := hv.2
      have hO2 : Hid (OwnS (Value.int .i64) (wr.setCell ⟨g, k, none⟩ (.int .i64 (u + v))) (w.heap.size + 3) 2 (some ⟨g, 0, none⟩) (fillUp (k + 1) (List.zipWith (fun a b => a + b) x y) x)) := by
        have h := hput (u + v)
        rw [fillUp_step hz (by omega)] at h
        exact h
      have hT2 := hid (hT.out.set_ (by omega) k (.int .i64 (u + v)))
      have e1 : IntKind.i64.wrap (u + v) = u + v := by rw [IntKind.wrap_i64]; omega
      have n1 : by' ≠ g := by omega
      have n2 : w.heap.size + 1 ≠ g := by omega
      have n3 : w2.heap.size ≠ g := by omega
      have n1' := Ne.symm n1
      have n2' := Ne.symm n2
      have n3' := Ne.symm n3
      clear hput l0 l1 l2 q0 q1 q2 hfl hfl' hgB' hz hu hv hxu htm
      go_wp2
      exact ⟨⟨k + 1, by omega, by go_num, hO2, ⟨hT2.out.os, hT2.out.tape, hT2.out.output, hT2.out.size, hT2.out.block⟩⟩, by simp [intOf]; omega⟩
    · have hi : ¬ (k : Int) < (x.length : Int) := by omega
      have hiy : ¬ (k : Int) < (y.length : Int) := by omega
      have he := hok.out
      rw [fillUp_all (by rw [HYL.out]; omega) (by omega)] at he
      have O4 := hid he
      have R4 := hid (R2.out.touch hT.out (by omega))
      clear he
      go_wp2_with fail
      refine (ifCells_any a0 a1 a2 _ x.length c1 (List.zipWith (fun a b => a + b) x y) _ h0 h1 h2 HYL.out O4.out.rd hn HZW.out).mono ?_
      rintro e w4 ⟨d0', d1', d2', A', n', c', t, rfl, hG, hb⟩
      have S5 := hid (SR.out.trans (hb.mono SR.out.size))
      have O5 := hid (O4.out.below hb)
      obtain ⟨d0, d1, d2, d3⟩ := (R4.out.below hb).cells4
      have f0 := (R4.out.below hb).frozen 0
      have f1 := (R4.out.below hb).frozen 1
      have f2 := (R4.out.below hb).frozen 2
      have f3 := (R4.out.below hb).frozen 3
      clear hb q0 q1 q2 q3 l0 l1 l2 l3
      go_wp2
      refine bodyPost_ret (v := .tuple #[.agg #[.int .i64 d0', .int .i64 d1', .int .i64 d2', .slice A' n' c'], .bool t]) (by simp [results, Try.results58, go_sem, d0, d1, d2, d3]) rfl (retCl_give hG.out ?_ HYL.out hn ?_)
      · exact ((((O5.out.setFar (by simp <;> omega) _).setFar (by simp <;> omega) _).setFar (by simp <;> omega) _).setFar (by simp <;> omega) _).mono (by omega)
      · exact (((S5.out.setCell (by simp <;> omega) _).setCell (by simp <;> omega) _).setCell (by simp <;> omega) _).setCell (by simp <;> omega) _

end Go.Proofs.Ytbodfepfapjikaa
