/-
  Cells that are alike, merged cells: reference and program, by contracts. Printed by gen_merge.py.
-/
import Derived.Test.YtnngepnfljkbhaaPutCells
namespace Go.Proofs.Ytnngepnfljkbhaa
open Go.RowKit
set_option linter.unusedVariables false

/-- Two cells are valid and have equal sides and salts. -/
def alikeC (a0 a1 a2 : Int) (x : List Int) (b0 b1 b2 : Int) (y : List Int) : Bool := vCells a0 a1 a2 x && vCells b0 b1 b2 y && (a0 == b0) && (a1 == b1) && (a2 == b2)
theorem alikeC_iff {a0 a1 a2 : Int} {x : List Int} {b0 b1 b2 : Int} {y : List Int} (h : alikeC a0 a1 a2 x b0 b1 b2 y = true) : vCells a0 a1 a2 x = true ∧ vCells b0 b1 b2 y = true ∧ a0 = b0 ∧ a1 = b1 ∧ a2 = b2 := by
  simp only [alikeC, Bool.and_eq_true, beq_iff_eq] at h
  exact ⟨h.1.1.1.1, h.1.1.1.2, h.1.1.2, h.1.2, h.2⟩
/-- What MergeCells returns. -/
def pMergeCells (a0 a1 a2 : Int) (x : List Int) (b0 b1 b2 : Int) (y : List Int) : (Int × Int × Int × List Int) × Bool :=
  if alikeC a0 a1 a2 x b0 b1 b2 y = true then giveP a0 a1 a2 (List.zipWith (fun a b => a + b) x y) else ((0, 0, 0, []), false)
theorem pMergeCells_no {a0 a1 a2 : Int} {x : List Int} {b0 b1 b2 : Int} {y : List Int} (h : alikeC a0 a1 a2 x b0 b1 b2 y = false) : pMergeCells a0 a1 a2 x b0 b1 b2 y = ((0, 0, 0, []), false) := by simp [pMergeCells, h]
theorem pMergeCells_yes {a0 a1 a2 : Int} {x : List Int} {b0 b1 b2 : Int} {y : List Int} (h : alikeC a0 a1 a2 x b0 b1 b2 y = true) : pMergeCells a0 a1 a2 x b0 b1 b2 y = giveP a0 a1 a2 (List.zipWith (fun a b => a + b) x y) := by simp [pMergeCells, h]
theorem zipI_at {f : Int → Int → Int} {x y : List Int} {k : Nat} {a b : Int} (h : Hid (x[k]? = some a)) (h' : Hid (y[k]? = some b)) : (List.zipWith f x y)[k]? = some (f a b) := by
  rw [List.getElem?_zipWith, h.out, h'.out]
theorem zipAdd_w64 {x y : List Int} (hx : ∀ z ∈ x, -1000000000000 ≤ z ∧ z ≤ 1000000000000) (hy : ∀ z ∈ y, -1000000000000 ≤ z ∧ z ≤ 1000000000000) : ∀ z ∈ List.zipWith (fun a b => a + b) x y, W64 z := by
  intro z hz
  rw [List.mem_iff_getElem?] at hz
  obtain ⟨i, hi⟩ := hz
  rw [List.getElem?_zipWith] at hi
  cases hxa : x[i]? with
  | none => rw [hxa] at hi; cases hi
  | some a =>
    cases hyb : y[i]? with
    | none => rw [hxa, hyb] at hi; cases hi
    | some b =>
      rw [hxa, hyb] at hi
      injection hi with hi
      have h1 := hx a (List.mem_of_getElem? hxa)
      have h2 := hy b (List.mem_of_getElem? hyb)
      subst hi
      exact w64_of_bounds (by omega)

set_option maxRecDepth 100000 in
set_option maxHeartbeats 3200000 in
theorem l03Like_any (p p' c c' : Nat) (A A' : Option Addr) (a0 a1 a2 b0 b1 b2 : Int) (x y : List Int) (w : World) (h0 : w.cell? ⟨p, 0, none⟩ = some (.int .i64 a0)) (h1 : w.cell? ⟨p, 1, none⟩ = some (.int .i64 a1)) (h2 : w.cell? ⟨p, 2, none⟩ = some (.int .i64 a2)) (h3 : w.cell? ⟨p, 3, none⟩ = some (.slice A x.length c))
    (g0 : w.cell? ⟨p', 0, none⟩ = some (.int .i64 b0)) (g1 : w.cell? ⟨p', 1, none⟩ = some (.int .i64 b1)) (g2 : w.cell? ⟨p', 2, none⟩ = some (.int .i64 b2)) (g3 : w.cell? ⟨p', 3, none⟩ = some (.slice A' y.length c')) (hx : RdL (Value.int .i64) w A x) (hy : RdL (Value.int .i64) w A' y) (hn : x.length ≤ 1048576) (hn' : y.length ≤ 1048576) :
    Calls Try.prog 70 #[.pointer (some ⟨p, 0, none⟩), .pointer (some ⟨p', 0, none⟩)] w fun e w' => e = .returned (.bool (alikeC a0 a1 a2 x b0 b1 b2 y)) ∧ ∃ m, w' = w.drewN m := by
  have key : ∀ a b u v z : Bool, vCells a0 a1 a2 x = a → vCells b0 b1 b2 y = b → (a0 == b0) = u → (a1 == b1) = v → (a2 == b2) = z →
      Calls Try.prog 70 #[.pointer (some ⟨p, 0, none⟩), .pointer (some ⟨p', 0, none⟩)] w fun e w' => e = .returned (.bool (a && b && u && v && z)) ∧ ∃ m, w' = w.drewN m := by
    intro a b u v z ha hb hu hv hz
    have H : Hid ((∀ k, Calls Try.prog 105 #[.pointer (some ⟨p, 0, none⟩)] (w.drewN k) fun e w' => e = .returned (.bool a) ∧ ∃ m, w' = (w.drewN k).drewN m) ∧ (∀ k, Calls Try.prog 105 #[.pointer (some ⟨p', 0, none⟩)] (w.drewN k) fun e w' => e = .returned (.bool b) ∧ ∃ m, w' = (w.drewN k).drewN m)) :=
      ⟨fun k => ha ▸ l03Is_any p c A a0 a1 a2 x (w.drewN k) h0 h1 h2 h3 (hx.drewN k) hn, fun k => hb ▸ l03Is_any p' c' A' b0 b1 b2 y (w.drewN k) g0 g1 g2 g3 (hy.drewN k) hn'⟩
    clear ha hb hx hy
    cases a
    case' true =>
      cases b
      case' true =>
        cases u
        case' true =>
          cases v
          case' true => cases z
    all_goals
      go_enter Try.func70, Try.ntmps70
      go_wp2
      go_quiet ((go_at_call 105; first | with_reducible exact Calls.quiet_of (H.out.1 _) | with_reducible exact Calls.quiet_of (H.out.2 _)))
      go_wp2
      go_ret
      exact ⟨by simp, _, rfl⟩
  exact key _ _ _ _ _ rfl rfl rfl rfl rfl
set_option maxRecDepth 100000 in
set_option maxHeartbeats 3200000 in
theorem alike_any (a0 a1 a2 : Int) (A : Option Addr) (c : Nat) (x : List Int) (b0 b1 b2 : Int) (A' : Option Addr) (c' : Nat) (y : List Int) (w : World) (h0 : W64 a0) (h1 : W64 a1) (h2 : W64 a2) (hx : RdL (Value.int .i64) w A x) (hn : x.length ≤ 1048576) (we : ∀ y ∈ x, W64 y) (h0' : W64 b0) (h1' : W64 b1) (h2' : W64 b2) (hy : RdL (Value.int .i64) w A' y) (hn' : y.length ≤ 1048576) (we' : ∀ z ∈ y, W64 z) :
    Calls Try.prog 72 #[.agg #[.int .i64 a0, .int .i64 a1, .int .i64 a2, .slice A x.length c], .agg #[.int .i64 b0, .int .i64 b1, .int .i64 b2, .slice A' y.length c']] w fun e w' => e = .returned (.bool (alikeC a0 a1 a2 x b0 b1 b2 y)) ∧ Below w.heap.size w w' := by
  have HX := hid hx
  have HY := hid hy
  have WX := hid we
  have WY := hid we'
  clear hx hy we we'
  have BA0 := hid ((Blk.new w 41 [.int .i64 a0, .int .i64 a1, .int .i64 a2, .slice A x.length c]).alloc (.cells #[.int .i64 b0, .int .i64 b1, .int .i64 b2, .slice A' y.length c'] 41))
  have BB0 := hid (Blk.new2 w (.cells #[.int .i64 a0, .int .i64 a1, .int .i64 a2, .slice A x.length c] 41) 41 [.int .i64 b0, .int .i64 b1, .int .i64 b2, .slice A' y.length c'])
  cases ha : vCells a0 a1 a2 x with
  | false =>
    have hv := hid (show alikeC a0 a1 a2 x b0 b1 b2 y = false by simp [alikeC, ha])
    go_enter Try.func72, Try.ntmps72
    go_wp2_with fail
    refine (iValidCells_any a0 a1 a2 A c x _ h0 h1 h2 (HX.out.below (below_a2 _ _ _)) hn WX.out).mono ?_
    rintro e w1 ⟨rfl, hb⟩
    have S1 := below_call (below_a2 _ _ _) hb
    clear hb
    go_wp2
    go_ret
    exact ⟨ret_bool hv.out.symm, S1.out⟩
  | true =>
  have key : ∀ b u v z : Bool, vCells b0 b1 b2 y = b → (a0 == b0) = u → (a1 == b1) = v → (a2 == b2) = z →
      Calls Try.prog 72 #[.agg #[.int .i64 a0, .int .i64 a1, .int .i64 a2, .slice A x.length c], .agg #[.int .i64 b0, .int .i64 b1, .int .i64 b2, .slice A' y.length c']] w fun e w' => e = .returned (.bool (b && u && v && z)) ∧ Below w.heap.size w w' := by
    intro b u v z hb0 hu hv hz
    cases b
    case' true =>
      cases u
      case' true =>
        cases v
        case' true => cases z
    all_goals
      go_enter Try.func72, Try.ntmps72
      go_wp2_with fail
      refine (iValidCells_any a0 a1 a2 A c x _ h0 h1 h2 (HX.out.below (below_a2 _ _ _)) hn WX.out).mono ?_
      rw [ha]
      rintro e w1 ⟨rfl, hb⟩
      have BA1 := hid (BA0.out.below hb)
      have BB1 := hid (BB0.out.below hb)
      have S1 := below_call (below_a2 _ _ _) hb
      clear hb
      obtain ⟨l0, l1, l2, l3⟩ := BB1.out.cells4
      go_wp2_with fail
      refine (iValidCells_any b0 b1 b2 A' c' y _ h0' h1' h2' (HY.out.below S1.out) hn' WY.out).mono ?_
      rw [hb0]
      rintro e w2 ⟨rfl, hb⟩
      clear l0 l1 l2 l3
      obtain ⟨k0, k1, k2, k3⟩ := (BA1.out.below hb).cells4
      obtain ⟨l0, l1, l2, l3⟩ := (BB1.out.below hb).cells4
      have S2 := hid (S1.out.trans (hb.mono S1.out.size))
      clear hb
      go_wp2
      go_ret
      exact ⟨by simp, S2.out⟩
  have := key _ _ _ _ rfl rfl rfl rfl
  simp only [alikeC, ha, Bool.true_and]
  exact this



end Go.Proofs.Ytnngepnfljkbhaa
