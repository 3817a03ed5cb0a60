/-
  New cells, and cells that are handed back if they are valid: reference and program, by contracts.
-/
import Derived.Test.YtbodfepfapjikaaCells
import Derived.Test.YtbodfepfapjikaaOwn
namespace Go.Proofs.Ytbodfepfapjikaa
open Go.RowKit
set_option linter.unusedVariables false

/-- It hands back cells of its own, and whether it could. -/
def RetCl (w : World) (p : (Int × Int × Int × List Int) × Bool) (e : Ending) (w' : World) : Prop := ∃ A c,
  e = .returned (.tuple #[.agg #[.int .i64 p.1.1, .int .i64 p.1.2.1, .int .i64 p.1.2.2.1, .slice A p.1.2.2.2.length c], .bool p.2]) ∧ OwnS (Value.int .i64) w' w.heap.size 2 A p.1.2.2.2 ∧ p.1.2.2.2.length ≤ 1048576 ∧ Below w.heap.size w w'
theorem retCl_no {w : World} : ∀ (e : Ending) (w' : World), (e = .returned (.tuple #[.agg #[.int .i64 0, .int .i64 0, .int .i64 0, .slice none 0 0], .bool false]) ∧ Below w.heap.size w w') → RetCl w ((0, 0, 0, []), false) e w' :=
  fun e w' ⟨he, hb⟩ => ⟨none, 0, he, OwnS.nil, by simp, hb⟩
theorem w64_of_bounds {a : Int} (h : -9223372036854775808 ≤ a ∧ a ≤ 9223372036854775807) : W64 a := by
  simpa [W64, Lit.wf, IntKind.min, IntKind.max, IntKind.signed, IntKind.bits] using h
theorem vCells_w64 {a0 a1 a2 : Int} {x : List Int} (h : vCells a0 a1 a2 x = true) : ∀ y ∈ x, W64 y := fun y hy => by
  simp only [vCells, Bool.and_eq_true] at h
  have h2 := h.2
  unfold allB at h2
  rw [List.all_eq_true] at h2
  have := inB_iff.1 (h2 y hy)
  exact w64_of_bounds (by omega)

set_option maxHeartbeats 800000 in
theorem ifCells_yes (a0 a1 a2 : Int) (A : Option Addr) (n c : Nat) (x : List Int) (w : World) (h0 : W64 a0) (h1 : W64 a1) (h2 : W64 a2) (hl : x.length = n) (hx : RdL (Value.int .i64) w A x) (hn : n ≤ 1048576) (we : ∀ y ∈ x, W64 y) (hv : vCells a0 a1 a2 x = true) :
    Calls Try.prog 107 #[.agg #[.int .i64 a0, .int .i64 a1, .int .i64 a2, .slice A n c]] w fun e w' => e = .returned (.tuple #[.agg #[.int .i64 a0, .int .i64 a1, .int .i64 a2, .slice A n c], .bool true]) ∧ Below w.heap.size w w' := by
  subst hl
  have HX := hid hx
  have WE := hid we
  have B0 := hid ((Blk.new w 48 [.int .i64 a0, .int .i64 a1, .int .i64 a2, .slice A x.length c]).alloc (.cells #[.int .i64 0, .int .i64 0, .int .i64 0, .slice none 0 0] 48))
  have R0 := hid (Blk.new2 w (.cells #[.int .i64 a0, .int .i64 a1, .int .i64 a2, .slice A x.length c] 48) 48 [.int .i64 0, .int .i64 0, .int .i64 0, .slice none 0 0])
  clear hx we
  go_enter Try.func107, Try.ntmps107
  go_wp2_with fail
  refine (iValidCells_any a0 a1 a2 A c x _ h0 h1 h2 (HX.out.below (below_a2 _ _ _)) hn WE.out).mono ?_
  rw [hv]
  rintro e w1 ⟨rfl, hb⟩
  obtain ⟨c0, c1, c2, c3⟩ := (B0.out.below hb).cells4
  obtain ⟨d0, d1, d2, d3⟩ := (R0.out.below hb).cells4
  have f0 := (R0.out.below hb).frozen 0
  have f1 := (R0.out.below hb).frozen 1
  have f2 := (R0.out.below hb).frozen 2
  have f3 := (R0.out.below hb).frozen 3
  have S1 := below_call (below_a2 _ _ _) hb
  clear hb B0 R0
  go_wp2
  refine bodyPost_ret (v := .tuple #[.agg #[.int .i64 a0, .int .i64 a1, .int .i64 a2, .slice A x.length c], .bool true]) (by simp [results, Try.results107, go_sem, d0, d1, d2, d3]) rfl ⟨rfl, ?_⟩
  exact (((S1.out.setCell (by simp) _).setCell (by simp) _).setCell (by simp) _).setCell (by simp) _
set_option maxHeartbeats 800000 in
theorem ifCells_no (a0 a1 a2 : Int) (A : Option Addr) (n c : Nat) (x : List Int) (w : World) (h0 : W64 a0) (h1 : W64 a1) (h2 : W64 a2) (hl : x.length = n) (hx : RdL (Value.int .i64) w A x) (hn : n ≤ 1048576) (we : ∀ y ∈ x, W64 y) (hv : vCells a0 a1 a2 x = false) :
    Calls Try.prog 107 #[.agg #[.int .i64 a0, .int .i64 a1, .int .i64 a2, .slice A n c]] w fun e w' => e = .returned (.tuple #[.agg #[.int .i64 0, .int .i64 0, .int .i64 0, .slice none 0 0], .bool false]) ∧ Below w.heap.size w w' := by
  subst hl
  have HX := hid hx
  have WE := hid we
  have R0 := hid (Blk.new2 w (.cells #[.int .i64 a0, .int .i64 a1, .int .i64 a2, .slice A x.length c] 48) 48 [.int .i64 0, .int .i64 0, .int .i64 0, .slice none 0 0])
  clear hx we
  go_enter Try.func107, Try.ntmps107
  go_wp2_with fail
  refine (iValidCells_any a0 a1 a2 A c x _ h0 h1 h2 (HX.out.below (below_a2 _ _ _)) hn WE.out).mono ?_
  rw [hv]
  rintro e w1 ⟨rfl, hb⟩
  obtain ⟨d0, d1, d2, d3⟩ := (R0.out.below hb).cells4
  have f0 := (R0.out.below hb).frozen 0
  have f1 := (R0.out.below hb).frozen 1
  have f2 := (R0.out.below hb).frozen 2
  have f3 := (R0.out.below hb).frozen 3
  have S1 := below_call (below_a2 _ _ _) hb
  clear hb R0
  go_wp2
  refine bodyPost_ret (v := .tuple #[.agg #[.int .i64 0, .int .i64 0, .int .i64 0, .slice none 0 0], .bool false]) (by simp [results, Try.results107, go_sem, d0, d1, d2, d3]) rfl ⟨rfl, ?_⟩
  exact (((S1.out.setCell (by simp) _).setCell (by simp) _).setCell (by simp) _).setCell (by simp) _

/-- What cells are handed back that are given only if they are valid. -/
def GiveCl (a0 a1 a2 : Int) (x : List Int) (A : Option Addr) (n c : Nat) (b0 b1 b2 : Int) (A' : Option Addr) (n' c' : Nat) (t : Bool) : Prop :=
  (vCells a0 a1 a2 x = true ∧ b0 = a0 ∧ b1 = a1 ∧ b2 = a2 ∧ A' = A ∧ n' = n ∧ c' = c ∧ t = true) ∨ (vCells a0 a1 a2 x = false ∧ b0 = 0 ∧ b1 = 0 ∧ b2 = 0 ∧ A' = none ∧ n' = 0 ∧ c' = 0 ∧ t = false)
/-- Cells, if they are valid. -/
def giveP (a0 a1 a2 : Int) (x : List Int) : (Int × Int × Int × List Int) × Bool := if vCells a0 a1 a2 x = true then ((a0, a1, a2, x), true) else ((0, 0, 0, []), false)
theorem retCl_give {w w' : World} {a0 a1 a2 : Int} {x : List Int} {A : Option Addr} {n c : Nat} {b0 b1 b2 : Int} {A' : Option Addr} {n' c' : Nat} {t : Bool} (hh : GiveCl a0 a1 a2 x A n c b0 b1 b2 A' n' c' t)
    (ho : OwnS (Value.int .i64) w' w.heap.size 2 A x) (hl : x.length = n) (hn : n ≤ 1048576) (hb : Below w.heap.size w w') : RetCl w (giveP a0 a1 a2 x) (.returned (.tuple #[.agg #[.int .i64 b0, .int .i64 b1, .int .i64 b2, .slice A' n' c'], .bool t])) w' := by
  subst hl
  rcases hh with ⟨hv, rfl, rfl, rfl, rfl, rfl, rfl, rfl⟩ | ⟨hv, rfl, rfl, rfl, rfl, rfl, rfl, rfl⟩
  · rw [giveP, if_pos hv]
    exact ⟨A', c', rfl, ho, hn, hb⟩
  · rw [giveP, if_neg (by rw [hv]; decide)]
    exact ⟨none, 0, rfl, OwnS.nil, by simp, hb⟩
theorem ifCells_any (a0 a1 a2 : Int) (A : Option Addr) (n c : Nat) (x : List Int) (w : World) (h0 : W64 a0) (h1 : W64 a1) (h2 : W64 a2) (hl : x.length = n) (hx : RdL (Value.int .i64) w A x) (hn : n ≤ 1048576) (we : ∀ y ∈ x, W64 y) :
    Calls Try.prog 107 #[.agg #[.int .i64 a0, .int .i64 a1, .int .i64 a2, .slice A n c]] w fun e w' => ∃ b0 b1 b2 A' n' c' t, e = .returned (.tuple #[.agg #[.int .i64 b0, .int .i64 b1, .int .i64 b2, .slice A' n' c'], .bool t]) ∧ Hid (GiveCl a0 a1 a2 x A n c b0 b1 b2 A' n' c' t) ∧ Below w.heap.size w w' := by
  cases hv : vCells a0 a1 a2 x with
  | true => exact (ifCells_yes a0 a1 a2 A n c x w h0 h1 h2 hl hx hn we hv).mono fun e w' ⟨he, hb⟩ => ⟨a0, a1, a2, A, n, c, true, he, .inl ⟨hv, rfl, rfl, rfl, rfl, rfl, rfl, rfl⟩, hb⟩
  | false => exact (ifCells_no a0 a1 a2 A n c x w h0 h1 h2 hl hx hn we hv).mono fun e w' ⟨he, hb⟩ => ⟨0, 0, 0, none, 0, 0, false, he, .inr ⟨hv, rfl, rfl, rfl, rfl, rfl, rfl, rfl⟩, hb⟩

/-- Sides and a salt of cells. -/
def sidesB (a0 a1 a2 : Int) : Bool := inB a0 2 64 && inB a1 1 6 && inB a2 0 4294967295
/-- What NewCells returns. -/
def pNewCells (a0 a1 a2 : Int) : (Int × Int × Int × List Int) × Bool :=
  if sidesB a0 a1 a2 = true then ((a0, a1, a2, List.replicate (a0 * a1).toNat 0), true) else ((0, 0, 0, []), false)
theorem pNewCells_no {a b c : Int} (h : sidesB a b c = false) : pNewCells a b c = ((0, 0, 0, []), false) := by simp [pNewCells, h]
theorem pNewCells_yes {a b c : Int} (h : sidesB a b c = true) : pNewCells a b c = ((a, b, c, List.replicate (a * b).toNat 0), true) := by simp [pNewCells, h]
theorem sidesB_iff {a b c : Int} (h : sidesB a b c = true) : inB a 2 64 = true ∧ inB b 1 6 = true ∧ inB c 0 4294967295 = true := by
  simp only [sidesB, Bool.and_eq_true] at h
  exact ⟨h.1.1, h.1.2, h.2⟩
theorem allB_zeros (n : Nat) : allB (List.replicate n 0) (-1000000000000) 1000000000000 = true := by
  unfold allB
  rw [List.all_eq_true]
  intro y hy
  obtain ⟨_, rfl⟩ := List.mem_replicate.1 hy
  decide
theorem vCells_new {a b c : Int} (h : inB a 2 64 = true) (h' : inB b 1 6 = true) {n : Nat} (hn : (n : Int) = a * b) : vCells a b c (List.replicate n 0) = inB c 0 4294967295 := by
  simp [vCells, h, h', allB_zeros, hn]

set_option maxHeartbeats 1600000 in
theorem iNewCells_any (a0 a1 a2 : Int) (w : World) (h0 : W64 a0) (h1 : W64 a1) (h2 : W64 a2) :
    Calls Try.prog 52 #[.int .i64 a0, .int .i64 a1, .int .i64 a2] w (RetCl w (pNewCells a0 a1 a2)) := by
  cases e0 : inB a0 2 64 with
  | false =>
    rw [pNewCells_no (by simp [sidesB, e0])]
    refine Calls.mono ?_ retCl_no
    go_enter Try.func52, Try.ntmps52
    go_wp2_with ((go_at_call 67; refine (within_any _ _ _ _).mono ?_; rintro e w' ⟨rfl, rfl⟩))
    refine bodyPost_ret (v := .tuple #[.agg #[.int .i64 0, .int .i64 0, .int .i64 0, .slice none 0 0], .bool false]) (by simp [results, Try.results52, go_sem]) rfl ⟨rfl, below_a1 _ _⟩
  | true =>
  cases e1 : inB a1 1 6 with
  | false =>
    rw [pNewCells_no (by simp [sidesB, e1])]
    refine Calls.mono ?_ retCl_no
    go_enter Try.func52, Try.ntmps52
    go_wp2_with ((go_at_call 67; refine (within_any _ _ _ _).mono ?_; rintro e w' ⟨rfl, rfl⟩))
    refine bodyPost_ret (v := .tuple #[.agg #[.int .i64 0, .int .i64 0, .int .i64 0, .slice none 0 0], .bool false]) (by simp [results, Try.results52, go_sem]) rfl ⟨rfl, below_a1 _ _⟩
  | true =>
  obtain ⟨hm0, hm1⟩ := mul_sides e0 e1
  obtain ⟨n, hn⟩ := Int.eq_ofNat_of_zero_le (show 0 ≤ a0 * a1 by omega)
  have hn1 : n ≤ 384 := by omega
  have ew : IntKind.i64.wrap (a0 * a1) = (n : Int) := by rw [hn, IntKind.wrap_i64]; omega
  have HV := hid (vCells_new (c := a2) e0 e1 hn.symm)
  have hmk := run_make_row' (P := Try.prog) 22 2 (.int .i64 0) 8 Try.underlying22 (by kernel_rfl) rfl .i64 .i64 n (by omega) (by omega)
  have HN := hid hn
  have hZ : RdL (Value.int .i64) ((w.alloc (.cells #[.int .i64 0, .int .i64 0, .int .i64 0, .slice none 0 0] 48)).alloc (.cells (madeCells #[.int .i64 0] n) 2)) (some ⟨w.heap.size + 1, 0, none⟩) (List.replicate n 0) := by
    refine Blk.rd0 ?_ (t := 2)
    rw [madeCells_one, List.map_replicate]
    exact Blk.new2 _ _ _ _
  have HZ := hid hZ
  have HO : Hid (OwnS (Value.int .i64) ((w.alloc (.cells #[.int .i64 0, .int .i64 0, .int .i64 0, .slice none 0 0] 48)).alloc (.cells (madeCells #[.int .i64 0] n) 2)) (w.heap.size + 1) 2 (some ⟨w.heap.size + 1, 0, none⟩) (List.replicate n 0)) := by
    refine OwnS.of_blk ?_ (by omega)
    rw [madeCells_one, List.map_replicate]
    exact Blk.new2 _ _ _ _
  have R0 := hid ((Blk.new w 48 [.int .i64 0, .int .i64 0, .int .i64 0, .slice none 0 0]).alloc (.cells (madeCells #[.int .i64 0] n) 2))
  have hw0 : ∀ y ∈ List.replicate n (0 : Int), W64 y := fun y hy => by
    obtain ⟨_, rfl⟩ := List.mem_replicate.1 hy
    exact w64_of_bounds (by omega)
  have HW := hid hw0
  clear hn hm0 hm1 hZ hw0
  cases e2 : inB a2 0 4294967295 with
  | false =>
    rw [pNewCells_no (by simp [sidesB, e2])]
    refine Calls.mono ?_ retCl_no
    go_enter Try.func52, Try.ntmps52
    go_wp2_with ((go_at_call 67; refine (within_any _ _ _ _).mono ?_; rintro e w' ⟨rfl, rfl⟩))
    refine (ifCells_no a0 a1 a2 _ n n (List.replicate n 0) _ h0 h1 h2 (by simp) HZ.out (by omega) HW.out (HV.out.trans e2)).mono ?_
    rintro e w1 ⟨rfl, hb⟩
    obtain ⟨d0, d1, d2, d3⟩ := (R0.out.below hb).cells4
    have f0 := (R0.out.below hb).frozen 0
    have f1 := (R0.out.below hb).frozen 1
    have f2 := (R0.out.below hb).frozen 2
    have f3 := (R0.out.below hb).frozen 3
    have S1 := below_call (below_a2 _ _ _) hb
    clear hb hmk ew
    go_wp2
    refine bodyPost_ret (v := .tuple #[.agg #[.int .i64 0, .int .i64 0, .int .i64 0, .slice none 0 0], .bool false]) (by simp [results, Try.results52, go_sem, d0, d1, d2, d3]) rfl ⟨rfl, ?_⟩
    exact (((S1.out.setCell (by simp) _).setCell (by simp) _).setCell (by simp) _).setCell (by simp) _
  | true =>
    rw [pNewCells_yes (by simp [sidesB, e0, e1, e2]), HN.out, Int.toNat_natCast]
    go_enter Try.func52, Try.ntmps52
    go_wp2_with ((go_at_call 67; refine (within_any _ _ _ _).mono ?_; rintro e w' ⟨rfl, rfl⟩))
    refine (ifCells_yes a0 a1 a2 _ n n (List.replicate n 0) _ h0 h1 h2 (by simp) HZ.out (by omega) HW.out (HV.out.trans e2)).mono ?_
    rintro e w1 ⟨rfl, hb⟩
    obtain ⟨d0, d1, d2, d3⟩ := (R0.out.below hb).cells4
    have f0 := (R0.out.below hb).frozen 0
    have f1 := (R0.out.below hb).frozen 1
    have f2 := (R0.out.below hb).frozen 2
    have f3 := (R0.out.below hb).frozen 3
    have O1 := hid (HO.out.below hb)
    have S1 := below_call (below_a2 _ _ _) hb
    clear hb hmk ew
    go_wp2
    refine bodyPost_ret (v := .tuple #[.agg #[.int .i64 a0, .int .i64 a1, .int .i64 a2, .slice (some ⟨w.heap.size + 1, 0, none⟩) n n], .bool true]) (by simp [results, Try.results52, go_sem, d0, d1, d2, d3]) rfl ⟨some ⟨w.heap.size + 1, 0, none⟩, n, by simp, ?_, by simp; omega, ?_⟩
    · exact ((((O1.out.setFar (by simp) _).setFar (by simp) _).setFar (by simp) _).setFar (by simp) _).mono (by omega)
    · exact (((S1.out.setCell (by simp) _).setCell (by simp) _).setCell (by simp) _).setCell (by simp) _
end Go.Proofs.Ytbodfepfapjikaa
