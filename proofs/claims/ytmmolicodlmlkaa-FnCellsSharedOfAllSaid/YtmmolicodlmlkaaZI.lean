/-
  Parts of the proof: Keys put to cells, list by list: apart and added, or one after the other. Four cells of a row of cells. Two structs are the same: reference and program, by contracts. Printed by gen_same.py. No condition.
-/
import Derived.Test.YtmmolicodlmlkaaZH
import Derived.Test.YtmmolicodlmlkaaZG
set_option linter.unusedVariables false
set_option linter.unusedSimpArgs false
namespace Go.Proofs.Ytmmolicodlmlkaa
open Go.RowKit
set_option linter.unusedVariables false

/-- Keys are put to counts, each at its places. -/
def putKs (wd s dp : Nat) (y : List Int) (ks : List Int) : List Int := ks.foldl (fun y k => addAt 1 y (cellsL wd s k.toNat dp)) y
def addL (x y : List Int) : List Int := List.zipWith (fun a b => a + b) x y
theorem addL_length {x y : List Int} (h : x.length = y.length) : (addL x y).length = x.length := by simp [addL, h]
theorem putKs_length (wd s dp : Nat) (y ks : List Int) : (putKs wd s dp y ks).length = y.length := by
  unfold putKs
  induction ks generalizing y with
  | nil => rfl
  | cons k ks ih => rw [List.foldl_cons, ih, addAt_length]
theorem putKs_nil (wd s dp : Nat) (y : List Int) : putKs wd s dp y [] = y := rfl
theorem putKs_snoc (wd s dp : Nat) (y ks : List Int) (k : Int) : putKs wd s dp y (ks ++ [k]) = addAt 1 (putKs wd s dp y ks) (cellsL wd s k.toNat dp) := by simp [putKs]
theorem putKs_append (wd s dp : Nat) (y ks ks' : List Int) : putKs wd s dp y (ks ++ ks') = putKs wd s dp (putKs wd s dp y ks) ks' := by simp [putKs]
theorem addAt_addL (d : Int) (x y l : List Int) (h : x.length = y.length) : addAt d (addL x y) l = addL x (addAt d y l) := by
  unfold addAt
  induction l generalizing y with
  | nil => rfl
  | cons p l ih =>
    rw [List.foldl_cons, List.foldl_cons, ← ih _ (by simpa using h)]
    congr 1
    apply List.ext_getElem?
    intro i
    by_cases hp : p.toNat < y.length
    · have hx : p.toNat < x.length := by omega
      have hg : (addL x y).getD p.toNat 0 = x.getD p.toNat 0 + y.getD p.toNat 0 := by
        simp [addL, List.getD_eq_getElem?_getD, List.getElem?_zipWith, hp, hx]
      rw [hg]
      by_cases hi : p.toNat = i
      · subst hi
        have h1 : p.toNat < (addL x y).length := by rw [addL_length h]; exact hx
        rw [List.getElem?_set_self h1]
        simp [addL, List.getElem?_zipWith, hp, hx, List.getD_eq_getElem?_getD]
        omega
      · rw [List.getElem?_set_ne hi]
        simp [addL, List.getElem?_zipWith, List.getElem?_set_ne hi]
    · rw [List.set_eq_of_length_le (by rw [addL_length h]; omega), List.set_eq_of_length_le (by omega)]
theorem putKs_addL (wd s dp : Nat) (x y ks : List Int) (h : x.length = y.length) : putKs wd s dp (addL x y) ks = addL x (putKs wd s dp y ks) := by
  unfold putKs
  induction ks generalizing y with
  | nil => rfl
  | cons k ks ih => rw [List.foldl_cons, List.foldl_cons, addAt_addL _ _ _ _ h, ih _ (by rw [addAt_length]; exact h)]
theorem addL_zero (x : List Int) : addL x (List.replicate x.length 0) = x := by
  unfold addL
  induction x with
  | nil => rfl
  | cons a x ih => simp only [List.length_cons, List.replicate_succ, List.zipWith_cons_cons, Int.add_zero, ih]
theorem putKs_sum (wd s dp : Nat) (x ks : List Int) : putKs wd s dp x ks = addL x (putKs wd s dp (List.replicate x.length 0) ks) := by
  rw [← putKs_addL _ _ _ _ _ _ (by simp), addL_zero]
theorem putKs_bound {wd s dp : Nat} {y ks : List Int} {lo hi : Int} (hd : dp ≤ 6) (hy : ∀ z ∈ y, lo ≤ z ∧ z ≤ hi) : ∀ z ∈ putKs wd s dp y ks, lo - 6 * (ks.length : Int) ≤ z ∧ z ≤ hi + 6 * (ks.length : Int) := by
  unfold putKs
  induction ks generalizing y lo hi with
  | nil => intro z hz; have := hy z hz; simp; omega
  | cons k ks ih =>
    intro z hz
    have h1 := addAt_bound (d := 1) (l := cellsL wd s k.toNat dp) (D := 1) hy (by omega) (by omega)
    have h2 : ∀ z ∈ addAt 1 y (cellsL wd s k.toNat dp), lo - 6 ≤ z ∧ z ≤ hi + 6 := fun z hz => by
      have := h1 z hz
      rw [cellsL_length] at this
      omega
    have h3 := ih h2 z hz
    simp only [List.length_cons]
    omega
/-- What the worker for list number o makes. -/
def madeC (wd s dp : Nat) (xss : List (List Int)) (o : Nat) : List Int := putKs wd s dp (List.replicate (wd * dp) 0) (xss.getD o [])
/-- The sum of the first n. -/
def sumC (wd s dp : Nat) (xss : List (List Int)) : Nat → List Int
  | 0 => List.replicate (wd * dp) 0
  | n + 1 => addL (sumC wd s dp xss n) (madeC wd s dp xss n)
/-- The keys of the first n lists, one after the other. -/
def seqC (wd s dp : Nat) (xss : List (List Int)) (n : Nat) : List Int := (xss.take n).foldl (putKs wd s dp) (List.replicate (wd * dp) 0)
theorem madeC_length (wd s dp : Nat) (xss : List (List Int)) (o : Nat) : (madeC wd s dp xss o).length = wd * dp := by simp [madeC, putKs_length]
theorem sumC_length (wd s dp : Nat) (xss : List (List Int)) (n : Nat) : (sumC wd s dp xss n).length = wd * dp := by
  induction n with
  | zero => simp [sumC]
  | succ n ih => rw [sumC, addL_length (by rw [ih, madeC_length]), ih]
theorem seqC_succ {wd s dp n : Nat} {xss : List (List Int)} (h : n < xss.length) : seqC wd s dp xss (n + 1) = putKs wd s dp (seqC wd s dp xss n) (xss.getD n []) := by
  unfold seqC
  rw [List.take_add_one, List.getElem?_eq_getElem h, List.foldl_append, List.getD_eq_getElem?_getD, List.getElem?_eq_getElem h]
  rfl
theorem seqC_length {wd s dp n : Nat} {xss : List (List Int)} : (seqC wd s dp xss n).length = wd * dp := by
  unfold seqC
  generalize xss.take n = l
  suffices h : ∀ y : List Int, (l.foldl (putKs wd s dp) y).length = y.length by rw [h]; simp
  intro y
  induction l generalizing y with
  | nil => rfl
  | cons a l ih => rw [List.foldl_cons, ih, putKs_length]
theorem sumC_seqC {wd s dp n : Nat} {xss : List (List Int)} (h : n ≤ xss.length) : sumC wd s dp xss n = seqC wd s dp xss n := by
  induction n with
  | zero => rfl
  | succ n ih =>
    rw [sumC, ih (by omega), seqC_succ (by omega), putKs_sum, seqC_length]
    rfl
theorem madeC_bound {wd s dp : Nat} {xss : List (List Int)} {o : Nat} (hd : dp ≤ 6) (hk : ∀ x ∈ xss, x.length ≤ 256) : ∀ z ∈ madeC wd s dp xss o, -1536 ≤ z ∧ z ≤ 1536 := by
  intro z hz
  have h1 := putKs_bound (wd := wd) (s := s) (y := List.replicate (wd * dp) 0) (ks := xss.getD o []) (lo := 0) (hi := 0) hd (fun z hz => by
    obtain ⟨_, rfl⟩ := List.mem_replicate.1 hz
    omega) z hz
  have h2 : (xss.getD o []).length ≤ 256 := by
    rw [List.getD_eq_getElem?_getD]
    cases he : xss[o]? with
    | none => simp
    | some x => exact hk x (List.mem_of_getElem? he)
  omega
theorem sumC_bound {wd s dp : Nat} {xss : List (List Int)} (hd : dp ≤ 6) (hk : ∀ x ∈ xss, x.length ≤ 256) (n : Nat) : ∀ z ∈ sumC wd s dp xss n, -(1536 * (n : Int)) ≤ z ∧ z ≤ 1536 * (n : Int) := by
  induction n with
  | zero =>
    intro z hz
    obtain ⟨_, rfl⟩ := List.mem_replicate.1 hz
    omega
  | succ n ih =>
    intro z hz
    obtain ⟨i, hi, rfl⟩ := List.getElem_of_mem hz
    have hi1 : i < (sumC wd s dp xss n).length := by rw [sumC_length] at hi ⊢; exact hi
    have hi2 : i < (madeC wd s dp xss n).length := by rw [sumC_length] at hi; rw [madeC_length]; exact hi
    simp only [sumC, addL, List.getElem_zipWith]
    have h1 := ih ((sumC wd s dp xss n)[i]'hi1) (List.getElem_mem _)
    have h2 := madeC_bound (wd := wd) (s := s) (xss := xss) (o := n) hd hk ((madeC wd s dp xss n)[i]'hi2) (List.getElem_mem _)
    omega
theorem seqC_bound {wd s dp n : Nat} {xss : List (List Int)} (hd : dp ≤ 6) (hk : ∀ x ∈ xss, x.length ≤ 256) (hn : n ≤ xss.length) : ∀ z ∈ seqC wd s dp xss n, -(1536 * (n : Int)) ≤ z ∧ z ≤ 1536 * (n : Int) := by
  rw [← sumC_seqC hn]
  exact sumC_bound hd hk n
/-! ### an own row of numbers, whose block is known whole -/
/-- The slice's block holds just these numbers, and then what is spare. -/
def OwnE (ex : List Value) (w : World) (B : Nat) (t : TypeId) (A : Option Addr) (x : List Int) : Prop := ∃ g, A = some ⟨g, 0, none⟩ ∧ B ≤ g ∧ Blk w g t (x.map (Value.int .i64) ++ ex)
section
variable {ex : List Value} {w w' : World} {B B' : Nat} {t : TypeId} {A : Option Addr} {x : List Int}
theorem OwnE.own (h : OwnE ex w B t A x) : OwnS (Value.int .i64) w B t A x := fun _ => let ⟨g, h1, h2, h3⟩ := h; ⟨g, ex, h1, h2, h3⟩
theorem OwnE.mono (h : OwnE ex w B t A x) (hB : B' ≤ B) : OwnE ex w B' t A x := let ⟨g, h1, h2, h3⟩ := h; ⟨g, h1, by omega, h3⟩
theorem OwnE.below (h : OwnE ex w B t A x) (hb : Below w.heap.size w w') : OwnE ex w' B t A x := let ⟨g, h1, h2, h3⟩ := h; ⟨g, h1, h2, h3.below hb⟩
theorem OwnE.setFar (h : OwnE ex w B t A x) {p : Addr} (hp : p.block < B) (u : Value) : OwnE ex (w.setCell p u) B t A x := by
  obtain ⟨g, h1, h2, h3⟩ := h
  exact ⟨g, h1, h2, (heap_setCell_other w p g u (by omega)).trans h3⟩
theorem OwnE.put (h : OwnE ex w B t A x) {j : Nat} (hj : j < x.length) :
    ∃ g u, A = some ⟨g, 0, none⟩ ∧ B ≤ g ∧ w.cell? ⟨g, j, none⟩ = some (.int .i64 u) ∧ w.frozen? ⟨g, j, none⟩ = false ∧ Hid (x[j]? = some u) ∧
      ∀ v, Hid (OwnE ex (w.setCell ⟨g, j, none⟩ (.int .i64 v)) B t A (x.set j v)) := by
  obtain ⟨g, rfl, hB, hb⟩ := h
  refine ⟨g, x[j], rfl, hB, hb.cell (by rw [List.getElem?_append_left (by simpa using hj)]; simp [hj]), hb.frozen j, by show x[j]? = _; simp [hj], fun v => ⟨g, rfl, hB, ?_⟩⟩
  have := hb.set_ j (Value.int .i64 v)
  rw [List.set_append_left _ _ (by simpa using hj), ← List.map_set] at this
  exact this
end
end Go.Proofs.Ytmmolicodlmlkaa
namespace Go.Proofs.Ytmmolicodlmlkaa.Ph
set_option linter.unusedVariables false

/-- Four cells of a row of cells. -/
def Four (w : World) (C o wd dp s n R c : Nat) : Prop := w.cell? ⟨C, 4 * o, none⟩ = some (.int .i64 wd) ∧ w.cell? ⟨C, 4 * o + 1, none⟩ = some (.int .i64 dp) ∧ w.cell? ⟨C, 4 * o + 2, none⟩ = some (.int .i64 s) ∧ w.cell? ⟨C, 4 * o + 3, none⟩ = some (.slice (some ⟨R, 0, none⟩) n c)
end Go.Proofs.Ytmmolicodlmlkaa.Ph
namespace Go.Proofs.Ytmmolicodlmlkaa
open Go.RowKit
set_option linter.unusedVariables false

set_option maxHeartbeats 400000 in
theorem rEqInt64S_any (A A' : Option Addr) (c c' : Nat) (xs ys : List Int) (w : World) (hx : RdL (Value.int .i64) w A xs) (hy : RdL (Value.int .i64) w A' ys)
    (hn : xs.length ≤ 1048576) :
    Calls Try.prog 94 #[.slice A xs.length c, .slice A' ys.length c'] w fun e w' => e = .returned (.bool (decide (xs = ys))) ∧ ∃ n, w' = w.drewN n := by
  have HX := hid hx
  have HY := hid hy
  clear hx hy
  by_cases hl : xs.length = ys.length
  · have hl' : ((xs.length : Int) == (ys.length : Int)) = true := by simp [hl]
    have HL := hid hl
    clear hl
    go_enter Try.func94, Try.ntmps94
    go_wp2
    go_loopw [5] (fun i wr => ∃ k n : Nat, k ≤ xs.length ∧ i = .int .i64 k ∧ wr = w.drewN n ∧ Hid (xs.take k = ys.take k)) (fun i _ => xs.length - (intOf i).toNat)
    case atStart => exact ⟨0, 0, Nat.zero_le _, rfl, rfl, by show xs.take 0 = ys.take 0; simp⟩
    case round =>
      obtain ⟨k, n, hk, rfl, rfl, hh⟩ := hrel
      by_cases hlt : k < xs.length
      · have hlt' : k < ys.length := by have := HL.out; omega
        have hi : (k : Int) < (xs.length : Int) := by omega
        have hi' : (k : Int) < (ys.length : Int) := by omega
        obtain ⟨b, o, x, rfl, hc, hxk⟩ := HX.out.at_ hlt
        obtain ⟨b', o', y, rfl, hc', hyk⟩ := HY.out.at_ hlt'
        by_cases hxy : x = y
        · have ht : (x == y) = true := by simp [hxy]
          have he := take_snoc_eq hh.out hxk hyk hxy
          have HE : Hid (xs.take (k + 1) = ys.take (k + 1)) := he
          clear hxy he
          go_wp2
          go_quiet (fail)
          go_wp2
          exact ⟨⟨k + 1, _, by omega, by go_num, rfl, HE⟩, by simp [intOf]; omega⟩
        · have ht : (x == y) = false := by simp [hxy]
          have he := ne_of_at hxk hyk hxy
          clear hxy
          go_wp2
          go_quiet (fail)
          go_wp2
          go_ret
          exact ⟨by simp [he], _, World.drewN_drewN _ _ _⟩
      · have hi : ¬ (k : Int) < (xs.length : Int) := by omega
        go_wp2
        go_ret
        have := HL.out
        have hh := hh.out
        rw [List.take_of_length_le (by omega), List.take_of_length_le (by omega)] at hh
        exact ⟨by simp [hh], _, rfl⟩
  · have hl' : ((xs.length : Int) == (ys.length : Int)) = false := by simp; omega
    have hne := ne_of_length hl
    clear hl
    go_enter Try.func94, Try.ntmps94
    go_wp2
    go_ret
    exact ⟨by simp [hne], 0, rfl⟩

/-- Both Sieve are the same. -/
def sameSieve (a0 b0 : Int) (a1 b1 : Int) (x2 y2 : List Bool) : Bool := decide (a0 = b0) && decide (a1 = b1) && decide (x2 = y2)

/-- Both Cells are the same. -/
def sameCells (a0 b0 : Int) (a1 b1 : Int) (a2 b2 : Int) (x3 y3 : List Int) : Bool := decide (a0 = b0) && decide (a1 = b1) && decide (a2 = b2) && decide (x3 = y3)
set_option maxHeartbeats 1000000 in
theorem sSameCells_any (a0 : Int) (a1 : Int) (a2 : Int) (A3 : Option Addr) (c3 : Nat) (x3 : List Int) (b0 : Int) (b1 : Int) (b2 : Int) (B3 : Option Addr) (d3 : Nat) (y3 : List Int) (w : World) (hw0 : W64 a0) (hw1 : W64 a1) (hw2 : W64 a2) (hx3 : RdL (Value.int .i64) w A3 x3) (hn3 : x3.length ≤ 1048576) (he3 : ∀ y ∈ x3, W64 y) (gw0 : W64 b0) (gw1 : W64 b1) (gw2 : W64 b2) (gx3 : RdL (Value.int .i64) w B3 y3) (gn3 : y3.length ≤ 1048576) (ge3 : ∀ y ∈ y3, W64 y) :
    Calls Try.prog 33 #[.agg #[.int .i64 a0, .int .i64 a1, .int .i64 a2, .slice A3 x3.length c3], .agg #[.int .i64 b0, .int .i64 b1, .int .i64 b2, .slice B3 y3.length d3]] w fun e w' => e = .returned (.bool (sameCells a0 b0 a1 b1 a2 b2 x3 y3)) ∧ Below w.heap.size w w' := by
  clear hw0 gw0
  clear hw1 gw1
  clear hw2 gw2
  have HX3 := hid hx3
  have HY3 := hid gx3
  clear hx3 gx3 he3 ge3
  by_cases e0 : a0 = b0
  · have t0 : (a0 == b0) = true := by simp [e0]
    by_cases e1 : a1 = b1
    · have t1 : (a1 == b1) = true := by simp [e1]
      by_cases e2 : a2 = b2
      · have t2 : (a2 == b2) = true := by simp [e2]
        cases t3 : decide (x3 = y3)
        · skip
          have hv := hid (show sameCells a0 b0 a1 b1 a2 b2 x3 y3 = false by simp [sameCells, *])
          clear e0 e1 e2
          go_enter Try.func33, Try.ntmps33
          go_wp2_with fail
          refine (rEqInt64S_any A3 B3 c3 d3 x3 y3 _ (HX3.out.below (below_a2 _ _ _)) (HY3.out.below (below_a2 _ _ _)) hn3).mono ?_
          rintro e w3 ⟨rfl, m3, rfl⟩
          go_wp2
          go_ret
          exact ⟨ret_bool hv.out.symm, below_drewN (below_a2 _ _ _) _⟩
        · skip
          have hv := hid (show sameCells a0 b0 a1 b1 a2 b2 x3 y3 = true by simp [sameCells, *])
          clear e0 e1 e2
          go_enter Try.func33, Try.ntmps33
          go_wp2_with fail
          refine (rEqInt64S_any A3 B3 c3 d3 x3 y3 _ (HX3.out.below (below_a2 _ _ _)) (HY3.out.below (below_a2 _ _ _)) hn3).mono ?_
          rintro e w3 ⟨rfl, m3, rfl⟩
          go_wp2
          go_ret
          exact ⟨ret_bool hv.out.symm, below_drewN (below_a2 _ _ _) _⟩
      · have t2 : (a2 == b2) = false := by simp [e2]
        have hv := hid (show sameCells a0 b0 a1 b1 a2 b2 x3 y3 = false by simp [sameCells, *])
        clear e0 e1 e2
        go_enter Try.func33, Try.ntmps33
        go_wp2
        go_ret
        exact ⟨ret_bool hv.out.symm, below_a2 _ _ _⟩
    · have t1 : (a1 == b1) = false := by simp [e1]
      have hv := hid (show sameCells a0 b0 a1 b1 a2 b2 x3 y3 = false by simp [sameCells, *])
      clear e0 e1
      go_enter Try.func33, Try.ntmps33
      go_wp2
      go_ret
      exact ⟨ret_bool hv.out.symm, below_a2 _ _ _⟩
  · have t0 : (a0 == b0) = false := by simp [e0]
    have hv := hid (show sameCells a0 b0 a1 b1 a2 b2 x3 y3 = false by simp [sameCells, *])
    clear e0
    go_enter Try.func33, Try.ntmps33
    go_wp2
    go_ret
    exact ⟨ret_bool hv.out.symm, below_a2 _ _ _⟩
set_option maxHeartbeats 1000000 in
theorem iSameCells_any (a0 : Int) (a1 : Int) (a2 : Int) (A3 : Option Addr) (c3 : Nat) (x3 : List Int) (b0 : Int) (b1 : Int) (b2 : Int) (B3 : Option Addr) (d3 : Nat) (y3 : List Int) (w : World) (hw0 : W64 a0) (hw1 : W64 a1) (hw2 : W64 a2) (hx3 : RdL (Value.int .i64) w A3 x3) (hn3 : x3.length ≤ 1048576) (he3 : ∀ y ∈ x3, W64 y) (gw0 : W64 b0) (gw1 : W64 b1) (gw2 : W64 b2) (gx3 : RdL (Value.int .i64) w B3 y3) (gn3 : y3.length ≤ 1048576) (ge3 : ∀ y ∈ y3, W64 y) :
    Calls Try.prog 45 #[.agg #[.int .i64 a0, .int .i64 a1, .int .i64 a2, .slice A3 x3.length c3], .agg #[.int .i64 b0, .int .i64 b1, .int .i64 b2, .slice B3 y3.length d3]] w fun e w' => e = .returned (.bool (sameCells a0 b0 a1 b1 a2 b2 x3 y3)) ∧ Below w.heap.size w w' := by
  clear hw0 gw0
  clear hw1 gw1
  clear hw2 gw2
  have HX3 := hid hx3
  have HY3 := hid gx3
  clear hx3 gx3 he3 ge3
  by_cases e0 : a0 = b0
  · have t0 : (a0 == b0) = true := by simp [e0]
    by_cases e1 : a1 = b1
    · have t1 : (a1 == b1) = true := by simp [e1]
      by_cases e2 : a2 = b2
      · have t2 : (a2 == b2) = true := by simp [e2]
        cases t3 : decide (x3 = y3)
        · skip
          have hv := hid (show sameCells a0 b0 a1 b1 a2 b2 x3 y3 = false by simp [sameCells, *])
          clear e0 e1 e2
          go_enter Try.func45, Try.ntmps45
          go_wp2_with fail
          refine (slEqInt64S_any A3 B3 c3 d3 x3 y3 _ (HX3.out.below (below_a2 _ _ _)) (HY3.out.below (below_a2 _ _ _)) hn3).mono ?_
          rintro e w3 ⟨rfl, m3, rfl⟩
          go_wp2
          go_ret
          exact ⟨ret_bool hv.out.symm, below_drewN (below_a2 _ _ _) _⟩
        · skip
          have hv := hid (show sameCells a0 b0 a1 b1 a2 b2 x3 y3 = true by simp [sameCells, *])
          clear e0 e1 e2
          go_enter Try.func45, Try.ntmps45
          go_wp2_with fail
          refine (slEqInt64S_any A3 B3 c3 d3 x3 y3 _ (HX3.out.below (below_a2 _ _ _)) (HY3.out.below (below_a2 _ _ _)) hn3).mono ?_
          rintro e w3 ⟨rfl, m3, rfl⟩
          go_wp2
          go_ret
          exact ⟨ret_bool hv.out.symm, below_drewN (below_a2 _ _ _) _⟩
      · have t2 : (a2 == b2) = false := by simp [e2]
        have hv := hid (show sameCells a0 b0 a1 b1 a2 b2 x3 y3 = false by simp [sameCells, *])
        clear e0 e1 e2
        go_enter Try.func45, Try.ntmps45
        go_wp2
        go_ret
        exact ⟨ret_bool hv.out.symm, below_a2 _ _ _⟩
    · have t1 : (a1 == b1) = false := by simp [e1]
      have hv := hid (show sameCells a0 b0 a1 b1 a2 b2 x3 y3 = false by simp [sameCells, *])
      clear e0 e1
      go_enter Try.func45, Try.ntmps45
      go_wp2
      go_ret
      exact ⟨ret_bool hv.out.symm, below_a2 _ _ _⟩
  · have t0 : (a0 == b0) = false := by simp [e0]
    have hv := hid (show sameCells a0 b0 a1 b1 a2 b2 x3 y3 = false by simp [sameCells, *])
    clear e0
    go_enter Try.func45, Try.ntmps45
    go_wp2
    go_ret
    exact ⟨ret_bool hv.out.symm, below_a2 _ _ _⟩

/-- Both Tops are the same. -/
def sameTops (a0 b0 : Int) (x1 y1 : List Int) (x2 y2 : List Int) (x3 y3 : List Int) : Bool := decide (a0 = b0) && decide (x1 = y1) && decide (x2 = y2) && decide (x3 = y3)

end Go.Proofs.Ytmmolicodlmlkaa
