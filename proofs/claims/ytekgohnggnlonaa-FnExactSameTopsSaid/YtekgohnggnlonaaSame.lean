/-
  Two structs are the same: reference and program, by contracts. Printed by gen_same.py.
-/
import Derived.Test.YtekgohnggnlonaaSlices
import Derived.Test.YtekgohnggnlonaaOpen
namespace Go.Proofs.Ytekgohnggnlonaa
open Go.RowKit
set_option linter.unusedVariables false

set_option maxHeartbeats 400000 in
theorem rEqBoolS_any (A A' : Option Addr) (c c' : Nat) (xs ys : List Bool) (w : World) (hx : RdL Value.bool w A xs) (hy : RdL Value.bool w A' ys)
    (hn : xs.length ≤ 1048576) :
    Calls Try.prog 95 #[.slice A xs.length c, .slice A' ys.length c'] w fun e w' => e = .returned (.bool (decide (xs = ys))) ∧ ∃ n, w' = w.drewN n := by
  have HX := hid hx
  have HY := hid hy
  clear hx hy
  by_cases hl : xs.length = ys.length
  · have hl' : ((xs.length : Int) == (ys.length : Int)) = true := by simp [hl]
    have HL := hid hl
    clear hl
    go_enter Try.func95, Try.ntmps95
    go_wp2
    go_loopw [5] (fun i wr => ∃ k n : Nat, k ≤ xs.length ∧ i = .int .i64 k ∧ wr = w.drewN n ∧ Hid (xs.take k = ys.take k)) (fun i _ => xs.length - (intOf i).toNat)
    case atStart => exact ⟨0, 0, Nat.zero_le _, rfl, rfl, by show xs.take 0 = ys.take 0; simp⟩
    case round =>
      obtain ⟨k, n, hk, rfl, rfl, hh⟩ := hrel
      by_cases hlt : k < xs.length
      · have hlt' : k < ys.length := by have := HL.out; omega
        have hi : (k : Int) < (xs.length : Int) := by omega
        have hi' : (k : Int) < (ys.length : Int) := by omega
        obtain ⟨b, o, x, rfl, hc, hxk⟩ := HX.out.at_ hlt
        obtain ⟨b', o', y, rfl, hc', hyk⟩ := HY.out.at_ hlt'
        by_cases hxy : x = y
        · have ht : (x == y) = true := by simp [hxy]
          have he := take_snoc_eq hh.out hxk hyk hxy
          have HE : Hid (xs.take (k + 1) = ys.take (k + 1)) := he
          clear hxy he
          go_wp2
          go_quiet (fail)
          go_wp2
          exact ⟨⟨k + 1, _, by omega, by go_num, rfl, HE⟩, by simp [intOf]; omega⟩
        · have ht : (x == y) = false := by simp [hxy]
          have he := ne_of_at hxk hyk hxy
          clear hxy
          go_wp2
          go_quiet (fail)
          go_wp2
          go_ret
          exact ⟨by simp [he], _, World.drewN_drewN _ _ _⟩
      · have hi : ¬ (k : Int) < (xs.length : Int) := by omega
        go_wp2
        go_ret
        have := HL.out
        have hh := hh.out
        rw [List.take_of_length_le (by omega), List.take_of_length_le (by omega)] at hh
        exact ⟨by simp [hh], _, rfl⟩
  · have hl' : ((xs.length : Int) == (ys.length : Int)) = false := by simp; omega
    have hne := ne_of_length hl
    clear hl
    go_enter Try.func95, Try.ntmps95
    go_wp2
    go_ret
    exact ⟨by simp [hne], 0, rfl⟩

set_option maxHeartbeats 400000 in
theorem rEqInt64S_any (A A' : Option Addr) (c c' : Nat) (xs ys : List Int) (w : World) (hx : RdL (Value.int .i64) w A xs) (hy : RdL (Value.int .i64) w A' ys)
    (hn : xs.length ≤ 1048576) :
    Calls Try.prog 78 #[.slice A xs.length c, .slice A' ys.length c'] w fun e w' => e = .returned (.bool (decide (xs = ys))) ∧ ∃ n, w' = w.drewN n := by
  have HX := hid hx
  have HY := hid hy
  clear hx hy
  by_cases hl : xs.length = ys.length
  · have hl' : ((xs.length : Int) == (ys.length : Int)) = true := by simp [hl]
    have HL := hid hl
    clear hl
    go_enter Try.func78, Try.ntmps78
    go_wp2
    go_loopw [5] (fun i wr => ∃ k n : Nat, k ≤ xs.length ∧ i = .int .i64 k ∧ wr = w.drewN n ∧ Hid (xs.take k = ys.take k)) (fun i _ => xs.length - (intOf i).toNat)
    case atStart => exact ⟨0, 0, Nat.zero_le _, rfl, rfl, by show xs.take 0 = ys.take 0; simp⟩
    case round =>
      obtain ⟨k, n, hk, rfl, rfl, hh⟩ := hrel
      by_cases hlt : k < xs.length
      · have hlt' : k < ys.length := by have := HL.out; omega
        have hi : (k : Int) < (xs.length : Int) := by omega
        have hi' : (k : Int) < (ys.length : Int) := by omega
        obtain ⟨b, o, x, rfl, hc, hxk⟩ := HX.out.at_ hlt
        obtain ⟨b', o', y, rfl, hc', hyk⟩ := HY.out.at_ hlt'
        by_cases hxy : x = y
        · have ht : (x == y) = true := by simp [hxy]
          have he := take_snoc_eq hh.out hxk hyk hxy
          have HE : Hid (xs.take (k + 1) = ys.take (k + 1)) := he
          clear hxy he
          go_wp2
          go_quiet (fail)
          go_wp2
          exact ⟨⟨k + 1, _, by omega, by go_num, rfl, HE⟩, by simp [intOf]; omega⟩
        · have ht : (x == y) = false := by simp [hxy]
          have he := ne_of_at hxk hyk hxy
          clear hxy
          go_wp2
          go_quiet (fail)
          go_wp2
          go_ret
          exact ⟨by simp [he], _, World.drewN_drewN _ _ _⟩
      · have hi : ¬ (k : Int) < (xs.length : Int) := by omega
        go_wp2
        go_ret
        have := HL.out
        have hh := hh.out
        rw [List.take_of_length_le (by omega), List.take_of_length_le (by omega)] at hh
        exact ⟨by simp [hh], _, rfl⟩
  · have hl' : ((xs.length : Int) == (ys.length : Int)) = false := by simp; omega
    have hne := ne_of_length hl
    clear hl
    go_enter Try.func78, Try.ntmps78
    go_wp2
    go_ret
    exact ⟨by simp [hne], 0, rfl⟩

/-- Both Sieve are the same. -/
def sameSieve (a0 b0 : Int) (a1 b1 : Int) (x2 y2 : List Bool) : Bool := decide (a0 = b0) && decide (a1 = b1) && decide (x2 = y2)
set_option maxHeartbeats 1000000 in
theorem l04Same_any (p q : Nat) (a0 : Int) (a1 : Int) (A2 : Option Addr) (c2 : Nat) (x2 : List Bool) (b0 : Int) (b1 : Int) (B2 : Option Addr) (d2 : Nat) (y2 : List Bool) (w : World) (hp0 : w.cell? ⟨p, 0, none⟩ = some (.int .i64 a0)) (hp1 : w.cell? ⟨p, 1, none⟩ = some (.int .i64 a1)) (hp2 : w.cell? ⟨p, 2, none⟩ = some (.slice A2 x2.length c2)) (hq0 : w.cell? ⟨q, 0, none⟩ = some (.int .i64 b0)) (hq1 : w.cell? ⟨q, 1, none⟩ = some (.int .i64 b1)) (hq2 : w.cell? ⟨q, 2, none⟩ = some (.slice B2 y2.length d2)) (hx2 : RdL Value.bool w A2 x2) (gx2 : RdL Value.bool w B2 y2) (hn2 : x2.length ≤ 1048576) :
    Calls Try.prog 75 #[.pointer (some ⟨p, 0, none⟩), .pointer (some ⟨q, 0, none⟩)] w fun e w' => e = .returned (.bool (sameSieve a0 b0 a1 b1 x2 y2)) ∧ ∃ n, w' = w.drewN n := by
  have HX := hid hx2
  have HY := hid gx2
  clear hx2 gx2
  by_cases e0 : a0 = b0
  · have t0 : (a0 == b0) = true := by simp [e0]
    by_cases e1 : a1 = b1
    · have t1 : (a1 == b1) = true := by simp [e1]
      have hv := hid (show sameSieve a0 b0 a1 b1 x2 y2 = decide (x2 = y2) by simp [sameSieve, *])
      clear e0 e1
      go_enter Try.func75, Try.ntmps75
      go_wp2
      go_quiet ((go_at_call 95; refine Calls.quiet_of (rEqBoolS_any _ _ _ _ x2 y2 _ (HX.out.drewN _) (HY.out.drewN _) hn2)))
      go_wp2
      go_ret
      exact ⟨ret_bool hv.out.symm, _, rfl⟩
    · have t1 : (a1 == b1) = false := by simp [e1]
      have hv := hid (show sameSieve a0 b0 a1 b1 x2 y2 = false by simp [sameSieve, *])
      clear e0 e1
      go_enter Try.func75, Try.ntmps75
      go_wp2
      go_quiet (fail)
      go_wp2
      go_ret
      exact ⟨ret_bool hv.out.symm, _, rfl⟩
  · have t0 : (a0 == b0) = false := by simp [e0]
    have hv := hid (show sameSieve a0 b0 a1 b1 x2 y2 = false by simp [sameSieve, *])
    clear e0
    go_enter Try.func75, Try.ntmps75
    go_wp2
    go_quiet (fail)
    go_wp2
    go_ret
    exact ⟨ret_bool hv.out.symm, _, rfl⟩
set_option maxHeartbeats 400000 in
theorem sSameSieve_any (a0 : Int) (a1 : Int) (A2 : Option Addr) (c2 : Nat) (x2 : List Bool) (b0 : Int) (b1 : Int) (B2 : Option Addr) (d2 : Nat) (y2 : List Bool) (w : World) (hw0 : W64 a0) (hw1 : W64 a1) (hx2 : RdL Value.bool w A2 x2) (hn2 : x2.length ≤ 1048576) (gw0 : W64 b0) (gw1 : W64 b1) (gx2 : RdL Value.bool w B2 y2) (gn2 : y2.length ≤ 1048576) :
    Calls Try.prog 24 #[.agg #[.int .i64 a0, .int .i64 a1, .slice A2 x2.length c2], .agg #[.int .i64 b0, .int .i64 b1, .slice B2 y2.length d2]] w fun e w' => e = .returned (.bool (sameSieve a0 b0 a1 b1 x2 y2)) ∧ Below w.heap.size w w' := by
  have HX := hid hx2
  have HY := hid gx2
  clear hx2 gx2
  go_enter Try.func24, Try.ntmps24
  go_wp2_with fail
  refine (l04Same_any _ _ a0 a1 A2 c2 x2 b0 b1 B2 d2 y2 _ ?_ ?_ ?_ ?_ ?_ ?_ (HX.out.below (below_a2 _ _ _)) (HY.out.below (below_a2 _ _ _)) hn2).mono ?_
  all_goals (try (simp; done))
  rintro e w' ⟨rfl, n, rfl⟩
  go_wp2
  go_ret
  exact ⟨rfl, below_drewN (below_a2 _ _ _) _⟩
set_option maxHeartbeats 1000000 in
theorem iSameSieve_any (a0 : Int) (a1 : Int) (A2 : Option Addr) (c2 : Nat) (x2 : List Bool) (b0 : Int) (b1 : Int) (B2 : Option Addr) (d2 : Nat) (y2 : List Bool) (w : World) (hw0 : W64 a0) (hw1 : W64 a1) (hx2 : RdL Value.bool w A2 x2) (hn2 : x2.length ≤ 1048576) (gw0 : W64 b0) (gw1 : W64 b1) (gx2 : RdL Value.bool w B2 y2) (gn2 : y2.length ≤ 1048576) :
    Calls Try.prog 25 #[.agg #[.int .i64 a0, .int .i64 a1, .slice A2 x2.length c2], .agg #[.int .i64 b0, .int .i64 b1, .slice B2 y2.length d2]] w fun e w' => e = .returned (.bool (sameSieve a0 b0 a1 b1 x2 y2)) ∧ Below w.heap.size w w' := by
  clear hw0 gw0
  clear hw1 gw1
  have HX2 := hid hx2
  have HY2 := hid gx2
  clear hx2 gx2
  by_cases e0 : a0 = b0
  · have t0 : (a0 == b0) = true := by simp [e0]
    by_cases e1 : a1 = b1
    · have t1 : (a1 == b1) = true := by simp [e1]
      cases t2 : decide (x2 = y2)
      · skip
        have hv := hid (show sameSieve a0 b0 a1 b1 x2 y2 = false by simp [sameSieve, *])
        clear e0 e1
        go_enter Try.func25, Try.ntmps25
        go_wp2_with fail
        refine (slEqBoolS_any A2 B2 c2 d2 x2 y2 _ (HX2.out.below (below_a2 _ _ _)) (HY2.out.below (below_a2 _ _ _)) hn2).mono ?_
        rintro e w2 ⟨rfl, m2, rfl⟩
        go_wp2
        go_ret
        exact ⟨ret_bool hv.out.symm, below_drewN (below_a2 _ _ _) _⟩
      · skip
        have hv := hid (show sameSieve a0 b0 a1 b1 x2 y2 = true by simp [sameSieve, *])
        clear e0 e1
        go_enter Try.func25, Try.ntmps25
        go_wp2_with fail
        refine (slEqBoolS_any A2 B2 c2 d2 x2 y2 _ (HX2.out.below (below_a2 _ _ _)) (HY2.out.below (below_a2 _ _ _)) hn2).mono ?_
        rintro e w2 ⟨rfl, m2, rfl⟩
        go_wp2
        go_ret
        exact ⟨ret_bool hv.out.symm, below_drewN (below_a2 _ _ _) _⟩
    · have t1 : (a1 == b1) = false := by simp [e1]
      have hv := hid (show sameSieve a0 b0 a1 b1 x2 y2 = false by simp [sameSieve, *])
      clear e0 e1
      go_enter Try.func25, Try.ntmps25
      go_wp2
      go_ret
      exact ⟨ret_bool hv.out.symm, below_a2 _ _ _⟩
  · have t0 : (a0 == b0) = false := by simp [e0]
    have hv := hid (show sameSieve a0 b0 a1 b1 x2 y2 = false by simp [sameSieve, *])
    clear e0
    go_enter Try.func25, Try.ntmps25
    go_wp2
    go_ret
    exact ⟨ret_bool hv.out.symm, below_a2 _ _ _⟩

/-- Both Cells are the same. -/
def sameCells (a0 b0 : Int) (a1 b1 : Int) (a2 b2 : Int) (x3 y3 : List Int) : Bool := decide (a0 = b0) && decide (a1 = b1) && decide (a2 = b2) && decide (x3 = y3)
set_option maxHeartbeats 1000000 in
theorem sSameCells_any (a0 : Int) (a1 : Int) (a2 : Int) (A3 : Option Addr) (c3 : Nat) (x3 : List Int) (b0 : Int) (b1 : Int) (b2 : Int) (B3 : Option Addr) (d3 : Nat) (y3 : List Int) (w : World) (hw0 : W64 a0) (hw1 : W64 a1) (hw2 : W64 a2) (hx3 : RdL (Value.int .i64) w A3 x3) (hn3 : x3.length ≤ 1048576) (he3 : ∀ y ∈ x3, W64 y) (gw0 : W64 b0) (gw1 : W64 b1) (gw2 : W64 b2) (gx3 : RdL (Value.int .i64) w B3 y3) (gn3 : y3.length ≤ 1048576) (ge3 : ∀ y ∈ y3, W64 y) :
    Calls Try.prog 27 #[.agg #[.int .i64 a0, .int .i64 a1, .int .i64 a2, .slice A3 x3.length c3], .agg #[.int .i64 b0, .int .i64 b1, .int .i64 b2, .slice B3 y3.length d3]] w fun e w' => e = .returned (.bool (sameCells a0 b0 a1 b1 a2 b2 x3 y3)) ∧ Below w.heap.size w w' := by
  clear hw0 gw0
  clear hw1 gw1
  clear hw2 gw2
  have HX3 := hid hx3
  have HY3 := hid gx3
  clear hx3 gx3 he3 ge3
  by_cases e0 : a0 = b0
  · have t0 : (a0 == b0) = true := by simp [e0]
    by_cases e1 : a1 = b1
    · have t1 : (a1 == b1) = true := by simp [e1]
      by_cases e2 : a2 = b2
      · have t2 : (a2 == b2) = true := by simp [e2]
        cases t3 : decide (x3 = y3)
        · skip
          have hv := hid (show sameCells a0 b0 a1 b1 a2 b2 x3 y3 = false by simp [sameCells, *])
          clear e0 e1 e2
          go_enter Try.func27, Try.ntmps27
          go_wp2_with fail
          refine (rEqInt64S_any A3 B3 c3 d3 x3 y3 _ (HX3.out.below (below_a2 _ _ _)) (HY3.out.below (below_a2 _ _ _)) hn3).mono ?_
          rintro e w3 ⟨rfl, m3, rfl⟩
          go_wp2
          go_ret
          exact ⟨ret_bool hv.out.symm, below_drewN (below_a2 _ _ _) _⟩
        · skip
          have hv := hid (show sameCells a0 b0 a1 b1 a2 b2 x3 y3 = true by simp [sameCells, *])
          clear e0 e1 e2
          go_enter Try.func27, Try.ntmps27
          go_wp2_with fail
          refine (rEqInt64S_any A3 B3 c3 d3 x3 y3 _ (HX3.out.below (below_a2 _ _ _)) (HY3.out.below (below_a2 _ _ _)) hn3).mono ?_
          rintro e w3 ⟨rfl, m3, rfl⟩
          go_wp2
          go_ret
          exact ⟨ret_bool hv.out.symm, below_drewN (below_a2 _ _ _) _⟩
      · have t2 : (a2 == b2) = false := by simp [e2]
        have hv := hid (show sameCells a0 b0 a1 b1 a2 b2 x3 y3 = false by simp [sameCells, *])
        clear e0 e1 e2
        go_enter Try.func27, Try.ntmps27
        go_wp2
        go_ret
        exact ⟨ret_bool hv.out.symm, below_a2 _ _ _⟩
    · have t1 : (a1 == b1) = false := by simp [e1]
      have hv := hid (show sameCells a0 b0 a1 b1 a2 b2 x3 y3 = false by simp [sameCells, *])
      clear e0 e1
      go_enter Try.func27, Try.ntmps27
      go_wp2
      go_ret
      exact ⟨ret_bool hv.out.symm, below_a2 _ _ _⟩
  · have t0 : (a0 == b0) = false := by simp [e0]
    have hv := hid (show sameCells a0 b0 a1 b1 a2 b2 x3 y3 = false by simp [sameCells, *])
    clear e0
    go_enter Try.func27, Try.ntmps27
    go_wp2
    go_ret
    exact ⟨ret_bool hv.out.symm, below_a2 _ _ _⟩
set_option maxHeartbeats 1000000 in
theorem iSameCells_any (a0 : Int) (a1 : Int) (a2 : Int) (A3 : Option Addr) (c3 : Nat) (x3 : List Int) (b0 : Int) (b1 : Int) (b2 : Int) (B3 : Option Addr) (d3 : Nat) (y3 : List Int) (w : World) (hw0 : W64 a0) (hw1 : W64 a1) (hw2 : W64 a2) (hx3 : RdL (Value.int .i64) w A3 x3) (hn3 : x3.length ≤ 1048576) (he3 : ∀ y ∈ x3, W64 y) (gw0 : W64 b0) (gw1 : W64 b1) (gw2 : W64 b2) (gx3 : RdL (Value.int .i64) w B3 y3) (gn3 : y3.length ≤ 1048576) (ge3 : ∀ y ∈ y3, W64 y) :
    Calls Try.prog 29 #[.agg #[.int .i64 a0, .int .i64 a1, .int .i64 a2, .slice A3 x3.length c3], .agg #[.int .i64 b0, .int .i64 b1, .int .i64 b2, .slice B3 y3.length d3]] w fun e w' => e = .returned (.bool (sameCells a0 b0 a1 b1 a2 b2 x3 y3)) ∧ Below w.heap.size w w' := by
  clear hw0 gw0
  clear hw1 gw1
  clear hw2 gw2
  have HX3 := hid hx3
  have HY3 := hid gx3
  clear hx3 gx3 he3 ge3
  by_cases e0 : a0 = b0
  · have t0 : (a0 == b0) = true := by simp [e0]
    by_cases e1 : a1 = b1
    · have t1 : (a1 == b1) = true := by simp [e1]
      by_cases e2 : a2 = b2
      · have t2 : (a2 == b2) = true := by simp [e2]
        cases t3 : decide (x3 = y3)
        · skip
          have hv := hid (show sameCells a0 b0 a1 b1 a2 b2 x3 y3 = false by simp [sameCells, *])
          clear e0 e1 e2
          go_enter Try.func29, Try.ntmps29
          go_wp2_with fail
          refine (slEqInt64S_any A3 B3 c3 d3 x3 y3 _ (HX3.out.below (below_a2 _ _ _)) (HY3.out.below (below_a2 _ _ _)) hn3).mono ?_
          rintro e w3 ⟨rfl, m3, rfl⟩
          go_wp2
          go_ret
          exact ⟨ret_bool hv.out.symm, below_drewN (below_a2 _ _ _) _⟩
        · skip
          have hv := hid (show sameCells a0 b0 a1 b1 a2 b2 x3 y3 = true by simp [sameCells, *])
          clear e0 e1 e2
          go_enter Try.func29, Try.ntmps29
          go_wp2_with fail
          refine (slEqInt64S_any A3 B3 c3 d3 x3 y3 _ (HX3.out.below (below_a2 _ _ _)) (HY3.out.below (below_a2 _ _ _)) hn3).mono ?_
          rintro e w3 ⟨rfl, m3, rfl⟩
          go_wp2
          go_ret
          exact ⟨ret_bool hv.out.symm, below_drewN (below_a2 _ _ _) _⟩
      · have t2 : (a2 == b2) = false := by simp [e2]
        have hv := hid (show sameCells a0 b0 a1 b1 a2 b2 x3 y3 = false by simp [sameCells, *])
        clear e0 e1 e2
        go_enter Try.func29, Try.ntmps29
        go_wp2
        go_ret
        exact ⟨ret_bool hv.out.symm, below_a2 _ _ _⟩
    · have t1 : (a1 == b1) = false := by simp [e1]
      have hv := hid (show sameCells a0 b0 a1 b1 a2 b2 x3 y3 = false by simp [sameCells, *])
      clear e0 e1
      go_enter Try.func29, Try.ntmps29
      go_wp2
      go_ret
      exact ⟨ret_bool hv.out.symm, below_a2 _ _ _⟩
  · have t0 : (a0 == b0) = false := by simp [e0]
    have hv := hid (show sameCells a0 b0 a1 b1 a2 b2 x3 y3 = false by simp [sameCells, *])
    clear e0
    go_enter Try.func29, Try.ntmps29
    go_wp2
    go_ret
    exact ⟨ret_bool hv.out.symm, below_a2 _ _ _⟩

/-- Both Tops are the same. -/
def sameTops (a0 b0 : Int) (x1 y1 : List Int) (x2 y2 : List Int) (x3 y3 : List Int) : Bool := decide (a0 = b0) && decide (x1 = y1) && decide (x2 = y2) && decide (x3 = y3)
set_option maxHeartbeats 1000000 in
theorem sSameTops_any (a0 : Int) (A1 : Option Addr) (c1 : Nat) (x1 : List Int) (A2 : Option Addr) (c2 : Nat) (x2 : List Int) (A3 : Option Addr) (c3 : Nat) (x3 : List Int) (b0 : Int) (B1 : Option Addr) (d1 : Nat) (y1 : List Int) (B2 : Option Addr) (d2 : Nat) (y2 : List Int) (B3 : Option Addr) (d3 : Nat) (y3 : List Int) (w : World) (hw0 : W64 a0) (hx1 : RdL (Value.int .i64) w A1 x1) (hn1 : x1.length ≤ 1048576) (he1 : ∀ y ∈ x1, W64 y) (hx2 : RdL (Value.int .i64) w A2 x2) (hn2 : x2.length ≤ 1048576) (he2 : ∀ y ∈ x2, W64 y) (hx3 : RdL (Value.int .i64) w A3 x3) (hn3 : x3.length ≤ 1048576) (he3 : ∀ y ∈ x3, W64 y) (gw0 : W64 b0) (gx1 : RdL (Value.int .i64) w B1 y1) (gn1 : y1.length ≤ 1048576) (ge1 : ∀ y ∈ y1, W64 y) (gx2 : RdL (Value.int .i64) w B2 y2) (gn2 : y2.length ≤ 1048576) (ge2 : ∀ y ∈ y2, W64 y) (gx3 : RdL (Value.int .i64) w B3 y3) (gn3 : y3.length ≤ 1048576) (ge3 : ∀ y ∈ y3, W64 y) :
    Calls Try.prog 49 #[.agg #[.int .i64 a0, .slice A1 x1.length c1, .slice A2 x2.length c2, .slice A3 x3.length c3], .agg #[.int .i64 b0, .slice B1 y1.length d1, .slice B2 y2.length d2, .slice B3 y3.length d3]] w fun e w' => e = .returned (.bool (sameTops a0 b0 x1 y1 x2 y2 x3 y3)) ∧ Below w.heap.size w w' := by
  clear hw0 gw0
  have HX1 := hid hx1
  have HY1 := hid gx1
  clear hx1 gx1 he1 ge1
  have HX2 := hid hx2
  have HY2 := hid gx2
  clear hx2 gx2 he2 ge2
  have HX3 := hid hx3
  have HY3 := hid gx3
  clear hx3 gx3 he3 ge3
  by_cases e0 : a0 = b0
  · have t0 : (a0 == b0) = true := by simp [e0]
    cases t1 : decide (x1 = y1)
    · skip
      have hv := hid (show sameTops a0 b0 x1 y1 x2 y2 x3 y3 = false by simp [sameTops, *])
      clear e0
      go_enter Try.func49, Try.ntmps49
      go_wp2_with fail
      refine (rEqInt64S_any A1 B1 c1 d1 x1 y1 _ (HX1.out.below (below_a2 _ _ _)) (HY1.out.below (below_a2 _ _ _)) hn1).mono ?_
      rintro e w1 ⟨rfl, m1, rfl⟩
      go_wp2
      go_ret
      exact ⟨ret_bool hv.out.symm, below_drewN (below_a2 _ _ _) _⟩
    · skip
      cases t2 : decide (x2 = y2)
      · skip
        have hv := hid (show sameTops a0 b0 x1 y1 x2 y2 x3 y3 = false by simp [sameTops, *])
        clear e0
        go_enter Try.func49, Try.ntmps49
        go_wp2_with fail
        refine (rEqInt64S_any A1 B1 c1 d1 x1 y1 _ (HX1.out.below (below_a2 _ _ _)) (HY1.out.below (below_a2 _ _ _)) hn1).mono ?_
        rintro e w1 ⟨rfl, m1, rfl⟩
        go_wp2_with fail
        refine (rEqInt64S_any A2 B2 c2 d2 x2 y2 _ (HX2.out.below (below_drewN (below_a2 _ _ _) _)) (HY2.out.below (below_drewN (below_a2 _ _ _) _)) hn2).mono ?_
        rintro e w2 ⟨rfl, m2, rfl⟩
        go_wp2
        go_ret
        exact ⟨ret_bool hv.out.symm, below_drewN (below_a2 _ _ _) _⟩
      · skip
        cases t3 : decide (x3 = y3)
        · skip
          have hv := hid (show sameTops a0 b0 x1 y1 x2 y2 x3 y3 = false by simp [sameTops, *])
          clear e0
          go_enter Try.func49, Try.ntmps49
          go_wp2_with fail
          refine (rEqInt64S_any A1 B1 c1 d1 x1 y1 _ (HX1.out.below (below_a2 _ _ _)) (HY1.out.below (below_a2 _ _ _)) hn1).mono ?_
          rintro e w1 ⟨rfl, m1, rfl⟩
          go_wp2_with fail
          refine (rEqInt64S_any A2 B2 c2 d2 x2 y2 _ (HX2.out.below (below_drewN (below_a2 _ _ _) _)) (HY2.out.below (below_drewN (below_a2 _ _ _) _)) hn2).mono ?_
          rintro e w2 ⟨rfl, m2, rfl⟩
          go_wp2_with fail
          refine (rEqInt64S_any A3 B3 c3 d3 x3 y3 _ (HX3.out.below (below_drewN (below_a2 _ _ _) _)) (HY3.out.below (below_drewN (below_a2 _ _ _) _)) hn3).mono ?_
          rintro e w3 ⟨rfl, m3, rfl⟩
          go_wp2
          go_ret
          exact ⟨ret_bool hv.out.symm, below_drewN (below_a2 _ _ _) _⟩
        · skip
          have hv := hid (show sameTops a0 b0 x1 y1 x2 y2 x3 y3 = true by simp [sameTops, *])
          clear e0
          go_enter Try.func49, Try.ntmps49
          go_wp2_with fail
          refine (rEqInt64S_any A1 B1 c1 d1 x1 y1 _ (HX1.out.below (below_a2 _ _ _)) (HY1.out.below (below_a2 _ _ _)) hn1).mono ?_
          rintro e w1 ⟨rfl, m1, rfl⟩
          go_wp2_with fail
          refine (rEqInt64S_any A2 B2 c2 d2 x2 y2 _ (HX2.out.below (below_drewN (below_a2 _ _ _) _)) (HY2.out.below (below_drewN (below_a2 _ _ _) _)) hn2).mono ?_
          rintro e w2 ⟨rfl, m2, rfl⟩
          go_wp2_with fail
          refine (rEqInt64S_any A3 B3 c3 d3 x3 y3 _ (HX3.out.below (below_drewN (below_a2 _ _ _) _)) (HY3.out.below (below_drewN (below_a2 _ _ _) _)) hn3).mono ?_
          rintro e w3 ⟨rfl, m3, rfl⟩
          go_wp2
          go_ret
          exact ⟨ret_bool hv.out.symm, below_drewN (below_a2 _ _ _) _⟩
  · have t0 : (a0 == b0) = false := by simp [e0]
    have hv := hid (show sameTops a0 b0 x1 y1 x2 y2 x3 y3 = false by simp [sameTops, *])
    clear e0
    go_enter Try.func49, Try.ntmps49
    go_wp2
    go_ret
    exact ⟨ret_bool hv.out.symm, below_a2 _ _ _⟩
set_option maxHeartbeats 1000000 in
theorem iSameTops_any (a0 : Int) (A1 : Option Addr) (c1 : Nat) (x1 : List Int) (A2 : Option Addr) (c2 : Nat) (x2 : List Int) (A3 : Option Addr) (c3 : Nat) (x3 : List Int) (b0 : Int) (B1 : Option Addr) (d1 : Nat) (y1 : List Int) (B2 : Option Addr) (d2 : Nat) (y2 : List Int) (B3 : Option Addr) (d3 : Nat) (y3 : List Int) (w : World) (hw0 : W64 a0) (hx1 : RdL (Value.int .i64) w A1 x1) (hn1 : x1.length ≤ 1048576) (he1 : ∀ y ∈ x1, W64 y) (hx2 : RdL (Value.int .i64) w A2 x2) (hn2 : x2.length ≤ 1048576) (he2 : ∀ y ∈ x2, W64 y) (hx3 : RdL (Value.int .i64) w A3 x3) (hn3 : x3.length ≤ 1048576) (he3 : ∀ y ∈ x3, W64 y) (gw0 : W64 b0) (gx1 : RdL (Value.int .i64) w B1 y1) (gn1 : y1.length ≤ 1048576) (ge1 : ∀ y ∈ y1, W64 y) (gx2 : RdL (Value.int .i64) w B2 y2) (gn2 : y2.length ≤ 1048576) (ge2 : ∀ y ∈ y2, W64 y) (gx3 : RdL (Value.int .i64) w B3 y3) (gn3 : y3.length ≤ 1048576) (ge3 : ∀ y ∈ y3, W64 y) :
    Calls Try.prog 51 #[.agg #[.int .i64 a0, .slice A1 x1.length c1, .slice A2 x2.length c2, .slice A3 x3.length c3], .agg #[.int .i64 b0, .slice B1 y1.length d1, .slice B2 y2.length d2, .slice B3 y3.length d3]] w fun e w' => e = .returned (.bool (sameTops a0 b0 x1 y1 x2 y2 x3 y3)) ∧ Below w.heap.size w w' := by
  clear hw0 gw0
  have HX1 := hid hx1
  have HY1 := hid gx1
  clear hx1 gx1 he1 ge1
  have HX2 := hid hx2
  have HY2 := hid gx2
  clear hx2 gx2 he2 ge2
  have HX3 := hid hx3
  have HY3 := hid gx3
  clear hx3 gx3 he3 ge3
  by_cases e0 : a0 = b0
  · have t0 : (a0 == b0) = true := by simp [e0]
    cases t1 : decide (x1 = y1)
    · skip
      have hv := hid (show sameTops a0 b0 x1 y1 x2 y2 x3 y3 = false by simp [sameTops, *])
      clear e0
      go_enter Try.func51, Try.ntmps51
      go_wp2_with fail
      refine (slEqInt64S_any A1 B1 c1 d1 x1 y1 _ (HX1.out.below (below_a2 _ _ _)) (HY1.out.below (below_a2 _ _ _)) hn1).mono ?_
      rintro e w1 ⟨rfl, m1, rfl⟩
      go_wp2
      go_ret
      exact ⟨ret_bool hv.out.symm, below_drewN (below_a2 _ _ _) _⟩
    · skip
      cases t2 : decide (x2 = y2)
      · skip
        have hv := hid (show sameTops a0 b0 x1 y1 x2 y2 x3 y3 = false by simp [sameTops, *])
        clear e0
        go_enter Try.func51, Try.ntmps51
        go_wp2_with fail
        refine (slEqInt64S_any A1 B1 c1 d1 x1 y1 _ (HX1.out.below (below_a2 _ _ _)) (HY1.out.below (below_a2 _ _ _)) hn1).mono ?_
        rintro e w1 ⟨rfl, m1, rfl⟩
        go_wp2_with fail
        refine (slEqInt64S_any A2 B2 c2 d2 x2 y2 _ (HX2.out.below (below_drewN (below_a2 _ _ _) _)) (HY2.out.below (below_drewN (below_a2 _ _ _) _)) hn2).mono ?_
        rintro e w2 ⟨rfl, m2, rfl⟩
        go_wp2
        go_ret
        exact ⟨ret_bool hv.out.symm, below_drewN (below_a2 _ _ _) _⟩
      · skip
        cases t3 : decide (x3 = y3)
        · skip
          have hv := hid (show sameTops a0 b0 x1 y1 x2 y2 x3 y3 = false by simp [sameTops, *])
          clear e0
          go_enter Try.func51, Try.ntmps51
          go_wp2_with fail
          refine (slEqInt64S_any A1 B1 c1 d1 x1 y1 _ (HX1.out.below (below_a2 _ _ _)) (HY1.out.below (below_a2 _ _ _)) hn1).mono ?_
          rintro e w1 ⟨rfl, m1, rfl⟩
          go_wp2_with fail
          refine (slEqInt64S_any A2 B2 c2 d2 x2 y2 _ (HX2.out.below (below_drewN (below_a2 _ _ _) _)) (HY2.out.below (below_drewN (below_a2 _ _ _) _)) hn2).mono ?_
          rintro e w2 ⟨rfl, m2, rfl⟩
          go_wp2_with fail
          refine (slEqInt64S_any A3 B3 c3 d3 x3 y3 _ (HX3.out.below (below_drewN (below_a2 _ _ _) _)) (HY3.out.below (below_drewN (below_a2 _ _ _) _)) hn3).mono ?_
          rintro e w3 ⟨rfl, m3, rfl⟩
          go_wp2
          go_ret
          exact ⟨ret_bool hv.out.symm, below_drewN (below_a2 _ _ _) _⟩
        · skip
          have hv := hid (show sameTops a0 b0 x1 y1 x2 y2 x3 y3 = true by simp [sameTops, *])
          clear e0
          go_enter Try.func51, Try.ntmps51
          go_wp2_with fail
          refine (slEqInt64S_any A1 B1 c1 d1 x1 y1 _ (HX1.out.below (below_a2 _ _ _)) (HY1.out.below (below_a2 _ _ _)) hn1).mono ?_
          rintro e w1 ⟨rfl, m1, rfl⟩
          go_wp2_with fail
          refine (slEqInt64S_any A2 B2 c2 d2 x2 y2 _ (HX2.out.below (below_drewN (below_a2 _ _ _) _)) (HY2.out.below (below_drewN (below_a2 _ _ _) _)) hn2).mono ?_
          rintro e w2 ⟨rfl, m2, rfl⟩
          go_wp2_with fail
          refine (slEqInt64S_any A3 B3 c3 d3 x3 y3 _ (HX3.out.below (below_drewN (below_a2 _ _ _) _)) (HY3.out.below (below_drewN (below_a2 _ _ _) _)) hn3).mono ?_
          rintro e w3 ⟨rfl, m3, rfl⟩
          go_wp2
          go_ret
          exact ⟨ret_bool hv.out.symm, below_drewN (below_a2 _ _ _) _⟩
  · have t0 : (a0 == b0) = false := by simp [e0]
    have hv := hid (show sameTops a0 b0 x1 y1 x2 y2 x3 y3 = false by simp [sameTops, *])
    clear e0
    go_enter Try.func51, Try.ntmps51
    go_wp2
    go_ret
    exact ⟨ret_bool hv.out.symm, below_a2 _ _ _⟩

end Go.Proofs.Ytekgohnggnlonaa
