/-
  The laws' own helpers over plain slices, by their contracts: size, copy, compare, mark, look for the marks. Printed by gen_help.py.
-/
import Derived.Test.YtbodfepfapjikaaMem
import Derived.Test.YtbodfepfapjikaaProg
namespace Go.Proofs.Ytbodfepfapjikaa
open Go.RowKit

theorem ne_of_length {α : Type} {xs ys : List α} (h : xs.length ≠ ys.length) : xs ≠ ys := fun e => h (by rw [e])

set_option maxHeartbeats 400000 in
theorem eqInt64S_any (A A' : Option Addr) (c c' : Nat) (xs ys : List Int) (w : World) (hx : RdL (Value.int .i64) w A xs) (hy : RdL (Value.int .i64) w A' ys)
    (hn : xs.length ≤ 1048576) :
    Calls Try.prog 16 #[.slice A xs.length c, .slice A' ys.length c'] w fun e w' => e = .returned (.bool (decide (xs = ys))) ∧ ∃ n, w' = w.drewN n := by
  have HX := hid hx
  have HY := hid hy
  clear hx hy
  by_cases hl : xs.length = ys.length
  · have hl' : ((xs.length : Int) == (ys.length : Int)) = true := by simp [hl]
    have HL := hid hl
    clear hl
    go_enter Try.func16, Try.ntmps16
    go_wp2
    go_loopw [5] (fun i wr => ∃ k n : Nat, k ≤ xs.length ∧ i = .int .i64 k ∧ wr = w.drewN n ∧ Hid (xs.take k = ys.take k)) (fun i _ => xs.length - (intOf i).toNat)
    case atStart => exact ⟨0, 0, Nat.zero_le _, rfl, rfl, by show xs.take 0 = ys.take 0; simp⟩
    case round =>
      obtain ⟨k, n, hk, rfl, rfl, hh⟩ := hrel
      by_cases hlt : k < xs.length
      · have hlt' : k < ys.length := by have := HL.out; omega
        have hi : (k : Int) < (xs.length : Int) := by omega
        have hi' : (k : Int) < (ys.length : Int) := by omega
        obtain ⟨b, o, x, rfl, hc, hxk⟩ := HX.out.at_ hlt
        obtain ⟨b', o', y, rfl, hc', hyk⟩ := HY.out.at_ hlt'
        by_cases hxy : x = y
        · have ht : (x == y) = true := by simp [hxy]
          have he := take_snoc_eq hh.out hxk hyk hxy
          have HE : Hid (xs.take (k + 1) = ys.take (k + 1)) := he
          clear hxy he
          go_wp2
          go_quiet (fail)
          go_wp2
          exact ⟨⟨k + 1, _, by omega, by go_num, rfl, HE⟩, by simp [intOf]; omega⟩
        · have ht : (x == y) = false := by simp [hxy]
          have he := ne_of_at hxk hyk hxy
          clear hxy
          go_wp2
          go_quiet (fail)
          go_wp2
          go_ret
          exact ⟨by simp [he], _, World.drewN_drewN _ _ _⟩
      · have hi : ¬ (k : Int) < (xs.length : Int) := by omega
        go_wp2
        go_ret
        have := HL.out
        have hh := hh.out
        rw [List.take_of_length_le (by omega), List.take_of_length_le (by omega)] at hh
        exact ⟨by simp [hh], _, rfl⟩
  · have hl' : ((xs.length : Int) == (ys.length : Int)) = false := by simp; omega
    have hne := ne_of_length hl
    clear hl
    go_enter Try.func16, Try.ntmps16
    go_wp2
    go_ret
    exact ⟨by simp [hne], 0, rfl⟩

theorem szInt64S_yes (A : Option Addr) (n c : Nat) (left : Int) (w : World) (h0 : 0 ≤ left) (h1 : left ≤ 1048576) (h : (n : Int) ≤ left) :
    Calls Try.prog 65 #[.slice A n c, .int .i64 left] w fun e w' => e = .returned (.int .i64 (left - n)) ∧ w = w' := by
  have hb : 0 ≤ left - (n : Int) := by omega
  go_enter Try.func65, Try.ntmps65
  go_wp2
  go_ret
  exact ⟨rfl, rfl⟩
theorem szInt64S_no (A : Option Addr) (n c : Nat) (left : Int) (w : World) (h0 : 0 ≤ left) (h1 : left ≤ 1048576) (hn : n ≤ 9223372036854775807) (h : left < (n : Int)) :
    Calls Try.prog 65 #[.slice A n c, .int .i64 left] w fun e w' => e = .returned (.int .i64 (-1)) ∧ w = w' := by
  have hb : left - (n : Int) < 0 := by omega
  go_enter Try.func65, Try.ntmps65
  go_wp2
  go_ret
  exact ⟨rfl, rfl⟩

theorem Try.infoInt64S : (Try.prog.info? 2).map (fun i => (i.zero, i.size, i.bytes)) = some (some (.int .i64 0), 1, 8) := by kernel_rfl

set_option maxHeartbeats 400000 in
theorem toInt64S_any (A : Option Addr) (c : Nat) (xs : List Int) (w : World) (hx : RdL (Value.int .i64) w A xs) (hn : xs.length ≤ 1048576) :
    Calls Try.prog 14 #[.slice A xs.length c] w fun e w' => ∃ g, e = .returned (.slice (some ⟨g, 0, none⟩) xs.length xs.length) ∧ w.heap.size ≤ g ∧
      Blk w' g 2 (xs.map (Value.int .i64)) ∧ Below w.heap.size w w' := by
  have hmk := run_make_row' (P := Try.prog) 22 2 (.int .i64 0) 8 Try.underlying22 Try.infoInt64S rfl .i64 .i64 xs.length (by omega) (by omega)
  have HX := hid hx
  clear hx
  go_enter Try.func14, Try.ntmps14
  go_wp2
  have hB0 : Hid (Blk (w.alloc (.cells (madeCells #[.int .i64 0] xs.length) 2)) w.heap.size 2 (fillUp 0 (xs.map (Value.int .i64)) (List.replicate xs.length (.int .i64 0)))) := by
    rw [fillUp_zero]; exact Blk.made _ _ _ _
  have hW0 : Hid (Below w.heap.size w (w.alloc (.cells (madeCells #[.int .i64 0] xs.length) 2))) := (Below.refl _ _).alloc (Nat.le_refl _) _
  clear hmk
  go_loopw [4] (fun i wr => ∃ k : Nat, k ≤ xs.length ∧ i = .int .i64 k ∧ Hid (Blk wr w.heap.size 2 (fillUp k (xs.map (Value.int .i64)) (List.replicate xs.length (.int .i64 0)))) ∧ Hid (Below w.heap.size w wr))
    (fun i _ => xs.length - (intOf i).toNat)
  case atStart => exact ⟨0, Nat.zero_le _, rfl, hB0, hW0⟩
  case round =>
    clear hB0 hW0
    obtain ⟨k, hk, rfl, hB, hW⟩ := hrel
    by_cases hlt : k < xs.length
    · have hi : (k : Int) < (xs.length : Int) := by omega
      obtain ⟨b, o, x, rfl, hc, hxk⟩ := (HX.out.below hW.out).at_ hlt
      have hoc := hB.out.cell (i := k) (v := .int .i64 0) (by rw [fillUp_at (by simp; omega)]; simp [hlt])
      have hof := hB.out.frozen k
      have hB1 : Hid (Blk (wr.setCell ⟨w.heap.size, k, none⟩ ((Value.int .i64) x)) w.heap.size 2 (fillUp (k + 1) (xs.map (Value.int .i64)) (List.replicate xs.length (.int .i64 0)))) := by
        rw [← fillUp_step (v := (Value.int .i64) x) (by simp [hxk.out]) (by simp; omega)]; exact hB.out.set_ _ _
      have hW1 : Hid (Below w.heap.size w (wr.setCell ⟨w.heap.size, k, none⟩ ((Value.int .i64) x))) := hW.out.setCell (Nat.le_refl _) _
      clear hB hW
      go_wp2
      exact ⟨⟨k + 1, by omega, by go_num, hB1, hW1⟩, by simp [intOf]; omega⟩
    · have hi : ¬ (k : Int) < (xs.length : Int) := by omega
      go_wp2
      go_ret
      have hkl : k = xs.length := by omega
      have hB1 := hB.out
      rw [fillUp_all (by simp; omega) (by simp; omega)] at hB1
      exact ⟨_, rfl, Nat.le_refl _, hB1, hW.out⟩

set_option maxHeartbeats 400000 in
theorem markInt64S_any (A : Option Addr) (c B : Nat) (xs : List Int) (q : Int) (w : World) (hx : OwnS (Value.int .i64) w B 2 A xs) (hn : xs.length ≤ 1048576) (hq0 : 0 ≤ q) (hq1 : q ≤ 1073741824) :
    Calls Try.prog 17 #[.slice A xs.length c, .int .i64 q] w fun e w' => e = .returned (.int .i64 (q + xs.length)) ∧
      OwnS (Value.int .i64) w' B 2 A (marks markI q xs.length) ∧ Touch w w' A xs.length := by
  have H0 : Hid (OwnS (Value.int .i64) w B 2 A (fillUp 0 (marks markI q xs.length) xs)) := by rw [fillUp_zero]; exact hx
  clear hx
  go_enter Try.func17, Try.ntmps17
  go_wp2
  go_loopw [1, 5] (fun u i wr => ∃ k : Nat, k ≤ xs.length ∧ i = .int .i64 k ∧ u = .int .i64 (q + k) ∧ Hid (OwnS (Value.int .i64) wr B 2 A (fillUp k (marks markI q xs.length) xs)) ∧ Hid (Touch w wr A xs.length))
    (fun _ i _ => xs.length - (intOf i).toNat)
  case atStart => exact ⟨0, Nat.zero_le _, rfl, by go_num, H0, Touch.refl⟩
  case round =>
    clear H0
    obtain ⟨k, hk, rfl, rfl, hO, hT⟩ := hrel
    by_cases hlt : k < xs.length
    · have hi : (k : Int) < (xs.length : Int) := by omega
      obtain ⟨g, u, rfl, hBg, hc, hf, hu, hput⟩ := hO.out.put (j := k) (by rw [fillUp_length (by rw [marks_length]; omega) (by omega)]; exact hlt)
      have hO1 := hput (markI (q + k))
      rw [fillUp_step (marks_at _ _ hlt) hlt] at hO1
      have hT1 : Hid (Touch w (wr.setCell ⟨g, k, none⟩ ((Value.int .i64) (markI (q + k)))) (some ⟨g, 0, none⟩) xs.length) := hT.out.set_ (by omega) _ _
      clear hput hO hT hu
      go_wp2
      exact ⟨⟨k + 1, by omega, by go_num, by go_num, hO1, hT1⟩, by simp [intOf]; omega⟩
    · have hi : ¬ (k : Int) < (xs.length : Int) := by omega
      go_wp2
      go_ret
      obtain rfl : k = xs.length := by omega
      have hO1 := hO.out
      rw [fillUp_all (marks_length _ _ _) rfl] at hO1
      exact ⟨rfl, hO1, hT.out⟩

set_option maxHeartbeats 400000 in
theorem heldInt64S_yes (A : Option Addr) (n c : Nat) (q : Int) (w : World) (hx : RdL (Value.int .i64) w A (marks markI q n)) (hn : n ≤ 1048576) (hq0 : 0 ≤ q) (hq1 : q ≤ 1073741824) :
    Calls Try.prog 18 #[.slice A n c, .int .i64 q] w fun e w' => e = .returned (.int .i64 (q + n)) ∧ w = w' := by
  have HX := hid hx
  clear hx
  go_enter Try.func18, Try.ntmps18
  go_wp2
  go_loop [1, 5] (fun u i => ∃ k : Nat, k ≤ n ∧ i = .int .i64 k ∧ u = .int .i64 (q + k)) (fun _ i => n - (intOf i).toNat)
  case atStart => exact ⟨0, Nat.zero_le _, rfl, by go_num⟩
  case round =>
    obtain ⟨k, hk, rfl, rfl⟩ := hrel
    by_cases hlt : k < n
    · have hi : (k : Int) < (n : Int) := by omega
      obtain ⟨b, o, x, rfl, hc, hxk⟩ := HX.out.at_ (k := k) (by rw [marks_length]; exact hlt)
      have hx2 := hxk.out
      rw [marks_at _ _ hlt] at hx2
      obtain rfl : markI (q + k) = x := by simpa using hx2
      clear hx2 hxk HX
      simp only [markI] at hc
      go_wp2
      exact ⟨⟨k + 1, by omega, by go_num, by go_num⟩, by simp [intOf]; omega⟩
    · have hi : ¬ (k : Int) < (n : Int) := by omega
      obtain rfl : k = n := by omega
      go_wp2
      go_ret
      exact ⟨rfl, rfl⟩

end Go.Proofs.Ytbodfepfapjikaa
