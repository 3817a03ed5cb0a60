/-
  The laws' own helpers over plain slices, by their contracts: size, copy, compare, mark, look for the marks. Printed by gen_help.py.
-/
import Derived.Test.YtbodfepfapjikaaDoorMem
import Derived.Test.YtbodfepfapjikaaDoorProg
namespace Go.Proofs.YtbodfepfapjikaaDoor
open Go.RowKit

theorem ne_of_length {α : Type} {xs ys : List α} (h : xs.length ≠ ys.length) : xs ≠ ys := fun e => h (by rw [e])

set_option maxHeartbeats 400000 in
theorem eqInt64S_any (A A' : Option Addr) (c c' : Nat) (xs ys : List Int) (w : World) (hx : RdL (Value.int .i64) w A xs) (hy : RdL (Value.int .i64) w A' ys)
    (hn : xs.length ≤ 1048576) :
    Calls Tryd.prog 7 #[.slice A xs.length c, .slice A' ys.length c'] w fun e w' => e = .returned (.bool (decide (xs = ys))) ∧ ∃ n, w' = w.drewN n := by
  have HX := hid hx
  have HY := hid hy
  clear hx hy
  by_cases hl : xs.length = ys.length
  · have hl' : ((xs.length : Int) == (ys.length : Int)) = true := by simp [hl]
    have HL := hid hl
    clear hl
    go_enter Tryd.func7, Tryd.ntmps7
    go_wp2
    go_loopw [5] (fun i wr => ∃ k n : Nat, k ≤ xs.length ∧ i = .int .i64 k ∧ wr = w.drewN n ∧ Hid (xs.take k = ys.take k)) (fun i _ => xs.length - (intOf i).toNat)
    case atStart => exact ⟨0, 0, Nat.zero_le _, rfl, rfl, by show xs.take 0 = ys.take 0; simp⟩
    case round =>
      obtain ⟨k, n, hk, rfl, rfl, hh⟩ := hrel
      by_cases hlt : k < xs.length
      · have hlt' : k < ys.length := by have := HL.out; omega
        have hi : (k : Int) < (xs.length : Int) := by omega
        have hi' : (k : Int) < (ys.length : Int) := by omega
        obtain ⟨b, o, x, rfl, hc, hxk⟩ := HX.out.at_ hlt
        obtain ⟨b', o', y, rfl, hc', hyk⟩ := HY.out.at_ hlt'
        by_cases hxy : x = y
        · have ht : (x == y) = true := by simp [hxy]
          have he := take_snoc_eq hh.out hxk hyk hxy
          have HE : Hid (xs.take (k + 1) = ys.take (k + 1)) := he
          clear hxy he
          go_wp2
          go_quiet (fail)
          go_wp2
          exact ⟨⟨k + 1, _, by omega, by go_num, rfl, HE⟩, by simp [intOf]; omega⟩
        · have ht : (x == y) = false := by simp [hxy]
          have he := ne_of_at hxk hyk hxy
          clear hxy
          go_wp2
          go_quiet (fail)
          go_wp2
          go_ret
          exact ⟨by simp [he], _, World.drewN_drewN _ _ _⟩
      · have hi : ¬ (k : Int) < (xs.length : Int) := by omega
        go_wp2
        go_ret
        have := HL.out
        have hh := hh.out
        rw [List.take_of_length_le (by omega), List.take_of_length_le (by omega)] at hh
        exact ⟨by simp [hh], _, rfl⟩
  · have hl' : ((xs.length : Int) == (ys.length : Int)) = false := by simp; omega
    have hne := ne_of_length hl
    clear hl
    go_enter Tryd.func7, Tryd.ntmps7
    go_wp2
    go_ret
    exact ⟨by simp [hne], 0, rfl⟩

set_option maxHeartbeats 400000 in
theorem markInt64S_any (A : Option Addr) (c B : Nat) (xs : List Int) (q : Int) (w : World) (hx : OwnS (Value.int .i64) w B 2 A xs) (hn : xs.length ≤ 1048576) (hq0 : 0 ≤ q) (hq1 : q ≤ 1073741824) :
    Calls Tryd.prog 8 #[.slice A xs.length c, .int .i64 q] w fun e w' => e = .returned (.int .i64 (q + xs.length)) ∧
      OwnS (Value.int .i64) w' B 2 A (marks markI q xs.length) ∧ Touch w w' A xs.length := by
  have H0 : Hid (OwnS (Value.int .i64) w B 2 A (fillUp 0 (marks markI q xs.length) xs)) := by rw [fillUp_zero]; exact hx
  clear hx
  go_enter Tryd.func8, Tryd.ntmps8
  go_wp2
  go_loopw [1, 5] (fun u i wr => ∃ k : Nat, k ≤ xs.length ∧ i = .int .i64 k ∧ u = .int .i64 (q + k) ∧ Hid (OwnS (Value.int .i64) wr B 2 A (fillUp k (marks markI q xs.length) xs)) ∧ Hid (Touch w wr A xs.length))
    (fun _ i _ => xs.length - (intOf i).toNat)
  case atStart => exact ⟨0, Nat.zero_le _, rfl, by go_num, H0, Touch.refl⟩
  case round =>
    clear H0
    obtain ⟨k, hk, rfl, rfl, hO, hT⟩ := hrel
    by_cases hlt : k < xs.length
    · have hi : (k : Int) < (xs.length : Int) := by omega
      obtain ⟨g, u, rfl, hBg, hc, hf, hu, hput⟩ := hO.out.put (j := k) (by rw [fillUp_length (by rw [marks_length]; omega) (by omega)]; exact hlt)
      have hO1 := hput (markI (q + k))
      rw [fillUp_step (marks_at _ _ hlt) hlt] at hO1
      have hT1 : Hid (Touch w (wr.setCell ⟨g, k, none⟩ ((Value.int .i64) (markI (q + k)))) (some ⟨g, 0, none⟩) xs.length) := hT.out.set_ (by omega) _ _
      clear hput hO hT hu
      go_wp2
      exact ⟨⟨k + 1, by omega, by go_num, by go_num, hO1, hT1⟩, by simp [intOf]; omega⟩
    · have hi : ¬ (k : Int) < (xs.length : Int) := by omega
      go_wp2
      go_ret
      obtain rfl : k = xs.length := by omega
      have hO1 := hO.out
      rw [fillUp_all (marks_length _ _ _) rfl] at hO1
      exact ⟨rfl, hO1, hT.out⟩

set_option maxHeartbeats 400000 in
theorem heldInt64S_yes (A : Option Addr) (n c : Nat) (q : Int) (w : World) (hx : RdL (Value.int .i64) w A (marks markI q n)) (hn : n ≤ 1048576) (hq0 : 0 ≤ q) (hq1 : q ≤ 1073741824) :
    Calls Tryd.prog 9 #[.slice A n c, .int .i64 q] w fun e w' => e = .returned (.int .i64 (q + n)) ∧ w = w' := by
  have HX := hid hx
  clear hx
  go_enter Tryd.func9, Tryd.ntmps9
  go_wp2
  go_loop [1, 5] (fun u i => ∃ k : Nat, k ≤ n ∧ i = .int .i64 k ∧ u = .int .i64 (q + k)) (fun _ i => n - (intOf i).toNat)
  case atStart => exact ⟨0, Nat.zero_le _, rfl, by go_num⟩
  case round =>
    obtain ⟨k, hk, rfl, rfl⟩ := hrel
    by_cases hlt : k < n
    · have hi : (k : Int) < (n : Int) := by omega
      obtain ⟨b, o, x, rfl, hc, hxk⟩ := HX.out.at_ (k := k) (by rw [marks_length]; exact hlt)
      have hx2 := hxk.out
      rw [marks_at _ _ hlt] at hx2
      obtain rfl : markI (q + k) = x := by simpa using hx2
      clear hx2 hxk HX
      simp only [markI] at hc
      go_wp2
      exact ⟨⟨k + 1, by omega, by go_num, by go_num⟩, by simp [intOf]; omega⟩
    · have hi : ¬ (k : Int) < (n : Int) := by omega
      obtain rfl : k = n := by omega
      go_wp2
      go_ret
      exact ⟨rfl, rfl⟩

end Go.Proofs.YtbodfepfapjikaaDoor
