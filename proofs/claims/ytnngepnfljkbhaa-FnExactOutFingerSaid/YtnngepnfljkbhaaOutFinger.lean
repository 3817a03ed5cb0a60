/-
  A finger taken out, and looked for: the program, by contracts.
-/
import Derived.Test.YtnngepnfljkbhaaFind
namespace Go.Proofs.Ytnngepnfljkbhaa
open Go.RowKit
set_option linter.unusedVariables false

/-- The first one of the listed cells with v gets u. -/
def chgAt (y : List Int) (v u : Int) (l : List Int) : List Int := match findAt y v l with | some p => y.set p.toNat u | none => y
theorem chgAt_some {y : List Int} {v u p : Int} {l : List Int} (h : findAt y v l = some p) : chgAt y v u l = y.set p.toNat u := by unfold chgAt; rw [h]
theorem chgAt_none {y : List Int} {v u : Int} {l : List Int} (h : findAt y v l = none) : chgAt y v u l = y := by unfold chgAt; rw [h]
theorem chgAt_length (y : List Int) (v u : Int) (l : List Int) : (chgAt y v u l).length = y.length := by
  unfold chgAt
  split <;> simp

theorem ret2_int {a b a' b' : Int} (h : a = a') (h' : b = b') : Ending.returned (.tuple #[.int .i64 a, .int .i64 b]) = .returned (.tuple #[.int .i64 a', .int .i64 b']) := by rw [h, h']
theorem houses_any (s n c : Nat) (A : Option Addr) (w : World) (hn : n ≤ 1048576) :
    Calls Try.prog 146 #[.agg #[.int .i64 s, .slice A n c]] w fun e w' => e = .returned (.int .i64 ((n : Int) / 2)) ∧ Below w.heap.size w w' := by
  go_enter Try.func146, Try.ntmps146
  go_wp2
  go_ret
  exact ⟨rfl, below_a1 _ _⟩
set_option maxRecDepth 100000 in
set_option maxHeartbeats 800000 in
theorem ifinger_any (s n c key : Nat) (A : Option Addr) (w : World) (hs : s < 4294967296) (hk : key < 4294967296) (hn : n ≤ 256) :
    Calls Try.prog 102 #[.agg #[.int .i64 s, .slice A n c], .int .i64 key] w fun e w' => e = .returned (.tuple #[.int .i64 (fingerN key s), .int .i64 (houseN key s n)]) ∧ Below w.heap.size w w' := by
  have B0 := hid (Blk.new w 62 [.int .i64 s, .slice A n c])
  obtain ⟨k0, k1⟩ := B0.out.cells2
  have hl2 := belowN_lt key s 255 (by omega)
  have hl3 := hid (half_toNat n)
  go_enter Try.func102, Try.ntmps102
  go_wp2
  go_region_held3 (fun w' => w'.cell? ⟨w.heap.size, 0, none⟩ = some (.int .i64 s) ∧ w'.cell? ⟨w.heap.size, 1, none⟩ = some (.slice A n c)) (first | go_keep | exact hS | (refine ⟨?_, ?_⟩ <;> go_keep))
    (first
      | (go_at_call 91
         refine (salted_any _ 1 _ hs (by omega)).mono ?_
         rintro e w' ⟨rfl, rfl⟩)
      | (go_at_call 146
         refine (houses_any s n c A _ (by omega)).mono ?_
         rintro e w1 ⟨rfl, hb⟩
         have hb := below_drew' hb
         have S1 := below_call (below_a1 _ _) hb
         have hS := (B0.out.below hb).cells2
         clear hb)
      | (go_at_call 130
         refine (ibelow_int _ _ _ _ hk (by first | with_reducible assumption | exact saltN_lt _ _) (by omega) (by omega)).mono ?_
         rintro e w' ⟨rfl, rfl⟩))
  all_goals
    go_wp2_with fail
    go_ret2
    exact ⟨ret2_int (by rw [IntKind.wrap_i64]; unfold fingerN; omega) rfl, S1.out⟩
set_option maxRecDepth 100000 in
set_option maxHeartbeats 800000 in
theorem iother_any (s n c finger house : Nat) (A : Option Addr) (w : World) (hs : s < 4294967296) (hk : finger < 4294967296) (hn2 : 2 ≤ n) (hn : n ≤ 256) (hh : house < 4294967296) :
    Calls Try.prog 104 #[.agg #[.int .i64 s, .slice A n c], .int .i64 house, .int .i64 finger] w fun e w' => e = .returned (.int .i64 (otherN finger house s n)) ∧ Below w.heap.size w w' := by
  have B0 := hid (Blk.new w 62 [.int .i64 s, .slice A n c])
  obtain ⟨k0, k1⟩ := B0.out.cells2
  have hl3 := hid (half_toNat n)
  have hl4 := hid (belowN_lt finger (saltN s 2) (n / 2) (by omega))
  go_enter Try.func104, Try.ntmps104
  go_wp2
  go_region_held3 (fun w' => w'.cell? ⟨w.heap.size, 0, none⟩ = some (.int .i64 s) ∧ w'.cell? ⟨w.heap.size, 1, none⟩ = some (.slice A n c)) (first | go_keep | exact hS | (refine ⟨?_, ?_⟩ <;> go_keep))
    (first
      | (go_at_call 91
         refine (salted_any _ 2 _ hs (by omega)).mono ?_
         rintro e w' ⟨rfl, rfl⟩)
      | (go_at_call 146
         refine (houses_any s n c A _ (by omega)).mono ?_
         rintro e w1 ⟨rfl, hb⟩
         have hb := below_drew' hb
         have S1 := below_call (below_a1 _ _) hb
         have hS := (B0.out.below hb).cells2
         clear hb)
      | (go_at_call 130
         refine (ibelow_int _ _ _ _ hk (by first | with_reducible assumption | exact saltN_lt _ _) (by omega) (by omega)).mono ?_
         rintro e w' ⟨rfl, rfl⟩))
  all_goals
    go_wp2_with fail
    go_ret
    exact ⟨ret_int (by
      have := hl4.out
      try rw [hl3.out]
      rw [bits_xor_i64_nat _ _ (by omega) (by omega)]; rfl), S1.out⟩
set_option maxRecDepth 100000 in
set_option maxHeartbeats 800000 in
theorem change_any (s g c B house : Nat) (y : List Int) (v u : Int) (w : World) (hO : OwnS (Value.int .i64) w B 2 (some ⟨g, 0, none⟩) y) (hn2 : 2 ≤ y.length) (hn : y.length ≤ 256) (hh : house < y.length / 2) :
    Calls Try.prog 103 #[.agg #[.int .i64 s, .slice (some ⟨g, 0, none⟩) y.length c], .int .i64 house, .int .i64 v, .int .i64 u] w fun e w' => e = .returned (.bool (findAt y v (houseL house)).isSome) ∧
      OwnS (Value.int .i64) w' B 2 (some ⟨g, 0, none⟩) (chgAt y v u (houseL house)) ∧ TouchAll w w' [(some ⟨g, 0, none⟩, y.length)] := by
  have HO := hid (hO.below (below_a1 w (.cells #[.int .i64 s, .slice (some ⟨g, 0, none⟩) y.length c] 62)))
  have HT := hid (TouchAll.alloc w (.cells #[.int .i64 s, .slice (some ⟨g, 0, none⟩) y.length c] 62) [(some ⟨g, 0, none⟩, y.length)])
  clear hO
  go_enter Try.func103, Try.ntmps103
  go_wp2
  go_loop [9] (fun i => ∃ k : Nat, k ≤ 2 ∧ i = .int .i64 (2 * (house : Int) + k) ∧ Hid (findAt y v ((houseL house).take k) = none)) (fun i => 2 * house + 2 - (intOf i).toNat)
  case atStart => exact ⟨0, by omega, by simp, rfl⟩
  case round =>
    obtain ⟨k, hk2, rfl, hnone⟩ := hrel
    by_cases hlt : k < 2
    · have hi : (2 * (house : Int) + (k : Int)) < 2 * (house : Int) + 2 := by omega
      have hj : 2 * house + k < y.length := by omega
      obtain ⟨g', z, hg', hgB, hcz, hfz, hzn, hput⟩ := HO.out.put hj
      injection hg' with hg'; injection hg' with hg'
      subst hg'
      have hnat : ((2 * house + k : Nat) : Int) = 2 * (house : Int) + k := by omega
      have hlk : Hid ((houseL house)[k]? = some ((2 * house + k : Nat) : Int)) := by
        rcases (show k = 0 ∨ k = 1 by omega) with rfl | rfl
        · show some _ = some _; rw [hnat]; simp
        · show some _ = some _; rw [hnat]; rfl
      have hi1 : 2 * (house : Int) + (k : Int) < (y.length : Int) := by omega
      have hi0 : (0 : Int) ≤ 2 * (house : Int) + (k : Int) := by omega
      have htn : (2 * (house : Int) + (k : Int)).toNat = 2 * house + k := by omega
      cases hzv : (z == v) with
      | true =>
        have he := findAt_hit hnone hlk (by rw [← beq_iff_eq.1 hzv]; exact hzn)
        have hO2 := hput u
        have hc : chgAt y v u (houseL house) = y.set (2 * house + k) u := by rw [chgAt_some he]; rfl
        rw [← hc] at hO2
        have HE := hid he
        have T2 := hid (HT.out.trans ((Touch.refl (A := some ⟨g, 0, none⟩) (n := y.length)).set_ (by omega) (2 * house + k) (.int .i64 u)))
        clear he hc hput hnat
        go_wp2
        go_ret
        exact ⟨ret_bool (by rw [HE.out]; rfl), hO2.out, T2.out⟩
      | false =>
        have he := hid (findAt_miss hnone hlk hzn hzv)
        clear hput hnat
        go_wp2
        exact ⟨⟨k + 1, by omega, by go_num, he⟩, by simp [intOf]; omega⟩
    · obtain rfl : k = 2 := by omega
      have he := hnone.out
      rw [List.take_of_length_le (by simp [houseL])] at he
      have HE := hid he
      clear he
      go_wp2
      go_ret
      exact ⟨ret_bool (by rw [HE.out]; rfl), by rw [chgAt_none HE.out]; exact HO.out, HT.out⟩
set_option maxRecDepth 100000 in
set_option maxHeartbeats 800000 in
theorem copyFingers_any (s : Int) (A : Option Addr) (c : Nat) (x : List Int) (w : World) (hx : RdL (Value.int .i64) w A x) (hn : x.length ≤ 1048576) :
    Calls Try.prog 101 #[.agg #[.int .i64 s, .slice A x.length c]] w fun e w' => ∃ A' c', e = .returned (.agg #[.int .i64 s, .slice A' x.length c']) ∧ OwnS (Value.int .i64) w' w.heap.size 2 A' x ∧ Below w.heap.size w w' := by
  have HX := hid (hx.below (below_a2 w (.cells #[.int .i64 s, .slice A x.length c] 62) (.cells #[.int .i64 0, .slice none 0 0] 62)))
  have B0 := hid ((Blk.new w 62 [.int .i64 s, .slice A x.length c]).alloc (.cells #[.int .i64 0, .slice none 0 0] 62))
  have R0 := hid (Blk.new2 w (.cells #[.int .i64 s, .slice A x.length c] 62) 62 [.int .i64 0, .slice none 0 0])
  clear hx
  obtain ⟨k0, k1⟩ := B0.out.cells2
  go_enter Try.func101, Try.ntmps101
  go_wp2
  go_region_held3 (fun w' => w'.cell? ⟨w.heap.size, 0, none⟩ = some (.int .i64 s) ∧ w'.cell? ⟨w.heap.size, 1, none⟩ = some (.slice A x.length c)) (first | go_keep | exact hS | (refine ⟨?_, ?_⟩ <;> go_keep))
    (first
      | (go_at_call 145
         refine (cloneI_any A c x _ (HX.out.drewN 1) hn).mono ?_
         rintro e w1 ⟨A1, c1, rfl, ho, hb⟩
         have hb := below_drew' hb
         have O1 := hid (ho.mono (B' := w.heap.size + 2) (by simp))
         have S1 := below_call (below_a2 _ _ _) hb
         have hS := (B0.out.below hb).cells2
         obtain ⟨d0, d1⟩ := (R0.out.below hb).cells2
         have f0 := (R0.out.below hb).frozen 0
         have f1 := (R0.out.below hb).frozen 1
         clear hb ho))
  all_goals
    go_wp2_with fail
    refine bodyPost_ret (v := .agg #[.int .i64 s, .slice A1 x.length c1]) (by simp [results, Try.results101, go_sem, d0, d1]) rfl ⟨A1, c1, rfl, ?_, ?_⟩
    · exact ((O1.out.setFar (by simp <;> omega) _).setFar (by simp <;> omega) _).mono (by omega)
    · exact (S1.out.setCell (by simp) _).setCell (by simp) _
end Go.Proofs.Ytnngepnfljkbhaa
