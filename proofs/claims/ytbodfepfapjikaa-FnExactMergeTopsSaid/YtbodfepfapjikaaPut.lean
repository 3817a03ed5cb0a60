/-
  l00Put of the reference: an element put into an ascending list. Printed by gen_put.py.
-/
import Derived.Test.YtbodfepfapjikaaApp
import Derived.Test.YtbodfepfapjikaaAsc
namespace Go.Proofs.Ytbodfepfapjikaa
open Go.RowKit
set_option linter.unusedVariables false

set_option maxRecDepth 100000 in
set_option maxHeartbeats 3200000 in
theorem l00Put_any (A : Option Addr) (c : Nat) (l : List Int) (n : Int) (w : World) (hx : RdL (Value.int .i64) w A l) (hn : l.length ≤ 1048576) :
    Calls Try.prog 60 #[.slice A l.length c, .int .i64 n] w (RetL (Value.int .i64) 2 w (insA n l)) := by
  have HX := hid hx
  have hend := hid (putSt_end n l [])
  clear hx
  go_enter Try.func60, Try.ntmps60
  go_wp2
  go_loopw [5, 6, 7] (fun v d i wr => ∃ (k : Nat) (o : List Int) (b : Bool), k ≤ l.length ∧ i = .int .i64 k ∧ d = .bool b ∧ Hid ((l.take k).foldl (putSt n) ([], false) = (o, b)) ∧ Hid (o.length ≤ k + 1 ∧ (b = false → o.length ≤ k)) ∧ Hid (OwnV wr w.heap.size v o) ∧ Hid (Below w.heap.size w wr)) (fun _ _ i _ => l.length - (intOf i).toNat)
  case atStart => exact ⟨0, [], false, Nat.zero_le _, rfl, rfl, rfl, ⟨by simp, fun _ => by simp⟩, OwnV.made w (Nat.le_refl _), below_a1 _ _⟩
  case round =>
    obtain ⟨k, o, b, hk, rfl, rfl, hst, hl, hO, hW⟩ := hrel
    by_cases hlt : k < l.length
    · have hi : (k : Int) < (l.length : Int) := by omega
      obtain ⟨bb, oo, y, rfl, hcw, hyk⟩ := HX.out.at_ hlt
      have hbl := World.block_lt_of_cell? w _ hcw
      have hcy : wr.cell? ⟨bb, oo + k, none⟩ = some (.int .i64 y) := ((bcell hW.out).1 bb (oo + k) hbl).trans hcw
      have hsz := hW.out.size
      have hst' : (l.take (k + 1)).foldl (putSt n) ([], false) = putSt n (o, b) y := by rw [List.take_add_one, hyk.out, List.foldl_append, hst.out]; rfl
      have HST := hid hst'
      have HCW := hid hcw
      have hol : o.length ≤ 1048577 := by have := hl.out.1; omega
      clear hst' hst hcw
      cases b with
      | true =>
        have e : putSt n (o, true) y = (o ++ [y], true) := by simp [putSt]
        rw [e] at HST
        clear e
        go_wp2_with (at_builtin; refine app_int rfl _ _ rfl y hO.out hW.out rfl rfl hol hW.out.size ?_)
        intro v' w1 O1 W1 hg1 _
        go_wp2
        exact ⟨⟨k + 1, _, _, by omega, by go_num, rfl, HST, ⟨by have := hl.out.1; simp; omega, fun h => by cases h⟩, O1, W1⟩, by simp [intOf]; omega⟩
      | false =>
        by_cases hny : n ≤ y
        · have hny' : decide (n ≤ y) = true := decide_eq_true hny
          by_cases hlt2 : n < y
          · have e : putSt n (o, false) y = (o ++ [n, y], true) := by simp [putSt, hny, hlt2]
            rw [e] at HST
            clear e
            go_wp2_with (at_builtin; refine app_int rfl _ _ rfl n hO.out hW.out rfl rfl hol hW.out.size ?_)
            intro v' w1 O1 W1 hg1 _
            have hcy1 : w1.cell? ⟨bb, oo + k, none⟩ = some (.int .i64 y) := ((bcell W1.out).1 bb (oo + k) hbl).trans HCW.out
            have hol1 : (o ++ [n]).length ≤ 1048577 := by have := hl.out.2 (by first | rfl | trivial); simp; omega
            clear hcy
            go_wp2_with (at_builtin; refine app_int rfl _ _ rfl y O1.out W1.out rfl rfl hol1 W1.out.size ?_)
            intro v2 w2 O2 W2 hg2 _
            go_wp2
            exact ⟨⟨k + 1, _, _, by omega, by go_num, rfl, HST, ⟨by have := hl.out.2 (by first | rfl | trivial); simp; omega, fun h => by cases h⟩, O2, W2⟩, by simp [intOf]; omega⟩
          · have e : putSt n (o, false) y = (o ++ [y], true) := by simp [putSt, hny, hlt2]
            rw [e] at HST
            clear e
            have hd2 : decide (n < y) = false := decide_eq_false hlt2
            go_wp2_with (at_builtin; refine app_int rfl _ _ rfl y hO.out hW.out rfl rfl hol hW.out.size ?_)
            intro v' w1 O1 W1 hg1 _
            go_wp2
            exact ⟨⟨k + 1, _, _, by omega, by go_num, rfl, HST, ⟨by have := hl.out.1; simp; omega, fun h => by cases h⟩, O1, W1⟩, by simp [intOf]; omega⟩
        · have hd1 : decide (n ≤ y) = false := decide_eq_false hny
          have e : putSt n (o, false) y = (o ++ [y], false) := by simp [putSt, hny]
          rw [e] at HST
          clear e
          go_wp2_with (at_builtin; refine app_int rfl _ _ rfl y hO.out hW.out rfl rfl hol hW.out.size ?_)
          intro v' w1 O1 W1 hg1 _
          go_wp2
          exact ⟨⟨k + 1, _, _, by omega, by go_num, rfl, HST, ⟨by have := hl.out.1; simp; omega, fun _ => by have := hl.out.2 (by first | rfl | trivial); simp; omega⟩, O1, W1⟩, by simp [intOf]; omega⟩
    · have hi : ¬ (k : Int) < (l.length : Int) := by omega
      have hst' := hst.out
      rw [List.take_of_length_le (by omega)] at hst'
      have he := hend.out
      rw [hst', List.nil_append] at he
      have HE := hid he
      have hol : o.length ≤ 1048577 := by have := hl.out.1; omega
      clear hst' hst hend he
      cases b with
      | true =>
        go_wp2
        go_ret
        obtain ⟨A', c', hv, ho⟩ := hO.out.ownS
        have he : o = insA n l := HE.out
        rw [← he]
        exact ⟨A', c', congrArg Ending.returned hv, ho, hW.out⟩
      | false =>
        go_wp2_with (at_builtin; refine app_int rfl _ _ rfl n hO.out hW.out rfl rfl hol hW.out.size ?_)
        intro v' w1 O1 W1 hg1 _
        go_wp2
        go_ret
        obtain ⟨A', c', hv, ho⟩ := O1.out.ownS
        have he : o ++ [n] = insA n l := HE.out
        rw [← he]
        exact ⟨A', c', congrArg Ending.returned hv, ho, W1.out⟩
end Go.Proofs.Ytbodfepfapjikaa
