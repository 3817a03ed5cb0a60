/-
  Searches in a list of integers: where a value lies first (l03Find, slices.Index), whether it lies there (l00Has), where the least one lies (l03Lowest), by contracts.
-/
import Derived.Test.YtbodfepfapjikaaSlices
import Derived.Test.YtbodfepfapjikaaMinL
import Derived.Test.YtbodfepfapjikaaAsc
namespace Go.Proofs.Ytbodfepfapjikaa
open Go.RowKit
set_option linter.unusedVariables false
set_option linter.unusedSimpArgs false

set_option maxHeartbeats 1000000 in
theorem l03Find_any (A : Option Addr) (c : Nat) (x : List Int) (v : Int) (w : World) (hx : RdL (Value.int .i64) w A x) (hn : x.length ≤ 1048576) :
    Calls Try.prog 61 #[.slice A x.length c, .int .i64 v] w fun e w' => e = .returned (.int .i64 (idxP (fun y => y == v) x)) ∧ w = w' := by
  have HX := hid hx
  clear hx
  go_enter Try.func61, Try.ntmps61
  go_wp2
  go_loop [8] (fun i => ∃ k : Nat, k ≤ x.length ∧ i = .int .i64 k ∧ Hid ((x.take k).any (fun y => y == v) = false)) (fun i => x.length - (intOf i).toNat)
  case atStart => exact ⟨0, Nat.zero_le _, rfl, rfl⟩
  case round =>
    obtain ⟨k, hk, rfl, hh⟩ := hrel
    by_cases hlt : k < x.length
    · have hi : (k : Int) < (x.length : Int) := by omega
      obtain ⟨b, o, y, rfl, hcy, hyk⟩ := HX.out.at_ hlt
      cases hv : (y == v) with
      | true =>
        have he := hid (idxP_at hh hyk (p := fun y => y == v) hv)
        go_wp2
        go_ret
        exact ⟨ret_int he.out.symm, rfl⟩
      | false =>
        have he := hid (any_snoc hh hyk (p := fun y => y == v) hv)
        go_wp2
        exact ⟨⟨k + 1, by omega, by go_num, he⟩, by simp [intOf]; omega⟩
    · have hi : ¬ (k : Int) < (x.length : Int) := by omega
      have he := hh.out
      rw [List.take_of_length_le (by omega)] at he
      have HE := hid (idxP_none he)
      clear he
      go_wp2
      go_ret
      exact ⟨ret_int HE.out.symm, rfl⟩
set_option maxHeartbeats 1000000 in
theorem slIndexG_any (A : Option Addr) (c : Nat) (x : List Int) (v : Int) (w : World) (hx : RdL (Value.int .i64) w A x) (hn : x.length ≤ 1048576) :
    Calls Try.prog 118 #[.slice A x.length c, .int .i64 v] w fun e w' => e = .returned (.int .i64 (idxP (fun y => y == v) x)) ∧ w = w' := by
  have HX := hid hx
  clear hx
  go_enter Try.func118, Try.ntmps118
  go_wp2
  go_loop [8] (fun i => ∃ k : Nat, k ≤ x.length ∧ i = .int .i64 k ∧ Hid ((x.take k).any (fun y => y == v) = false)) (fun i => x.length - (intOf i).toNat)
  case atStart => exact ⟨0, Nat.zero_le _, rfl, rfl⟩
  case round =>
    obtain ⟨k, hk, rfl, hh⟩ := hrel
    by_cases hlt : k < x.length
    · have hi : (k : Int) < (x.length : Int) := by omega
      obtain ⟨b, o, y, rfl, hcy, hyk⟩ := HX.out.at_ hlt
      cases hv : (y == v) with
      | true =>
        have he := hid (idxP_at hh hyk (p := fun y => y == v) hv)
        have hv' : (v == y) = true := by rw [beq_iff_eq] at hv ⊢; exact hv.symm
        clear hv
        go_wp2
        go_ret
        exact ⟨ret_int he.out.symm, rfl⟩
      | false =>
        have he := hid (any_snoc hh hyk (p := fun y => y == v) hv)
        have hv' : (v == y) = false := by rw [beq_eq_false_iff_ne] at hv ⊢; exact fun h => hv h.symm
        clear hv
        go_wp2
        exact ⟨⟨k + 1, by omega, by go_num, he⟩, by simp [intOf]; omega⟩
    · have hi : ¬ (k : Int) < (x.length : Int) := by omega
      have he := hh.out
      rw [List.take_of_length_le (by omega)] at he
      have HE := hid (idxP_none he)
      clear he
      go_wp2
      go_ret
      exact ⟨ret_int HE.out.symm, rfl⟩
set_option maxHeartbeats 1000000 in
theorem l00Has_any (A : Option Addr) (c : Nat) (x : List Int) (v : Int) (w : World) (hx : RdL (Value.int .i64) w A x) (hn : x.length ≤ 1048576) :
    Calls Try.prog 89 #[.slice A x.length c, .int .i64 v] w fun e w' => e = .returned (.bool (hasI x v)) ∧ w = w' := by
  have HX := hid hx
  clear hx
  go_enter Try.func89, Try.ntmps89
  go_wp2
  go_loop [5] (fun i => ∃ k : Nat, k ≤ x.length ∧ i = .int .i64 k ∧ Hid ((x.take k).any (fun y => y == v) = false)) (fun i => x.length - (intOf i).toNat)
  case atStart => exact ⟨0, Nat.zero_le _, rfl, rfl⟩
  case round =>
    obtain ⟨k, hk, rfl, hh⟩ := hrel
    by_cases hlt : k < x.length
    · have hi : (k : Int) < (x.length : Int) := by omega
      obtain ⟨b, o, y, rfl, hcy, hyk⟩ := HX.out.at_ hlt
      cases hv : (y == v) with
      | true =>
        have he : Hid (hasI x v = true) := by show List.any _ _ = _; rw [List.any_eq_true]; exact ⟨y, mem_of_at hyk, hv⟩
        go_wp2
        go_ret
        exact ⟨ret_bool he.out.symm, rfl⟩
      | false =>
        have he := hid (any_snoc hh hyk (p := fun y => y == v) hv)
        go_wp2
        exact ⟨⟨k + 1, by omega, by go_num, he⟩, by simp [intOf]; omega⟩
    · have hi : ¬ (k : Int) < (x.length : Int) := by omega
      have he := hh.out
      rw [List.take_of_length_le (by omega)] at he
      have HE : Hid (hasI x v = false) := he
      clear he
      go_wp2
      go_ret
      exact ⟨ret_bool HE.out.symm, rfl⟩
/-- Where the least of the first n lies, the first such place. -/
def lowN (x : List Int) : Nat → Nat
  | 0 => 0
  | n + 1 => if x.getD n 0 < x.getD (lowN x n) 0 then n else lowN x n
set_option maxHeartbeats 1000000 in
theorem l03Lowest_any (A : Option Addr) (c : Nat) (x : List Int) (w : World) (hx : RdL (Value.int .i64) w A x) (hn : x.length ≤ 1048576) (hp : 0 < x.length) :
    Calls Try.prog 117 #[.slice A x.length c] w fun e w' => e = .returned (.int .i64 (lowN x x.length)) ∧ Hid (x[lowN x x.length]? = some (minL x)) ∧ ∃ n, w' = w.drewN n := by
  have HX := hid hx
  have hx0 : Hid (x[0]? = some (minL (x.take (0 + 1)))) := by
    obtain ⟨b, o, y0, _, _, hym0⟩ := hx.at_ hp
    show _ = _
    rw [List.take_add_one, hym0.out]
    simp [minL]
  clear hx
  go_enter Try.func117, Try.ntmps117
  go_wp2
  go_loopw [3, 7] (fun v i wr => ∃ k m n : Nat, k ≤ x.length ∧ i = .int .i64 k ∧ v = .int .i64 m ∧ wr = w.drewN n ∧ m < x.length ∧ Hid (m = lowN x k) ∧ Hid ((k = 0 ∧ m = 0) ∨ (0 < k ∧ x[m]? = some (minL (x.take k))))) (fun v i _ => x.length - (intOf i).toNat)
  case atStart => exact ⟨0, 0, 0, Nat.zero_le _, rfl, rfl, rfl, hp, rfl, .inl ⟨rfl, rfl⟩⟩
  case round =>
    obtain ⟨k, m, n, hk, rfl, rfl, rfl, hm, hmk, hh⟩ := hrel
    by_cases hlt : k < x.length
    · have hi : (k : Int) < (x.length : Int) := by omega
      have hmi : (m : Int) < (x.length : Int) := by omega
      obtain ⟨b, o, y, rfl, hcy, hyk⟩ := HX.out.at_ hlt
      obtain ⟨b', o', z, hA', hcz, hzm⟩ := HX.out.at_ hm
      obtain ⟨rfl, rfl⟩ : b = b' ∧ o = o' := by injection hA' with hA'; injection hA' with h1 h2; exact ⟨h1, h2⟩
      clear hA'
      have hgy : x.getD k 0 = y := by rw [List.getD_eq_getElem?_getD, hyk.out]; rfl
      have hgz : x.getD (lowN x k) 0 = z := by rw [← hmk.out, List.getD_eq_getElem?_getD, hzm.out]; rfl
      have HG := hid (And.intro hgy hgz)
      clear hgy hgz
      by_cases hyz : y < z
      · have hmk2 : Hid (k = lowN x (k + 1)) := by show _ = _; unfold lowN; rw [HG.out.1, HG.out.2, if_pos hyz]
        have he : Hid ((k + 1 = 0 ∧ k = 0) ∨ (0 < k + 1 ∧ x[k]? = some (minL (x.take (k + 1))))) := by
          refine .inr ⟨by omega, ?_⟩
          rcases hh.out with ⟨rfl, rfl⟩ | ⟨h0, h1⟩
          · exact hx0.out
          · have hne : x.take k ≠ [] := by
              intro h
              have h2 : (x.take k).length = k := by simp; omega
              rw [h] at h2; simp at h2; omega
            rw [List.take_add_one, hyk.out, Option.toList_some, minL_snoc y hne]
            rw [hzm.out] at h1
            injection h1 with h1
            rw [← h1, show min z y = y by omega]
        go_wp2
        go_quiet (fail)
        go_wp2
        exact ⟨⟨k + 1, k, _, by omega, by go_num, rfl, rfl, hlt, hmk2, he⟩, by simp [intOf]; omega⟩
      · have hmk2 : Hid (m = lowN x (k + 1)) := by show _ = _; unfold lowN; rw [HG.out.1, HG.out.2, if_neg hyz]; exact hmk.out
        have hdz : decide (y < z) = false := decide_eq_false hyz
        have he : Hid ((k + 1 = 0 ∧ m = 0) ∨ (0 < k + 1 ∧ x[m]? = some (minL (x.take (k + 1))))) := by
          refine .inr ⟨by omega, ?_⟩
          rcases hh.out with ⟨rfl, rfl⟩ | ⟨h0, h1⟩
          · exact hx0.out
          · have hne : x.take k ≠ [] := by
              intro h
              have h2 : (x.take k).length = k := by simp; omega
              rw [h] at h2; simp at h2; omega
            rw [List.take_add_one, hyk.out, Option.toList_some, minL_snoc y hne, h1]
            rw [hzm.out] at h1
            injection h1 with h1
            rw [← h1, show min z y = z by omega]
        go_wp2
        go_quiet (fail)
        go_wp2
        exact ⟨⟨k + 1, m, _, by omega, by go_num, rfl, rfl, hm, hmk2, he⟩, by simp [intOf]; omega⟩
    · have hi : ¬ (k : Int) < (x.length : Int) := by omega
      have he : Hid (x[m]? = some (minL x)) := by
        rcases hh.out with ⟨rfl, rfl⟩ | ⟨h0, h1⟩
        · omega
        · rw [List.take_of_length_le (by omega)] at h1; exact h1
      have hmk2 : Hid (m = lowN x x.length) := by show _ = _; rw [hmk.out]; congr 1; omega
      go_wp2
      go_ret
      rw [← hmk2.out]
      exact ⟨rfl, he, _, rfl⟩
end Go.Proofs.Ytbodfepfapjikaa
