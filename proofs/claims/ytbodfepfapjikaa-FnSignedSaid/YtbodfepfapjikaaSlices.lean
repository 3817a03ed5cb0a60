/-
  Go's own slices package, as far as the program calls it: Equal, IndexFunc, ContainsFunc, by contracts.
-/
import Derived.Test.YtbodfepfapjikaaHelp
namespace Go.Proofs.Ytbodfepfapjikaa
open Go.RowKit
set_option linter.unusedVariables false

set_option maxHeartbeats 400000 in
theorem slEqInt64S_any (A A' : Option Addr) (c c' : Nat) (xs ys : List Int) (w : World) (hx : RdL (Value.int .i64) w A xs) (hy : RdL (Value.int .i64) w A' ys)
    (hn : xs.length ≤ 1048576) :
    Calls Try.prog 109 #[.slice A xs.length c, .slice A' ys.length c'] w fun e w' => e = .returned (.bool (decide (xs = ys))) ∧ ∃ n, w' = w.drewN n := by
  have HX := hid hx
  have HY := hid hy
  clear hx hy
  by_cases hl : xs.length = ys.length
  · have hl' : ((xs.length : Int) == (ys.length : Int)) = true := by simp [hl]
    have HL := hid hl
    clear hl
    go_enter Try.func109, Try.ntmps109
    go_wp2
    go_loopw [13] (fun i wr => ∃ k n : Nat, k ≤ xs.length ∧ i = .int .i64 k ∧ wr = w.drewN n ∧ Hid (xs.take k = ys.take k)) (fun i _ => xs.length - (intOf i).toNat)
    case atStart => exact ⟨0, 0, Nat.zero_le _, rfl, rfl, by show xs.take 0 = ys.take 0; simp⟩
    case round =>
      obtain ⟨k, n, hk, rfl, rfl, hh⟩ := hrel
      by_cases hlt : k < xs.length
      · have hlt' : k < ys.length := by have := HL.out; omega
        have hi : (k : Int) < (xs.length : Int) := by omega
        have hi' : (k : Int) < (ys.length : Int) := by omega
        obtain ⟨b, o, x, rfl, hc, hxk⟩ := HX.out.at_ hlt
        obtain ⟨b', o', y, rfl, hc', hyk⟩ := HY.out.at_ hlt'
        by_cases hxy : x = y
        · have ht : (x == y) = true := by simp [hxy]
          have he := take_snoc_eq hh.out hxk hyk hxy
          have HE : Hid (xs.take (k + 1) = ys.take (k + 1)) := he
          clear hxy he
          go_wp2
          go_quiet (fail)
          go_wp2
          exact ⟨⟨k + 1, _, by omega, by go_num, rfl, HE⟩, by simp [intOf]; omega⟩
        · have ht : (x == y) = false := by simp [hxy]
          have he := ne_of_at hxk hyk hxy
          clear hxy
          go_wp2
          go_quiet (fail)
          go_wp2
          go_ret
          exact ⟨by simp [he], _, World.drewN_drewN _ _ _⟩
      · have hi : ¬ (k : Int) < (xs.length : Int) := by omega
        go_wp2
        go_ret
        have := HL.out
        have hh := hh.out
        rw [List.take_of_length_le (by omega), List.take_of_length_le (by omega)] at hh
        exact ⟨by simp [hh], _, rfl⟩
  · have hl' : ((xs.length : Int) == (ys.length : Int)) = false := by simp; omega
    have hne := ne_of_length hl
    clear hl
    go_enter Try.func109, Try.ntmps109
    go_wp2
    go_ret
    exact ⟨by simp [hne], 0, rfl⟩

/-- The first index of an element with p; -1 where there is none. -/
def idxP (p : Int → Bool) (xs : List Int) : Int := match xs.findIdx? p with | some i => i | none => -1
theorem idxP_at {p : Int → Bool} {xs : List Int} {k : Nat} {x : Int} (h : Hid ((xs.take k).any p = false)) (hx : Hid (xs[k]? = some x)) (hp : p x = true) : idxP p xs = k := by
  have hk : k < xs.length := by
    rcases Nat.lt_or_ge k xs.length with h1 | h1
    · exact h1
    · have := hx.out; rw [List.getElem?_eq_none h1] at this; cases this
  have hs : xs = xs.take k ++ x :: xs.drop (k + 1) := by
    have hx' := hx.out
    rw [List.getElem?_eq_getElem hk] at hx'
    injection hx' with hx'
    rw [← hx']
    conv => lhs; rw [← List.take_append_drop k xs, List.drop_eq_getElem_cons hk]
  have h1 : (xs.take k).findIdx? p = none := by
    rw [List.findIdx?_eq_none_iff]
    have := h.out
    simpa using this
  unfold idxP
  rw [hs, List.findIdx?_append, h1, List.findIdx?_cons]
  simp [hp]
  omega
theorem idxP_none {p : Int → Bool} {xs : List Int} (h : xs.any p = false) : idxP p xs = -1 := by
  have h1 : xs.findIdx? p = none := by
    rw [List.findIdx?_eq_none_iff]
    simpa using h
  unfold idxP
  rw [h1]
theorem any_snoc {p : Int → Bool} {xs : List Int} {k : Nat} {x : Int} (h : Hid ((xs.take k).any p = false)) (hx : Hid (xs[k]? = some x)) (hp : p x = false) : (xs.take (k + 1)).any p = false := by
  rw [List.take_add_one, hx.out]
  simp only [Option.toList_some, List.any_append, h.out, List.any_cons, hp, List.any_nil, Bool.or_self]
theorem mem_of_at {xs : List Int} {k : Nat} {x : Int} (hx : Hid (xs[k]? = some x)) : x ∈ xs := List.mem_of_getElem? hx.out
theorem idxP_ge {p : Int → Bool} {xs : List Int} : decide (0 ≤ idxP p xs) = xs.any p := by
  cases h : xs.any p with
  | false => rw [idxP_none h]; rfl
  | true =>
    unfold idxP
    cases h1 : xs.findIdx? p with
    | some i => simp
    | none =>
      rw [List.findIdx?_eq_none_iff] at h1
      obtain ⟨x, hx, hp⟩ := List.any_eq_true.1 h
      rw [h1 x hx] at hp
      cases hp

set_option maxHeartbeats 400000 in
theorem IndexFuncW_any (A : Option Addr) (c : Nat) (xs : List Int) (v0 : Value) (v1 : Value) (p : Int → Bool) (w : World) (hx : RdL (Value.int .i64) w A xs) (hn : xs.length ≤ 1048576)
    (hcall : ∀ x ∈ xs, Calls Try.prog 148 #[.int .i64 x, v0, v1] w fun e w' => e = .returned (.bool (p x)) ∧ w = w') :
    Calls Try.prog 102 #[.slice A xs.length c, .func (.func 148) #[] #[v0, v1]] w fun e w' => e = .returned (.int .i64 (idxP p xs)) ∧ w = w' := by
  have HX := hid hx
  have HC := hid hcall
  clear hx hcall
  go_enter Try.func102, Try.ntmps102
  go_wp2
  go_loop [8] (fun i => ∃ k : Nat, k ≤ xs.length ∧ i = .int .i64 k ∧ Hid ((xs.take k).any p = false)) (fun i => xs.length - (intOf i).toNat)
  case atStart => exact ⟨0, Nat.zero_le _, rfl, by show (xs.take 0).any p = false; simp⟩
  case round =>
    obtain ⟨k, hk, rfl, hh⟩ := hrel
    by_cases hlt : k < xs.length
    · have hi : (k : Int) < (xs.length : Int) := by omega
      obtain ⟨b, o, x, rfl, hc, hxk⟩ := HX.out.at_ hlt
      go_wp2_with fail
      refine (HC.out x (mem_of_at hxk)).mono ?_
      rintro e w' ⟨rfl, rfl⟩
      cases hp : p x with
      | true =>
        have he := hid (idxP_at hh hxk hp)
        clear hp
        go_wp2
        go_ret
        exact ⟨ret_int he.out.symm, rfl⟩
      | false =>
        have he := hid (any_snoc hh hxk hp)
        clear hp
        go_wp2
        exact ⟨⟨k + 1, by omega, by go_num, he⟩, by simp [intOf]; omega⟩
    · have hi : ¬ (k : Int) < (xs.length : Int) := by omega
      go_wp2
      go_ret
      have he := hh.out
      rw [List.take_of_length_le (by omega)] at he
      exact ⟨ret_int (idxP_none he).symm, rfl⟩
theorem ContainsFuncW_any (A : Option Addr) (c : Nat) (xs : List Int) (v0 : Value) (v1 : Value) (p : Int → Bool) (w : World) (hx : RdL (Value.int .i64) w A xs) (hn : xs.length ≤ 1048576)
    (hcall : ∀ x ∈ xs, Calls Try.prog 148 #[.int .i64 x, v0, v1] w fun e w' => e = .returned (.bool (p x)) ∧ w = w') :
    Calls Try.prog 114 #[.slice A xs.length c, .func (.func 148) #[] #[v0, v1]] w fun e w' => e = .returned (.bool (xs.any p)) ∧ w = w' := by
  have HX := hid hx
  have HC := hid hcall
  clear hx hcall
  go_enter Try.func114, Try.ntmps114
  go_wp2_with fail
  refine (IndexFuncW_any A c xs v0 v1 p _ HX.out hn HC.out).mono ?_
  rintro e w' ⟨rfl, rfl⟩
  go_wp2
  go_ret
  exact ⟨ret_bool idxP_ge, rfl⟩
set_option maxHeartbeats 400000 in
theorem IndexFuncK_any (A : Option Addr) (c : Nat) (xs : List Int) (p : Int → Bool) (w : World) (hx : RdL (Value.int .i64) w A xs) (hn : xs.length ≤ 1048576)
    (hcall : ∀ x ∈ xs, Calls Try.prog 115 #[.int .i64 x] w fun e w' => e = .returned (.bool (p x)) ∧ w = w') :
    Calls Try.prog 102 #[.slice A xs.length c, .func (.func 115) #[] #[]] w fun e w' => e = .returned (.int .i64 (idxP p xs)) ∧ w = w' := by
  have HX := hid hx
  have HC := hid hcall
  clear hx hcall
  go_enter Try.func102, Try.ntmps102
  go_wp2
  go_loop [8] (fun i => ∃ k : Nat, k ≤ xs.length ∧ i = .int .i64 k ∧ Hid ((xs.take k).any p = false)) (fun i => xs.length - (intOf i).toNat)
  case atStart => exact ⟨0, Nat.zero_le _, rfl, by show (xs.take 0).any p = false; simp⟩
  case round =>
    obtain ⟨k, hk, rfl, hh⟩ := hrel
    by_cases hlt : k < xs.length
    · have hi : (k : Int) < (xs.length : Int) := by omega
      obtain ⟨b, o, x, rfl, hc, hxk⟩ := HX.out.at_ hlt
      go_wp2_with fail
      refine (HC.out x (mem_of_at hxk)).mono ?_
      rintro e w' ⟨rfl, rfl⟩
      cases hp : p x with
      | true =>
        have he := hid (idxP_at hh hxk hp)
        clear hp
        go_wp2
        go_ret
        exact ⟨ret_int he.out.symm, rfl⟩
      | false =>
        have he := hid (any_snoc hh hxk hp)
        clear hp
        go_wp2
        exact ⟨⟨k + 1, by omega, by go_num, he⟩, by simp [intOf]; omega⟩
    · have hi : ¬ (k : Int) < (xs.length : Int) := by omega
      go_wp2
      go_ret
      have he := hh.out
      rw [List.take_of_length_le (by omega)] at he
      exact ⟨ret_int (idxP_none he).symm, rfl⟩
theorem ContainsFuncK_any (A : Option Addr) (c : Nat) (xs : List Int) (p : Int → Bool) (w : World) (hx : RdL (Value.int .i64) w A xs) (hn : xs.length ≤ 1048576)
    (hcall : ∀ x ∈ xs, Calls Try.prog 115 #[.int .i64 x] w fun e w' => e = .returned (.bool (p x)) ∧ w = w') :
    Calls Try.prog 114 #[.slice A xs.length c, .func (.func 115) #[] #[]] w fun e w' => e = .returned (.bool (xs.any p)) ∧ w = w' := by
  have HX := hid hx
  have HC := hid hcall
  clear hx hcall
  go_enter Try.func114, Try.ntmps114
  go_wp2_with fail
  refine (IndexFuncK_any A c xs  p _ HX.out hn HC.out).mono ?_
  rintro e w' ⟨rfl, rfl⟩
  go_wp2
  go_ret
  exact ⟨ret_bool idxP_ge, rfl⟩
end Go.Proofs.Ytbodfepfapjikaa
