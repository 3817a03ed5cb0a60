/-
  RingHome at three points: by contracts.
-/
import Derived.Test.YtbodfepfapjikaaHomesC
import Derived.Test.YtbodfepfapjikaaCmp
namespace Go.Proofs.Ytbodfepfapjikaa
open Go.RowKit
set_option linter.unusedVariables false
set_option linter.unusedSimpArgs false

theorem Less_no (a b : Int) (w : World) (h : ¬ a < b) : Calls Try.prog 137 #[.int .i64 a, .int .i64 b] w fun e w' => e = .returned (.bool false) ∧ w = w' := by
  have hd : decide (a < b) = false := decide_eq_false h
  go_enter Try.func137, Try.ntmps137
  go_wp2_with (go_at_call 132; refine (isNaN_any _ _).mono ?_; rintro e w' ⟨rfl, rfl⟩)
  go_ret
  exact ⟨rfl, rfl⟩
set_option maxHeartbeats 800000 in
theorem IsSorted_yes (A : Option Addr) (c : Nat) (xs : List Int) (w : World) (hx : RdL (Value.int .i64) w A xs) (hn : xs.length ≤ 1048576) (hs : ∀ i x y, xs[i]? = some x → xs[i + 1]? = some y → x ≤ y) :
    Calls Try.prog 101 #[.slice A xs.length c] w fun e w' => e = .returned (.bool true) ∧ ∃ n, w' = w.drewN n := by
  have HX := hid hx
  have HS := hid hs
  clear hx hs
  have CL : Hid (∀ (a b : Int) w, ¬ a < b → Calls Try.prog 137 #[.int .i64 a, .int .i64 b] w fun e w' => e = .returned (.bool false) ∧ w' = w) := fun a b w h => (Less_no a b w h).mono fun _ _ ⟨h, h'⟩ => ⟨h, h'.symm⟩
  go_enter Try.func101, Try.ntmps101
  go_wp2
  go_loopw [3] (fun i wr => ∃ k : Nat, k ≤ xs.length ∧ i = .int .i64 ((k : Int) - 1) ∧ Hid (∃ n, wr = w.drewN n)) (fun i _ => (intOf i + 1).toNat)
  case atStart => exact ⟨xs.length, Nat.le_refl _, by first | rfl | go_num, ⟨0, rfl⟩⟩
  case round =>
    obtain ⟨k, hk, rfl, hwr⟩ := hrel
    by_cases hlt : 1 < k
    · obtain ⟨k, rfl⟩ : ∃ j, k = j + 2 := ⟨k - 2, by omega⟩
      have e1 : ((k + 2 : Nat) : Int) - 1 = ((k + 1 : Nat) : Int) := by omega
      rw [e1]
      have E1 := hid e1
      clear e1
      have hp : (0 : Int) < ((k + 1 : Nat) : Int) := by omega
      have HXr : Hid (RdL (Value.int .i64) wr A xs) := by
        obtain ⟨n, hn⟩ := hwr.out
        show RdL _ _ _ _
        rw [hn]; exact HX.out.drewN n
      obtain ⟨b, o, x, rfl, hc, hxk⟩ := HXr.out.at_ (k := k + 1) (by omega)
      obtain ⟨b', o', y, hA, hc', hyk⟩ := HXr.out.at_ (k := k) (by omega)
      injection hA with hA; injection hA with e1 e2
      subst e1; subst e2
      have hxy := HS.out k y x hyk.out hxk.out
      have C := hid (fun w => CL.out x y w (by omega))
      have hi1 : ((k + 1 : Nat) : Int) < (xs.length : Int) := by omega
      have hi2 : ((k + 1 : Nat) : Int) - 1 < (xs.length : Int) := by omega
      have v1 : IntKind.i64.wrap (((k + 1 : Nat) : Int) - 1) = ((k + 1 : Nat) : Int) - 1 := by rw [IntKind.wrap_i64]; omega
      have v2 : 0 ≤ ((k + 1 : Nat) : Int) - 1 := by omega
      have v3 : (((k + 1 : Nat) : Int) - 1).toNat = k := by omega
      clear hxy hxk hyk CL HS
      go_wp2
      go_quiet ((go_at_call 137; exact Calls.quiet_of_same (C.out _)))
      go_wp2
      have hw2 : Hid (∃ n, wr.drewN nq = w.drewN n) := by
        obtain ⟨q2, hq2⟩ := hwr.out
        exact ⟨_, by rw [hq2]; exact World.drewN_drewN _ _ _⟩
      exact ⟨⟨k + 1, by omega, val_i (by omega), hw2⟩, by simp [intOf]; omega⟩
    · have hp : ¬ (0 : Int) < (k : Int) - 1 := by omega
      go_wp2
      go_ret
      exact ⟨rfl, hwr.out⟩
theorem ring1_any (x h : Int) (b : Nat) (w : World) (h0 : w.cell? ⟨b, 0, none⟩ = some (.int .i64 h)) :
    Calls Try.prog 103 #[.int .i64 x, .pointer (some ⟨b, 0, none⟩)] w fun e w' => e = .returned (.bool (decide (h ≤ x))) ∧ w = w' := by
  go_enter Try.func103, Try.ntmps103
  go_wp2
  go_ret
  exact ⟨rfl, rfl⟩
set_option maxHeartbeats 400000 in
theorem IndexFuncR_any (A : Option Addr) (c : Nat) (xs : List Int) (v0 : Value) (p : Int → Bool) (w : World) (hx : RdL (Value.int .i64) w A xs) (hn : xs.length ≤ 1048576)
    (hcall : ∀ x ∈ xs, Calls Try.prog 103 #[.int .i64 x, v0] w fun e w' => e = .returned (.bool (p x)) ∧ w = w') :
    Calls Try.prog 102 #[.slice A xs.length c, .func (.func 103) #[] #[v0]] w fun e w' => e = .returned (.int .i64 (idxP p xs)) ∧ w = w' := by
  have HX := hid hx
  have HC := hid hcall
  clear hx hcall
  go_enter Try.func102, Try.ntmps102
  go_wp2
  go_loop [8] (fun i => ∃ k : Nat, k ≤ xs.length ∧ i = .int .i64 k ∧ Hid ((xs.take k).any p = false)) (fun i => xs.length - (intOf i).toNat)
  case atStart => exact ⟨0, Nat.zero_le _, rfl, by show (xs.take 0).any p = false; simp⟩
  case round =>
    obtain ⟨k, hk, rfl, hh⟩ := hrel
    by_cases hlt : k < xs.length
    · have hi : (k : Int) < (xs.length : Int) := by omega
      obtain ⟨b, o, x, rfl, hc, hxk⟩ := HX.out.at_ hlt
      go_wp2_with fail
      refine (HC.out x (mem_of_at hxk)).mono ?_
      rintro e w' ⟨rfl, rfl⟩
      cases hp : p x with
      | true =>
        have he := hid (idxP_at hh hxk hp)
        clear hp
        go_wp2
        go_ret
        exact ⟨ret_int he.out.symm, rfl⟩
      | false =>
        have he := hid (any_snoc hh hxk hp)
        clear hp
        go_wp2
        exact ⟨⟨k + 1, by omega, by go_num, he⟩, by simp [intOf]; omega⟩
    · have hi : ¬ (k : Int) < (xs.length : Int) := by omega
      go_wp2
      go_ret
      have he := hh.out
      rw [List.take_of_length_le (by omega)] at he
      exact ⟨ret_int (idxP_none he).symm, rfl⟩
/-- The three points; the first of them that is at least h. -/
def ringP : List Int := [1000000000, 2000000000, 3000000000]
def ringV (h : Int) : Int := if h ≤ 1000000000 then 0 else if h ≤ 2000000000 then 1 else if h ≤ 3000000000 then 2 else 0
theorem ringV_idx (h : Int) : max 0 (idxP (fun x => decide (h ≤ x)) ringP) = ringV h := by
  unfold ringV ringP
  by_cases h1 : h ≤ 1000000000
  · simp [idxP, h1, List.findIdx?, List.findIdx?.go] <;> decide
  · by_cases h2 : h ≤ 2000000000
    · simp [idxP, h1, h2, List.findIdx?, List.findIdx?.go] <;> decide
    · by_cases h3 : h ≤ 3000000000
      · simp [idxP, h1, h2, h3, List.findIdx?, List.findIdx?.go] <;> decide
      · simp [idxP, h1, h2, h3, List.findIdx?, List.findIdx?.go] <;> decide
theorem ringP_asc : ∀ i x y, ringP[i]? = some x → ringP[i + 1]? = some y → x ≤ y := by
  intro i x y h1 h2
  rcases i with _ | _ | _ | i
  all_goals (simp [ringP] at h1 h2)
  all_goals omega
theorem RingHome_any (k s : Nat) (A : Option Addr) (c : Nat) (w : World) (hk : k < 4294967296) (hs : s < 4294967296) (hx : RdL (Value.int .i64) w A ringP) :
    Calls Try.prog 48 #[.int .i64 k, .int .i64 s, .slice A 3 c] w fun e w' => e = .returned (.tuple #[.int .i64 (ringV (hashN k s)), .bool true]) ∧ Below w.heap.size w w' := by
  have hmf : ∀ (fn : Fn) (first cap : Array Value) (w : World), (Instr.makeFunc fn first cap).run Try.prog w = .ok (.func fn first cap) w := fun _ _ _ _ => rfl
  have e1 : inB (k : Int) 0 4294967295 = true := inB_iff.2 (by omega)
  have e2 : inB (s : Int) 0 4294967295 = true := inB_iff.2 (by omega)
  have HX := hid hx
  clear hx
  have CK : Hid (∀ w, RdL (Value.int .i64) w A ringP → Calls Try.prog 62 #[.slice A 3 c] w fun e w' => e = .returned (.bool true) ∧ w = w') := fun w h => AreKeys_q A c ringP w h (by decide)
  have CS : Hid (∀ w, RdL (Value.int .i64) w A ringP → Calls Try.prog 101 #[.slice A 3 c] w fun e w' => e = .returned (.bool true) ∧ ∃ n, w' = w.drewN n) := fun w h => IsSorted_yes A c ringP w h (by decide) ringP_asc
  have CI : Hid (∀ (v0 : Value) (w : World) (h : Int), RdL (Value.int .i64) w A ringP → (∀ x ∈ ringP, Calls Try.prog 103 #[.int .i64 x, v0] w fun e w' => e = .returned (.bool (decide (h ≤ x))) ∧ w = w') → Calls Try.prog 102 #[.slice A 3 c, .func (.func 103) #[] #[v0]] w fun e w' => e = .returned (.int .i64 (idxP (fun x => decide (h ≤ x)) ringP)) ∧ w = w') := fun v0 w h h1 h2 => IndexFuncR_any A c ringP v0 _ w h1 (by decide) h2
  go_enter Try.func48, Try.ntmps48
  go_wp2_with (first | (go_at_call 72; refine (IsKey_any _ _).mono ?_; rintro e w' ⟨rfl, rfl⟩) | (go_at_call 62; refine (CK.out _ HX.out).mono ?_; rintro e w' ⟨rfl, rfl⟩) | (go_at_call 101; refine (CS.out _ HX.out).mono ?_; rintro e w1 ⟨rfl, hw1⟩; have HW := hid hw1; clear hw1) | (go_at_call 99; refine (ihash_any k s _ hk hs).mono ?_; rintro e w' ⟨rfl, rfl⟩))
  have hsz : w1.heap.size = w.heap.size := by obtain ⟨n, hn⟩ := HW.out; rw [hn]; simp
  have HB : Hid (Below w.heap.size w w1) := by obtain ⟨n, hn⟩ := HW.out; show Below _ _ _; rw [hn]; exact ⟨rfl, rfl, rfl, Nat.le_refl _, fun _ _ => rfl⟩
  have HX1 := hid (HX.out.below HB.out)
  refine (CI.out _ _ (hashN k s : Int) (by first | exact HX1.out.below ((Below.refl _ _).alloc (Nat.le_refl _) _) | exact (HX1.out.below ((Below.refl _ _).alloc (Nat.le_refl _) _)).below ((Below.refl _ _).setCell (by simp) _)) (fun x _ => ring1_any x _ _ _ (by simp))).mono ?_
  rintro e w' ⟨rfl, rfl⟩
  have hv := ringV_idx (hashN k s : Int)
  have HV := hid hv
  clear hv
  go_wp2
  all_goals
    go_ret2
    exact ⟨ret_ib (by have := HV.out; omega), HB.out.alloc (by omega) _⟩
end Go.Proofs.Ytbodfepfapjikaa
