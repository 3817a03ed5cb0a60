/-
  HashOf, HomeOf, SwapPlace, BackPlace: by contracts.
-/
import Derived.Test.YtbodfepfapjikaaHomesP
import Derived.Test.YtbodfepfapjikaaHash
import Derived.Test.YtbodfepfapjikaaKeys
import Derived.Deep.QuietTactic
namespace Go.Proofs.Ytbodfepfapjikaa
open Go.RowKit
set_option linter.unusedVariables false
set_option linter.unusedSimpArgs false

theorem HashOf_any (k s : Nat) (w : World) (hk : k < 4294967296) (hs : s < 4294967296) :
    Calls Try.prog 46 #[.int .i64 k, .int .i64 s] w fun e w' => e = .returned (.tuple #[.int .i64 (hashN k s), .bool true]) ∧ w = w' := by
  have h1 : inB (k : Int) 0 4294967295 = true := inB_iff.2 (by omega)
  have h2 : inB (s : Int) 0 4294967295 = true := inB_iff.2 (by omega)
  go_enter Try.func46, Try.ntmps46
  go_wp2_with (first | (go_at_call 72; refine (IsKey_any _ _).mono ?_; rintro e w' ⟨rfl, rfl⟩) | (go_at_call 99; refine (ihash_any k s _ hk hs).mono ?_; rintro e w' ⟨rfl, rfl⟩))
  go_ret2
  exact ⟨rfl, rfl⟩
theorem getD_map {xs : List Int} {k : Nat} {y : Int} (f : Int → Nat) (h : xs[k]? = some y) : (xs.map f).getD k 0 = f y := by
  simp [List.getD, h]
/-- The hashes of a key at some nodes. -/
def nodeH (key : Nat) (xs : List Int) : List Nat := xs.map fun y => hashN key y.toNat
theorem nodeH_getD {key : Nat} {xs : List Int} {k : Nat} {y : Nat} (h : xs[k]? = some (y : Int)) : (nodeH key xs).getD k 0 = hashN key y := by
  unfold nodeH
  rw [getD_map (fun y => hashN key y.toNat) h]
  simp only [Int.toNat_natCast]
set_option maxHeartbeats 1600000 in
theorem HomeOf_any (key : Nat) (A : Option Addr) (c : Nat) (xs : List Int) (w : World) (hk : key < 4294967296) (hx : RdL (Value.int .i64) w A xs) (h0 : 1 ≤ xs.length) (h1 : xs.length ≤ 64) (hb : ∀ y ∈ xs, 0 ≤ y ∧ y ≤ 4294967295) :
    Calls Try.prog 45 #[.int .i64 key, .slice A xs.length c] w fun e w' => e = .returned (.tuple #[.int .i64 (bestK (nodeH key xs) xs.length), .bool true]) ∧ ∃ n, w' = w.drewN n := by
  have hk1 : inB (key : Int) 0 4294967295 = true := inB_iff.2 (by omega)
  have hall : allB xs 0 4294967295 = true := by
    unfold allB
    rw [List.all_eq_true]
    intro y hy
    exact inB_iff.2 (hb y hy)
  have CA : Hid (∀ w', RdL (Value.int .i64) w' A xs → Calls Try.prog 68 #[.slice A xs.length c] w' fun e w'' => e = .returned (.bool true) ∧ w' = w'') := fun w' h => by
    have := areAllKeys_any A c xs w' h (by omega)
    rw [hall] at this
    exact this
  have HX := hid hx
  have HB := hid hb
  have g1 : ¬ (xs.length : Int) < 1 := by omega
  have g2 : ¬ (xs.length : Int) > 64 := by omega
  have g3 : ¬ (64 : Int) < (xs.length : Int) := by omega
  clear hx hb hall
  go_enter Try.func45, Try.ntmps45
  go_wp2_with (first | (go_at_call 72; refine (IsKey_any _ _).mono ?_; rintro e w' ⟨rfl, rfl⟩) | (go_at_call 68; refine (CA.out _ HX.out).mono ?_; rintro e w' ⟨rfl, rfl⟩))
  go_loopw [6, 29] (fun b i wr => ∃ k n : Nat, k ≤ xs.length ∧ i = .int .i64 k ∧ b = .int .i64 (bestK (nodeH key xs) k) ∧ Hid (wr = w.drewN n)) (fun _ i _ => xs.length - (intOf i).toNat)
  case atStart => exact ⟨0, 0, Nat.zero_le _, rfl, rfl, rfl⟩
  case round =>
    obtain ⟨k, n, hk2, rfl, rfl, hwr⟩ := hrel
    have HXr : Hid (RdL (Value.int .i64) wr A xs) := by show RdL _ _ _ _; rw [hwr.out]; exact HX.out.drewN n
    by_cases hlt : k < xs.length
    · have hi : (k : Int) < (xs.length : Int) := by omega
      obtain ⟨m, hm⟩ : ∃ m, m = bestK (nodeH key xs) k := ⟨_, rfl⟩
      have hml : m < xs.length := by
        rcases Nat.eq_zero_or_pos k with rfl | hp
        · rw [hm]; show 0 < _; omega
        · have := bestK_lt (nodeH key xs) k hp; omega
      have hmi : (m : Int) < (xs.length : Int) := by omega
      obtain ⟨b, o, x, rfl, hc, hxk⟩ := HXr.out.at_ hlt
      obtain ⟨b', o', y, hA, hc', hyk⟩ := HXr.out.at_ hml
      injection hA with hA; injection hA with e1 e2
      subst e1; subst e2
      obtain ⟨hx0, hx1⟩ := HB.out x (List.mem_of_getElem? hxk.out)
      obtain ⟨hy0, hy1⟩ := HB.out y (List.mem_of_getElem? hyk.out)
      obtain ⟨x, rfl⟩ := Int.eq_ofNat_of_zero_le hx0
      obtain ⟨y, rfl⟩ := Int.eq_ofNat_of_zero_le hy0
      have ex := nodeH_getD (key := key) hxk.out
      have ey := nodeH_getD (key := key) hyk.out
      have hbk : bestK (nodeH key xs) (k + 1) = if hashN key y < hashN key x then k else m := by
        show (if (nodeH key xs).getD (bestK (nodeH key xs) k) 0 < (nodeH key xs).getD k 0 then k else bestK (nodeH key xs) k) = _
        rw [← hm, ex, ey]
      obtain ⟨p, hp⟩ : ∃ p, p = hashN key x := ⟨_, rfl⟩
      obtain ⟨q, hq⟩ : ∃ q, q = hashN key y := ⟨_, rfl⟩
      rw [← hp, ← hq] at hbk
      have C1 : Hid (∀ w, Calls Try.prog 99 #[.int .i64 key, .int .i64 x] w fun e w' => e = .returned (.int .i64 p) ∧ w' = w) := fun w => by rw [hp]; exact (ihash_any key x w hk (by omega)).mono fun _ _ ⟨h, h'⟩ => ⟨h, h'.symm⟩
      have C2 : Hid (∀ w, Calls Try.prog 99 #[.int .i64 key, .int .i64 y] w fun e w' => e = .returned (.int .i64 q) ∧ w' = w) := fun w => by rw [hq]; exact (ihash_any key y w hk (by omega)).mono fun _ _ ⟨h, h'⟩ => ⟨h, h'.symm⟩
      rw [← hm]
      by_cases hlt2 : q < p
      · rw [if_pos hlt2] at hbk
        have HK := hid hbk
        have hpq : (q : Int) < (p : Int) := by omega
        clear hbk hm hp hq ex ey hxk hyk hlt2
        go_wp2
        go_quiet ((go_at_call 99; first | (with_reducible exact Calls.quiet_of_same (C1.out _)) | (with_reducible exact Calls.quiet_of_same (C2.out _))))
        go_wp2
        exact ⟨⟨k + 1, _, by omega, by go_num, by rw [HK.out], by show _ = _; rw [hwr.out]; exact World.drewN_drewN _ _ _⟩, by simp [intOf]; omega⟩
      · rw [if_neg hlt2] at hbk
        have HK := hid hbk
        have hpq : ¬ (q : Int) < (p : Int) := by omega
        have hd : decide ((q : Int) < (p : Int)) = false := decide_eq_false hpq
        clear hbk hm hp hq ex ey hxk hyk hlt2
        go_wp2
        go_quiet ((go_at_call 99; first | (with_reducible exact Calls.quiet_of_same (C1.out _)) | (with_reducible exact Calls.quiet_of_same (C2.out _))))
        go_wp2
        exact ⟨⟨k + 1, _, by omega, by go_num, by rw [HK.out], by show _ = _; rw [hwr.out]; exact World.drewN_drewN _ _ _⟩, by simp [intOf]; omega⟩
    · have hi : ¬ (k : Int) < (xs.length : Int) := by omega
      obtain rfl : k = xs.length := by omega
      go_wp2
      go_ret2
      exact ⟨rfl, _, hwr.out⟩
end Go.Proofs.Ytbodfepfapjikaa
