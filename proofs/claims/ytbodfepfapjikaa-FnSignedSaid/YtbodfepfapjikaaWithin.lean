/-
  All elements of a list lie between two numbers: the program's areWithin, areAllKeys and the reference's loops, by contracts.
-/
import Derived.Test.YtbodfepfapjikaaSlices
import Derived.Test.YtbodfepfapjikaaNum
import Derived.Test.YtbodfepfapjikaaOpen
namespace Go.Proofs.Ytbodfepfapjikaa
open Go.RowKit
set_option linter.unusedVariables false

/-- All elements lie from lo to hi. -/
def allB (xs : List Int) (lo hi : Int) : Bool := xs.all fun x => inB x lo hi
theorem allB_not_any {xs : List Int} {lo hi : Int} : (!xs.any fun x => !inB x lo hi) = allB xs lo hi := by
  unfold allB
  rw [List.all_eq_not_any_not]
theorem allB_no {xs : List Int} {k : Nat} {x lo hi : Int} (hx : Hid (xs[k]? = some x)) (h : inB x lo hi = false) : allB xs lo hi = false := by
  unfold allB
  rw [List.all_eq_false]
  exact ⟨x, List.mem_of_getElem? hx.out, by simp [h]⟩
theorem allB_snoc {xs : List Int} {k : Nat} {x lo hi : Int} (h0 : Hid (allB (xs.take k) lo hi = true)) (hx : Hid (xs[k]? = some x)) (h : inB x lo hi = true) : allB (xs.take (k + 1)) lo hi = true := by
  have := h0.out
  unfold allB at this ⊢
  rw [List.take_add_one, hx.out]
  simp only [Option.toList_some, List.all_append, this, List.all_cons, h, List.all_nil, Bool.and_self]

theorem areWithin1_any (x lo hi : Int) (b b' : Nat) (w : World) (h0 : w.cell? ⟨b, 0, none⟩ = some (.int .i64 lo)) (h1 : w.cell? ⟨b', 0, none⟩ = some (.int .i64 hi)) :
    Calls Try.prog 148 #[.int .i64 x, .pointer (some ⟨b, 0, none⟩), .pointer (some ⟨b', 0, none⟩)] w fun e w' => e = .returned (.bool (!inB x lo hi)) ∧ w = w' := by
  go_enter Try.func148, Try.ntmps148
  go_wp2_with (go_at_call 67; refine (within_any _ _ _ _).mono ?_; rintro e w' ⟨rfl, rfl⟩)
  go_ret
  exact ⟨rfl, rfl⟩
set_option maxHeartbeats 400000 in
theorem areWithin_any (A : Option Addr) (c : Nat) (xs : List Int) (lo hi : Int) (w : World) (hx : RdL (Value.int .i64) w A xs) (hn : xs.length ≤ 1048576) :
    Calls Try.prog 120 #[.slice A xs.length c, .int .i64 lo, .int .i64 hi] w fun e w' => e = .returned (.bool (allB xs lo hi)) ∧ Below w.heap.size w w' := by
  have hmf : ∀ (fn : Fn) (first cap : Array Value) (w : World), (Instr.makeFunc fn first cap).run Try.prog w = .ok (.func fn first cap) w := fun _ _ _ _ => rfl
  have HX := hid hx
  clear hx
  go_enter Try.func120, Try.ntmps120
  go_wp2_with fail
  refine (ContainsFuncW_any A c xs _ _ (fun x => !inB x lo hi) _ (HX.out.below (below_a2 _ _ _)) hn (fun x _ => areWithin1_any x lo hi _ _ _ ?_ ?_)).mono ?_
  · simp
  · simp
  rintro e w' ⟨rfl, rfl⟩
  go_wp2
  go_ret
  exact ⟨ret_bool allB_not_any, below_a2 _ _ _⟩
theorem areAllKeys1_any (x : Int) (w : World) :
    Calls Try.prog 115 #[.int .i64 x] w fun e w' => e = .returned (.bool (!inB x 0 4294967295)) ∧ w = w' := by
  go_enter Try.func115, Try.ntmps115
  go_wp2_with (go_at_call 72; refine (IsKey_any _ _).mono ?_; rintro e w' ⟨rfl, rfl⟩)
  go_ret
  exact ⟨rfl, rfl⟩
theorem areAllKeys_any (A : Option Addr) (c : Nat) (xs : List Int) (w : World) (hx : RdL (Value.int .i64) w A xs) (hn : xs.length ≤ 1048576) :
    Calls Try.prog 68 #[.slice A xs.length c] w fun e w' => e = .returned (.bool (allB xs 0 4294967295)) ∧ w = w' := by
  have hmf : ∀ (fn : Fn) (first cap : Array Value) (w : World), (Instr.makeFunc fn first cap).run Try.prog w = .ok (.func fn first cap) w := fun _ _ _ _ => rfl
  have HX := hid hx
  clear hx
  go_enter Try.func68, Try.ntmps68
  go_wp2_with fail
  refine (ContainsFuncK_any A c xs (fun x => !inB x 0 4294967295) _ HX.out hn (fun x _ => areAllKeys1_any x _)).mono ?_
  rintro e w' ⟨rfl, rfl⟩
  go_wp2
  go_ret
  exact ⟨ret_bool allB_not_any, rfl⟩
end Go.Proofs.Ytbodfepfapjikaa
