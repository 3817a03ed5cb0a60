/-
  ValidCells of the program, by a contract that says how the world has grown.
-/
import Derived.Test.YtmafkkpdcajfoaaCells
import Derived.Shelf.SlSortCmp.QuietGrown
import Derived.Shelf.SlicesQ.Load
namespace Go.Proofs.Ytmafkkpdcajfoaa
open Go.RowKit
set_option linter.unusedVariables false

theorem grow_a1 (w : World) (o : Obj) : ∃ os, w.alloc o = Sort.grow w os := ⟨#[o], Sort.alloc_eq_grow w o⟩
theorem grow_a2 (w : World) (o o' : Obj) : ∃ os, (w.alloc o).alloc o' = Sort.grow w os := ⟨#[o] ++ #[o'], by rw [Sort.alloc_eq_grow, Sort.alloc_eq_grow, Sort.grow_grow]⟩
theorem grow_more {w w' w'' : World} {os : Array Obj} (h : ∃ os, w' = Sort.grow w os) (h2 : w'' = Sort.grow w' os) : ∃ os, w'' = Sort.grow w os := by
  obtain ⟨os1, h1⟩ := h
  exact ⟨os1 ++ os, by rw [h2, h1, Sort.grow_grow]⟩
theorem below_grow (w : World) (n : Nat) (os : Array Obj) : Below w.heap.size w (Sort.grow (w.drewN n) os) := by
  refine ⟨rfl, rfl, rfl, ?_, fun k hk => ?_⟩
  · show w.heap.size ≤ (w.heap ++ os).size
    simp
  · show (w.heap ++ os)[k]? = w.heap[k]?
    rw [Array.getElem?_append_left hk]
theorem load4 (P : Program) (W : World) (g : Nat) (v0 v1 v2 v3 : Value) (h0 : W.cell? ⟨g, 0, none⟩ = some v0) (h1 : W.cell? ⟨g, 1, none⟩ = some v1) (h2 : W.cell? ⟨g, 2, none⟩ = some v2) (h3 : W.cell? ⟨g, 3, none⟩ = some v3) :
    Sem.run P (loadCellsFrom ⟨g, 0, none⟩ 0 4 #[]) W = .ok #[v0, v1, v2, v3] W := by
  refine run_loadCellsFrom_list P W _ [v0, v1, v2, v3] 4 rfl ?_
  intro j v hj
  have hadd : (⟨g, 0, none⟩ : Addr).add j = ⟨g, j, none⟩ := by unfold Addr.add; split <;> simp_all
  rw [hadd]
  match j, hj with
  | 0, hj => simp at hj; subst hj; exact h0
  | 1, hj => simp at hj; subst hj; exact h1
  | 2, hj => simp at hj; subst hj; exact h2
  | 3, hj => simp at hj; subst hj; exact h3
  | n + 4, hj => simp at hj
theorem areWithin_gr (A : Option Addr) (c : Nat) (xs : List Int) (lo hi : Int) (w : World) (hx : RdL (Value.int .i64) w A xs) (hn : xs.length ≤ 1048576) :
    Calls Try.prog 58 #[.slice A xs.length c, .int .i64 lo, .int .i64 hi] w fun e w' => e = .returned (.bool (allB xs lo hi)) ∧ ∃ os, w' = Sort.grow w os := by
  have hmf : ∀ (fn : Fn) (first cap : Array Value) (w : World), (Instr.makeFunc fn first cap).run Try.prog w = .ok (.func fn first cap) w := fun _ _ _ _ => rfl
  have HX := hid hx
  clear hx
  go_enter Try.func58, Try.ntmps58
  go_wp2_with fail
  refine (ContainsFuncW_any A c xs _ _ (fun x => !inB x lo hi) _ (HX.out.below (below_a2 _ _ _)) hn (fun x _ => areWithin1_any x lo hi _ _ _ ?_ ?_)).mono ?_
  · simp
  · simp
  rintro e w' ⟨rfl, rfl⟩
  go_wp2
  go_ret
  exact ⟨ret_bool allB_not_any, grow_a2 _ _ _⟩
theorem iValidCells_gr (a0 a1 a2 : Int) (A : Option Addr) (c : Nat) (x : List Int) (w : World) (h0 : W64 a0) (h1 : W64 a1) (h2 : W64 a2) (hx : RdL (Value.int .i64) w A x) (hn : x.length ≤ 1048576) (we : ∀ y ∈ x, W64 y) :
    Calls Try.prog 44 #[.agg #[.int .i64 a0, .int .i64 a1, .int .i64 a2, .slice A x.length c]] w fun e w' => e = .returned (.bool (vCells a0 a1 a2 x)) ∧ ∃ os, w' = Sort.grow w os := by
  have HX := hid hx
  clear hx we h0 h1 h2
  cases e0 : inB a0 2 64 with
  | false =>
    have hv := hid (show vCells a0 a1 a2 x = false by simp [vCells, e0])
    go_enter Try.func44, Try.ntmps44
    go_wp2_with (first | (go_at_call 27; refine (within_any _ _ _ _).mono ?_; rintro e w' ⟨rfl, rfl⟩) | (go_at_call 23; refine (IsKey_any _ _).mono ?_; rintro e w' ⟨rfl, rfl⟩))
    go_ret
    exact ⟨ret_bool hv.out.symm, grow_a1 _ _⟩
  | true =>
  cases e1 : inB a1 1 6 with
  | false =>
    have hv := hid (show vCells a0 a1 a2 x = false by simp [vCells, e1])
    go_enter Try.func44, Try.ntmps44
    go_wp2_with (first | (go_at_call 27; refine (within_any _ _ _ _).mono ?_; rintro e w' ⟨rfl, rfl⟩) | (go_at_call 23; refine (IsKey_any _ _).mono ?_; rintro e w' ⟨rfl, rfl⟩))
    go_ret
    exact ⟨ret_bool hv.out.symm, grow_a1 _ _⟩
  | true =>
  cases e2 : inB a2 0 4294967295 with
  | false =>
    have hv := hid (show vCells a0 a1 a2 x = false by simp [vCells, e2])
    go_enter Try.func44, Try.ntmps44
    go_wp2_with (first | (go_at_call 27; refine (within_any _ _ _ _).mono ?_; rintro e w' ⟨rfl, rfl⟩) | (go_at_call 23; refine (IsKey_any _ _).mono ?_; rintro e w' ⟨rfl, rfl⟩))
    go_ret
    exact ⟨ret_bool hv.out.symm, grow_a1 _ _⟩
  | true =>
  obtain ⟨hm0, hm1⟩ := mul_sides e0 e1
  by_cases e3 : (x.length : Int) = a0 * a1
  · have t3 : ((x.length : Int) == a0 * a1) = true := by simp [e3]
    have hv := hid (show vCells a0 a1 a2 x = allB x (-1000000000000) 1000000000000 by simp [vCells, *])
    clear e3
    go_enter Try.func44, Try.ntmps44
    go_wp2_with (first | (go_at_call 27; refine (within_any _ _ _ _).mono ?_; rintro e w' ⟨rfl, rfl⟩) | (go_at_call 23; refine (IsKey_any _ _).mono ?_; rintro e w' ⟨rfl, rfl⟩) | (go_at_call 58; refine (areWithin_gr A c x _ _ _ (HX.out.below (below_a1 _ _)) hn).mono ?_; rintro e w1 ⟨rfl, os1, hb⟩))
    go_ret
    exact ⟨ret_bool hv.out.symm, grow_more (grow_a1 _ _) (by first | rfl | exact hb)⟩
  · have t3 : ((x.length : Int) == a0 * a1) = false := by simp [e3]
    have hv := hid (show vCells a0 a1 a2 x = false by simp [vCells, e3])
    go_enter Try.func44, Try.ntmps44
    go_wp2_with (first | (go_at_call 27; refine (within_any _ _ _ _).mono ?_; rintro e w' ⟨rfl, rfl⟩) | (go_at_call 23; refine (IsKey_any _ _).mono ?_; rintro e w' ⟨rfl, rfl⟩))
    go_ret
    exact ⟨ret_bool hv.out.symm, grow_a1 _ _⟩
end Go.Proofs.Ytmafkkpdcajfoaa
