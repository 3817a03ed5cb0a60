/-
  The least product of rows: reference and program, by contracts.
-/
import Derived.Test.YtbodfepfapjikaaMergeCells
import Derived.Test.YtbodfepfapjikaaCellRow
import Derived.Test.YtbodfepfapjikaaCellsAt
import Derived.Test.YtbodfepfapjikaaMinL
namespace Go.Proofs.Ytbodfepfapjikaa
open Go.RowKit
set_option linter.unusedVariables false
set_option linter.unusedSimpArgs false

/-- The products of two rows. -/
def prodL (x y : List Int) (wd i : Nat) : List Int := List.zipWith (fun a b => a * b) (rowL x wd i) (rowL y wd i)
/-- The sums of the products of the first n rows. -/
def dotsL (x y : List Int) (wd n : Nat) : List Int := (List.range n).map fun i => (prodL x y wd i).sum
theorem dotsL_succ (x y : List Int) (wd n : Nat) : dotsL x y wd (n + 1) = dotsL x y wd n ++ [(prodL x y wd n).sum] := by simp [dotsL, List.range_succ]
theorem dotsL_length (x y : List Int) (wd n : Nat) : (dotsL x y wd n).length = n := by simp [dotsL]
theorem prodL_length {x y : List Int} {wd dp i : Nat} (hx : x.length = wd * dp) (hy : y.length = wd * dp) (hi : i < dp) : (prodL x y wd i).length = wd := by
  unfold prodL
  rw [List.length_zipWith, rowL_length hx hi, rowL_length hy hi]; simp
theorem mul_small {a b : Int} (ha : -1000000 ≤ a ∧ a ≤ 1000000) (hb : -1000000 ≤ b ∧ b ≤ 1000000) : -1000000000000 ≤ a * b ∧ a * b ≤ 1000000000000 := by
  have h1 : (a * b).natAbs = a.natAbs * b.natAbs := Int.natAbs_mul a b
  have h2 : a.natAbs * b.natAbs ≤ 1000000 * 1000000 := Nat.mul_le_mul (by omega) (by omega)
  omega
theorem prodL_bound {x y : List Int} {wd i : Nat} (hx : ∀ z ∈ x, -1000000 ≤ z ∧ z ≤ 1000000) (hy : ∀ z ∈ y, -1000000 ≤ z ∧ z ≤ 1000000) : ∀ z ∈ prodL x y wd i, -1000000000000 ≤ z ∧ z ≤ 1000000000000 := fun z hz => by
  unfold prodL at hz
  obtain ⟨j, hj, hz⟩ := List.mem_iff_getElem.1 hz
  rw [List.getElem_zipWith] at hz
  subst hz
  exact mul_small (hx _ (rowL_mem (List.getElem_mem _))) (hy _ (rowL_mem (List.getElem_mem _)))
theorem prodL_at {x y : List Int} {wd i k : Nat} {u v : Int} (hk : k < wd) (hu : Hid (x[i * wd + k]? = some u)) (hv : Hid (y[i * wd + k]? = some v)) : Hid ((prodL x y wd i)[k]? = some (u * v)) := by
  show _ = _
  unfold prodL
  rw [List.getElem?_zipWith, rowL_at hk, rowL_at hk, hu.out, hv.out]
/-- What CellsDot returns. -/
def pCellsDot (a0 a1 a2 : Int) (x : List Int) (b0 b1 b2 : Int) (y : List Int) : Int × Bool :=
  if (alikeC a0 a1 a2 x b0 b1 b2 y && allB x (-1000000) 1000000 && allB y (-1000000) 1000000) = true then (minL (dotsL x y a0.toNat a1.toNat), true) else (0, false)
theorem ownsRow_below {w w' : World} {base : Nat} {e : TypeId} {size : Nat} {v : Value} {n : Nat} {xs : List Value} (h : w.ownsRow base e size v n xs) (hb : Below w.heap.size w w') : w'.ownsRow base e size v n xs := by
  obtain ⟨h1, h2⟩ := h
  refine ⟨h1, h2.imp id ?_⟩
  rintro ⟨g, cap, cur, hv, hB, hg, h3⟩
  exact ⟨g, cap, cur, hv, hB, (hb.block g (Array.getElem?_eq_some_iff.1 hg).1).trans hg, h3⟩
theorem below_undrew {B m : Nat} {w w' : World} (h : Below B (w.drewN m) w') : Below B w w' := ⟨h.os, h.tape, h.output, h.size, h.block⟩
theorem below_drewX {B m : Nat} {w w' : World} (h : Below B w w') : Below B w (w'.drewN m) := ⟨h.os, h.tape, h.output, h.size, h.block⟩
theorem allB_iff {x : List Int} {lo hi : Int} (h : allB x lo hi = true) : ∀ y ∈ x, lo ≤ y ∧ y ≤ hi := fun y hy => by
  unfold allB at h
  rw [List.all_eq_true] at h
  exact inB_iff.1 (h y hy)

set_option maxHeartbeats 1000000 in
theorem l03Small_any (p c : Nat) (A : Option Addr) (x : List Int) (w : World) (h3 : w.cell? ⟨p, 3, none⟩ = some (.slice A x.length c)) (hx : RdL (Value.int .i64) w A x) (hn : x.length ≤ 1048576) :
    Calls Try.prog 75 #[.pointer (some ⟨p, 0, none⟩)] w fun e w' => e = .returned (.bool (allB x (-1000000) 1000000)) ∧ w = w' := by
  have HX := hid hx
  clear hx
  go_enter Try.func75, Try.ntmps75
  go_wp2
  go_loop [3, 9] (fun j i => ∃ k : Nat, k ≤ x.length ∧ i = .int .i64 k ∧ Hid (allB (x.take k) (-1000000) 1000000 = true)) (fun j i => x.length - (intOf i).toNat)
  case atStart => exact ⟨0, Nat.zero_le _, rfl, rfl⟩
  case round =>
    obtain ⟨k, hk, rfl, hh⟩ := hrel
    by_cases hlt : k < x.length
    · have hi : (k : Int) < (x.length : Int) := by omega
      obtain ⟨b', o', z, rfl, hc, hxk⟩ := HX.out.at_ hlt
      cases hb : inB z (-1000000) 1000000 with
      | true =>
        have he := hid (allB_snoc hh hxk hb)
        go_wp2_with ((go_at_call 113; refine (l00In_any _ _ _ _).mono ?_; rintro e w' ⟨rfl, rfl⟩))
        exact ⟨⟨k + 1, by omega, by go_num, he⟩, by simp [intOf]; omega⟩
      | false =>
        have he := hid (allB_no hxk hb)
        go_wp2_with ((go_at_call 113; refine (l00In_any _ _ _ _).mono ?_; rintro e w' ⟨rfl, rfl⟩))
        go_ret
        exact ⟨ret_bool he.out.symm, rfl⟩
    · have hi : ¬ (k : Int) < (x.length : Int) := by omega
      go_wp2
      go_ret
      have he := hh.out
      rw [List.take_of_length_le (by omega)] at he
      exact ⟨ret_bool he.symm, rfl⟩
set_option maxHeartbeats 800000 in
theorem areSmall_any (a0 a1 a2 : Int) (A : Option Addr) (c : Nat) (x : List Int) (w : World) (hx : RdL (Value.int .i64) w A x) (hn : x.length ≤ 1048576) :
    Calls Try.prog 78 #[.agg #[.int .i64 a0, .int .i64 a1, .int .i64 a2, .slice A x.length c]] w fun e w' => e = .returned (.bool (allB x (-1000000) 1000000)) ∧ Below w.heap.size w w' := by
  have HX := hid hx
  clear hx
  go_enter Try.func78, Try.ntmps78
  go_wp2_with fail
  refine (areWithin_any A c x _ _ _ (HX.out.below (below_a1 _ _)) hn).mono ?_
  rintro e w1 ⟨rfl, hb⟩
  have S1 := below_call (below_a1 _ _) hb
  clear hb
  go_wp2
  go_ret
  exact ⟨rfl, S1.out⟩
end Go.Proofs.Ytbodfepfapjikaa
