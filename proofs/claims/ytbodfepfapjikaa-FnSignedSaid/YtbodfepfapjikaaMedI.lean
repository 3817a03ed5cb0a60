/-
  The program's median of a short list of int64, by contract: over the library's insertion sort. Printed by gen_median.py.
-/
import Derived.Test.YtbodfepfapjikaaMiddle
import Derived.Shelf.SlSortCmp.Insertion
import Derived.Shelf.SlGeneric
namespace Go.Proofs.Ytbodfepfapjikaa
open Go.RowKit Go.Shelf Go.Sort
set_option linter.unusedVariables false
set_option linter.unusedSimpArgs false

def laysInsI_ren : Go.Shelf.Ren := ⟨fun | 20 => 151 | n => n, fun | 24 => 2 | 22 => 22 | 3 => 3 | 25 => 99 | 4 => 4 | 0 => 0 | n => n, fun | n => n⟩
theorem laysInsI : Go.Proofs.SlLaysF.n20 Try.prog laysInsI_ren := {
  mixed := by kernel_rfl,
  f20 := ⟨ "slices.insertionSortCmpFunc[int64]", by decide, Try.func151.trans (congrArg some (by kernel_rfl))⟩,
  t0 := Try.underlying0,
  a0 := Try.isAgg0,
  z0 := Try.sizeOf0,
  v0 := Try.zeroValue0,
  t3 := Try.underlying3,
  a3 := Try.isAgg3,
  z3 := Try.sizeOf3,
  v3 := Try.zeroValue3,
  t4 := Try.underlying4,
  a4 := Try.isAgg4,
  z4 := Try.sizeOf4,
  v4 := Try.zeroValue4,
  t22 := Try.underlying22,
  a22 := Try.isAgg22,
  z22 := Try.sizeOf22,
  v22 := Try.zeroValue22,
  a24 := Try.isAgg2,
  z24 := Try.sizeOf2,
  t25 := Try.underlying99,
  a25 := Try.isAgg99,
  z25 := Try.sizeOf99,
  v25 := Try.zeroValue99 }
def cfI (a b : Int) : Int := if a < b then -1 else if b < a then 1 else 0
theorem ltOf_cfI : ltOf cfI = ltI := by
  funext a b
  unfold ltOf cfI ltI
  by_cases h : a < b
  · rw [if_pos h, decide_eq_true h]; rfl
  · rw [if_neg h, decide_eq_false h]
    by_cases h2 : b < a
    · rw [if_pos h2]; rfl
    · rw [if_neg h2]; rfl
theorem cmpI_any (a b : Int) (w : World) : Calls Try.prog 121 #[.int .i64 a, .int .i64 b] w fun e w' => e = .returned (.int .i64 (cfI a b)) ∧ w' = w := by
  by_cases h : a < b
  · rw [show cfI a b = -1 from if_pos h]
    go_enter Try.func121, Try.ntmps121
    go_wp2
    go_ret
    exact ⟨rfl, rfl⟩
  · have h1 : decide (a < b) = false := decide_eq_false h
    by_cases h2 : b < a
    · rw [show cfI a b = 1 by unfold cfI; rw [if_neg h, if_pos h2]]
      go_enter Try.func121, Try.ntmps121
      go_wp2
      go_ret
      exact ⟨rfl, rfl⟩
    · have h3 : decide (b < a) = false := decide_eq_false h2
      rw [show cfI a b = 0 by unfold cfI; rw [if_neg h, if_neg h2]]
      go_enter Try.func121, Try.ntmps121
      go_wp2
      go_ret
      exact ⟨rfl, rfl⟩
/-- The library's stable sort of a short slice of the call's own. -/
theorem stableI_any (g c : Nat) (x : List Int) (ex : List Value) (w : World) (B : Nat) (hb : Blk w g 2 (x.map (Value.int .i64) ++ ex)) (hg : B ≤ g) (hn : x.length < 20) (hp : 0 < x.length) :
    Calls Try.prog 131 #[.slice (some ⟨g, 0, none⟩) x.length c, .int .i64 x.length, .func (.func 121) #[] #[]] w fun e w' => e = .returned (.tuple #[]) ∧ OwnS (Value.int .i64) w' B 2 (some ⟨g, 0, none⟩) (isrt ltI x) ∧ Below B w w' := by
  have hH : Holds (Value.int .i64) w g 0 x.toArray := fun j hj => by
    have hj' : j < x.length := by simpa using hj
    rw [Nat.zero_add]
    refine ⟨hb.cell ?_, hb.frozen j⟩
    rw [List.getElem?_append_left (by simpa using hj'), List.getElem?_map, List.getElem?_eq_getElem hj', getElem!_pos _ j hj]
    simp
  have C1 : Hid (Calls Try.prog 151 #[.slice (some ⟨g, 0, none⟩) x.length c, .int .i64 0, .int .i64 x.length, .func (.func 121) #[] #[]] w fun e w' => e = .returned (.tuple #[]) ∧ OwnS (Value.int .i64) w' B 2 (some ⟨g, 0, none⟩) (isrt ltI x) ∧ Below B w w') := by
    have h := Any.insertionSortCmpFunc_one laysInsI (Value.int .i64) (fun _ => rfl) cfI 121 #[] g 0 c 0 x.length x.toArray w (enters_of Try.func121 (by kernel_rfl) rfl) (fun m os dk hk a b => (cmpI_any a b _).mono (fun e w2 ⟨h1, h2⟩ => ⟨h1, 0, h2⟩)) hH (Nat.zero_le _) (by simp) (by simp; omega)
    refine Calls.mono h ?_
    rintro e w' ⟨rfl, n, rfl⟩
    rw [ltOf_cfI, insertionSort_eq _ _ hp]
    refine ⟨rfl, fun _ => ⟨g, ex, rfl, hg, ?_⟩, ?_⟩
    · show (putRow (Value.int .i64) w g 0 (isrt ltI x).toArray).heap[g]? = _
      have hl := isrt_length ltI x
      have h2 : w.heap[g]? = some (.cells (x.map (Value.int .i64) ++ ex).toArray 2 (0, 0)) := hb
      simp only [putRow, mapBlock, Array.getElem?_modify, h2]
      rw [if_pos trivial]
      simp only [Option.map_some, onCells]
      congr 2
      exact putCells_all _ _ _ _ (by rw [hl]; simp)
    · have h3 := Lib.below_putRow (enc := (Value.int .i64)) (q := 0) (d := (isrt ltI x).toArray) (Below.refl B w) hg
      exact below_drewN h3 n
  have hn20 : (x.length : Int) < 20 := by omega
  have hn1 : ¬ (20 : Int) ≤ (x.length : Int) := by omega
  have hn2 : ¬ (20 : Int) < (x.length : Int) := by omega
  have hd1 : decide ((20 : Int) ≤ (x.length : Int)) = false := decide_eq_false hn1
  have hd2 : decide ((20 : Int) < (x.length : Int)) = false := decide_eq_false hn2
  clear hH hb
  go_enter Try.func131, Try.ntmps131
  go_wp2
  go_loop [7, 8] (fun a b => a = .int .i64 0 ∧ b = .int .i64 20) (fun a b => 0)
  case atStart => exact ⟨rfl, rfl⟩
  case round =>
    obtain ⟨rfl, rfl⟩ := hrel
    go_wp2_with (go_at_call 151; with_reducible refine C1.out.mono ?_; rintro e w1 ⟨rfl, hO, hW⟩)
    go_loop [6] (fun a => a = .int .i64 20) (fun a => 0)
    case atStart => rfl
    case round =>
      obtain rfl := hrel
      go_wp2
      go_end0
      exact ⟨rfl, hO, hW⟩
set_option maxHeartbeats 800000 in
theorem medianI_any (A : Option Addr) (c : Nat) (x : List Int) (w : World) (hx : RdL (Value.int .i64) w A x) (hn : x.length < 20) (hp : 0 < x.length) :
    Calls Try.prog 80 #[.slice A x.length c] w fun e w' => e = .returned (.int .i64 (medI x)) ∧ Below w.heap.size w w' := by
  have HX := hid hx
  clear hx
  go_enter Try.func80, Try.ntmps80
  go_wp2_with fail
  refine (cloneV_any A c x _ HX.out (by omega)).mono ?_
  rintro e w1 ⟨v0, rfl, hv0, hb1⟩
  obtain ⟨A1, c1, rfl, _, ho1⟩ := hv0.parts
  obtain ⟨g, ex, rfl, hg, hb⟩ := ho1 (List.ne_nil_of_length_pos hp)
  have C1 : Hid (Calls Try.prog 93 #[.slice (some ⟨g, 0, none⟩) x.length c1, .func (.func 121) #[] #[]] w1 fun e w' => e = .returned (.tuple #[]) ∧ OwnS (Value.int .i64) w' w.heap.size 2 (some ⟨g, 0, none⟩) (isrt ltI x) ∧ Below w.heap.size w1 w') := by
    have C2 := hid (stableI_any g c1 x ex w1 w.heap.size hb hg hn hp)
    clear hb hv0 ho1
    go_enter Try.func93, Try.ntmps93
    go_wp2_with (go_at_call 131; with_reducible refine C2.out.mono ?_; rintro e w2 ⟨rfl, hO, hW⟩)
    go_end0
    exact ⟨rfl, hO, hW⟩
  have W1 := hid hb1
  clear hb hb1 ho1 hv0
  go_wp2_with (go_at_call 93; with_reducible refine C1.out.mono ?_)
  rintro e w2 ⟨rfl, hO, hW⟩
  have W2 := hid (W1.out.trans hW)
  have hm := medI_at x hp
  obtain ⟨bb, oo, m, hA, hcm, hmm⟩ := hO.rd.at_ (k := (x.length - 1) / 2) (by rw [isrt_length]; omega)
  injection hA with hA; injection hA with e1 e2
  subst e1 e2
  rw [Nat.zero_add] at hcm
  have hmv : medI x = m := by
    have h1 := hmm.out
    rw [hm] at h1; injection h1
  have hq1 : (((x.length - 1) / 2 : Nat) : Int) < (x.length : Int) := by omega
  have hq0 : (0 : Int) ≤ (((x.length - 1) / 2 : Nat) : Int) := by omega
  have hq : ((x.length : Int) - 1) / 2 = (((x.length - 1) / 2 : Nat) : Int) := by omega
  have HM := hid hmv
  clear hO hm hmm hmv hW C1
  go_wp2
  go_ret
  exact ⟨ret_int HM.out.symm, W2.out⟩
end Go.Proofs.Ytbodfepfapjikaa
