/-
  The program's median of a short list of float32, by contract: over the library's insertion sort. Printed by gen_median.py.
-/
import Derived.Test.YtbodfepfapjikaaFloatList
import Derived.Shelf.SlSortCmp.Insertion
import Derived.Shelf.SlGeneric
namespace Go.Proofs.Ytbodfepfapjikaa
open Go.RowKit Go.Shelf Go.Sort
set_option linter.unusedVariables false
set_option linter.unusedSimpArgs false

def laysInsF_ren : Go.Shelf.Ren := ⟨fun | 20 => 162 | n => n, fun | 24 => 54 | 22 => 92 | 3 => 3 | 25 => 119 | 4 => 4 | 0 => 0 | n => n, fun | n => n⟩
theorem laysInsF : Go.Proofs.SlLaysF.n20 Try.prog laysInsF_ren := {
  mixed := by kernel_rfl,
  f20 := ⟨ "slices.insertionSortCmpFunc[float32]", by decide, Try.func162.trans (congrArg some (by kernel_rfl))⟩,
  t0 := Try.underlying0,
  a0 := Try.isAgg0,
  z0 := Try.sizeOf0,
  v0 := Try.zeroValue0,
  t3 := Try.underlying3,
  a3 := Try.isAgg3,
  z3 := Try.sizeOf3,
  v3 := Try.zeroValue3,
  t4 := Try.underlying4,
  a4 := Try.isAgg4,
  z4 := Try.sizeOf4,
  v4 := Try.zeroValue4,
  t22 := Try.underlying92,
  a22 := Try.isAgg92,
  z22 := Try.sizeOf92,
  v22 := Try.zeroValue92,
  a24 := Try.isAgg54,
  z24 := Try.sizeOf54,
  t25 := Try.underlying119,
  a25 := Try.isAgg119,
  z25 := Try.sizeOf119,
  v25 := Try.zeroValue119 }
/-- The library's stable sort of a short slice of the call's own. -/
theorem stableF_any (g c : Nat) (x : List Nat) (ex : List Value) (w : World) (B : Nat) (hb : Blk w g 54 (x.map (Value.float .f32) ++ ex)) (hg : B ≤ g) (hn : x.length < 20) (hp : 0 < x.length) :
    Calls Try.prog 150 #[.slice (some ⟨g, 0, none⟩) x.length c, .int .i64 x.length, .func (.func 130) #[] #[]] w fun e w' => e = .returned (.tuple #[]) ∧ OwnS (Value.float .f32) w' B 54 (some ⟨g, 0, none⟩) (isrt ltF x) ∧ Below B w w' := by
  have hH : Holds (Value.float .f32) w g 0 x.toArray := fun j hj => by
    have hj' : j < x.length := by simpa using hj
    rw [Nat.zero_add]
    refine ⟨hb.cell ?_, hb.frozen j⟩
    rw [List.getElem?_append_left (by simpa using hj'), List.getElem?_map, List.getElem?_eq_getElem hj', getElem!_pos _ j hj]
    simp
  have C1 : Hid (Calls Try.prog 162 #[.slice (some ⟨g, 0, none⟩) x.length c, .int .i64 0, .int .i64 x.length, .func (.func 130) #[] #[]] w fun e w' => e = .returned (.tuple #[]) ∧ OwnS (Value.float .f32) w' B 54 (some ⟨g, 0, none⟩) (isrt ltF x) ∧ Below B w w') := by
    have h := Any.insertionSortCmpFunc_one laysInsF (Value.float .f32) (fun _ => rfl) cfF 130 #[] g 0 c 0 x.length x.toArray w (enters_of Try.func130 (by kernel_rfl) rfl) (fun m os dk hk a b => (cmpF_any a b _).mono (fun e w2 ⟨h1, h2⟩ => ⟨h1, 0, h2⟩)) hH (Nat.zero_le _) (by simp) (by simp; omega)
    refine Calls.mono h ?_
    rintro e w' ⟨rfl, n, rfl⟩
    rw [ltOf_cfF, insertionSort_eq _ _ hp]
    refine ⟨rfl, fun _ => ⟨g, ex, rfl, hg, ?_⟩, ?_⟩
    · show (putRow (Value.float .f32) w g 0 (isrt ltF x).toArray).heap[g]? = _
      have hl := isrt_length ltF x
      have h2 : w.heap[g]? = some (.cells (x.map (Value.float .f32) ++ ex).toArray 54 (0, 0)) := hb
      simp only [putRow, mapBlock, Array.getElem?_modify, h2]
      rw [if_pos trivial]
      simp only [Option.map_some, onCells]
      congr 2
      exact putCells_all _ _ _ _ (by rw [hl]; simp)
    · have h3 := Lib.below_putRow (enc := (Value.float .f32)) (q := 0) (d := (isrt ltF x).toArray) (Below.refl B w) hg
      exact below_drewN h3 n
  have hn20 : (x.length : Int) < 20 := by omega
  have hn1 : ¬ (20 : Int) ≤ (x.length : Int) := by omega
  have hn2 : ¬ (20 : Int) < (x.length : Int) := by omega
  have hd1 : decide ((20 : Int) ≤ (x.length : Int)) = false := decide_eq_false hn1
  have hd2 : decide ((20 : Int) < (x.length : Int)) = false := decide_eq_false hn2
  clear hH hb
  go_enter Try.func150, Try.ntmps150
  go_wp2
  go_loop [7, 8] (fun a b => a = .int .i64 0 ∧ b = .int .i64 20) (fun a b => 0)
  case atStart => exact ⟨rfl, rfl⟩
  case round =>
    obtain ⟨rfl, rfl⟩ := hrel
    go_wp2_with (go_at_call 162; with_reducible refine C1.out.mono ?_; rintro e w1 ⟨rfl, hO, hW⟩)
    go_loop [6] (fun a => a = .int .i64 20) (fun a => 0)
    case atStart => rfl
    case round =>
      obtain rfl := hrel
      go_wp2
      go_end0
      exact ⟨rfl, hO, hW⟩
set_option maxHeartbeats 800000 in
theorem medianF_any (A : Option Addr) (c : Nat) (x : List Nat) (w : World) (hx : RdL (Value.float .f32) w A x) (hn : x.length < 20) (hp : 0 < x.length) :
    Calls Try.prog 88 #[.slice A x.length c] w fun e w' => e = .returned (.float .f32 (medF x)) ∧ Below w.heap.size w w' := by
  have HX := hid hx
  clear hx
  go_enter Try.func88, Try.ntmps88
  go_wp2_with fail
  refine (cloneF_any A c x _ HX.out (by omega)).mono ?_
  rintro e w1 ⟨A1, c1, rfl, ho1, hb1⟩
  obtain ⟨g, ex, rfl, hg, hb⟩ := ho1 (List.ne_nil_of_length_pos hp)
  have C1 : Hid (Calls Try.prog 129 #[.slice (some ⟨g, 0, none⟩) x.length c1, .func (.func 130) #[] #[]] w1 fun e w' => e = .returned (.tuple #[]) ∧ OwnS (Value.float .f32) w' w.heap.size 54 (some ⟨g, 0, none⟩) (isrt ltF x) ∧ Below w.heap.size w1 w') := by
    have C2 := hid (stableF_any g c1 x ex w1 w.heap.size hb hg hn hp)
    clear hb ho1
    go_enter Try.func129, Try.ntmps129
    go_wp2_with (go_at_call 150; with_reducible refine C2.out.mono ?_; rintro e w2 ⟨rfl, hO, hW⟩)
    go_end0
    exact ⟨rfl, hO, hW⟩
  have W1 := hid hb1
  clear hb hb1 ho1
  go_wp2_with (go_at_call 129; with_reducible refine C1.out.mono ?_)
  rintro e w2 ⟨rfl, hO, hW⟩
  have W2 := hid (W1.out.trans hW)
  have hm := medF_at x hp
  obtain ⟨bb, oo, m, hA, hcm, hmm⟩ := hO.rd.at_ (k := (x.length - 1) / 2) (by rw [isrt_length]; omega)
  injection hA with hA; injection hA with e1 e2
  subst e1 e2
  rw [Nat.zero_add] at hcm
  have hmv : medF x = m := by
    have h1 := hmm.out
    rw [hm] at h1; injection h1
  have hq1 : (((x.length - 1) / 2 : Nat) : Int) < (x.length : Int) := by omega
  have hq0 : (0 : Int) ≤ (((x.length - 1) / 2 : Nat) : Int) := by omega
  have hq : ((x.length : Int) - 1) / 2 = (((x.length - 1) / 2 : Nat) : Int) := by omega
  have HM := hid hmv
  clear hO hm hmm hmv hW C1
  go_wp2
  go_ret
  exact ⟨by rw [HM.out]; rfl, W2.out⟩
end Go.Proofs.Ytbodfepfapjikaa
