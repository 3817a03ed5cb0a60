/-
  slices.Sort at []int64: the kit's contract, laid at this program, over a slice of the call's own.
-/
import Derived.Test.YtmafkkpdcajfoaaAsc
import Derived.Test.YtmafkkpdcajfoaaRet
import Derived.Shelf.SortM.Plain
import Derived.Shelf.SortM.SortNone
import Derived.Shelf.SlGeneric
import Derived.Sort.OwnSortedInts
namespace Go.Proofs.Ytmafkkpdcajfoaa
open Go.RowKit Go.Shelf Go.Sort
set_option linter.unusedVariables false

def laysSort_ren : Go.Shelf.Ren := ⟨fun | 5 => 34 | 8 => 52 | 7 => 51 | 19 => 72 | 20 => 73 | 10 => 63 | 11 => 64 | 12 => 65 | 13 => 66 | 14 => 67 | 15 => 68 | 16 => 69 | 17 => 70 | 18 => 71 | 30 => 80 | 31 => 81 | 32 => 82 | 33 => 83 | 34 => 84 | 35 => 57 | 40 => 87 | n => n, fun | 23 => 24 | 25 => 2 | 3 => 3 | 32 => 72 | 22 => 24 | 0 => 0 | 44 => 87 | 46 => 60 | 4 => 4 | 36 => 79 | 35 => 78 | 41 => 84 | 5 => 5 | 9 => 9 | 53 => 93 | 57 => 97 | 63 => 99 | 64 => 100 | n => n, fun | n => n⟩
theorem laysSort : Go.Proofs.SlLaysM.n5 Try.prog laysSort_ren := {
  mixed := by kernel_rfl,
  f5 := ⟨ "slices.Sort[[]int64,int64]", by decide, Try.func34.trans (congrArg some (by kernel_rfl))⟩,
  f7 := ⟨ "slices.pdqsortOrdered[int64]", by decide, Try.func51.trans (congrArg some (by kernel_rfl))⟩,
  f8 := Try.func52.trans (congrArg some (by kernel_rfl)),
  f10 := ⟨ "slices.insertionSortOrdered[int64]", by decide, Try.func63.trans (congrArg some (by kernel_rfl))⟩,
  f11 := ⟨ "slices.heapSortOrdered[int64]", by decide, Try.func64.trans (congrArg some (by kernel_rfl))⟩,
  f12 := ⟨ "slices.breakPatternsOrdered[int64]", by decide, Try.func65.trans (congrArg some (by kernel_rfl))⟩,
  f13 := ⟨ "slices.choosePivotOrdered[int64]", by decide, Try.func66.trans (congrArg some (by kernel_rfl))⟩,
  f14 := ⟨ "slices.reverseRangeOrdered[int64]", by decide, Try.func67.trans (congrArg some (by kernel_rfl))⟩,
  f15 := ⟨ "slices.partialInsertionSortOrdered[int64]", by decide, Try.func68.trans (congrArg some (by kernel_rfl))⟩,
  f16 := ⟨ "cmp.Less[int64]", by decide, Try.func69.trans (congrArg some (by kernel_rfl))⟩,
  f17 := ⟨ "slices.partitionEqualOrdered[int64]", by decide, Try.func70.trans (congrArg some (by kernel_rfl))⟩,
  f18 := ⟨ "slices.partitionOrdered[int64]", by decide, Try.func71.trans (congrArg some (by kernel_rfl))⟩,
  f19 := Try.func72.trans (congrArg some (by kernel_rfl)),
  f20 := Try.func73.trans (congrArg some (by kernel_rfl)),
  f30 := ⟨ "slices.siftDownOrdered[int64]", by decide, Try.func80.trans (congrArg some (by kernel_rfl))⟩,
  f31 := Try.func81.trans (congrArg some (by kernel_rfl)),
  f32 := Try.func82.trans (congrArg some (by kernel_rfl)),
  f33 := ⟨ "slices.medianAdjacentOrdered[int64]", by decide, Try.func83.trans (congrArg some (by kernel_rfl))⟩,
  f34 := ⟨ "slices.medianOrdered[int64]", by decide, Try.func84.trans (congrArg some (by kernel_rfl))⟩,
  f35 := ⟨ "cmp.isNaN[int64]", by decide, Try.func57.trans (congrArg some (by kernel_rfl))⟩,
  f40 := ⟨ "slices.order2Ordered[int64]", by decide, Try.func87.trans (congrArg some (by kernel_rfl))⟩,
  t0 := Try.underlying0,
  a0 := Try.isAgg0,
  z0 := Try.sizeOf0,
  v0 := Try.zeroValue0,
  t3 := Try.underlying3,
  a3 := Try.isAgg3,
  z3 := Try.sizeOf3,
  v3 := Try.zeroValue3,
  t4 := Try.underlying4,
  a4 := Try.isAgg4,
  z4 := Try.sizeOf4,
  v4 := Try.zeroValue4,
  t5 := Try.underlying5,
  a5 := Try.isAgg5,
  z5 := Try.sizeOf5,
  v5 := Try.zeroValue5,
  t9 := Try.underlying9,
  a9 := Try.isAgg9,
  z9 := Try.sizeOf9,
  v9 := Try.zeroValue9,
  t22 := Try.underlying24,
  a22 := Try.isAgg24,
  z22 := Try.sizeOf24,
  v22 := Try.zeroValue24,
  t23 := Try.underlying24,
  a23 := Try.isAgg24,
  z23 := Try.sizeOf24,
  v23 := Try.zeroValue24,
  t25 := Try.underlying2,
  a25 := Try.isAgg2,
  z25 := Try.sizeOf2,
  v25 := Try.zeroValue2,
  t32 := Try.underlying72,
  a32 := Try.isAgg72,
  z32 := Try.sizeOf72,
  v32 := Try.zeroValue72,
  t35 := Try.underlying78,
  a35 := Try.isAgg78,
  z35 := Try.sizeOf78,
  v35 := Try.zeroValue78,
  t36 := Try.underlying79,
  a36 := Try.isAgg79,
  z36 := Try.sizeOf79,
  v36 := Try.zeroValue79,
  t41 := Try.underlying84,
  a41 := Try.isAgg84,
  z41 := Try.sizeOf84,
  v41 := Try.zeroValue84,
  t44 := Try.underlying87,
  a44 := Try.isAgg87,
  z44 := Try.sizeOf87,
  v44 := Try.zeroValue87,
  t46 := Try.underlying60,
  a46 := Try.isAgg60,
  z46 := Try.sizeOf60,
  v46 := Try.zeroValue60,
  t53 := Try.underlying93,
  a53 := Try.isAgg93,
  z53 := Try.sizeOf93,
  v53 := Try.zeroValue93,
  t57 := Try.underlying97,
  a57 := Try.isAgg97,
  z57 := Try.sizeOf97,
  v57 := Try.zeroValue97,
  t63 := Try.underlying99,
  a63 := Try.isAgg99,
  z63 := Try.sizeOf99,
  v63 := Try.zeroValue99,
  t64 := Try.underlying100,
  a64 := Try.isAgg100,
  z64 := Try.sizeOf100,
  v64 := Try.zeroValue100 }
theorem sort_any (A : Option Addr) (c : Nat) (x : List Int) (w : World) (B : Nat) (ho : OwnS (Value.int .i64) w B 2 A x) (hB : B ≤ w.heap.size) (hn : x.length ≤ 1048576) :
    Calls Try.prog 34 #[.slice A x.length c] w fun e w' => e = .returned (.tuple #[]) ∧ OwnS (Value.int .i64) w' B 2 A (sortI x) ∧ Below B w w' ∧ TouchAll w w' [(A, x.length)] := by
  by_cases hne : x = []
  · subst hne
    refine (AnyM.slices_Sort_int_none laysSort A c w).mono ?_
    rintro e w' ⟨rfl, rfl⟩
    refine ⟨rfl, ?_, Below.refl _ _, ⟨rfl, rfl, rfl, Nat.le_refl _, fun _ _ _ => rfl⟩⟩
    rw [show sortI [] = [] by simp [sortI]]
    exact OwnS.nil
  · obtain ⟨g, ex, rfl, hg, hb⟩ := ho hne
    have hH : Holds (Value.int .i64) w g 0 x.toArray := fun j hj => by
      have hj' : j < x.length := by simpa using hj
      rw [Nat.zero_add]
      refine ⟨hb.cell ?_, hb.frozen j⟩
      rw [List.getElem?_append_left (by simpa using hj'), List.getElem?_map, List.getElem?_eq_getElem hj', getElem!_pos _ j hj]
      simp
    refine (AnyM.slices_Sort_int laysSort g 0 c x w hH hb.lt (by omega)).mono ?_
    rintro e w' ⟨rfl, n, os, rfl⟩
    have hgr := grownBy_sortedI (w := w) (g := g) (n := n) (os := os) (x.mergeSort fun x y => decide (x ≤ y)).toArray
    refine ⟨rfl, fun _ => ⟨g, (putCells (Value.int .i64) 0 (sortI x).toArray (x.map (Value.int .i64) ++ ex).toArray).toList.drop (sortI x).length, rfl, hg, ?_⟩, (Below.refl B w).grown hgr hB (fun j hj => by cases hj; exact hg), ⟨hgr.os, hgr.tape, hgr.output, hgr.size, fun b hlt hp => hgr.block b hlt ?_⟩⟩
    · unfold Blk
      rw [heap_sortedI _ hb]
      have h := take_putCellsI (x.map (Value.int .i64) ++ ex).toArray (sortI x) (by simp [sortI_length])
      rw [← h, List.take_append_drop]
      rfl
    · intro e
      injection e with e
      subst e
      rcases hp (some ⟨b, 0, none⟩, x.length) (by simp) with h | h
      · exact hne (List.eq_nil_of_length_eq_zero h)
      · exact h 0 rfl
end Go.Proofs.Ytmafkkpdcajfoaa
