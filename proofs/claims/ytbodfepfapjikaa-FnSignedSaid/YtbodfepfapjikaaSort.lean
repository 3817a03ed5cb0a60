/-
  slices.Sort at []int64: the kit's contract, laid at this program, over a slice of the call's own.
-/
import Derived.Test.YtbodfepfapjikaaAsc
import Derived.Test.YtbodfepfapjikaaRet
import Derived.Shelf.SortM.Plain
import Derived.Shelf.SortM.SortNone
import Derived.Shelf.SlGeneric
import Derived.Sort.OwnSortedInts
namespace Go.Proofs.Ytbodfepfapjikaa
open Go.RowKit Go.Shelf Go.Sort
set_option linter.unusedVariables false

def laysSort_ren : Go.Shelf.Ren := ⟨fun | 5 => 64 | 8 => 112 | 7 => 111 | 19 => 146 | 20 => 147 | 10 => 138 | 11 => 139 | 12 => 140 | 13 => 141 | 14 => 142 | 15 => 143 | 16 => 137 | 17 => 144 | 18 => 145 | 30 => 156 | 31 => 157 | 32 => 158 | 33 => 159 | 34 => 160 | 35 => 132 | 40 => 168 | n => n, fun | 23 => 22 | 25 => 2 | 3 => 3 | 32 => 105 | 22 => 22 | 0 => 0 | 44 => 135 | 46 => 103 | 4 => 4 | 36 => 128 | 35 => 127 | 41 => 132 | 5 => 5 | 9 => 9 | 53 => 144 | 57 => 148 | 63 => 153 | 64 => 154 | n => n, fun | n => n⟩
theorem laysSort : Go.Proofs.SlLaysM.n5 Try.prog laysSort_ren := {
  mixed := by kernel_rfl,
  f5 := ⟨ "slices.Sort[[]int64,int64]", by decide, Try.func64.trans (congrArg some (by kernel_rfl))⟩,
  f7 := ⟨ "slices.pdqsortOrdered[int64]", by decide, Try.func111.trans (congrArg some (by kernel_rfl))⟩,
  f8 := Try.func112.trans (congrArg some (by kernel_rfl)),
  f10 := ⟨ "slices.insertionSortOrdered[int64]", by decide, Try.func138.trans (congrArg some (by kernel_rfl))⟩,
  f11 := ⟨ "slices.heapSortOrdered[int64]", by decide, Try.func139.trans (congrArg some (by kernel_rfl))⟩,
  f12 := ⟨ "slices.breakPatternsOrdered[int64]", by decide, Try.func140.trans (congrArg some (by kernel_rfl))⟩,
  f13 := ⟨ "slices.choosePivotOrdered[int64]", by decide, Try.func141.trans (congrArg some (by kernel_rfl))⟩,
  f14 := ⟨ "slices.reverseRangeOrdered[int64]", by decide, Try.func142.trans (congrArg some (by kernel_rfl))⟩,
  f15 := ⟨ "slices.partialInsertionSortOrdered[int64]", by decide, Try.func143.trans (congrArg some (by kernel_rfl))⟩,
  f16 := ⟨ "cmp.Less[int64]", by decide, Try.func137.trans (congrArg some (by kernel_rfl))⟩,
  f17 := ⟨ "slices.partitionEqualOrdered[int64]", by decide, Try.func144.trans (congrArg some (by kernel_rfl))⟩,
  f18 := ⟨ "slices.partitionOrdered[int64]", by decide, Try.func145.trans (congrArg some (by kernel_rfl))⟩,
  f19 := Try.func146.trans (congrArg some (by kernel_rfl)),
  f20 := Try.func147.trans (congrArg some (by kernel_rfl)),
  f30 := ⟨ "slices.siftDownOrdered[int64]", by decide, Try.func156.trans (congrArg some (by kernel_rfl))⟩,
  f31 := Try.func157.trans (congrArg some (by kernel_rfl)),
  f32 := Try.func158.trans (congrArg some (by kernel_rfl)),
  f33 := ⟨ "slices.medianAdjacentOrdered[int64]", by decide, Try.func159.trans (congrArg some (by kernel_rfl))⟩,
  f34 := ⟨ "slices.medianOrdered[int64]", by decide, Try.func160.trans (congrArg some (by kernel_rfl))⟩,
  f35 := ⟨ "cmp.isNaN[int64]", by decide, Try.func132.trans (congrArg some (by kernel_rfl))⟩,
  f40 := ⟨ "slices.order2Ordered[int64]", by decide, Try.func168.trans (congrArg some (by kernel_rfl))⟩,
  t0 := Try.underlying0,
  a0 := Try.isAgg0,
  z0 := Try.sizeOf0,
  v0 := Try.zeroValue0,
  t3 := Try.underlying3,
  a3 := Try.isAgg3,
  z3 := Try.sizeOf3,
  v3 := Try.zeroValue3,
  t4 := Try.underlying4,
  a4 := Try.isAgg4,
  z4 := Try.sizeOf4,
  v4 := Try.zeroValue4,
  t5 := Try.underlying5,
  a5 := Try.isAgg5,
  z5 := Try.sizeOf5,
  v5 := Try.zeroValue5,
  t9 := Try.underlying9,
  a9 := Try.isAgg9,
  z9 := Try.sizeOf9,
  v9 := Try.zeroValue9,
  t22 := Try.underlying22,
  a22 := Try.isAgg22,
  z22 := Try.sizeOf22,
  v22 := Try.zeroValue22,
  t23 := Try.underlying22,
  a23 := Try.isAgg22,
  z23 := Try.sizeOf22,
  v23 := Try.zeroValue22,
  t25 := Try.underlying2,
  a25 := Try.isAgg2,
  z25 := Try.sizeOf2,
  v25 := Try.zeroValue2,
  t32 := Try.underlying105,
  a32 := Try.isAgg105,
  z32 := Try.sizeOf105,
  v32 := Try.zeroValue105,
  t35 := Try.underlying127,
  a35 := Try.isAgg127,
  z35 := Try.sizeOf127,
  v35 := Try.zeroValue127,
  t36 := Try.underlying128,
  a36 := Try.isAgg128,
  z36 := Try.sizeOf128,
  v36 := Try.zeroValue128,
  t41 := Try.underlying132,
  a41 := Try.isAgg132,
  z41 := Try.sizeOf132,
  v41 := Try.zeroValue132,
  t44 := Try.underlying135,
  a44 := Try.isAgg135,
  z44 := Try.sizeOf135,
  v44 := Try.zeroValue135,
  t46 := Try.underlying103,
  a46 := Try.isAgg103,
  z46 := Try.sizeOf103,
  v46 := Try.zeroValue103,
  t53 := Try.underlying144,
  a53 := Try.isAgg144,
  z53 := Try.sizeOf144,
  v53 := Try.zeroValue144,
  t57 := Try.underlying148,
  a57 := Try.isAgg148,
  z57 := Try.sizeOf148,
  v57 := Try.zeroValue148,
  t63 := Try.underlying153,
  a63 := Try.isAgg153,
  z63 := Try.sizeOf153,
  v63 := Try.zeroValue153,
  t64 := Try.underlying154,
  a64 := Try.isAgg154,
  z64 := Try.sizeOf154,
  v64 := Try.zeroValue154 }
theorem sort_any (A : Option Addr) (c : Nat) (x : List Int) (w : World) (B : Nat) (ho : OwnS (Value.int .i64) w B 2 A x) (hB : B ≤ w.heap.size) (hn : x.length ≤ 1048576) :
    Calls Try.prog 64 #[.slice A x.length c] w fun e w' => e = .returned (.tuple #[]) ∧ OwnS (Value.int .i64) w' B 2 A (sortI x) ∧ Below B w w' ∧ TouchAll w w' [(A, x.length)] := by
  by_cases hne : x = []
  · subst hne
    refine (AnyM.slices_Sort_int_none laysSort A c w).mono ?_
    rintro e w' ⟨rfl, rfl⟩
    refine ⟨rfl, ?_, Below.refl _ _, ⟨rfl, rfl, rfl, Nat.le_refl _, fun _ _ _ => rfl⟩⟩
    rw [show sortI [] = [] by simp [sortI]]
    exact OwnS.nil
  · obtain ⟨g, ex, rfl, hg, hb⟩ := ho hne
    have hH : Holds (Value.int .i64) w g 0 x.toArray := fun j hj => by
      have hj' : j < x.length := by simpa using hj
      rw [Nat.zero_add]
      refine ⟨hb.cell ?_, hb.frozen j⟩
      rw [List.getElem?_append_left (by simpa using hj'), List.getElem?_map, List.getElem?_eq_getElem hj', getElem!_pos _ j hj]
      simp
    refine (AnyM.slices_Sort_int laysSort g 0 c x w hH hb.lt (by omega)).mono ?_
    rintro e w' ⟨rfl, n, os, rfl⟩
    have hgr := grownBy_sortedI (w := w) (g := g) (n := n) (os := os) (x.mergeSort fun x y => decide (x ≤ y)).toArray
    refine ⟨rfl, fun _ => ⟨g, (putCells (Value.int .i64) 0 (sortI x).toArray (x.map (Value.int .i64) ++ ex).toArray).toList.drop (sortI x).length, rfl, hg, ?_⟩, (Below.refl B w).grown hgr hB (fun j hj => by cases hj; exact hg), ⟨hgr.os, hgr.tape, hgr.output, hgr.size, fun b hlt hp => hgr.block b hlt ?_⟩⟩
    · unfold Blk
      rw [heap_sortedI _ hb]
      have h := take_putCellsI (x.map (Value.int .i64) ++ ex).toArray (sortI x) (by simp [sortI_length])
      rw [← h, List.take_append_drop]
      rfl
    · intro e
      injection e with e
      subst e
      rcases hp (some ⟨b, 0, none⟩, x.length) (by simp) with h | h
      · exact hne (List.eq_nil_of_length_eq_zero h)
      · exact h 0 rfl
end Go.Proofs.Ytbodfepfapjikaa
