/-
  Parts of the proof: Cells: valid ones, by contracts. The places of a key: the reference's l04Places and the program's spots, by contracts. The cells of a key: reference and program, by contracts. Copies of the call's own: slices.Clone, and the reference's l04Own, by contracts. New cells, and cells that are handed back if they are valid: reference and program, by contracts. Numbers added at places of a list. Is a key in a sieve? Reference and program, by contracts. Putting keys into a sieve: reference and program, by contracts. Numbers put to the cells of a key: reference and program, by contracts. Cells that are  No condition.
-/
import Derived.Test.YtmmolicodlmlkaaVG
import Derived.Deep.AppendLies
import Derived.Lib.SliceRun
import Derived.Deep.CutRange
import Derived.Deep.RegionLaw
set_option linter.unusedVariables false
set_option linter.unusedSimpArgs false
namespace Go.Proofs.Ytmmolicodlmlkaa
open Go.RowKit
set_option linter.unusedVariables false

/-- Cells are valid. -/
def vCells (a0 a1 a2 : Int) (xs : List Int) : Bool := inB a0 2 64 && inB a1 1 6 && inB a2 0 4294967295 && decide ((xs.length : Int) = a0 * a1) && allB xs (-1000000000000) 1000000000000
theorem mul_sides {a b : Int} (h1 : inB a 2 64 = true) (h2 : inB b 1 6 = true) : 2 ≤ a * b ∧ a * b ≤ 384 := by
  rw [inB_iff] at h1 h2
  have h3 : 2 * 1 ≤ a * b := Int.mul_le_mul h1.1 h2.1 (by omega) (by omega)
  have h4 : a * b ≤ 64 * 6 := Int.mul_le_mul h1.2 h2.2 (by omega) (by omega)
  omega

set_option maxHeartbeats 2000000 in
theorem l03Is_any (p c : Nat) (A : Option Addr) (a0 a1 a2 : Int) (xs : List Int) (w : World) (h0 : w.cell? ⟨p, 0, none⟩ = some (.int .i64 a0)) (h1 : w.cell? ⟨p, 1, none⟩ = some (.int .i64 a1)) (h2 : w.cell? ⟨p, 2, none⟩ = some (.int .i64 a2))
    (h3 : w.cell? ⟨p, 3, none⟩ = some (.slice A xs.length c)) (hx : RdL (Value.int .i64) w A xs) (hn : xs.length ≤ 1048576) :
    Calls Try.prog 106 #[.pointer (some ⟨p, 0, none⟩)] w fun e w' => e = .returned (.bool (vCells a0 a1 a2 xs)) ∧ ∃ n, w' = w.drewN n := by
  have HX := hid hx
  clear hx
  cases e0 : inB a0 2 64 with
  | false =>
    have hv := hid (show vCells a0 a1 a2 xs = false by simp [vCells, e0])
    go_enter Try.func106, Try.ntmps106
    go_wp2
    go_quiet ((first | (go_at_call 78; refine Calls.quiet_of_same ((l00In_any _ _ _ _).mono fun _ _ ⟨h, h'⟩ => ⟨h, h'.symm⟩)) | (go_at_call 73; refine Calls.quiet_of_same ((l02Key_any _ _).mono fun _ _ ⟨h, h'⟩ => ⟨h, h'.symm⟩))))
    go_wp2
    go_ret
    exact ⟨ret_bool hv.out.symm, _, rfl⟩
  | true =>
  cases e1 : inB a1 1 6 with
  | false =>
    have hv := hid (show vCells a0 a1 a2 xs = false by simp [vCells, e1])
    go_enter Try.func106, Try.ntmps106
    go_wp2
    go_quiet ((first | (go_at_call 78; refine Calls.quiet_of_same ((l00In_any _ _ _ _).mono fun _ _ ⟨h, h'⟩ => ⟨h, h'.symm⟩)) | (go_at_call 73; refine Calls.quiet_of_same ((l02Key_any _ _).mono fun _ _ ⟨h, h'⟩ => ⟨h, h'.symm⟩))))
    go_wp2
    go_ret
    exact ⟨ret_bool hv.out.symm, _, rfl⟩
  | true =>
  cases e2 : inB a2 0 4294967295 with
  | false =>
    have hv := hid (show vCells a0 a1 a2 xs = false by simp [vCells, e2])
    go_enter Try.func106, Try.ntmps106
    go_wp2
    go_quiet ((first | (go_at_call 78; refine Calls.quiet_of_same ((l00In_any _ _ _ _).mono fun _ _ ⟨h, h'⟩ => ⟨h, h'.symm⟩)) | (go_at_call 73; refine Calls.quiet_of_same ((l02Key_any _ _).mono fun _ _ ⟨h, h'⟩ => ⟨h, h'.symm⟩))))
    go_wp2
    go_ret
    exact ⟨ret_bool hv.out.symm, _, rfl⟩
  | true =>
  obtain ⟨hm0, hm1⟩ := mul_sides e0 e1
  have hwr : IntKind.i64.wrap (a0 * a1) = a0 * a1 := by rw [IntKind.wrap_i64]; omega
  by_cases e3 : (xs.length : Int) = a0 * a1
  · have hv := hid (show vCells a0 a1 a2 xs = allB xs (-1000000000000) 1000000000000 by simp [vCells, *])
    have hwr1 : IntKind.i64.wrap (a0 * a1) = (xs.length : Int) := by rw [hwr, e3]
    clear e3 hwr hm0 hm1
    go_enter Try.func106, Try.ntmps106
    go_wp2
    go_quiet ((first | (go_at_call 78; refine Calls.quiet_of_same ((l00In_any _ _ _ _).mono fun _ _ ⟨h, h'⟩ => ⟨h, h'.symm⟩)) | (go_at_call 73; refine Calls.quiet_of_same ((l02Key_any _ _).mono fun _ _ ⟨h, h'⟩ => ⟨h, h'.symm⟩))))
    go_wp2
    clear e0 e1 e2
    go_loopw [48] (fun i wr => ∃ k n : Nat, k ≤ xs.length ∧ i = .int .i64 k ∧ wr = w.drewN n ∧ Hid (allB (xs.take k) (-1000000000000) 1000000000000 = true)) (fun i _ => xs.length - (intOf i).toNat)
    case atStart => exact ⟨0, _, Nat.zero_le _, rfl, rfl, rfl⟩
    case round =>
      obtain ⟨k, n, hk, rfl, rfl, hh⟩ := hrel
      by_cases hlt : k < xs.length
      · have hi : (k : Int) < (xs.length : Int) := by omega
        obtain ⟨b', o', x, rfl, hc, hxk⟩ := HX.out.at_ hlt
        cases hb : inB x (-1000000000000) 1000000000000 with
        | true =>
          have he := hid (allB_snoc hh hxk hb)
          go_wp2_with ((go_at_call 78; refine (l00In_any _ _ _ _).mono ?_; rintro e w' ⟨rfl, rfl⟩))
          exact ⟨⟨k + 1, _, by omega, by go_num, rfl, he⟩, by simp [intOf]; omega⟩
        | false =>
          have he := hid (allB_no hxk hb)
          go_wp2_with ((go_at_call 78; refine (l00In_any _ _ _ _).mono ?_; rintro e w' ⟨rfl, rfl⟩))
          go_ret
          exact ⟨ret_bool (by rw [hv.out, he.out]), _, rfl⟩
      · have hi : ¬ (k : Int) < (xs.length : Int) := by omega
        go_wp2
        go_ret
        have he := hh.out
        rw [List.take_of_length_le (by omega)] at he
        exact ⟨ret_bool (by rw [hv.out, he]), _, rfl⟩
  · have t3 : ((xs.length : Int) == a0 * a1) = false := by simp [e3]
    have hv := hid (show vCells a0 a1 a2 xs = false by simp [vCells, e3])
    go_enter Try.func106, Try.ntmps106
    go_wp2
    go_quiet ((first | (go_at_call 78; refine Calls.quiet_of_same ((l00In_any _ _ _ _).mono fun _ _ ⟨h, h'⟩ => ⟨h, h'.symm⟩)) | (go_at_call 73; refine Calls.quiet_of_same ((l02Key_any _ _).mono fun _ _ ⟨h, h'⟩ => ⟨h, h'.symm⟩))))
    go_wp2
    go_ret
    exact ⟨ret_bool hv.out.symm, _, rfl⟩
set_option maxHeartbeats 400000 in
theorem sValidCells_any (a0 a1 a2 : Int) (A : Option Addr) (c : Nat) (x : List Int) (w : World) (h0 : W64 a0) (h1 : W64 a1) (h2 : W64 a2) (hx : RdL (Value.int .i64) w A x) (hn : x.length ≤ 1048576) (we : ∀ y ∈ x, W64 y) :
    Calls Try.prog 44 #[.agg #[.int .i64 a0, .int .i64 a1, .int .i64 a2, .slice A x.length c]] w fun e w' => e = .returned (.bool (vCells a0 a1 a2 x)) ∧ Below w.heap.size w w' := by
  have HX := hid hx
  clear hx we
  go_enter Try.func44, Try.ntmps44
  go_wp2_with fail
  refine (l03Is_any _ c A a0 a1 a2 x _ (by simp) (by simp) (by simp) (by simp) (HX.out.below (below_a1 _ _)) hn).mono ?_
  rintro e w' ⟨rfl, n, rfl⟩
  go_wp2
  go_ret
  exact ⟨rfl, below_drewN (below_a1 _ _) _⟩
set_option maxHeartbeats 2000000 in
theorem iValidCells_any (a0 a1 a2 : Int) (A : Option Addr) (c : Nat) (x : List Int) (w : World) (h0 : W64 a0) (h1 : W64 a1) (h2 : W64 a2) (hx : RdL (Value.int .i64) w A x) (hn : x.length ≤ 1048576) (we : ∀ y ∈ x, W64 y) :
    Calls Try.prog 43 #[.agg #[.int .i64 a0, .int .i64 a1, .int .i64 a2, .slice A x.length c]] w fun e w' => e = .returned (.bool (vCells a0 a1 a2 x)) ∧ Below w.heap.size w w' := by
  have HX := hid hx
  clear hx we h0 h1 h2
  cases e0 : inB a0 2 64 with
  | false =>
    have hv := hid (show vCells a0 a1 a2 x = false by simp [vCells, e0])
    go_enter Try.func43, Try.ntmps43
    go_wp2_with (first | (go_at_call 97; refine (within_any _ _ _ _).mono ?_; rintro e w' ⟨rfl, rfl⟩) | (go_at_call 63; refine (IsKey_any _ _).mono ?_; rintro e w' ⟨rfl, rfl⟩))
    go_ret
    exact ⟨ret_bool hv.out.symm, below_a1 _ _⟩
  | true =>
  cases e1 : inB a1 1 6 with
  | false =>
    have hv := hid (show vCells a0 a1 a2 x = false by simp [vCells, e1])
    go_enter Try.func43, Try.ntmps43
    go_wp2_with (first | (go_at_call 97; refine (within_any _ _ _ _).mono ?_; rintro e w' ⟨rfl, rfl⟩) | (go_at_call 63; refine (IsKey_any _ _).mono ?_; rintro e w' ⟨rfl, rfl⟩))
    go_ret
    exact ⟨ret_bool hv.out.symm, below_a1 _ _⟩
  | true =>
  cases e2 : inB a2 0 4294967295 with
  | false =>
    have hv := hid (show vCells a0 a1 a2 x = false by simp [vCells, e2])
    go_enter Try.func43, Try.ntmps43
    go_wp2_with (first | (go_at_call 97; refine (within_any _ _ _ _).mono ?_; rintro e w' ⟨rfl, rfl⟩) | (go_at_call 63; refine (IsKey_any _ _).mono ?_; rintro e w' ⟨rfl, rfl⟩))
    go_ret
    exact ⟨ret_bool hv.out.symm, below_a1 _ _⟩
  | true =>
  obtain ⟨hm0, hm1⟩ := mul_sides e0 e1
  by_cases e3 : (x.length : Int) = a0 * a1
  · have t3 : ((x.length : Int) == a0 * a1) = true := by simp [e3]
    have hv := hid (show vCells a0 a1 a2 x = allB x (-1000000000000) 1000000000000 by simp [vCells, *])
    clear e3
    go_enter Try.func43, Try.ntmps43
    go_wp2_with (first | (go_at_call 97; refine (within_any _ _ _ _).mono ?_; rintro e w' ⟨rfl, rfl⟩) | (go_at_call 63; refine (IsKey_any _ _).mono ?_; rintro e w' ⟨rfl, rfl⟩) | (go_at_call 105; refine (areWithin_any A c x _ _ _ (HX.out.below (below_a1 _ _)) hn).mono ?_; rintro e w1 ⟨rfl, hb⟩))
    go_ret
    exact ⟨ret_bool hv.out.symm, (below_call (below_a1 _ _) hb).out⟩
  · have t3 : ((x.length : Int) == a0 * a1) = false := by simp [e3]
    have hv := hid (show vCells a0 a1 a2 x = false by simp [vCells, e3])
    go_enter Try.func43, Try.ntmps43
    go_wp2_with (first | (go_at_call 97; refine (within_any _ _ _ _).mono ?_; rintro e w' ⟨rfl, rfl⟩) | (go_at_call 63; refine (IsKey_any _ _).mono ?_; rintro e w' ⟨rfl, rfl⟩))
    go_ret
    exact ⟨ret_bool hv.out.symm, below_a1 _ _⟩
end Go.Proofs.Ytmmolicodlmlkaa
namespace Go.Proofs.Ytmmolicodlmlkaa
open Go.RowKit
set_option linter.unusedVariables false

/-- The places of a key. -/
def spotsL (key salt size n : Nat) : List Int := (List.range n).map fun (j : Nat) => (belowN key (saltN salt j) size : Int)
theorem spotsL_succ (key salt size n : Nat) : (spotsL key salt size n).map (Value.int .i64) ++ [Value.int .i64 (belowN key (saltN salt n) size)] = (spotsL key salt size (n + 1)).map (Value.int .i64) := by
  simp [spotsL, List.range_succ]
theorem spotsL_length (key salt size n : Nat) : (spotsL key salt size n).length = n := by simp [spotsL]
theorem spotsL_mem {key salt size n : Nat} (hs : 0 < size) {x : Int} (h : x ∈ spotsL key salt size n) : ∃ m : Nat, x = m ∧ m < size := by
  simp only [spotsL, List.mem_map, List.mem_range] at h
  obtain ⟨j, _, rfl⟩ := h
  exact ⟨_, rfl, belowN_lt _ _ _ hs⟩

end Go.Proofs.Ytmmolicodlmlkaa
namespace Go.Proofs.Ytmmolicodlmlkaa
open Go.RowKit
set_option linter.unusedVariables false

/-- The index of the cell of a key in row i. -/
def placeN (wd s key i : Nat) : Nat := i * wd + belowN key (saltN s i) wd
theorem placeN_lt {wd s key i dp : Nat} (hw : 0 < wd) (hi : i < dp) : placeN wd s key i < wd * dp := by
  have h1 := belowN_lt key (saltN s i) wd hw
  have h2 : (i + 1) * wd ≤ dp * wd := Nat.mul_le_mul_right wd hi
  rw [Nat.add_mul] at h2
  rw [Nat.mul_comm wd dp]
  unfold placeN
  omega
theorem mul_le6 {i wd : Nat} (hi : i ≤ 6) (hw : wd ≤ 64) : (i : Int) * (wd : Int) ≤ 384 ∧ 0 ≤ (i : Int) * (wd : Int) := by
  have h : i * wd ≤ 6 * 64 := Nat.mul_le_mul hi hw
  have h2 : ((i * wd : Nat) : Int) = (i : Int) * (wd : Int) := Int.natCast_mul _ _
  omega
theorem place_cast (wd s key i : Nat) : ((placeN wd s key i : Nat) : Int) = (i : Int) * (wd : Int) + (belowN key (saltN s i) wd : Int) := by
  unfold placeN
  rw [Int.natCast_add, Int.natCast_mul]

set_option maxHeartbeats 800000 in
theorem l03Place_any (p wd s key i : Nat) (w : World) (h0 : w.cell? ⟨p, 0, none⟩ = some (.int .i64 wd)) (h2 : w.cell? ⟨p, 2, none⟩ = some (.int .i64 s)) (hw1 : 2 ≤ wd) (hw2 : wd ≤ 64) (hs : s < 4294967296) (hk : key < 4294967296) (hi : i ≤ 6) :
    Calls Try.prog 128 #[.pointer (some ⟨p, 0, none⟩), .int .i64 key, .int .i64 i] w fun e w' => e = .returned (.int .i64 (placeN wd s key i)) ∧ ∃ n, w' = w.drewN n := by
  have hm := mul_le6 hi hw2
  have hb := belowN_lt key (saltN s i) wd (by omega)
  have e1 : IntKind.i64.wrap ((i : Int) * (wd : Int)) = (i : Int) * (wd : Int) := by rw [IntKind.wrap_i64]; omega
  have e2 : IntKind.i64.wrap ((s : Int) + (i : Int)) = (s : Int) + (i : Int) := by rw [IntKind.wrap_i64]; omega
  have e3 : ((s : Int) + (i : Int)).tmod 4294967296 = (saltN s i : Int) := by rw [Int.tmod_eq_emod_of_nonneg (by omega)]; unfold saltN; omega
  have e4 : IntKind.i64.wrap ((i : Int) * (wd : Int) + (belowN key (saltN s i) wd : Int)) = (placeN wd s key i : Int) := by rw [IntKind.wrap_i64, place_cast]; omega
  go_enter Try.func128, Try.ntmps128
  go_wp2
  go_quiet ((go_at_call 154; refine Calls.quiet_of_same ((l02Below_any _ _ _ _ hk (saltN_lt _ _) (by omega)).mono fun _ _ ⟨h, h'⟩ => ⟨h, h'.symm⟩)))
  go_wp2
  go_ret
  exact ⟨rfl, _, rfl⟩
/-- An empty row of the call's own, behind a box. -/
theorem row_start1 (w : World) (o : Obj) (e : TypeId) : ((w.alloc o).alloc (.cells #[] e)).ownsRow (w.heap.size + 1) e 1 (.slice (some ⟨w.heap.size + 1, 0, none⟩) 0 0) 0 [] := by
  have h := World.ownsRow_made (base := w.heap.size + 1) (size := 1) (e := e) (w.alloc o) #[] 0 (by simp) (Nat.zero_le _) rfl
  rwa [World.size_alloc] at h

/-- The cells of a key in the first n rows. -/
def cellsL (wd s key n : Nat) : List Int := (List.range n).map fun i => (placeN wd s key i : Int)
theorem cellsL_succ (wd s key n : Nat) : (cellsL wd s key n).map (Value.int .i64) ++ [Value.int .i64 (placeN wd s key n)] = (cellsL wd s key (n + 1)).map (Value.int .i64) := by
  simp [cellsL, List.range_succ]
theorem cellsL_length (wd s key n : Nat) : (cellsL wd s key n).length = n := by simp [cellsL]
theorem cellsL_mem {wd s key dp : Nat} (hw : 0 < wd) {x : Int} (h : x ∈ cellsL wd s key dp) : ∃ m : Nat, x = m ∧ m < wd * dp := by
  simp only [cellsL, List.mem_map, List.mem_range] at h
  obtain ⟨j, hj, rfl⟩ := h
  exact ⟨_, rfl, placeN_lt hw hj⟩

set_option maxRecDepth 100000 in
set_option maxHeartbeats 1600000 in
theorem places_any (wd dp s key n c : Nat) (A : Option Addr) (w : World) (hw1 : 2 ≤ wd) (hw2 : wd ≤ 64) (hd : dp ≤ 6) (hs : s < 4294967296) (hk : key < 4294967296) :
    Calls Try.prog 92 #[.agg #[.int .i64 wd, .int .i64 dp, .int .i64 s, .slice A n c], .int .i64 key] w (RetL (Value.int .i64) 2 w (cellsL wd s key dp)) := by
  obtain ⟨i0, hi0, hz0, hz1, hz2⟩ := info_parts Try.infoI
  go_enter Try.func92, Try.ntmps92
  go_wp2
  go_loopw [5, 10] (fun v i wr => ∃ k : Nat, k ≤ dp ∧ i = .int .i64 k ∧ Hid (wr.ownsRow (w.heap.size + 1) 2 1 v k ((cellsL wd s key k).map (Value.int .i64))) ∧
      Hid (Below (w.heap.size + 1) (w.alloc (.cells #[.int .i64 wd, .int .i64 dp, .int .i64 s, .slice A n c] 37)) wr)) (fun _ i _ => dp - (intOf i).toNat)
  case atStart => exact ⟨0, Nat.zero_le _, rfl, row_start1 w _ _, (Below.refl _ _).alloc (by simp) _⟩
  case round =>
    obtain ⟨k, hkr, rfl, hown, hW⟩ := hrel
    have hBx : Hid (Blk wr w.heap.size 37 [.int .i64 wd, .int .i64 dp, .int .i64 s, .slice A n c]) := (hW.out.block w.heap.size (by omega)).trans (Blk.new w _ _)
    obtain ⟨c0, c1, c2, c3⟩ := hBx.out.cells4
    by_cases hlt : k < dp
    · have hi : (k : Int) < (dp : Int) := by omega
      have hm := mul_le6 (show k ≤ 6 by omega) hw2
      have hb := belowN_lt key (saltN s k) wd (by omega)
      have hlb : w.heap.size < wr.heap.size := hBx.out.lt
      have hag : u5.ownBlock ≠ some w.heap.size := fun e => by have := (hown.out.lt _ e).1; omega
      have hsl := saltN_lt s k
      have e1 : IntKind.i64.wrap ((k : Int) * (wd : Int)) = (k : Int) * (wd : Int) := by rw [IntKind.wrap_i64]; omega
      have e4 : IntKind.i64.wrap ((k : Int) * (wd : Int) + (belowN key (saltN s k) wd : Int)) = (placeN wd s key k : Int) := by rw [IntKind.wrap_i64, place_cast]; omega
      go_wp2
      go_region_held3 (fun w' => w'.cell? ⟨w.heap.size, 0, none⟩ = some (.int .i64 wd) ∧ w'.cell? ⟨w.heap.size, 2, none⟩ = some (.int .i64 s)) (first | go_keep | (go_split_ands; refine ⟨?_, ?_⟩ <;> (rw [hgrow.cell_far _ (by simp; omega) (Ne.symm hag)]; assumption)))
        (first
          | (go_at_call 114
             refine (salted_any _ _ _ hs (by omega)).mono ?_
             rintro e w' ⟨rfl, rfl⟩)
          | (go_at_call 110
             refine (ibelow_any _ _ _ _ hk hsl (by omega)).mono ?_
             rintro e w' ⟨rfl, rfl⟩)
          | (refine step_append_lies _ (by rfl) _ _ _ (by rfl) (w.heap.size + 1) 2 i0 _ 1 8 Try.underlying22 hi0 hz0 hz1 hz2 rfl (by omega) _ _ _ (by rfl) ((hown.out.alloc _).drew) ⟨wr.heap.size, 0, none⟩ 1 1 [.int .i64 (placeN wd s key k)] (by rfl) (by rfl) (World.news_of_block (cs := #[.int .i64 (placeN wd s key k)]) (t := 2) (fr := (0, 0)) (heap_alloc_new wr _)) (by simp [Value.oneCell']) (by omega) (by simp only [maxLen]; omega) (by omega) (by simp; omega) (wr.heap.size + 1) (by simp) ?_
             intro gg cap w1 hown1 hgrow hat hlt'))
      rw [cellsL_succ] at hown1
      have O1 := hid hown1
      have W1 : Hid (Below (w.heap.size + 1) (w.alloc (.cells #[.int .i64 wd, .int .i64 dp, .int .i64 s, .slice A n c] 37)) w1) :=
        ((hW.out.alloc (by omega) _).drew).grown hgrow (by simp; omega) (fun g hg => (hown.out.lt g hg).1)
      clear hown1 hgrow hat hlt' e1 e4 c0 c1 c2 c3 hag
      go_wp2
      exact ⟨⟨k + 1, by omega, by go_num, O1, W1⟩, by simp [intOf]; omega⟩
    · have hi : ¬ (k : Int) < (dp : Int) := by omega
      go_wp2
      go_ret
      obtain rfl : k = dp := by omega
      obtain ⟨A', c', hv, ho⟩ := ownS_of_row hown.out (cellsL_length _ _ _ _)
      exact ⟨A', c', congrArg Ending.returned hv, ho.mono (by omega), (below_a1 _ _).trans (hW.out.mono (by omega))⟩

end Go.Proofs.Ytmmolicodlmlkaa
namespace Go.Proofs.Ytmmolicodlmlkaa
open Go.RowKit
set_option linter.unusedVariables false

theorem rd_news {α : Type} {f : α → Value} {w : World} {ad : Addr} {x : List α} (h : RdL f w (some ad) x) : ∀ j u, (x.map f)[j]? = some u → w.cell? (ad.add j) = some u := fun j u hu => by
  rw [List.getElem?_map] at hu
  by_cases hj : j < x.length
  · obtain ⟨b, o, hA, hc⟩ := h j hj
    injection hA with hA
    subst hA
    rw [List.getElem?_eq_getElem hj] at hu
    have : (⟨b, o, none⟩ : Addr).add j = ⟨b, o + j, none⟩ := by unfold Addr.add; split <;> simp_all
    rw [this, hc]
    simpa using hu
  · rw [List.getElem?_eq_none (by omega)] at hu
    cases hu
theorem rd_none {α : Type} {f : α → Value} {w : World} {x : List α} (h : RdL f w none x) : x = [] := by
  rcases x with _ | ⟨a, x⟩
  · rfl
  · obtain ⟨b, o, hA, _⟩ := h 0 (by simp)
    cases hA

theorem Try.infoB : (Try.prog.info? 4).map (fun i => (i.zero, i.size, i.bytes)) = some (some (.bool false), 1, 1) := by kernel_rfl
theorem OwnS.setFar {α : Type} {f : α → Value} {w : World} {B : Nat} {t : TypeId} {A : Option Addr} {xs : List α} (h : OwnS f w B t A xs) {p : Addr} (hp : p.block < B) (u : Value) : OwnS f (w.setCell p u) B t A xs := fun hn => by
  obtain ⟨g, ex, hA, hB, hb⟩ := h hn
  exact ⟨g, ex, hA, hB, hb.far (by omega) u⟩
theorem ownS_lit {α : Type} {f : α → Value} {w : World} {B : Nat} {e : TypeId} {g c n : Nat} {l : List Value} {xs : List α} (h : w.ownsRow B e 1 (.slice (some ⟨g, 0, none⟩) n c) n l) (hl : l = xs.map f) (hn : xs.length = n) : OwnS f w B e (some ⟨g, 0, none⟩) xs := by
  subst hl
  obtain ⟨A, c', hv, ho⟩ := ownS_of_row h hn
  injection hv with h1
  rw [h1]; exact ho
set_option maxRecDepth 100000 in
set_option maxHeartbeats 800000 in
theorem cloneI_any (A : Option Addr) (c : Nat) (x : List Int) (w : World) (hx : RdL (Value.int .i64) w A x) (hn : x.length ≤ 1048576) :
    Calls Try.prog 118 #[.slice A x.length c] w (RetL (Value.int .i64) 2 w x) := by
  obtain ⟨i0, hi0, hz0, hz1, hz2⟩ := info_parts Try.infoI
  have q22 : ∀ (w : World) (a : Option Addr) (n c n' c' : Nat), (binOp .eql 22 (.slice a n c) (.slice none n' c')).run Try.prog w = .ok (.bool a.isNone) w := fun w a n c n' c' => Lib.run_eql_slice_nil w _ _ a n c n' c' Try.underlying22
  cases A with
  | none =>
    obtain rfl := rd_none hx
    go_enter Try.func118, Try.ntmps118
    go_wp2
    go_ret
    exact ⟨none, 0, rfl, OwnS.nil, Below.refl _ _⟩
  | some ad =>
    have HX := hid hx
    clear hx
    go_enter Try.func118, Try.ntmps118
    go_wp2_with (at_builtin; refine wpList_append_own _ rfl _ _ 22 rfl w.heap.size 2 i0 (.int .i64 0) 1 8 Try.underlying22 hi0 hz0 hz1 hz2 rfl (by decide) _ 0 [] rfl (World.ownsRow_made w #[] 0 (Nat.le_refl _) (Nat.zero_le _) rfl) ad x.length c (x.map (Value.int .i64)) rfl ?c1 (rd_news (HX.out.below (below_a1 _ _))) ?c2 ?c3 ?c4 ?c5 ?_)
    case c1 => simp
    case c2 => intro u hu; obtain ⟨y, _, rfl⟩ := List.mem_map.1 hu; rfl
    case c3 => simp only [maxLen]; omega
    case c4 => omega
    case c5 => simp
    intro v' w1 hown' hgrow _
    have O1 := hid hown'
    have W1 : Hid (Below w.heap.size w w1) := ((Below.refl _ w).alloc (Nat.le_refl _) _).grown hgrow (by simp) (by intro k hk; simp [Value.ownBlock] at hk; omega)
    clear hown' hgrow
    go_wp2
    go_ret
    obtain ⟨A', c', hv, ho⟩ := ownS_of_row (f := (Value.int .i64)) (xs := x) (n := 0 + x.length) (by simpa using O1.out) (by simp)
    exact ⟨A', c', congrArg Ending.returned hv, ho, W1.out⟩
end Go.Proofs.Ytmmolicodlmlkaa
namespace Go.Proofs.Ytmmolicodlmlkaa
open Go.RowKit
set_option linter.unusedVariables false

/-- It hands back cells of its own, and whether it could. -/
def RetCl (w : World) (p : (Int × Int × Int × List Int) × Bool) (e : Ending) (w' : World) : Prop := ∃ A c,
  e = .returned (.tuple #[.agg #[.int .i64 p.1.1, .int .i64 p.1.2.1, .int .i64 p.1.2.2.1, .slice A p.1.2.2.2.length c], .bool p.2]) ∧ OwnS (Value.int .i64) w' w.heap.size 2 A p.1.2.2.2 ∧ p.1.2.2.2.length ≤ 1048576 ∧ Below w.heap.size w w'
theorem retCl_no {w : World} : ∀ (e : Ending) (w' : World), (e = .returned (.tuple #[.agg #[.int .i64 0, .int .i64 0, .int .i64 0, .slice none 0 0], .bool false]) ∧ Below w.heap.size w w') → RetCl w ((0, 0, 0, []), false) e w' :=
  fun e w' ⟨he, hb⟩ => ⟨none, 0, he, OwnS.nil, by simp, hb⟩
theorem w64_of_bounds {a : Int} (h : -9223372036854775808 ≤ a ∧ a ≤ 9223372036854775807) : W64 a := by
  simpa [W64, Lit.wf, IntKind.min, IntKind.max, IntKind.signed, IntKind.bits] using h
theorem vCells_w64 {a0 a1 a2 : Int} {x : List Int} (h : vCells a0 a1 a2 x = true) : ∀ y ∈ x, W64 y := fun y hy => by
  simp only [vCells, Bool.and_eq_true] at h
  have h2 := h.2
  unfold allB at h2
  rw [List.all_eq_true] at h2
  have := inB_iff.1 (h2 y hy)
  exact w64_of_bounds (by omega)

set_option maxHeartbeats 800000 in
theorem ifCells_yes (a0 a1 a2 : Int) (A : Option Addr) (n c : Nat) (x : List Int) (w : World) (h0 : W64 a0) (h1 : W64 a1) (h2 : W64 a2) (hl : x.length = n) (hx : RdL (Value.int .i64) w A x) (hn : n ≤ 1048576) (we : ∀ y ∈ x, W64 y) (hv : vCells a0 a1 a2 x = true) :
    Calls Try.prog 98 #[.agg #[.int .i64 a0, .int .i64 a1, .int .i64 a2, .slice A n c]] w fun e w' => e = .returned (.tuple #[.agg #[.int .i64 a0, .int .i64 a1, .int .i64 a2, .slice A n c], .bool true]) ∧ Below w.heap.size w w' := by
  subst hl
  have HX := hid hx
  have WE := hid we
  have B0 := hid ((Blk.new w 37 [.int .i64 a0, .int .i64 a1, .int .i64 a2, .slice A x.length c]).alloc (.cells #[.int .i64 0, .int .i64 0, .int .i64 0, .slice none 0 0] 37))
  have R0 := hid (Blk.new2 w (.cells #[.int .i64 a0, .int .i64 a1, .int .i64 a2, .slice A x.length c] 37) 37 [.int .i64 0, .int .i64 0, .int .i64 0, .slice none 0 0])
  clear hx we
  go_enter Try.func98, Try.ntmps98
  go_wp2_with fail
  refine (iValidCells_any a0 a1 a2 A c x _ h0 h1 h2 (HX.out.below (below_a2 _ _ _)) hn WE.out).mono ?_
  rw [hv]
  rintro e w1 ⟨rfl, hb⟩
  obtain ⟨c0, c1, c2, c3⟩ := (B0.out.below hb).cells4
  obtain ⟨d0, d1, d2, d3⟩ := (R0.out.below hb).cells4
  have f0 := (R0.out.below hb).frozen 0
  have f1 := (R0.out.below hb).frozen 1
  have f2 := (R0.out.below hb).frozen 2
  have f3 := (R0.out.below hb).frozen 3
  have S1 := below_call (below_a2 _ _ _) hb
  clear hb B0 R0
  go_wp2
  refine bodyPost_ret (v := .tuple #[.agg #[.int .i64 a0, .int .i64 a1, .int .i64 a2, .slice A x.length c], .bool true]) (by simp [results, Try.results98, go_sem, d0, d1, d2, d3]) rfl ⟨rfl, ?_⟩
  exact (((S1.out.setCell (by simp) _).setCell (by simp) _).setCell (by simp) _).setCell (by simp) _
set_option maxHeartbeats 800000 in
theorem ifCells_no (a0 a1 a2 : Int) (A : Option Addr) (n c : Nat) (x : List Int) (w : World) (h0 : W64 a0) (h1 : W64 a1) (h2 : W64 a2) (hl : x.length = n) (hx : RdL (Value.int .i64) w A x) (hn : n ≤ 1048576) (we : ∀ y ∈ x, W64 y) (hv : vCells a0 a1 a2 x = false) :
    Calls Try.prog 98 #[.agg #[.int .i64 a0, .int .i64 a1, .int .i64 a2, .slice A n c]] w fun e w' => e = .returned (.tuple #[.agg #[.int .i64 0, .int .i64 0, .int .i64 0, .slice none 0 0], .bool false]) ∧ Below w.heap.size w w' := by
  subst hl
  have HX := hid hx
  have WE := hid we
  have R0 := hid (Blk.new2 w (.cells #[.int .i64 a0, .int .i64 a1, .int .i64 a2, .slice A x.length c] 37) 37 [.int .i64 0, .int .i64 0, .int .i64 0, .slice none 0 0])
  clear hx we
  go_enter Try.func98, Try.ntmps98
  go_wp2_with fail
  refine (iValidCells_any a0 a1 a2 A c x _ h0 h1 h2 (HX.out.below (below_a2 _ _ _)) hn WE.out).mono ?_
  rw [hv]
  rintro e w1 ⟨rfl, hb⟩
  obtain ⟨d0, d1, d2, d3⟩ := (R0.out.below hb).cells4
  have f0 := (R0.out.below hb).frozen 0
  have f1 := (R0.out.below hb).frozen 1
  have f2 := (R0.out.below hb).frozen 2
  have f3 := (R0.out.below hb).frozen 3
  have S1 := below_call (below_a2 _ _ _) hb
  clear hb R0
  go_wp2
  refine bodyPost_ret (v := .tuple #[.agg #[.int .i64 0, .int .i64 0, .int .i64 0, .slice none 0 0], .bool false]) (by simp [results, Try.results98, go_sem, d0, d1, d2, d3]) rfl ⟨rfl, ?_⟩
  exact (((S1.out.setCell (by simp) _).setCell (by simp) _).setCell (by simp) _).setCell (by simp) _

/-- What cells are handed back that are given only if they are valid. -/
def GiveCl (a0 a1 a2 : Int) (x : List Int) (A : Option Addr) (n c : Nat) (b0 b1 b2 : Int) (A' : Option Addr) (n' c' : Nat) (t : Bool) : Prop :=
  (vCells a0 a1 a2 x = true ∧ b0 = a0 ∧ b1 = a1 ∧ b2 = a2 ∧ A' = A ∧ n' = n ∧ c' = c ∧ t = true) ∨ (vCells a0 a1 a2 x = false ∧ b0 = 0 ∧ b1 = 0 ∧ b2 = 0 ∧ A' = none ∧ n' = 0 ∧ c' = 0 ∧ t = false)
/-- Cells, if they are valid. -/
def giveP (a0 a1 a2 : Int) (x : List Int) : (Int × Int × Int × List Int) × Bool := if vCells a0 a1 a2 x = true then ((a0, a1, a2, x), true) else ((0, 0, 0, []), false)
theorem retCl_give {w w' : World} {a0 a1 a2 : Int} {x : List Int} {A : Option Addr} {n c : Nat} {b0 b1 b2 : Int} {A' : Option Addr} {n' c' : Nat} {t : Bool} (hh : GiveCl a0 a1 a2 x A n c b0 b1 b2 A' n' c' t)
    (ho : OwnS (Value.int .i64) w' w.heap.size 2 A x) (hl : x.length = n) (hn : n ≤ 1048576) (hb : Below w.heap.size w w') : RetCl w (giveP a0 a1 a2 x) (.returned (.tuple #[.agg #[.int .i64 b0, .int .i64 b1, .int .i64 b2, .slice A' n' c'], .bool t])) w' := by
  subst hl
  rcases hh with ⟨hv, rfl, rfl, rfl, rfl, rfl, rfl, rfl⟩ | ⟨hv, rfl, rfl, rfl, rfl, rfl, rfl, rfl⟩
  · rw [giveP, if_pos hv]
    exact ⟨A', c', rfl, ho, hn, hb⟩
  · rw [giveP, if_neg (by rw [hv]; decide)]
    exact ⟨none, 0, rfl, OwnS.nil, by simp, hb⟩
theorem ifCells_any (a0 a1 a2 : Int) (A : Option Addr) (n c : Nat) (x : List Int) (w : World) (h0 : W64 a0) (h1 : W64 a1) (h2 : W64 a2) (hl : x.length = n) (hx : RdL (Value.int .i64) w A x) (hn : n ≤ 1048576) (we : ∀ y ∈ x, W64 y) :
    Calls Try.prog 98 #[.agg #[.int .i64 a0, .int .i64 a1, .int .i64 a2, .slice A n c]] w fun e w' => ∃ b0 b1 b2 A' n' c' t, e = .returned (.tuple #[.agg #[.int .i64 b0, .int .i64 b1, .int .i64 b2, .slice A' n' c'], .bool t]) ∧ Hid (GiveCl a0 a1 a2 x A n c b0 b1 b2 A' n' c' t) ∧ Below w.heap.size w w' := by
  cases hv : vCells a0 a1 a2 x with
  | true => exact (ifCells_yes a0 a1 a2 A n c x w h0 h1 h2 hl hx hn we hv).mono fun e w' ⟨he, hb⟩ => ⟨a0, a1, a2, A, n, c, true, he, .inl ⟨hv, rfl, rfl, rfl, rfl, rfl, rfl, rfl⟩, hb⟩
  | false => exact (ifCells_no a0 a1 a2 A n c x w h0 h1 h2 hl hx hn we hv).mono fun e w' ⟨he, hb⟩ => ⟨0, 0, 0, none, 0, 0, false, he, .inr ⟨hv, rfl, rfl, rfl, rfl, rfl, rfl, rfl⟩, hb⟩

/-- Sides and a salt of cells. -/
def sidesB (a0 a1 a2 : Int) : Bool := inB a0 2 64 && inB a1 1 6 && inB a2 0 4294967295
/-- What NewCells returns. -/
def pNewCells (a0 a1 a2 : Int) : (Int × Int × Int × List Int) × Bool :=
  if sidesB a0 a1 a2 = true then ((a0, a1, a2, List.replicate (a0 * a1).toNat 0), true) else ((0, 0, 0, []), false)
theorem pNewCells_no {a b c : Int} (h : sidesB a b c = false) : pNewCells a b c = ((0, 0, 0, []), false) := by simp [pNewCells, h]
theorem pNewCells_yes {a b c : Int} (h : sidesB a b c = true) : pNewCells a b c = ((a, b, c, List.replicate (a * b).toNat 0), true) := by simp [pNewCells, h]
theorem sidesB_iff {a b c : Int} (h : sidesB a b c = true) : inB a 2 64 = true ∧ inB b 1 6 = true ∧ inB c 0 4294967295 = true := by
  simp only [sidesB, Bool.and_eq_true] at h
  exact ⟨h.1.1, h.1.2, h.2⟩
theorem allB_zeros (n : Nat) : allB (List.replicate n 0) (-1000000000000) 1000000000000 = true := by
  unfold allB
  rw [List.all_eq_true]
  intro y hy
  obtain ⟨_, rfl⟩ := List.mem_replicate.1 hy
  decide
theorem vCells_new {a b c : Int} (h : inB a 2 64 = true) (h' : inB b 1 6 = true) {n : Nat} (hn : (n : Int) = a * b) : vCells a b c (List.replicate n 0) = inB c 0 4294967295 := by
  simp [vCells, h, h', allB_zeros, hn]

set_option maxHeartbeats 400000 in
theorem l03Sides_any (a0 a1 a2 : Int) (w : World) :
    Calls Try.prog 85 #[.int .i64 a0, .int .i64 a1, .int .i64 a2] w fun e w' => e = .returned (.bool (sidesB a0 a1 a2)) ∧ w = w' := by
  have key : ∀ x y z, inB a0 2 64 = x → inB a1 1 6 = y → inB a2 0 4294967295 = z → Calls Try.prog 85 #[.int .i64 a0, .int .i64 a1, .int .i64 a2] w fun e w' => e = .returned (.bool (x && y && z)) ∧ w = w' := by
    intro x y z hx hy hz
    cases x <;> cases y <;> cases z <;>
    · go_enter Try.func85, Try.ntmps85
      go_wp2_with (first | (go_at_call 78; refine (l00In_any _ _ _ _).mono ?_; rintro e w' ⟨rfl, rfl⟩) | (go_at_call 73; refine (l02Key_any _ _).mono ?_; rintro e w' ⟨rfl, rfl⟩))
      go_ret
      exact ⟨by simp, rfl⟩
  exact key _ _ _ rfl rfl rfl
set_option maxHeartbeats 800000 in
theorem l03New_any (a0 a1 a2 : Int) (n : Nat) (w : World) (hn : (n : Int) = a0 * a1) (hn1 : n ≤ 384) :
    Calls Try.prog 86 #[.int .i64 a0, .int .i64 a1, .int .i64 a2] w fun e w' => ∃ A c, e = .returned (.agg #[.int .i64 a0, .int .i64 a1, .int .i64 a2, .slice A n c]) ∧ OwnS (Value.int .i64) w' w.heap.size 2 A (List.replicate n 0) ∧ Below w.heap.size w w' := by
  have e1 : IntKind.i64.wrap (a0 * a1) = (n : Int) := by rw [← hn, IntKind.wrap_i64]; omega
  clear hn
  have hmk := run_make_row' (P := Try.prog) 22 2 (.int .i64 0) 8 Try.underlying22 (by kernel_rfl) rfl .i64 .i64 n (by omega) (by omega)
  go_enter Try.func86, Try.ntmps86
  go_wp2
  clear hmk
  refine bodyPost_ret (v := .agg #[.int .i64 a0, .int .i64 a1, .int .i64 a2, .slice (some ⟨w.heap.size + 1, 0, none⟩) n n]) (by simp [results, Try.results86, go_sem]) rfl ⟨some ⟨w.heap.size + 1, 0, none⟩, n, rfl, ?_, below_a2 _ _ _⟩
  rw [madeCells_one]
  refine OwnS.of_blk ?_ (by omega)
  rw [List.map_replicate]
  exact Blk.new2 _ _ _ _
set_option maxHeartbeats 1600000 in
theorem iNewCells_any (a0 a1 a2 : Int) (w : World) (h0 : W64 a0) (h1 : W64 a1) (h2 : W64 a2) :
    Calls Try.prog 37 #[.int .i64 a0, .int .i64 a1, .int .i64 a2] w (RetCl w (pNewCells a0 a1 a2)) := by
  cases e0 : inB a0 2 64 with
  | false =>
    rw [pNewCells_no (by simp [sidesB, e0])]
    refine Calls.mono ?_ retCl_no
    go_enter Try.func37, Try.ntmps37
    go_wp2_with ((go_at_call 97; refine (within_any _ _ _ _).mono ?_; rintro e w' ⟨rfl, rfl⟩))
    refine bodyPost_ret (v := .tuple #[.agg #[.int .i64 0, .int .i64 0, .int .i64 0, .slice none 0 0], .bool false]) (by simp [results, Try.results37, go_sem]) rfl ⟨rfl, below_a1 _ _⟩
  | true =>
  cases e1 : inB a1 1 6 with
  | false =>
    rw [pNewCells_no (by simp [sidesB, e1])]
    refine Calls.mono ?_ retCl_no
    go_enter Try.func37, Try.ntmps37
    go_wp2_with ((go_at_call 97; refine (within_any _ _ _ _).mono ?_; rintro e w' ⟨rfl, rfl⟩))
    refine bodyPost_ret (v := .tuple #[.agg #[.int .i64 0, .int .i64 0, .int .i64 0, .slice none 0 0], .bool false]) (by simp [results, Try.results37, go_sem]) rfl ⟨rfl, below_a1 _ _⟩
  | true =>
  obtain ⟨hm0, hm1⟩ := mul_sides e0 e1
  obtain ⟨n, hn⟩ := Int.eq_ofNat_of_zero_le (show 0 ≤ a0 * a1 by omega)
  have hn1 : n ≤ 384 := by omega
  have ew : IntKind.i64.wrap (a0 * a1) = (n : Int) := by rw [hn, IntKind.wrap_i64]; omega
  have HV := hid (vCells_new (c := a2) e0 e1 hn.symm)
  have hmk := run_make_row' (P := Try.prog) 22 2 (.int .i64 0) 8 Try.underlying22 (by kernel_rfl) rfl .i64 .i64 n (by omega) (by omega)
  have HN := hid hn
  have hZ : RdL (Value.int .i64) ((w.alloc (.cells #[.int .i64 0, .int .i64 0, .int .i64 0, .slice none 0 0] 37)).alloc (.cells (madeCells #[.int .i64 0] n) 2)) (some ⟨w.heap.size + 1, 0, none⟩) (List.replicate n 0) := by
    refine Blk.rd0 ?_ (t := 2)
    rw [madeCells_one, List.map_replicate]
    exact Blk.new2 _ _ _ _
  have HZ := hid hZ
  have HO : Hid (OwnS (Value.int .i64) ((w.alloc (.cells #[.int .i64 0, .int .i64 0, .int .i64 0, .slice none 0 0] 37)).alloc (.cells (madeCells #[.int .i64 0] n) 2)) (w.heap.size + 1) 2 (some ⟨w.heap.size + 1, 0, none⟩) (List.replicate n 0)) := by
    refine OwnS.of_blk ?_ (by omega)
    rw [madeCells_one, List.map_replicate]
    exact Blk.new2 _ _ _ _
  have R0 := hid ((Blk.new w 37 [.int .i64 0, .int .i64 0, .int .i64 0, .slice none 0 0]).alloc (.cells (madeCells #[.int .i64 0] n) 2))
  have hw0 : ∀ y ∈ List.replicate n (0 : Int), W64 y := fun y hy => by
    obtain ⟨_, rfl⟩ := List.mem_replicate.1 hy
    exact w64_of_bounds (by omega)
  have HW := hid hw0
  clear hn hm0 hm1 hZ hw0
  cases e2 : inB a2 0 4294967295 with
  | false =>
    rw [pNewCells_no (by simp [sidesB, e2])]
    refine Calls.mono ?_ retCl_no
    go_enter Try.func37, Try.ntmps37
    go_wp2_with ((go_at_call 97; refine (within_any _ _ _ _).mono ?_; rintro e w' ⟨rfl, rfl⟩))
    refine (ifCells_no a0 a1 a2 _ n n (List.replicate n 0) _ h0 h1 h2 (by simp) HZ.out (by omega) HW.out (HV.out.trans e2)).mono ?_
    rintro e w1 ⟨rfl, hb⟩
    obtain ⟨d0, d1, d2, d3⟩ := (R0.out.below hb).cells4
    have f0 := (R0.out.below hb).frozen 0
    have f1 := (R0.out.below hb).frozen 1
    have f2 := (R0.out.below hb).frozen 2
    have f3 := (R0.out.below hb).frozen 3
    have S1 := below_call (below_a2 _ _ _) hb
    clear hb hmk ew
    go_wp2
    refine bodyPost_ret (v := .tuple #[.agg #[.int .i64 0, .int .i64 0, .int .i64 0, .slice none 0 0], .bool false]) (by simp [results, Try.results37, go_sem, d0, d1, d2, d3]) rfl ⟨rfl, ?_⟩
    exact (((S1.out.setCell (by simp) _).setCell (by simp) _).setCell (by simp) _).setCell (by simp) _
  | true =>
    rw [pNewCells_yes (by simp [sidesB, e0, e1, e2]), HN.out, Int.toNat_natCast]
    go_enter Try.func37, Try.ntmps37
    go_wp2_with ((go_at_call 97; refine (within_any _ _ _ _).mono ?_; rintro e w' ⟨rfl, rfl⟩))
    refine (ifCells_yes a0 a1 a2 _ n n (List.replicate n 0) _ h0 h1 h2 (by simp) HZ.out (by omega) HW.out (HV.out.trans e2)).mono ?_
    rintro e w1 ⟨rfl, hb⟩
    obtain ⟨d0, d1, d2, d3⟩ := (R0.out.below hb).cells4
    have f0 := (R0.out.below hb).frozen 0
    have f1 := (R0.out.below hb).frozen 1
    have f2 := (R0.out.below hb).frozen 2
    have f3 := (R0.out.below hb).frozen 3
    have O1 := hid (HO.out.below hb)
    have S1 := below_call (below_a2 _ _ _) hb
    clear hb hmk ew
    go_wp2
    refine bodyPost_ret (v := .tuple #[.agg #[.int .i64 a0, .int .i64 a1, .int .i64 a2, .slice (some ⟨w.heap.size + 1, 0, none⟩) n n], .bool true]) (by simp [results, Try.results37, go_sem, d0, d1, d2, d3]) rfl ⟨some ⟨w.heap.size + 1, 0, none⟩, n, by simp, ?_, by simp; omega, ?_⟩
    · exact ((((O1.out.setFar (by simp) _).setFar (by simp) _).setFar (by simp) _).setFar (by simp) _).mono (by omega)
    · exact (((S1.out.setCell (by simp) _).setCell (by simp) _).setCell (by simp) _).setCell (by simp) _
end Go.Proofs.Ytmmolicodlmlkaa
namespace Go.Proofs.Ytmmolicodlmlkaa
open Go.RowKit

/-- d is added at all listed places. -/
def addAt (d : Int) (x l : List Int) : List Int := l.foldl (fun x p => x.set p.toNat (x.getD p.toNat 0 + d)) x
theorem addAt_length (d : Int) (x l : List Int) : (addAt d x l).length = x.length := by
  unfold addAt
  induction l generalizing x with
  | nil => rfl
  | cons a l ih => rw [List.foldl_cons, ih]; simp
theorem addAt_zero (d : Int) (x l : List Int) : addAt d x (l.take 0) = x := by simp [addAt]
theorem addAt_succ {d : Int} {x l : List Int} {k m : Nat} {u : Int} (h : Hid (l[k]? = some (m : Int))) (hu : Hid ((addAt d x (l.take k))[m]? = some u)) : (addAt d x (l.take k)).set m (u + d) = addAt d x (l.take (k + 1)) := by
  have hu' := hu.out
  unfold addAt at hu' ⊢
  rw [List.take_add_one, h.out, List.foldl_append]
  simp only [Option.toList_some, List.foldl_cons, List.foldl_nil, Int.toNat_natCast]
  rw [List.getD_eq_getElem?_getD, hu']
  rfl
theorem addAt_bound {lo hi D d : Int} {x l : List Int} (hx : ∀ y ∈ x, lo ≤ y ∧ y ≤ hi) (hd : -D ≤ d ∧ d ≤ D) (hD : 0 ≤ D) : ∀ y ∈ addAt d x l, lo - D * (l.length : Int) ≤ y ∧ y ≤ hi + D * (l.length : Int) := by
  induction l generalizing x lo hi with
  | nil =>
    intro y hy
    have := hx y hy
    simp only [List.length_nil, Int.natCast_zero, Int.mul_zero]
    omega
  | cons a l ih =>
    have h1 : ∀ y ∈ x.set a.toNat (x.getD a.toNat 0 + d), lo - D ≤ y ∧ y ≤ hi + D := by
      intro y hy
      by_cases hlt : a.toNat < x.length
      · rcases List.mem_or_eq_of_mem_set hy with h | h
        · have := hx y h; omega
        · subst h
          have hm : x.getD a.toNat 0 ∈ x := by rw [List.getD_eq_getElem?_getD, List.getElem?_eq_getElem hlt]; simp
          have := hx _ hm
          omega
      · rw [List.set_eq_of_length_le (by omega)] at hy
        have := hx y hy; omega
    intro y hy
    have h2 := ih h1 y (by simpa [addAt] using hy)
    have h3 : D * ((l.length + 1 : Nat) : Int) = D * (l.length : Int) + D := by rw [Int.natCast_add]; simp [Int.mul_add]
    rw [List.length_cons, h3]
    omega
end Go.Proofs.Ytmmolicodlmlkaa
namespace Go.Proofs.Ytmmolicodlmlkaa
open Go.RowKit
set_option linter.unusedVariables false

/-- The bits at all listed places are true. -/
def allAt (x : List Bool) (l : List Int) : Bool := l.all fun p => x.getD p.toNat false
theorem allAt_snoc {x : List Bool} {l : List Int} {k m : Nat} (h : Hid (allAt x (l.take k) = true)) (hl : Hid (l[k]? = some (m : Int))) (hx : Hid (x[m]? = some true)) : allAt x (l.take (k + 1)) = true := by
  have h0 := h.out
  unfold allAt at h0 ⊢
  rw [List.take_add_one, hl.out]
  simp only [Option.toList_some, List.all_append, h0, List.all_cons, List.all_nil, Bool.and_true, Bool.true_and, Int.toNat_natCast]
  rw [List.getD_eq_getElem?_getD, hx.out]; rfl
theorem allAt_no {x : List Bool} {l : List Int} {k m : Nat} (hl : Hid (l[k]? = some (m : Int))) (hx : Hid (x[m]? = some false)) : allAt x l = false := by
  unfold allAt
  rw [List.all_eq_false]
  refine ⟨m, List.mem_of_getElem? hl.out, ?_⟩
  rw [List.getD_eq_getElem?_getD, Int.toNat_natCast, hx.out]; simp
/-- What InSieve returns. -/
def pInSieve (r s : Int) (x : List Bool) (key : Int) : Bool × Bool :=
  if vSieve r s x.length = true ∧ inB key 0 4294967295 = true then (allAt x (spotsL key.toNat s.toNat x.length r.toNat), true) else (false, false)
theorem vSieve_iff {r s : Int} {n : Nat} (h : vSieve r s n = true) : (1 ≤ r ∧ r ≤ 8) ∧ (0 ≤ s ∧ s ≤ 4294967295) ∧ 1 ≤ n ∧ n ≤ 512 := by
  simp [vSieve, inB] at h; omega

end Go.Proofs.Ytmmolicodlmlkaa
namespace Go.Proofs.Ytmmolicodlmlkaa
open Go.RowKit
set_option linter.unusedVariables false

/-- The bits at all listed places become true. -/
def putAt (x : List Bool) (l : List Int) : List Bool := l.foldl (fun x p => x.set p.toNat true) x
theorem putAt_length (x : List Bool) (l : List Int) : (putAt x l).length = x.length := by
  unfold putAt
  induction l generalizing x with
  | nil => rfl
  | cons a l ih => rw [List.foldl_cons, ih]; simp
theorem putAt_zero (x : List Bool) (l : List Int) : putAt x (l.take 0) = x := by simp [putAt]
theorem putAt_succ {x : List Bool} {l : List Int} {k m : Nat} (h : Hid (l[k]? = some (m : Int))) : (putAt x (l.take k)).set m true = putAt x (l.take (k + 1)) := by
  unfold putAt
  rw [List.take_add_one, h.out, List.foldl_append]
  simp
/-- All keys' places. -/
def putKeys (x : List Bool) (s n r : Nat) (keys : List Int) : List Bool := keys.foldl (fun x key => putAt x (spotsL key.toNat s n r)) x
theorem putKeys_length (x : List Bool) (s n r : Nat) (keys : List Int) : (putKeys x s n r keys).length = x.length := by
  unfold putKeys
  induction keys generalizing x with
  | nil => rfl
  | cons a l ih => rw [List.foldl_cons, ih, putAt_length]
theorem putKeys_succ {x : List Bool} {s n r k key : Nat} {keys : List Int} (h : Hid (keys[k]? = some (key : Int))) : putAt (putKeys x s n r (keys.take k)) (spotsL key s n r) = putKeys x s n r (keys.take (k + 1)) := by
  unfold putKeys
  rw [List.take_add_one, h.out, List.foldl_append]
  simp
/-- What PutSieve returns. -/
def pPutSieve (r s : Int) (x : List Bool) (key : Int) : (Int × Int × List Bool) × Bool :=
  if vSieve r s x.length = true ∧ inB key 0 4294967295 = true then ((r, s, putAt x (spotsL key.toNat s.toNat x.length r.toNat)), true) else ((0, 0, []), false)

theorem TouchAll.of_below {w w' : World} (h : Below w.heap.size w w') (l : List (Option Addr × Nat)) : TouchAll w w' l := ⟨h.os, h.tape, h.output, h.size, fun b hb _ => h.block b hb⟩
theorem TouchAll.below1 {w w' : World} {g n B : Nat} (h : TouchAll w w' [(some ⟨g, 0, none⟩, n)]) (hB : B ≤ w.heap.size) (hg : B ≤ g) : Below B w w' :=
  ⟨h.os, h.tape, h.output, h.size, fun k hk => h.block k (by omega) fun p hp => by
    simp at hp; subst hp
    exact .inr fun o e => by injection e with e; injection e with e; omega⟩
theorem Blk.touch {w w' : World} {q g n : Nat} {t : TypeId} {cs : List Value} (h : Blk w q t cs) (k : Touch w w' (some ⟨g, 0, none⟩) n) (hq : g ≠ q) : Blk w' q t cs :=
  (k.block q (.inr fun o e => by injection e with e; injection e with e; exact hq e)).trans h
theorem TouchAll.trans1 {w w' w'' : World} {A : Option Addr} {n : Nat} (h : TouchAll w w' [(A, n)]) (k : TouchAll w' w'' [(A, n)]) : TouchAll w w'' [(A, n)] :=
  ⟨k.os.trans h.os, k.tape.trans h.tape, k.output.trans h.output, Nat.le_trans h.size k.size, fun b hb hp => (k.block b (Nat.lt_of_lt_of_le hb h.size) hp).trans (h.block b hb hp)⟩

/-- It hands back a sieve of its own, and whether it could. -/
def RetSv (w : World) (p : (Int × Int × List Bool) × Bool) (e : Ending) (w' : World) : Prop := ∃ A c,
  e = .returned (.tuple #[.agg #[.int .i64 p.1.1, .int .i64 p.1.2.1, .slice A p.1.2.2.length c], .bool p.2]) ∧ OwnS Value.bool w' w.heap.size 4 A p.1.2.2 ∧ p.1.2.2.length ≤ 1048576 ∧ Below w.heap.size w w'
theorem retSv_no {w : World} : ∀ (e : Ending) (w' : World), (e = .returned (.tuple #[.agg #[.int .i64 0, .int .i64 0, .slice none 0 0], .bool false]) ∧ Below w.heap.size w w') → RetSv w ((0, 0, []), false) e w' :=
  fun e w' ⟨he, hb⟩ => ⟨none, 0, he, OwnS.nil, by simp, hb⟩
theorem AreKeys_any (A : Option Addr) (c : Nat) (xs : List Int) (w : World) (hx : RdL (Value.int .i64) w A xs) (hn : xs.length ≤ 1048576) :
    Calls Try.prog 65 #[.slice A xs.length c] w fun e w' => e = .returned (.bool (decide ((xs.length : Int) ≤ 256) && allB xs 0 4294967295)) ∧ w = w' := by
  have HX := hid hx
  clear hx
  by_cases h : (xs.length : Int) ≤ 256
  · go_enter Try.func65, Try.ntmps65
    go_wp2_with fail
    refine (areAllKeys_any A c xs _ HX.out hn).mono ?_
    rintro e w' ⟨rfl, rfl⟩
    go_wp2
    go_ret
    exact ⟨by simp [h], rfl⟩
  · go_enter Try.func65, Try.ntmps65
    go_wp2
    go_ret
    exact ⟨by simp; omega, rfl⟩
/-- What SieveOf returns. -/
def pSieveOf (r s : Int) (x : List Bool) (keys : List Int) : (Int × Int × List Bool) × Bool :=
  if vSieve r s x.length = true ∧ (decide ((keys.length : Int) ≤ 256) && allB keys 0 4294967295) = true then ((r, s, putKeys x s.toNat x.length r.toNat keys), true) else ((0, 0, []), false)
theorem pSieveOf_one (r s : Int) (x : List Bool) (key : Int) : pSieveOf r s x [key] = pPutSieve r s x key := by
  simp [pSieveOf, pPutSieve, putKeys, allB]
end Go.Proofs.Ytmmolicodlmlkaa
namespace Go.Proofs.Ytmmolicodlmlkaa
open Go.RowKit
set_option linter.unusedVariables false

/-- What PutCells returns. -/
def pPutCells (a0 a1 a2 : Int) (x : List Int) (key by_ : Int) : (Int × Int × Int × List Int) × Bool :=
  if (vCells a0 a1 a2 x && inB key 0 4294967295 && inB by_ (-1000000) 1000000) = true then giveP a0 a1 a2 (addAt by_ x (cellsL a0.toNat a2.toNat key.toNat a1.toNat)) else ((0, 0, 0, []), false)
theorem vCells_iff' {a0 a1 a2 : Int} {x : List Int} (h : vCells a0 a1 a2 x = true) : (2 ≤ a0 ∧ a0 ≤ 64) ∧ (1 ≤ a1 ∧ a1 ≤ 6) ∧ (0 ≤ a2 ∧ a2 ≤ 4294967295) ∧ (x.length : Int) = a0 * a1 ∧ ∀ y ∈ x, -1000000000000 ≤ y ∧ y ≤ 1000000000000 := by
  simp only [vCells, Bool.and_eq_true, decide_eq_true_eq, inB_iff] at h
  refine ⟨h.1.1.1.1, h.1.1.1.2, h.1.1.2, h.1.2, fun y hy => ?_⟩
  have := h.2
  unfold allB at this
  rw [List.all_eq_true] at this
  exact inB_iff.1 (this y hy)
theorem cellsL_at' {wd s key dp k : Nat} (h : k < dp) : (cellsL wd s key dp)[k]? = some (placeN wd s key k : Int) := by simp [cellsL, h]

set_option maxHeartbeats 800000 in
theorem copyCells_any (a0 a1 a2 : Int) (A : Option Addr) (c : Nat) (x : List Int) (w : World) (hx : RdL (Value.int .i64) w A x) (hn : x.length ≤ 1048576) :
    Calls Try.prog 91 #[.agg #[.int .i64 a0, .int .i64 a1, .int .i64 a2, .slice A x.length c]] w fun e w' => ∃ A' c', e = .returned (.agg #[.int .i64 a0, .int .i64 a1, .int .i64 a2, .slice A' x.length c']) ∧ OwnS (Value.int .i64) w' w.heap.size 2 A' x ∧ Below w.heap.size w w' := by
  have HX := hid hx
  have B0 := hid ((Blk.new w 37 [.int .i64 a0, .int .i64 a1, .int .i64 a2, .slice A x.length c]).alloc (.cells #[.int .i64 0, .int .i64 0, .int .i64 0, .slice none 0 0] 37))
  have R0 := hid (Blk.new2 w (.cells #[.int .i64 a0, .int .i64 a1, .int .i64 a2, .slice A x.length c] 37) 37 [.int .i64 0, .int .i64 0, .int .i64 0, .slice none 0 0])
  clear hx
  go_enter Try.func91, Try.ntmps91
  go_wp2_with fail
  refine (cloneI_any A c x _ (HX.out.below (below_a2 _ _ _)) hn).mono ?_
  rintro e w1 ⟨A1, c1, rfl, ho, hb⟩
  obtain ⟨c0, c1', c2, c3⟩ := (B0.out.below hb).cells4
  have g3 := (B0.out.below hb).frozen 3
  obtain ⟨d0, d1, d2, d3⟩ := (R0.out.below hb).cells4
  have f0 := (R0.out.below hb).frozen 0
  have f1 := (R0.out.below hb).frozen 1
  have f2 := (R0.out.below hb).frozen 2
  have f3 := (R0.out.below hb).frozen 3
  have S1 := below_call (below_a2 _ _ _) hb
  have O1 := hid (ho.mono (B' := w.heap.size + 2) (by simp))
  clear hb B0 R0 ho
  go_wp2
  refine bodyPost_ret (v := .agg #[.int .i64 a0, .int .i64 a1, .int .i64 a2, .slice A1 x.length c1]) (by simp [results, Try.results91, go_sem, d0, d1, d2, d3]) rfl ⟨A1, c1, rfl, ?_, ?_⟩
  · exact (((((O1.out.setFar (by simp <;> omega) _).setFar (by simp <;> omega) _).setFar (by simp <;> omega) _).setFar (by simp <;> omega) _).setFar (by simp <;> omega) _).mono (by omega)
  · exact ((((S1.out.setCell (by simp) _).setCell (by simp) _).setCell (by simp) _).setCell (by simp) _).setCell (by simp) _
set_option maxRecDepth 100000 in
set_option maxHeartbeats 1600000 in
theorem l03Put_any (q c g wd dp s key : Nat) (by_ : Int) (B : Nat) (y : List Int) (w : World) (hb : Blk w q 37 [.int .i64 wd, .int .i64 dp, .int .i64 s, .slice (some ⟨g, 0, none⟩) y.length c]) (ho : OwnS (Value.int .i64) w B 2 (some ⟨g, 0, none⟩) y)
    (hq : g ≠ q) (hw1 : 2 ≤ wd) (hw2 : wd ≤ 64) (hd2 : dp ≤ 6) (hk : key < 4294967296) (hs : s < 4294967296) (hl : y.length = wd * dp) (hbd : ∀ z ∈ y, -1000000000000 ≤ z ∧ z ≤ 1000000000000) (hby : -1000000 ≤ by_ ∧ by_ ≤ 1000000) :
    Calls Try.prog 87 #[.pointer (some ⟨q, 0, none⟩), .int .i64 key, .int .i64 by_] w fun e w' => e = .returned (.tuple #[]) ∧
      OwnS (Value.int .i64) w' B 2 (some ⟨g, 0, none⟩) (addAt by_ y (cellsL wd s key dp)) ∧ TouchAll w w' [(some ⟨g, 0, none⟩, y.length)] := by
  have HB := hid hb
  have HO := hid ho
  have HL := hid hl
  have HBD := hid hbd
  clear hb ho hl hbd
  go_enter Try.func87, Try.ntmps87
  go_wp2
  go_loopw [6] (fun i wr => ∃ k : Nat, k ≤ dp ∧ i = .int .i64 k ∧ Hid (OwnS (Value.int .i64) wr B 2 (some ⟨g, 0, none⟩) (addAt by_ y ((cellsL wd s key dp).take k))) ∧ Hid (Touch w wr (some ⟨g, 0, none⟩) y.length)) (fun i _ => dp - (intOf i).toNat)
  case atStart => exact ⟨0, Nat.zero_le _, rfl, by rw [addAt_zero]; exact HO, Touch.refl⟩
  case round =>
    obtain ⟨k, hkr, rfl, hok, hT⟩ := hrel
    have Q1 := hid (HB.out.touch hT.out hq)
    obtain ⟨d0, d1, d2, d3⟩ := Q1.out.cells4
    by_cases hlt : k < dp
    · have hi : (k : Int) < (dp : Int) := by omega
      have hlk : placeN wd s key k < y.length := by rw [HL.out]; exact placeN_lt (by omega) hlt
      have hlen := addAt_length by_ y ((cellsL wd s key dp).take k)
      obtain ⟨g', u, hg', hgB, hcy, hfy, hym, hput⟩ := hok.out.put (j := placeN wd s key k) (by omega)
      injection hg' with hg'; injection hg' with hg'
      subst hg'
      have hbu := addAt_bound (l := (cellsL wd s key dp).take k) (D := 1000000) HBD.out hby (by omega) u (List.mem_of_getElem? hym.out)
      have hkl : ((cellsL wd s key dp).take k).length ≤ 6 := by simp [cellsL_length]; omega
      have hO2 := hput (u + by_)
      rw [addAt_succ (cellsL_at' hlt) hym] at hO2
      have hT2 := hid (hT.out.set_ (show 0 < y.length by omega) (placeN wd s key k) (.int .i64 (u + by_)))
      have e1 : IntKind.i64.wrap (u + by_) = u + by_ := by rw [IntKind.wrap_i64]; omega
      have hm' : (placeN wd s key k : Int) < (y.length : Int) := by omega
      have hm0 : (0 : Int) ≤ (placeN wd s key k : Int) := by omega
      have hq' := Ne.symm hq
      clear hput hlen hgB hbu hkl hym
      go_wp2
      go_region_law (first
        | (go_simp
           go_at_call 128
           refine (l03Place_any q wd s key k wr.drew d0 d2 hw1 hw2 hs hk (by omega)).mono ?_
           rintro e w' ⟨rfl, m, rfl⟩))
      all_goals
        go_wp2
        exact ⟨⟨k + 1, by omega, by go_num, hO2, ⟨hT2.out.os, hT2.out.tape, hT2.out.output, hT2.out.size, hT2.out.block⟩⟩, by simp [intOf]; omega⟩
    · have hi : ¬ (k : Int) < (dp : Int) := by omega
      go_wp2
      have he := hok.out
      rw [List.take_of_length_le (by rw [cellsL_length]; omega)] at he
      go_end0
      exact ⟨rfl, he, TouchAll.of_touch hT.out⟩
set_option maxRecDepth 100000 in
set_option maxHeartbeats 3200000 in
theorem iPutCells_any (a0 a1 a2 : Int) (A : Option Addr) (c : Nat) (x : List Int) (key by_ : Int) (w : World) (h0 : W64 a0) (h1 : W64 a1) (h2 : W64 a2) (hx : RdL (Value.int .i64) w A x) (hn : x.length ≤ 1048576) (we : ∀ y ∈ x, W64 y) (hkey : W64 key) (hby : W64 by_) :
    Calls Try.prog 38 #[.agg #[.int .i64 a0, .int .i64 a1, .int .i64 a2, .slice A x.length c], .int .i64 key, .int .i64 by_] w (RetCl w (pPutCells a0 a1 a2 x key by_)) := by
  have HX := hid hx
  have WE := hid we
  have B0 := hid ((Blk.new w 37 [.int .i64 a0, .int .i64 a1, .int .i64 a2, .slice A x.length c]).alloc (.cells #[.int .i64 0, .int .i64 0, .int .i64 0, .slice none 0 0] 37))
  have R0 := hid (Blk.new2 w (.cells #[.int .i64 a0, .int .i64 a1, .int .i64 a2, .slice A x.length c] 37) 37 [.int .i64 0, .int .i64 0, .int .i64 0, .slice none 0 0])
  clear hx we hkey hby
  have key_ : ∀ u v z : Bool, vCells a0 a1 a2 x = u → inB key 0 4294967295 = v → inB by_ (-1000000) 1000000 = z → (u && v && z) = false →
      Calls Try.prog 38 #[.agg #[.int .i64 a0, .int .i64 a1, .int .i64 a2, .slice A x.length c], .int .i64 key, .int .i64 by_] w (RetCl w ((0, 0, 0, []), false)) := by
    intro u v z hu hv hz hno
    refine Calls.mono ?_ retCl_no
    cases u
    case' true =>
      cases v
      case' true => cases z
    all_goals
      first
      | (exfalso; revert hno; decide)
      | (go_enter Try.func38, Try.ntmps38
         go_wp2_with fail
         refine (iValidCells_any a0 a1 a2 A c x _ h0 h1 h2 (HX.out.below (below_a2 _ _ _)) hn WE.out).mono ?_
         rw [hu]
         rintro e w1 ⟨rfl, hb⟩
         obtain ⟨d0, d1, d2, d3⟩ := (R0.out.below hb).cells4
         have f0 := (R0.out.below hb).frozen 0
         have f1 := (R0.out.below hb).frozen 1
         have f2 := (R0.out.below hb).frozen 2
         have f3 := (R0.out.below hb).frozen 3
         have S1 := below_call (below_a2 _ _ _) hb
         clear hb B0 R0 hu hno
         go_wp2_with (first | (go_at_call 97; refine (within_any _ _ _ _).mono ?_; rintro e w' ⟨rfl, rfl⟩) | (go_at_call 63; refine (IsKey_any _ _).mono ?_; rintro e w' ⟨rfl, rfl⟩))
         refine bodyPost_ret (v := .tuple #[.agg #[.int .i64 0, .int .i64 0, .int .i64 0, .slice none 0 0], .bool false]) (by simp [results, Try.results38, go_sem, d0, d1, d2, d3]) rfl ⟨rfl, ?_⟩
         exact (((S1.out.setCell (by simp) _).setCell (by simp) _).setCell (by simp) _).setCell (by simp) _)
  cases hgo : (vCells a0 a1 a2 x && inB key 0 4294967295 && inB by_ (-1000000) 1000000) with
  | false =>
    have hp : pPutCells a0 a1 a2 x key by_ = ((0, 0, 0, []), false) := by simp only [pPutCells, hgo]; rfl
    rw [hp]
    exact key_ _ _ _ rfl rfl rfl hgo
  | true =>
  have hp : pPutCells a0 a1 a2 x key by_ = giveP a0 a1 a2 (addAt by_ x (cellsL a0.toNat a2.toNat key.toNat a1.toNat)) := by simp only [pPutCells, hgo]; rfl
  rw [hp]
  simp only [Bool.and_eq_true] at hgo
  obtain ⟨⟨hv, hk⟩, hby⟩ := hgo
  obtain ⟨⟨hw1, hw2⟩, ⟨hd1, hd2⟩, ⟨hs1, hs2⟩, hl, hbd⟩ := vCells_iff' hv
  obtain ⟨hk1, hk2⟩ := inB_iff.1 hk
  obtain ⟨hby1, hby2⟩ := inB_iff.1 hby
  obtain ⟨wd, rfl⟩ := Int.eq_ofNat_of_zero_le (show 0 ≤ a0 by omega)
  obtain ⟨dp, rfl⟩ := Int.eq_ofNat_of_zero_le (show 0 ≤ a1 by omega)
  obtain ⟨s, rfl⟩ := Int.eq_ofNat_of_zero_le hs1
  obtain ⟨key, rfl⟩ := Int.eq_ofNat_of_zero_le hk1
  simp only [Int.toNat_natCast] at hp ⊢
  have hl' : x.length = wd * dp := by rw [← Int.natCast_mul] at hl; omega
  have HL := hid hl'
  have hlx : x.length ≤ 384 := by rw [hl']; have := Nat.mul_le_mul (show wd ≤ 64 by omega) (show dp ≤ 6 by omega); omega
  have hlp : 0 < x.length := by rw [hl']; exact Nat.mul_pos (by omega) (by omega)
  have HBD := hid hbd
  have HV := hid hv
  clear hl hl' hbd hp hv key_
  go_enter Try.func38, Try.ntmps38
  go_wp2_with fail
  refine (iValidCells_any wd dp s A c x _ h0 h1 h2 (HX.out.below (below_a2 _ _ _)) hn WE.out).mono ?_
  rw [HV.out]
  rintro e w1 ⟨rfl, hb⟩
  have B1 := hid (B0.out.below hb)
  have R1 := hid (R0.out.below hb)
  have S1 := below_call (below_a2 _ _ _) hb
  have hl1 : w.heap.size + 2 ≤ w1.heap.size := by have := hb.size; simp at this; omega
  clear hb B0 R0
  obtain ⟨k0, k1, k2, k3⟩ := B1.out.cells4
  go_wp2_with (first | (go_at_call 97; refine (within_any _ _ _ _).mono ?_; rintro e w' ⟨rfl, rfl⟩) | (go_at_call 63; refine (IsKey_any _ _).mono ?_; rintro e w' ⟨rfl, rfl⟩))
  refine (copyCells_any wd dp s A c x _ (HX.out.below S1.out) hn).mono ?_
  rintro e w2 ⟨A1, c1, rfl, ho, hb⟩
  clear k0 k1 k2 k3 hk hby
  have ho' : OwnS (Value.int .i64) w2 (w.heap.size + 2) 2 A1 x := ho.mono hl1
  obtain ⟨g, ex, rfl, hgB, hgb⟩ := ho' (by rintro rfl; simp at hlp)
  have hgl := hgb.lt
  have hl2 := hb.size
  have S2 : Hid (Below w.heap.size w w2) := S1.out.trans (hb.mono (by omega))
  have O2 := hid (ho'.below (below_a1 w2 (.cells #[.int .i64 wd, .int .i64 dp, .int .i64 s, .slice (some ⟨g, 0, none⟩) x.length c1] 37)))
  have R2 := hid ((R1.out.below hb).below (below_a1 w2 (.cells #[.int .i64 wd, .int .i64 dp, .int .i64 s, .slice (some ⟨g, 0, none⟩) x.length c1] 37)))
  have Q2 := hid (Blk.new w2 37 [.int .i64 wd, .int .i64 dp, .int .i64 s, .slice (some ⟨g, 0, none⟩) x.length c1])
  clear hgb hb ho ho' R1 B1
  go_wp2_with fail
  refine (places_any wd dp s key x.length c1 _ _ (by omega) (by omega) (by omega) (by omega) (by omega)).mono ?_
  rintro e w3 ⟨A3, c3, rfl, hoP, hbP⟩
  have HP := hid hoP
  have O3 := hid (O2.out.below hbP)
  have Q3 := hid (Q2.out.below hbP)
  have R3 := hid (R2.out.below hbP)
  have S3 : Hid (Below w.heap.size w w3) := (S2.out.alloc (by omega) _).trans (hbP.mono (by simp; omega))
  have hl3 : w2.heap.size + 1 ≤ w3.heap.size := by have := hbP.size; simp at this; omega
  have HA := hid (OwnS.apart_lt O2.out hoP (Nat.le_refl _))
  have hPl := cellsL_length wd s key dp
  have hmem : Hid (∀ p ∈ cellsL wd s key dp, ∃ m : Nat, p = m ∧ m < x.length) := fun p hp' => by rw [HL.out]; exact cellsL_mem (by omega) hp'
  obtain ⟨P, hPe⟩ : ∃ P, P = cellsL wd s key dp := ⟨_, rfl⟩
  rw [← hPe] at HA HP hPl hmem ⊢
  have hP8 : P.length ≤ 6 := by omega
  have HPe := hid hPe
  clear hPe hPl hoP hbP O2 Q2 R2
  go_wp2
  go_loopw [31] (fun j wi => ∃ m : Nat, m ≤ P.length ∧ j = .int .i64 m ∧ Hid (OwnS (Value.int .i64) wi (w.heap.size + 2) 2 (some ⟨g, 0, none⟩) (addAt by_ x (P.take m))) ∧ Hid (Touch w3 wi (some ⟨g, 0, none⟩) x.length)) (fun j _ => P.length - (intOf j).toNat)
  case atStart => exact ⟨0, Nat.zero_le _, rfl, by rw [addAt_zero]; exact O3, Touch.refl⟩
  case round =>
    obtain ⟨m, hmr, rfl, hom, hTm⟩ := hrel
    by_cases hlm : m < P.length
    · have him : (m : Int) < (P.length : Int) := by omega
      obtain ⟨b3, o3, p, rfl, hcp, hpk⟩ := (HP.out.touch hTm.out HA.out).rd.at_ hlm
      obtain ⟨n, rfl, hnx⟩ := hmem.out p (List.mem_of_getElem? hpk.out)
      have hlen := addAt_length by_ x (P.take m)
      obtain ⟨g', u, hg', hgB', hcy, hfy, hym, hput⟩ := hom.out.put (j := n) (by omega)
      injection hg' with hg'; injection hg' with hg'
      subst hg'
      have hbu := addAt_bound (l := P.take m) (D := 1000000) HBD.out ⟨hby1, hby2⟩ (by omega) u (List.mem_of_getElem? hym.out)
      have hkl : (P.take m).length ≤ 6 := by simp; omega
      have hO2 := hput (u + by_)
      rw [addAt_succ hpk hym] at hO2
      have hT2 := hid (hTm.out.set_ (by omega) n (.int .i64 (u + by_)))
      obtain ⟨q0, q1, q2, q3⟩ := (Q3.out.touch hTm.out (by omega)).cells4
      have hn' : (n : Int) < (x.length : Int) := by omega
      have hn0 : (0 : Int) ≤ (n : Int) := by omega
      have hub1 : -1000006000000 ≤ u := by omega
      have hub2 : u ≤ 1000006000000 := by omega
      clear hput q0 q1 q2 hlen hgB' hbu hkl hym
      go_wp2
      exact ⟨⟨m + 1, by omega, by go_num, hO2, hT2⟩, by simp [intOf]; omega⟩
    · have him : ¬ (m : Int) < (P.length : Int) := by omega
      have he := hom.out
      rw [List.take_of_length_le (show P.length ≤ m by omega)] at he
      have O4 := hid he
      have T4 := hTm
      have hyl : (addAt by_ x P).length = x.length := addAt_length _ _ _
      have HYL := hid hyl
      have hbu : ∀ y ∈ addAt by_ x P, W64 y := fun y hy => by
        have := addAt_bound (l := P) (D := 1000000) HBD.out ⟨hby1, hby2⟩ (by omega) y hy
        exact w64_of_bounds (by omega)
      have HBU := hid hbu
      obtain ⟨q0, q1, q2, q3⟩ := (Q3.out.touch hTm.out (by omega)).cells4
      have R4 := hid (R3.out.touch hTm.out (by omega))
      have S4 : Hid (Below w.heap.size w wr) := S3.out.trans ((hTm.out.below O3.out).mono (by omega))
      clear he hyl hbu
      go_wp2_with fail
      refine (ifCells_any wd dp s _ x.length c1 (addAt by_ x P) _ h0 h1 h2 HYL.out O4.out.rd hn HBU.out).mono ?_
      rintro e w4 ⟨b0, b1, b2, A', n', c', t, rfl, hG, hb⟩
      have S5 := hid (S4.out.trans (hb.mono S4.out.size))
      have O5 := hid (O4.out.below hb)
      obtain ⟨d0, d1, d2, d3⟩ := (R4.out.below hb).cells4
      have f0 := (R4.out.below hb).frozen 0
      have f1 := (R4.out.below hb).frozen 1
      have f2 := (R4.out.below hb).frozen 2
      have f3 := (R4.out.below hb).frozen 3
      clear hb q0 q1 q2 q3
      go_wp2
      have hPP := HPe.out
      clear HPe
      subst hPP
      refine bodyPost_ret (v := .tuple #[.agg #[.int .i64 b0, .int .i64 b1, .int .i64 b2, .slice A' n' c'], .bool t]) (by simp [results, Try.results38, go_sem, d0, d1, d2, d3]) rfl (retCl_give hG.out ?_ HYL.out hn ?_)
      · exact ((((O5.out.setFar (by simp <;> omega) _).setFar (by simp <;> omega) _).setFar (by simp <;> omega) _).setFar (by simp <;> omega) _).mono (by omega)
      · exact (((S5.out.setCell (by simp <;> omega) _).setCell (by simp <;> omega) _).setCell (by simp <;> omega) _).setCell (by simp <;> omega) _
end Go.Proofs.Ytmmolicodlmlkaa
namespace Go.Proofs.Ytmmolicodlmlkaa
open Go.RowKit
set_option linter.unusedVariables false

/-- Two cells are valid and have equal sides and salts. -/
def alikeC (a0 a1 a2 : Int) (x : List Int) (b0 b1 b2 : Int) (y : List Int) : Bool := vCells a0 a1 a2 x && vCells b0 b1 b2 y && (a0 == b0) && (a1 == b1) && (a2 == b2)
theorem alikeC_iff {a0 a1 a2 : Int} {x : List Int} {b0 b1 b2 : Int} {y : List Int} (h : alikeC a0 a1 a2 x b0 b1 b2 y = true) : vCells a0 a1 a2 x = true ∧ vCells b0 b1 b2 y = true ∧ a0 = b0 ∧ a1 = b1 ∧ a2 = b2 := by
  simp only [alikeC, Bool.and_eq_true, beq_iff_eq] at h
  exact ⟨h.1.1.1.1, h.1.1.1.2, h.1.1.2, h.1.2, h.2⟩
/-- What MergeCells returns. -/
def pMergeCells (a0 a1 a2 : Int) (x : List Int) (b0 b1 b2 : Int) (y : List Int) : (Int × Int × Int × List Int) × Bool :=
  if alikeC a0 a1 a2 x b0 b1 b2 y = true then giveP a0 a1 a2 (List.zipWith (fun a b => a + b) x y) else ((0, 0, 0, []), false)
theorem pMergeCells_no {a0 a1 a2 : Int} {x : List Int} {b0 b1 b2 : Int} {y : List Int} (h : alikeC a0 a1 a2 x b0 b1 b2 y = false) : pMergeCells a0 a1 a2 x b0 b1 b2 y = ((0, 0, 0, []), false) := by simp [pMergeCells, h]
theorem pMergeCells_yes {a0 a1 a2 : Int} {x : List Int} {b0 b1 b2 : Int} {y : List Int} (h : alikeC a0 a1 a2 x b0 b1 b2 y = true) : pMergeCells a0 a1 a2 x b0 b1 b2 y = giveP a0 a1 a2 (List.zipWith (fun a b => a + b) x y) := by simp [pMergeCells, h]
theorem zipI_at {f : Int → Int → Int} {x y : List Int} {k : Nat} {a b : Int} (h : Hid (x[k]? = some a)) (h' : Hid (y[k]? = some b)) : (List.zipWith f x y)[k]? = some (f a b) := by
  rw [List.getElem?_zipWith, h.out, h'.out]
theorem zipAdd_w64 {x y : List Int} (hx : ∀ z ∈ x, -1000000000000 ≤ z ∧ z ≤ 1000000000000) (hy : ∀ z ∈ y, -1000000000000 ≤ z ∧ z ≤ 1000000000000) : ∀ z ∈ List.zipWith (fun a b => a + b) x y, W64 z := by
  intro z hz
  rw [List.mem_iff_getElem?] at hz
  obtain ⟨i, hi⟩ := hz
  rw [List.getElem?_zipWith] at hi
  cases hxa : x[i]? with
  | none => rw [hxa] at hi; cases hi
  | some a =>
    cases hyb : y[i]? with
    | none => rw [hxa, hyb] at hi; cases hi
    | some b =>
      rw [hxa, hyb] at hi
      injection hi with hi
      have h1 := hx a (List.mem_of_getElem? hxa)
      have h2 := hy b (List.mem_of_getElem? hyb)
      subst hi
      exact w64_of_bounds (by omega)

set_option maxRecDepth 100000 in
set_option maxHeartbeats 3200000 in
theorem alike_any (a0 a1 a2 : Int) (A : Option Addr) (c : Nat) (x : List Int) (b0 b1 b2 : Int) (A' : Option Addr) (c' : Nat) (y : List Int) (w : World) (h0 : W64 a0) (h1 : W64 a1) (h2 : W64 a2) (hx : RdL (Value.int .i64) w A x) (hn : x.length ≤ 1048576) (we : ∀ y ∈ x, W64 y) (h0' : W64 b0) (h1' : W64 b1) (h2' : W64 b2) (hy : RdL (Value.int .i64) w A' y) (hn' : y.length ≤ 1048576) (we' : ∀ z ∈ y, W64 z) :
    Calls Try.prog 100 #[.agg #[.int .i64 a0, .int .i64 a1, .int .i64 a2, .slice A x.length c], .agg #[.int .i64 b0, .int .i64 b1, .int .i64 b2, .slice A' y.length c']] w fun e w' => e = .returned (.bool (alikeC a0 a1 a2 x b0 b1 b2 y)) ∧ Below w.heap.size w w' := by
  have HX := hid hx
  have HY := hid hy
  have WX := hid we
  have WY := hid we'
  clear hx hy we we'
  have BA0 := hid ((Blk.new w 37 [.int .i64 a0, .int .i64 a1, .int .i64 a2, .slice A x.length c]).alloc (.cells #[.int .i64 b0, .int .i64 b1, .int .i64 b2, .slice A' y.length c'] 37))
  have BB0 := hid (Blk.new2 w (.cells #[.int .i64 a0, .int .i64 a1, .int .i64 a2, .slice A x.length c] 37) 37 [.int .i64 b0, .int .i64 b1, .int .i64 b2, .slice A' y.length c'])
  cases ha : vCells a0 a1 a2 x with
  | false =>
    have hv := hid (show alikeC a0 a1 a2 x b0 b1 b2 y = false by simp [alikeC, ha])
    go_enter Try.func100, Try.ntmps100
    go_wp2_with fail
    refine (iValidCells_any a0 a1 a2 A c x _ h0 h1 h2 (HX.out.below (below_a2 _ _ _)) hn WX.out).mono ?_
    rintro e w1 ⟨rfl, hb⟩
    have S1 := below_call (below_a2 _ _ _) hb
    clear hb
    go_wp2
    go_ret
    exact ⟨ret_bool hv.out.symm, S1.out⟩
  | true =>
  have key : ∀ b u v z : Bool, vCells b0 b1 b2 y = b → (a0 == b0) = u → (a1 == b1) = v → (a2 == b2) = z →
      Calls Try.prog 100 #[.agg #[.int .i64 a0, .int .i64 a1, .int .i64 a2, .slice A x.length c], .agg #[.int .i64 b0, .int .i64 b1, .int .i64 b2, .slice A' y.length c']] w fun e w' => e = .returned (.bool (b && u && v && z)) ∧ Below w.heap.size w w' := by
    intro b u v z hb0 hu hv hz
    cases b
    case' true =>
      cases u
      case' true =>
        cases v
        case' true => cases z
    all_goals
      go_enter Try.func100, Try.ntmps100
      go_wp2_with fail
      refine (iValidCells_any a0 a1 a2 A c x _ h0 h1 h2 (HX.out.below (below_a2 _ _ _)) hn WX.out).mono ?_
      rw [ha]
      rintro e w1 ⟨rfl, hb⟩
      have BA1 := hid (BA0.out.below hb)
      have BB1 := hid (BB0.out.below hb)
      have S1 := below_call (below_a2 _ _ _) hb
      clear hb
      obtain ⟨l0, l1, l2, l3⟩ := BB1.out.cells4
      go_wp2_with fail
      refine (iValidCells_any b0 b1 b2 A' c' y _ h0' h1' h2' (HY.out.below S1.out) hn' WY.out).mono ?_
      rw [hb0]
      rintro e w2 ⟨rfl, hb⟩
      clear l0 l1 l2 l3
      obtain ⟨k0, k1, k2, k3⟩ := (BA1.out.below hb).cells4
      obtain ⟨l0, l1, l2, l3⟩ := (BB1.out.below hb).cells4
      have S2 := hid (S1.out.trans (hb.mono S1.out.size))
      clear hb
      go_wp2
      go_ret
      exact ⟨by simp, S2.out⟩
  have := key _ _ _ _ rfl rfl rfl rfl
  simp only [alikeC, ha, Bool.true_and]
  exact this


set_option maxRecDepth 100000 in
set_option maxHeartbeats 3200000 in
theorem iMergeCells_any (a0 a1 a2 : Int) (A : Option Addr) (c : Nat) (x : List Int) (b0 b1 b2 : Int) (A' : Option Addr) (c' : Nat) (y : List Int) (w : World) (h0 : W64 a0) (h1 : W64 a1) (h2 : W64 a2) (hx : RdL (Value.int .i64) w A x) (hn : x.length ≤ 1048576) (we : ∀ y ∈ x, W64 y) (h0' : W64 b0) (h1' : W64 b1) (h2' : W64 b2) (hy : RdL (Value.int .i64) w A' y) (hn' : y.length ≤ 1048576) (we' : ∀ z ∈ y, W64 z) :
    Calls Try.prog 40 #[.agg #[.int .i64 a0, .int .i64 a1, .int .i64 a2, .slice A x.length c], .agg #[.int .i64 b0, .int .i64 b1, .int .i64 b2, .slice A' y.length c']] w (RetCl w (pMergeCells a0 a1 a2 x b0 b1 b2 y)) := by
  have HX := hid hx
  have HY := hid hy
  have WX := hid we
  have WY := hid we'
  clear hx hy we we'
  cases hal : alikeC a0 a1 a2 x b0 b1 b2 y with
  | false =>
    rw [pMergeCells_no hal]
    refine Calls.mono ?_ retCl_no
    obtain ⟨k0, k1, k2, k3⟩ := (((Blk.new w 37 [.int .i64 a0, .int .i64 a1, .int .i64 a2, .slice A x.length c]).alloc (.cells #[.int .i64 b0, .int .i64 b1, .int .i64 b2, .slice A' y.length c'] 37)).alloc (.cells #[.int .i64 0, .int .i64 0, .int .i64 0, .slice none 0 0] 37)).cells4
    obtain ⟨l0, l1, l2, l3⟩ := ((Blk.new2 w (.cells #[.int .i64 a0, .int .i64 a1, .int .i64 a2, .slice A x.length c] 37) 37 [.int .i64 b0, .int .i64 b1, .int .i64 b2, .slice A' y.length c']).alloc (.cells #[.int .i64 0, .int .i64 0, .int .i64 0, .slice none 0 0] 37)).cells4
    go_enter Try.func40, Try.ntmps40
    go_wp2_with fail
    refine (alike_any a0 a1 a2 A c x b0 b1 b2 A' c' y _ h0 h1 h2 (HX.out.below (below_a3 _ _ _ _)) hn WX.out h0' h1' h2' (HY.out.below (below_a3 _ _ _ _)) hn' WY.out).mono ?_
    rintro e w1 ⟨rfl, hb⟩
    have R1 := hid ((Blk.new3 w (.cells #[.int .i64 a0, .int .i64 a1, .int .i64 a2, .slice A x.length c] 37) (.cells #[.int .i64 b0, .int .i64 b1, .int .i64 b2, .slice A' y.length c'] 37) 37 [.int .i64 0, .int .i64 0, .int .i64 0, .slice none 0 0]).below hb)
    have S1 := below_call (below_a3 _ _ _ _) hb
    clear hb k0 k1 k2 k3 l0 l1 l2 l3
    obtain ⟨d0, d1, d2, d3⟩ := R1.out.cells4
    have f0 := R1.out.frozen 0
    have f1 := R1.out.frozen 1
    have f2 := R1.out.frozen 2
    have f3 := R1.out.frozen 3
    go_wp2
    refine bodyPost_ret (v := .tuple #[.agg #[.int .i64 0, .int .i64 0, .int .i64 0, .slice none 0 0], .bool false]) (by simp [results, Try.results40, go_sem, d0, d1, d2, d3]) rfl ⟨rfl, ?_⟩
    exact (((S1.out.setCell (by simp <;> omega) _).setCell (by simp <;> omega) _).setCell (by simp <;> omega) _).setCell (by simp <;> omega) _
  | true =>
  obtain ⟨hv, hv', rfl, rfl, rfl⟩ := alikeC_iff hal
  obtain ⟨⟨hw1, hw2⟩, ⟨hd1, hd2⟩, ⟨hs1, hs2⟩, hl, hbd⟩ := vCells_iff' hv
  obtain ⟨_, _, _, hl', hbd'⟩ := vCells_iff' hv'
  have hxy1 : x.length ≤ y.length := by omega
  have hxy2 : y.length ≤ x.length := by omega
  have hm1 := (mul_sides (inB_iff.2 ⟨hw1, hw2⟩) (inB_iff.2 ⟨hd1, hd2⟩)).1
  have hlp : 0 < x.length := by omega
  have HBD := hid hbd
  have HBD' := hid hbd'
  have HAL := hid hal
  have HZW := hid (zipAdd_w64 hbd hbd')
  have HYL : Hid ((List.zipWith (fun a b => a + b) x y).length = x.length) := by show _ = _; rw [List.length_zipWith]; omega
  rw [pMergeCells_yes hal]
  clear hl hl' hbd hbd' hal hv hv' hm1
  have BA0 := hid (((Blk.new w 37 [.int .i64 a0, .int .i64 a1, .int .i64 a2, .slice A x.length c]).alloc (.cells #[.int .i64 a0, .int .i64 a1, .int .i64 a2, .slice A' y.length c'] 37)).alloc (.cells #[.int .i64 0, .int .i64 0, .int .i64 0, .slice none 0 0] 37))
  have BB0 := hid ((Blk.new2 w (.cells #[.int .i64 a0, .int .i64 a1, .int .i64 a2, .slice A x.length c] 37) 37 [.int .i64 a0, .int .i64 a1, .int .i64 a2, .slice A' y.length c']).alloc (.cells #[.int .i64 0, .int .i64 0, .int .i64 0, .slice none 0 0] 37))
  have R0 := hid (Blk.new3 w (.cells #[.int .i64 a0, .int .i64 a1, .int .i64 a2, .slice A x.length c] 37) (.cells #[.int .i64 a0, .int .i64 a1, .int .i64 a2, .slice A' y.length c'] 37) 37 [.int .i64 0, .int .i64 0, .int .i64 0, .slice none 0 0])
  obtain ⟨k0, k1, k2, k3⟩ := BA0.out.cells4
  obtain ⟨l0, l1, l2, l3⟩ := BB0.out.cells4
  go_enter Try.func40, Try.ntmps40
  go_wp2_with fail
  refine (alike_any a0 a1 a2 A c x a0 a1 a2 A' c' y _ h0 h1 h2 (HX.out.below (below_a3 _ _ _ _)) hn WX.out h0 h1 h2 (HY.out.below (below_a3 _ _ _ _)) hn' WY.out).mono ?_
  rintro e w1 ⟨rfl, hb⟩
  rw [HAL.out]
  clear k0 k1 k2 k3 l0 l1 l2 l3
  have BA1 := hid (BA0.out.below hb)
  have BB1 := hid (BB0.out.below hb)
  have R1 := hid (R0.out.below hb)
  have S1 := below_call (below_a3 _ _ _ _) hb
  have hl1 : w.heap.size + 3 ≤ w1.heap.size := by have := hb.size; simp at this; omega
  clear hb BA0 BB0 R0
  obtain ⟨k0, k1, k2, k3⟩ := BA1.out.cells4
  go_wp2_with fail
  refine (copyCells_any a0 a1 a2 A c x _ (HX.out.below S1.out) hn).mono ?_
  rintro e w2 ⟨A1, c1, rfl, ho, hb⟩
  clear k0 k1 k2 k3
  have ho' : OwnS (Value.int .i64) w2 (w.heap.size + 3) 2 A1 x := ho.mono hl1
  obtain ⟨g, ex, rfl, hgB, hgb⟩ := ho' (by rintro rfl; simp at hlp)
  have hgl := hgb.lt
  have hl2 := hb.size
  have S2 : Hid (Below w.heap.size w w2) := S1.out.trans (hb.mono (by omega))
  have O2 := hid (ho'.below (below_a1 w2 (.cells #[.int .i64 a0, .int .i64 a1, .int .i64 a2, .slice (some ⟨g, 0, none⟩) x.length c1] 37)))
  have Q2 := hid (Blk.new w2 37 [.int .i64 a0, .int .i64 a1, .int .i64 a2, .slice (some ⟨g, 0, none⟩) x.length c1])
  have BB2 := hid ((BB1.out.below hb).below (below_a1 w2 (.cells #[.int .i64 a0, .int .i64 a1, .int .i64 a2, .slice (some ⟨g, 0, none⟩) x.length c1] 37)))
  have R2 := hid ((R1.out.below hb).below (below_a1 w2 (.cells #[.int .i64 a0, .int .i64 a1, .int .i64 a2, .slice (some ⟨g, 0, none⟩) x.length c1] 37)))
  clear hgb hb ho ho' BA1 BB1 R1
  obtain ⟨l0, l1, l2, l3⟩ := BB2.out.cells4
  obtain ⟨q0, q1, q2, q3⟩ := Q2.out.cells4
  have na : w.heap.size + 1 < w2.heap.size := by omega
  have nb : w.heap.size < w2.heap.size := by omega
  go_wp2
  go_loopw [19] (fun i wr => ∃ k : Nat, k ≤ x.length ∧ i = .int .i64 k ∧ Hid (OwnS (Value.int .i64) wr (w.heap.size + 3) 2 (some ⟨g, 0, none⟩) (fillUp k (List.zipWith (fun a b => a + b) x y) x)) ∧ Hid (Touch (w2.alloc (.cells #[.int .i64 a0, .int .i64 a1, .int .i64 a2, .slice (some ⟨g, 0, none⟩) x.length c1] 37)) wr (some ⟨g, 0, none⟩) x.length)) (fun i _ => x.length - (intOf i).toNat)
  case atStart => exact ⟨0, Nat.zero_le _, rfl, by rw [fillUp_zero]; exact O2, Touch.refl⟩
  case round =>
    obtain ⟨k, hkr, rfl, hok, hT⟩ := hrel
    have T1 := hid (hT.out.below O2.out)
    have SR := hid ((S2.out.alloc (by omega) _).trans (T1.out.mono (by omega)))
    clear l0 l1 l2 l3 q0 q1 q2 q3
    obtain ⟨l0, l1, l2, l3⟩ := (BB2.out.touch hT.out (by omega)).cells4
    obtain ⟨q0, q1, q2, q3⟩ := (Q2.out.touch hT.out (by omega)).cells4
    by_cases hlt : k < x.length
    · have hi : (k : Int) < (x.length : Int) := by omega
      have hiy : (k : Int) < (y.length : Int) := by omega
      obtain ⟨by', oy, v, hA', hcy, hyk⟩ := (HY.out.below SR.out).at_ (k := k) (by omega)
      obtain ⟨by2, oy2, _, hA2', hcy2, _⟩ := HY.out.at_ (k := k) (by omega)
      have hby : by' < w.heap.size := by
        have := World.block_lt_of_cell? w _ hcy2
        rw [hA'] at hA2'; injection hA2' with h; injection h with h; simp at this; omega
      subst hA'
      clear hA2' hcy2
      have hfl' : (fillUp k (List.zipWith (fun a b => a + b) x y) x).length = x.length := fillUp_length (by rw [HYL.out]; omega) (by omega)
      have hfl : k < (fillUp k (List.zipWith (fun a b => a + b) x y) x).length := by omega
      obtain ⟨g', u, hg', hgB', hcg, hfg, htm, hput⟩ := hok.out.put hfl
      injection hg' with hg'; injection hg' with hg'
      subst hg'
      have hxu : Hid (x[k]? = some u) := by
        have := htm.out
        rw [fillUp_at (by rw [HYL.out]; omega)] at this
        exact this
      have hz := zipI_at (f := fun a b => a + b) hxu hyk
      have hu := HBD.out u (List.mem_of_getElem? hxu.out)
      have hv := HBD'.out v (List.mem_of_getElem? hyk.out)
      have hu1 := hu.1
      have hu2 := hu.2
      have hv1 := hv.1
      have hv2 := hv.2
      have hO2 : Hid (OwnS (Value.int .i64) (wr.setCell ⟨g, k, none⟩ (.int .i64 (u + v))) (w.heap.size + 3) 2 (some ⟨g, 0, none⟩) (fillUp (k + 1) (List.zipWith (fun a b => a + b) x y) x)) := by
        have h := hput (u + v)
        rw [fillUp_step hz (by omega)] at h
        exact h
      have hT2 := hid (hT.out.set_ (by omega) k (.int .i64 (u + v)))
      have e1 : IntKind.i64.wrap (u + v) = u + v := by rw [IntKind.wrap_i64]; omega
      have n1 : by' ≠ g := by omega
      have n2 : w.heap.size + 1 ≠ g := by omega
      have n3 : w2.heap.size ≠ g := by omega
      have n1' := Ne.symm n1
      have n2' := Ne.symm n2
      have n3' := Ne.symm n3
      clear hput l0 l1 l2 q0 q1 q2 hfl hfl' hgB' hz hu hv hxu htm
      go_wp2
      exact ⟨⟨k + 1, by omega, by go_num, hO2, ⟨hT2.out.os, hT2.out.tape, hT2.out.output, hT2.out.size, hT2.out.block⟩⟩, by simp [intOf]; omega⟩
    · have hi : ¬ (k : Int) < (x.length : Int) := by omega
      have hiy : ¬ (k : Int) < (y.length : Int) := by omega
      have he := hok.out
      rw [fillUp_all (by rw [HYL.out]; omega) (by omega)] at he
      have O4 := hid he
      have R4 := hid (R2.out.touch hT.out (by omega))
      clear he
      go_wp2_with fail
      refine (ifCells_any a0 a1 a2 _ x.length c1 (List.zipWith (fun a b => a + b) x y) _ h0 h1 h2 HYL.out O4.out.rd hn HZW.out).mono ?_
      rintro e w4 ⟨d0', d1', d2', A', n', c', t, rfl, hG, hb⟩
      have S5 := hid (SR.out.trans (hb.mono SR.out.size))
      have O5 := hid (O4.out.below hb)
      obtain ⟨d0, d1, d2, d3⟩ := (R4.out.below hb).cells4
      have f0 := (R4.out.below hb).frozen 0
      have f1 := (R4.out.below hb).frozen 1
      have f2 := (R4.out.below hb).frozen 2
      have f3 := (R4.out.below hb).frozen 3
      clear hb q0 q1 q2 q3 l0 l1 l2 l3
      go_wp2
      refine bodyPost_ret (v := .tuple #[.agg #[.int .i64 d0', .int .i64 d1', .int .i64 d2', .slice A' n' c'], .bool t]) (by simp [results, Try.results40, go_sem, d0, d1, d2, d3]) rfl (retCl_give hG.out ?_ HYL.out hn ?_)
      · exact ((((O5.out.setFar (by simp <;> omega) _).setFar (by simp <;> omega) _).setFar (by simp <;> omega) _).setFar (by simp <;> omega) _).mono (by omega)
      · exact (((S5.out.setCell (by simp <;> omega) _).setCell (by simp <;> omega) _).setCell (by simp <;> omega) _).setCell (by simp <;> omega) _

end Go.Proofs.Ytmmolicodlmlkaa
namespace Go.Proofs.Ytmmolicodlmlkaa
open Go.RowKit
set_option linter.unusedVariables false

theorem quiet_moreN {P : Program} {f : FuncId} {args : Array Value} {w : World} {a n : Nat} {v : Value}
    (h : Calls P f args (w.drewN (a + n)) fun e w' => e = .returned v ∧ ∃ m, w' = (w.drewN (a + n)).drewN m) : Calls P f args (w.drewN (a + n)) fun e w'' => e = .returned v ∧ ∃ m, w'' = w.drewN (a + m) :=
  h.mono fun _ _ ⟨he, m, hm⟩ => ⟨he, n + m, by rw [hm, World.drewN_drewN, Nat.add_assoc]⟩
theorem vCells_iff {a0 a1 a2 : Int} {x : List Int} (h : vCells a0 a1 a2 x = true) : (2 ≤ a0 ∧ a0 ≤ 64) ∧ (1 ≤ a1 ∧ a1 ≤ 6) ∧ (0 ≤ a2 ∧ a2 ≤ 4294967295) ∧ (x.length : Int) = a0 * a1 ∧ ∀ y ∈ x, -1000000000000 ≤ y ∧ y ≤ 1000000000000 := by
  simp only [vCells, Bool.and_eq_true, decide_eq_true_eq, inB_iff] at h
  refine ⟨h.1.1.1.1, h.1.1.1.2, h.1.1.2, h.1.2, fun y hy => ?_⟩
  have := h.2
  unfold allB at this
  rw [List.all_eq_true] at this
  exact inB_iff.1 (this y hy)

/-- The least one of the cells at the listed places, and of M. -/
def minAtM (M : Int) (x : List Int) (l : List Int) : Int := l.foldl (fun a p => min a (x.getD p.toNat 0)) M
theorem minAtM_snoc {M : Int} {x l : List Int} {k m : Nat} {y : Int} (hl : Hid (l[k]? = some (m : Int))) (hx : Hid (x[m]? = some y)) : minAtM M x (l.take (k + 1)) = min (minAtM M x (l.take k)) y := by
  unfold minAtM
  rw [List.take_add_one, hl.out]
  simp only [Option.toList_some, List.foldl_append, List.foldl_cons, List.foldl_nil, Int.toNat_natCast]
  rw [List.getD_eq_getElem?_getD, hx.out]; rfl
theorem cellsL_at {wd s key dp k : Nat} (h : k < dp) : (cellsL wd s key dp)[k]? = some (placeN wd s key k : Int) := by simp [cellsL, h]

theorem l00Min_any' (a b : Int) (w : World) : Calls Try.prog 133 #[.int .i64 a, .int .i64 b] w fun e w' => e = .returned (.int .i64 (min a b)) ∧ w = w' := by
  by_cases h : a < b <;>
  · go_enter Try.func133, Try.ntmps133
    go_wp2
    go_ret
    exact ⟨ret_int (by omega), rfl⟩
set_option maxRecDepth 100000 in
set_option maxHeartbeats 1600000 in
theorem l03At_any (p wd dp s key c : Nat) (A : Option Addr) (x : List Int) (w : World) (h0 : w.cell? ⟨p, 0, none⟩ = some (.int .i64 wd)) (h1 : w.cell? ⟨p, 1, none⟩ = some (.int .i64 dp)) (h2 : w.cell? ⟨p, 2, none⟩ = some (.int .i64 s)) (h3 : w.cell? ⟨p, 3, none⟩ = some (.slice A x.length c))
    (hx : RdL (Value.int .i64) w A x) (hw1 : 2 ≤ wd) (hw2 : wd ≤ 64) (hd1 : 1 ≤ dp) (hd2 : dp ≤ 6) (hs : s < 4294967296) (hk : key < 4294967296) (hl : x.length = wd * dp) (hbd : ∀ y ∈ x, y ≤ 1000000000000) :
    Calls Try.prog 117 #[.pointer (some ⟨p, 0, none⟩), .int .i64 key] w fun e w' => e = .returned (.int .i64 (minAtM 1000000000000 x (cellsL wd s key dp))) ∧ ∃ n, w' = w.drewN n := by
  have HX := hid hx
  have HBD := hid hbd
  have HL := hid hl
  clear hx hbd hl
  have hlt0 : placeN wd s key 0 < x.length := by rw [HL.out]; exact placeN_lt (by omega) (by omega)
  have hlx : x.length ≤ 384 := by rw [HL.out]; have := Nat.mul_le_mul hw2 hd2; omega
  obtain ⟨b, o, y0, rfl, hy0, hym0⟩ := HX.out.at_ hlt0
  have hi0 : (placeN wd s key 0 : Int) < (x.length : Int) := by omega
  have hi0' : (0 : Int) ≤ (placeN wd s key 0 : Int) := by omega
  have hv1 : Hid (minAtM 1000000000000 x ((cellsL wd s key dp).take 1) = y0) := by
    show minAtM 1000000000000 x ((cellsL wd s key dp).take (0 + 1)) = y0
    rw [minAtM_snoc (cellsL_at (by omega)) hym0]
    have := HBD.out y0 (List.mem_of_getElem? hym0.out)
    simp only [List.take_zero, minAtM, List.foldl_nil]
    omega
  go_enter Try.func117, Try.ntmps117
  go_wp2
  go_quiet ((go_at_call 128; exact Calls.quiet_of (l03Place_any _ wd s key 0 _ (by simpa using h0) (by simpa using h2) hw1 hw2 hs hk (by omega))))
  go_wp2
  go_loopw [5, 6] (fun v i wr => ∃ k n : Nat, 1 ≤ k ∧ k ≤ dp ∧ i = .int .i64 k ∧ wr = w.drewN n ∧ ∃ z : Int, v = .int .i64 z ∧ Hid (minAtM 1000000000000 x ((cellsL wd s key dp).take k) = z)) (fun _ i _ => dp - (intOf i).toNat)
  case atStart => exact ⟨1, _, Nat.le_refl _, by omega, rfl, rfl, y0, rfl, hv1⟩
  case round =>
    obtain ⟨k, n, hk1', hkr, rfl, rfl, z, rfl, hh⟩ := hrel
    by_cases hlt : k < dp
    · have hi : (k : Int) < (dp : Int) := by omega
      have hltk : placeN wd s key k < x.length := by rw [HL.out]; exact placeN_lt (by omega) hlt
      obtain ⟨b', o', y, hA', hcy, hym⟩ := HX.out.at_ hltk
      obtain ⟨rfl, rfl⟩ : b = b' ∧ o = o' := by injection hA' with hA'; injection hA' with h1 h2; exact ⟨h1, h2⟩
      have hik : (placeN wd s key k : Int) < (x.length : Int) := by omega
      have hik' : (0 : Int) ≤ (placeN wd s key k : Int) := by omega
      have he : Hid (minAtM 1000000000000 x ((cellsL wd s key dp).take (k + 1)) = min z y) := by rw [minAtM_snoc (cellsL_at hlt) hym, hh.out]; rfl
      clear hA'
      go_wp2
      go_quiet ((first | (go_at_call 128; exact quiet_moreN (l03Place_any _ wd s key k _ (by simpa using h0) (by simpa using h2) hw1 hw2 hs hk (by omega))) | (go_at_call 133; exact quiet_more (l00Min_any' _ _ _))))
      go_wp2
      exact ⟨⟨k + 1, _, by omega, by omega, by go_num, rfl, _, rfl, he⟩, by simp [intOf]; omega⟩
    · have hi : ¬ (k : Int) < (dp : Int) := by omega
      go_wp2
      go_ret
      have he := hh.out
      rw [List.take_of_length_le (by rw [cellsL_length]; omega)] at he
      exact ⟨ret_int he.symm, _, rfl⟩
set_option maxRecDepth 100000 in
set_option maxHeartbeats 1600000 in
theorem iat_any (wd dp s key c : Nat) (A : Option Addr) (x : List Int) (w : World)
    (hx : RdL (Value.int .i64) w A x) (hw1 : 2 ≤ wd) (hw2 : wd ≤ 64) (hd1 : 1 ≤ dp) (hd2 : dp ≤ 6) (hs : s < 4294967296) (hk : key < 4294967296) (hl : x.length = wd * dp) :
    Calls Try.prog 99 #[.agg #[.int .i64 wd, .int .i64 dp, .int .i64 s, .slice A x.length c], .int .i64 key] w fun e w' => e = .returned (.int .i64 (minAtM 1000000000000 x (cellsL wd s key dp))) ∧ Below w.heap.size w w' := by
  have HX := hid hx
  have hlx : x.length ≤ 384 := by rw [hl]; have := Nat.mul_le_mul hw2 hd2; omega
  have HL := hid hl
  clear hx hl
  have b0 := hid (Blk.new w 37 [.int .i64 wd, .int .i64 dp, .int .i64 s, .slice A x.length c])
  go_enter Try.func99, Try.ntmps99
  go_wp2_with fail
  refine (places_any wd dp s key x.length c A _ hw1 hw2 hd2 hs hk).mono ?_
  rintro e w1 ⟨A1, c1, rfl, ho, hb⟩
  have HO := hid ho.rd
  have S1 := below_call (below_a1 _ _) hb
  have HX1 := hid (HX.out.below S1.out)
  obtain ⟨c0, c2, c4, c3⟩ := (b0.out.below hb).cells4
  have hPl := cellsL_length wd s key dp
  obtain ⟨P, hP⟩ : ∃ P, P = cellsL wd s key dp := ⟨_, rfl⟩
  have hmem : Hid (∀ p ∈ P, ∃ m : Nat, p = m ∧ m < x.length) := fun p hp' => by rw [HL.out]; exact cellsL_mem (by omega) (hP ▸ hp')
  rw [← hP] at hPl HO ⊢
  have HP := hid hP
  clear ho hb hP c0 c2 c4 b0
  have HPl := hid hPl
  have hP8 : P.length ≤ 8 := by omega
  clear hPl
  go_wp2
  go_loop [5, 12] (fun v i => ∃ k : Nat, k ≤ P.length ∧ i = .int .i64 k ∧ ∃ z : Int, v = .int .i64 z ∧ Hid (minAtM 1000000000000 x (P.take k) = z)) (fun _ i => P.length - (intOf i).toNat)
  case atStart => exact ⟨0, Nat.zero_le _, rfl, _, rfl, rfl⟩
  case round =>
    obtain ⟨k, hkr, rfl, z, rfl, hh⟩ := hrel
    by_cases hlt : k < P.length
    · have hi : (k : Int) < (P.length : Int) := by omega
      obtain ⟨b1, o1, p, rfl, hcp, hpk⟩ := HO.out.at_ hlt
      obtain ⟨m, rfl, hm⟩ := hmem.out p (List.mem_of_getElem? hpk.out)
      obtain ⟨b, o, y, rfl, hcy, hym⟩ := HX1.out.at_ hm
      have hm' : (m : Int) < (x.length : Int) := by omega
      have hm0 : (0 : Int) ≤ (m : Int) := by omega
      have he : Hid (minAtM 1000000000000 x (P.take (k + 1)) = min z y) := by rw [minAtM_snoc hpk hym, hh.out]; rfl
      by_cases hzy : z ≤ y
      · rw [show min z y = z by omega] at he
        go_wp2
        exact ⟨⟨k + 1, by omega, by go_num, _, rfl, he⟩, by simp [intOf]; omega⟩
      · have he2 : Hid (minAtM 1000000000000 x (P.take (k + 1)) = y) := by rw [he.out]; show min z y = y; omega
        go_wp2
        exact ⟨⟨k + 1, by omega, by go_num, _, rfl, he2⟩, by simp [intOf]; omega⟩
    · have hi : ¬ (k : Int) < (P.length : Int) := by omega
      go_wp2
      go_ret
      have he := hh.out
      rw [List.take_of_length_le (by omega)] at he
      exact ⟨ret_int (by rw [← HP.out, he]), S1.out⟩
end Go.Proofs.Ytmmolicodlmlkaa
namespace Go.Proofs.Ytmmolicodlmlkaa
open Go.RowKit
set_option linter.unusedVariables false

theorem ret_slice {A : Option Addr} {n n' c : Nat} (h : n = n') : Ending.returned (.slice A n c) = .returned (.slice A n' c) := by rw [h]
/-- Row i. -/
def rowL (x : List Int) (wd i : Nat) : List Int := (x.drop (i * wd)).take wd
theorem rowL_length {x : List Int} {wd dp i : Nat} (hl : x.length = wd * dp) (hi : i < dp) : (rowL x wd i).length = wd := by
  have h2 : (i + 1) * wd ≤ dp * wd := Nat.mul_le_mul_right wd hi
  rw [Nat.add_mul] at h2
  rw [Nat.mul_comm wd dp] at hl
  simp only [rowL, List.length_take, List.length_drop]
  omega
theorem rowL_at {x : List Int} {wd i k : Nat} (hk : k < wd) : (rowL x wd i)[k]? = x[i * wd + k]? := by
  simp only [rowL, List.getElem?_take, if_pos hk, List.getElem?_drop]
theorem rowL_mem {x : List Int} {wd i : Nat} {y : Int} (h : y ∈ rowL x wd i) : y ∈ x := List.mem_of_mem_drop (List.mem_of_mem_take h)
theorem rowL_rd {x : List Int} {wd i : Nat} {w : World} {b o : Nat} (h : RdL (Value.int .i64) w (some ⟨b, o, none⟩) x) : RdL (Value.int .i64) w (some ⟨b, o + i * wd, none⟩) (rowL x wd i) := fun j hj => by
  have hlen : j < wd ∧ i * wd + j < x.length := by
    simp only [rowL, List.length_take, List.length_drop] at hj; omega
  obtain ⟨b', o', hA, hc⟩ := h (i * wd + j) hlen.2
  injection hA with hA; injection hA with h1 h2
  subst h1 h2
  refine ⟨b, o + i * wd, rfl, ?_⟩
  rw [Nat.add_assoc, hc]
  have := rowL_at (x := x) (i := i) hlen.1
  rw [List.getElem?_eq_getElem hj, List.getElem?_eq_getElem hlen.2] at this
  injection this with this
  rw [this]
theorem sum_snoc {l : List Int} {k : Nat} {y : Int} (h : Hid (l[k]? = some y)) : (l.take (k + 1)).sum = (l.take k).sum + y := by
  rw [List.take_add_one, h.out]; simp
theorem sum_bound {l : List Int} {M : Int} (hM : 0 ≤ M) (h : ∀ y ∈ l, -M ≤ y ∧ y ≤ M) : ∀ k, -(k * M) ≤ (l.take k).sum ∧ (l.take k).sum ≤ k * M := by
  intro k
  induction k with
  | zero => simp
  | succ k ih =>
    have e : ((k + 1 : Nat) : Int) * M = k * M + M := by rw [Int.natCast_add, Int.add_mul]; simp
    rcases Nat.lt_or_ge k l.length with hk | hk
    · rw [sum_snoc (show Hid (l[k]? = some l[k]) from List.getElem?_eq_getElem hk), e]
      have := h l[k] (List.getElem_mem hk)
      omega
    · rw [List.take_of_length_le (by omega)] at ih ⊢
      rw [e]; omega

set_option maxHeartbeats 800000 in
theorem sumOf_any (A : Option Addr) (c : Nat) (x : List Int) (w : World) (hx : RdL (Value.int .i64) w A x) (hn : x.length ≤ 4096) (hbd : ∀ y ∈ x, -1000000000000 ≤ y ∧ y ≤ 1000000000000) :
    Calls Try.prog 101 #[.slice A x.length c] w fun e w' => e = .returned (.int .i64 x.sum) ∧ w = w' := by
  have HX := hid hx
  have HSB := hid (sum_bound (l := x) (M := 1000000000000) (by omega) hbd)
  have HBD := hid hbd
  clear hx hbd
  go_enter Try.func101, Try.ntmps101
  go_wp2
  go_loop [3, 8] (fun v j => ∃ k : Nat, k ≤ x.length ∧ j = .int .i64 k ∧ ∃ z : Int, v = .int .i64 z ∧ Hid ((x.take k).sum = z)) (fun _ j => x.length - (intOf j).toNat)
  case atStart => exact ⟨0, Nat.zero_le _, rfl, 0, rfl, by show (x.take 0).sum = 0; simp⟩
  case round =>
    obtain ⟨k, hk, rfl, z, rfl, hh⟩ := hrel
    by_cases hlt : k < x.length
    · have hi' : (k : Int) < (x.length : Int) := by omega
      obtain ⟨b, o, y, rfl, hcy, hym⟩ := HX.out.at_ hlt
      have he : Hid ((x.take (k + 1)).sum = z + y) := by rw [sum_snoc hym, hh.out]; rfl
      have hyb := HBD.out y (List.mem_of_getElem? hym.out)
      have hzb := HSB.out k
      rw [hh.out] at hzb
      go_wp2
      exact ⟨⟨k + 1, by omega, by go_num, _, rfl, he⟩, by simp [intOf]; omega⟩
    · have hi' : ¬ (k : Int) < (x.length : Int) := by omega
      go_wp2
      go_ret
      have he := hh.out
      rw [List.take_of_length_le (by omega)] at he
      exact ⟨ret_int he.symm, rfl⟩
theorem sumOf_any' (A : Option Addr) (n c : Nat) (x : List Int) (w : World) (hl : Hid (x.length = n)) (hx : RdL (Value.int .i64) w A x) (hn : n ≤ 4096) (hbd : ∀ y ∈ x, -1000000000000 ≤ y ∧ y ≤ 1000000000000) :
    Calls Try.prog 101 #[.slice A n c] w fun e w' => e = .returned (.int .i64 x.sum) ∧ w = w' := by
  obtain rfl := hl.out
  exact sumOf_any A c x w hx hn hbd
set_option maxHeartbeats 800000 in
theorem irow_any (wd dp s i n c b o : Nat) (w : World) (hw1 : 2 ≤ wd) (hw2 : wd ≤ 64) (hi : i < dp) (hd2 : dp ≤ 6) (hl : n = wd * dp) (hc : n ≤ c) (hc2 : c ≤ 1048576) :
    Calls Try.prog 102 #[.agg #[.int .i64 wd, .int .i64 dp, .int .i64 s, .slice (some ⟨b, o, none⟩) n c], .int .i64 i] w fun e w' => ∃ c', e = .returned (.slice (some ⟨b, o + i * wd, none⟩) wd c') ∧ wd ≤ c' ∧ Below w.heap.size w w' := by
  have hm := mul_le6 (show i ≤ 6 by omega) hw2
  have hm2 := mul_le6 (show i + 1 ≤ 6 by omega) hw2
  have h2 : (i + 1) * wd ≤ dp * wd := Nat.mul_le_mul_right wd hi
  rw [Nat.mul_comm dp wd, ← hl] at h2
  have e0 : ((i : Int) + 1) * (wd : Int) = (i : Int) * (wd : Int) + (wd : Int) := by rw [Int.add_mul, Int.one_mul]
  have ec : ((i * wd : Nat) : Int) = (i : Int) * (wd : Int) := Int.natCast_mul _ _
  have ed : (i + 1) * wd = i * wd + wd := by rw [Nat.add_mul, Nat.one_mul]
  have h5 : 0 ≤ (i : Int) * (wd : Int) + (wd : Int) ∧ (i : Int) * (wd : Int) + (wd : Int) ≤ (c : Int) := by rw [ed] at h2; omega
  have hne : ¬ c = i * wd := by rw [ed] at h2; omega
  have hlast : wd ≤ c - i * wd := by rw [ed] at h2; omega
  clear hl ed h2 hm2 ec
  go_enter Try.func102, Try.ntmps102
  go_wp2
  go_ret
  exact ⟨_, ret_slice (by omega), hlast, below_a1 _ _⟩

/-- What CellsTotal returns. -/
def pCellsTotal (a0 a1 a2 : Int) (x : List Int) : Int × Bool := if vCells a0 a1 a2 x = true then ((rowL x a0.toNat 0).sum, true) else (0, false)
set_option maxHeartbeats 800000 in
theorem iCellsTotal_any (a0 a1 a2 : Int) (A : Option Addr) (c : Nat) (x : List Int) (w : World) (h0 : W64 a0) (h1 : W64 a1) (h2 : W64 a2) (hx : RdL (Value.int .i64) w A x) (hn : x.length ≤ 1048576) (we : ∀ y ∈ x, W64 y) (hc : x.length ≤ c ∧ c ≤ 1048576 := by omega) :
    Calls Try.prog 41 #[.agg #[.int .i64 a0, .int .i64 a1, .int .i64 a2, .slice A x.length c]] w fun e w' => e = .returned (.tuple #[.int .i64 (pCellsTotal a0 a1 a2 x).1, .bool (pCellsTotal a0 a1 a2 x).2]) ∧ Below w.heap.size w w' := by
  have HX := hid hx
  have b0 := hid (Blk.new w 37 [.int .i64 a0, .int .i64 a1, .int .i64 a2, .slice A x.length c])
  cases hv : vCells a0 a1 a2 x with
  | false =>
    have hp : pCellsTotal a0 a1 a2 x = (0, false) := by simp [pCellsTotal, hv]
    rw [hp]
    clear hp
    go_enter Try.func41, Try.ntmps41
    go_wp2_with fail
    refine (iValidCells_any a0 a1 a2 A c x _ h0 h1 h2 (HX.out.below (below_a1 _ _)) hn we).mono ?_
    rintro e w1 ⟨rfl, hb⟩
    go_wp2
    go_ret2
    exact ⟨rfl, (below_call (below_a1 _ _) hb).out⟩
  | true =>
  obtain ⟨⟨hw1, hw2⟩, ⟨hd1, hd2⟩, ⟨hs1, hs2⟩, hlen, hbd⟩ := vCells_iff hv
  obtain ⟨wd, rfl⟩ := Int.eq_ofNat_of_zero_le (show 0 ≤ a0 by omega)
  obtain ⟨dp, rfl⟩ := Int.eq_ofNat_of_zero_le (show 0 ≤ a1 by omega)
  obtain ⟨s, rfl⟩ := Int.eq_ofNat_of_zero_le hs1
  have hlen' : x.length = wd * dp := by rw [← Int.natCast_mul] at hlen; omega
  have hp : pCellsTotal wd dp s x = ((rowL x wd 0).sum, true) := by simp [pCellsTotal, hv]
  rw [hp]
  clear hp hlen
  have hpos : 0 < x.length := by rw [hlen']; exact Nat.mul_pos (by omega) (by omega)
  have hR := rowL_length (i := 0) hlen' (by omega)
  have HL := hid hlen'
  clear hlen'
  obtain ⟨b, o, y, rfl, hc0, hy0⟩ := hx.at_ hpos
  clear hc0 hy0
  go_enter Try.func41, Try.ntmps41
  go_wp2_with fail
  refine (iValidCells_any wd dp s _ c x _ h0 h1 h2 (HX.out.below (below_a1 _ _)) hn we).mono ?_
  rintro e w1 ⟨rfl, hb⟩
  have S1 := below_call (below_a1 _ _) hb
  have HX1 := hid (HX.out.below S1.out)
  obtain ⟨c0, c1, c2, c3⟩ := (b0.out.below hb).cells4
  clear hb b0
  go_wp2_with fail
  refine (irow_any wd dp s 0 x.length c b o _ (by omega) (by omega) (by omega) (by omega) HL.out hc.1 hc.2).mono ?_
  rintro e w2 ⟨c', rfl, _, hb2⟩
  have HX2 : Hid (RdL (Value.int .i64) w2 (some ⟨b, o, none⟩) (rowL x wd 0)) := by
    have h := rowL_rd (i := 0) (wd := wd) (HX1.out.below hb2)
    rwa [Nat.zero_mul, Nat.add_zero] at h
  have S2 := hid (S1.out.trans (hb2.mono S1.out.size))
  clear hb2 c0 c1 c2 c3
  have HR := hid hR
  clear hR
  go_wp2_with fail
  refine (sumOf_any' _ wd c' (rowL x wd 0) _ HR HX2.out (by omega) (fun y hy => hbd y (rowL_mem hy))).mono ?_
  rintro e w3 ⟨rfl, rfl⟩
  go_wp2
  go_ret2
  exact ⟨rfl, S2.out⟩
end Go.Proofs.Ytmmolicodlmlkaa
namespace Go.Proofs.Ytmmolicodlmlkaa
open Go.RowKit
set_option linter.unusedVariables false

/-- The least one; 0 if there is none. -/
def minL : List Int → Int
  | [] => 0
  | a :: l => l.foldl min a
theorem minL_one (a : Int) : minL [a] = a := rfl
theorem minL_snoc {l : List Int} (a : Int) (h : l ≠ []) : minL (l ++ [a]) = min (minL l) a := by
  cases l with
  | nil => exact absurd rfl h
  | cons b l => simp [minL, List.foldl_append]
set_option maxHeartbeats 1000000 in
theorem slMin_any (A : Option Addr) (c : Nat) (x : List Int) (w : World) (hx : RdL (Value.int .i64) w A x) (hn : x.length ≤ 1048576) (hp : 0 < x.length) :
    Calls Try.prog 104 #[.slice A x.length c] w fun e w' => e = .returned (.int .i64 (minL x)) ∧ w = w' := by
  have HX := hid hx
  clear hx
  obtain ⟨b, o, y0, rfl, hy0, hym0⟩ := HX.out.at_ hp
  have hs : Hid (minL (x.take 1) = y0) := by
    show _ = _
    rw [show x.take 1 = x.take (0 + 1) from rfl, List.take_add_one, hym0.out]
    simp [minL]
  have hy0' : w.cell? ⟨b, o, none⟩ = some (.int .i64 y0) := by simpa using hy0
  go_enter Try.func104, Try.ntmps104
  go_wp2
  go_loop [3, 4] (fun v i => ∃ k : Nat, 1 ≤ k ∧ k ≤ x.length ∧ i = .int .i64 k ∧ ∃ z : Int, v = .int .i64 z ∧ Hid (minL (x.take k) = z)) (fun v i => x.length - (intOf i).toNat)
  case atStart => exact ⟨1, Nat.le_refl _, hp, rfl, _, rfl, hs⟩
  case round =>
    obtain ⟨k, hk1, hk, rfl, z, rfl, hh⟩ := hrel
    by_cases hlt : k < x.length
    · have hi : (k : Int) < (x.length : Int) := by omega
      obtain ⟨b', o', y, hA', hcy, hym⟩ := HX.out.at_ hlt
      obtain ⟨rfl, rfl⟩ : b = b' ∧ o = o' := by injection hA' with hA'; injection hA' with h1 h2; exact ⟨h1, h2⟩
      have hne : x.take k ≠ [] := by
        intro h
        have h2 : (x.take k).length = k := by simp; omega
        rw [h] at h2; simp at h2; omega
      have he : Hid (minL (x.take (k + 1)) = min z y) := by
        show _ = _
        rw [List.take_add_one, hym.out, Option.toList_some, minL_snoc y hne, hh.out]
      clear hA' hne
      by_cases hzy : z ≤ y
      · rw [show min z y = z by omega] at he
        go_wp2
        exact ⟨⟨k + 1, by omega, by omega, by go_num, _, rfl, he⟩, by simp [intOf]; omega⟩
      · rw [show min z y = y by omega] at he
        have hyz : y < z := by omega
        clear hzy
        go_wp2
        exact ⟨⟨k + 1, by omega, by omega, by go_num, _, rfl, he⟩, by simp [intOf]; omega⟩
    · have hi : ¬ (k : Int) < (x.length : Int) := by omega
      go_wp2
      go_ret
      have he := hh.out
      rw [List.take_of_length_le (by omega)] at he
      exact ⟨ret_int he.symm, rfl⟩
end Go.Proofs.Ytmmolicodlmlkaa
namespace Go.Proofs.Ytmmolicodlmlkaa
open Go.RowKit
set_option linter.unusedVariables false
set_option linter.unusedSimpArgs false

/-- The products of two rows. -/
def prodL (x y : List Int) (wd i : Nat) : List Int := List.zipWith (fun a b => a * b) (rowL x wd i) (rowL y wd i)
/-- The sums of the products of the first n rows. -/
def dotsL (x y : List Int) (wd n : Nat) : List Int := (List.range n).map fun i => (prodL x y wd i).sum
theorem dotsL_succ (x y : List Int) (wd n : Nat) : dotsL x y wd (n + 1) = dotsL x y wd n ++ [(prodL x y wd n).sum] := by simp [dotsL, List.range_succ]
theorem dotsL_length (x y : List Int) (wd n : Nat) : (dotsL x y wd n).length = n := by simp [dotsL]
theorem prodL_length {x y : List Int} {wd dp i : Nat} (hx : x.length = wd * dp) (hy : y.length = wd * dp) (hi : i < dp) : (prodL x y wd i).length = wd := by
  unfold prodL
  rw [List.length_zipWith, rowL_length hx hi, rowL_length hy hi]; simp
theorem mul_small {a b : Int} (ha : -1000000 ≤ a ∧ a ≤ 1000000) (hb : -1000000 ≤ b ∧ b ≤ 1000000) : -1000000000000 ≤ a * b ∧ a * b ≤ 1000000000000 := by
  have h1 : (a * b).natAbs = a.natAbs * b.natAbs := Int.natAbs_mul a b
  have h2 : a.natAbs * b.natAbs ≤ 1000000 * 1000000 := Nat.mul_le_mul (by omega) (by omega)
  omega
theorem prodL_bound {x y : List Int} {wd i : Nat} (hx : ∀ z ∈ x, -1000000 ≤ z ∧ z ≤ 1000000) (hy : ∀ z ∈ y, -1000000 ≤ z ∧ z ≤ 1000000) : ∀ z ∈ prodL x y wd i, -1000000000000 ≤ z ∧ z ≤ 1000000000000 := fun z hz => by
  unfold prodL at hz
  obtain ⟨j, hj, hz⟩ := List.mem_iff_getElem.1 hz
  rw [List.getElem_zipWith] at hz
  subst hz
  exact mul_small (hx _ (rowL_mem (List.getElem_mem _))) (hy _ (rowL_mem (List.getElem_mem _)))
theorem prodL_at {x y : List Int} {wd i k : Nat} {u v : Int} (hk : k < wd) (hu : Hid (x[i * wd + k]? = some u)) (hv : Hid (y[i * wd + k]? = some v)) : Hid ((prodL x y wd i)[k]? = some (u * v)) := by
  show _ = _
  unfold prodL
  rw [List.getElem?_zipWith, rowL_at hk, rowL_at hk, hu.out, hv.out]
/-- What CellsDot returns. -/
def pCellsDot (a0 a1 a2 : Int) (x : List Int) (b0 b1 b2 : Int) (y : List Int) : Int × Bool :=
  if (alikeC a0 a1 a2 x b0 b1 b2 y && allB x (-1000000) 1000000 && allB y (-1000000) 1000000) = true then (minL (dotsL x y a0.toNat a1.toNat), true) else (0, false)
theorem ownsRow_below {w w' : World} {base : Nat} {e : TypeId} {size : Nat} {v : Value} {n : Nat} {xs : List Value} (h : w.ownsRow base e size v n xs) (hb : Below w.heap.size w w') : w'.ownsRow base e size v n xs := by
  obtain ⟨h1, h2⟩ := h
  refine ⟨h1, h2.imp id ?_⟩
  rintro ⟨g, cap, cur, hv, hB, hg, h3⟩
  exact ⟨g, cap, cur, hv, hB, (hb.block g (Array.getElem?_eq_some_iff.1 hg).1).trans hg, h3⟩
theorem below_undrew {B m : Nat} {w w' : World} (h : Below B (w.drewN m) w') : Below B w w' := ⟨h.os, h.tape, h.output, h.size, h.block⟩
theorem below_drewX {B m : Nat} {w w' : World} (h : Below B w w') : Below B w (w'.drewN m) := ⟨h.os, h.tape, h.output, h.size, h.block⟩
theorem allB_iff {x : List Int} {lo hi : Int} (h : allB x lo hi = true) : ∀ y ∈ x, lo ≤ y ∧ y ≤ hi := fun y hy => by
  unfold allB at h
  rw [List.all_eq_true] at h
  exact inB_iff.1 (h y hy)

set_option maxHeartbeats 800000 in
theorem areSmall_any (a0 a1 a2 : Int) (A : Option Addr) (c : Nat) (x : List Int) (w : World) (hx : RdL (Value.int .i64) w A x) (hn : x.length ≤ 1048576) :
    Calls Try.prog 103 #[.agg #[.int .i64 a0, .int .i64 a1, .int .i64 a2, .slice A x.length c]] w fun e w' => e = .returned (.bool (allB x (-1000000) 1000000)) ∧ Below w.heap.size w w' := by
  have HX := hid hx
  clear hx
  go_enter Try.func103, Try.ntmps103
  go_wp2_with fail
  refine (areWithin_any A c x _ _ _ (HX.out.below (below_a1 _ _)) hn).mono ?_
  rintro e w1 ⟨rfl, hb⟩
  have S1 := below_call (below_a1 _ _) hb
  clear hb
  go_wp2
  go_ret
  exact ⟨rfl, S1.out⟩
set_option maxRecDepth 100000 in
set_option maxHeartbeats 3200000 in
theorem iCellsDot_any (a0 a1 a2 : Int) (A : Option Addr) (c : Nat) (x : List Int) (b0 b1 b2 : Int) (A' : Option Addr) (c' : Nat) (y : List Int) (w : World) (h0 : W64 a0) (h1 : W64 a1) (h2 : W64 a2) (hx : RdL (Value.int .i64) w A x) (hn : x.length ≤ 1048576) (we : ∀ y ∈ x, W64 y) (h0' : W64 b0) (h1' : W64 b1) (h2' : W64 b2) (hy : RdL (Value.int .i64) w A' y) (hn' : y.length ≤ 1048576) (we' : ∀ z ∈ y, W64 z) (hc : (x.length ≤ c ∧ c ≤ 1048576) ∧ y.length ≤ c' ∧ c' ≤ 1048576 := by omega) :
    Calls Try.prog 42 #[.agg #[.int .i64 a0, .int .i64 a1, .int .i64 a2, .slice A x.length c], .agg #[.int .i64 b0, .int .i64 b1, .int .i64 b2, .slice A' y.length c']] w fun e w' => e = .returned (.tuple #[.int .i64 (pCellsDot a0 a1 a2 x b0 b1 b2 y).1, .bool (pCellsDot a0 a1 a2 x b0 b1 b2 y).2]) ∧ Below w.heap.size w w' := by
  have HX := hid hx
  have HY := hid hy
  have WX := hid we
  have WY := hid we'
  clear hx hy we we'
  have BA0 := hid ((Blk.new w 37 [.int .i64 a0, .int .i64 a1, .int .i64 a2, .slice A x.length c]).alloc (.cells #[.int .i64 b0, .int .i64 b1, .int .i64 b2, .slice A' y.length c'] 37))
  have BB0 := hid (Blk.new2 w (.cells #[.int .i64 a0, .int .i64 a1, .int .i64 a2, .slice A x.length c] 37) 37 [.int .i64 b0, .int .i64 b1, .int .i64 b2, .slice A' y.length c'])
  obtain ⟨k0, k1, k2, k3⟩ := BA0.out.cells4
  obtain ⟨l0, l1, l2, l3⟩ := BB0.out.cells4
  have key : ∀ u v z : Bool, alikeC a0 a1 a2 x b0 b1 b2 y = u → allB x (-1000000) 1000000 = v → allB y (-1000000) 1000000 = z → (u && v && z) = false →
      Calls Try.prog 42 #[.agg #[.int .i64 a0, .int .i64 a1, .int .i64 a2, .slice A x.length c], .agg #[.int .i64 b0, .int .i64 b1, .int .i64 b2, .slice A' y.length c']] w fun e w' => e = .returned (.tuple #[.int .i64 0, .bool false]) ∧ Below w.heap.size w w' := by
    intro u v z hu hv hz hno
    cases u
    case' true =>
      cases v
      case' true => cases z
    all_goals
      first
      | (exfalso; revert hno; decide)
      | (go_enter Try.func42, Try.ntmps42
         go_wp2_with fail
         refine (alike_any a0 a1 a2 A c x b0 b1 b2 A' c' y _ h0 h1 h2 (HX.out.below (below_a2 _ _ _)) hn WX.out h0' h1' h2' (HY.out.below (below_a2 _ _ _)) hn' WY.out).mono ?_
         rw [hu]
         rintro e w1 ⟨rfl, hb⟩
         clear k0 k1 k2 l0 l1 l2 k3 l3 hno
         have S1 := below_call (below_a2 _ _ _) hb
         have B1 := hid (BA0.out.below hb)
         have C1 := hid (BB0.out.below hb)
         obtain ⟨k0, k1, k2, k3⟩ := B1.out.cells4
         clear hb hu
         go_wp2_with fail
         first
         | (go_ret2
            exact ⟨rfl, S1.out⟩)
         | (refine (areSmall_any a0 a1 a2 A c x _ (HX.out.below S1.out) hn).mono ?_
            rw [hv]
            rintro e w2 ⟨rfl, hb⟩
            have S2 := hid (S1.out.trans (hb.mono S1.out.size))
            obtain ⟨l0, l1, l2, l3⟩ := (C1.out.below hb).cells4
            clear hb k0 k1 k2 k3
            go_wp2_with fail
            first
            | (go_ret2
               exact ⟨rfl, S2.out⟩)
            | (refine (areSmall_any b0 b1 b2 A' c' y _ (HY.out.below S2.out) hn').mono ?_
               rw [hz]
               rintro e w3 ⟨rfl, hb⟩
               have S3 := hid (S2.out.trans (hb.mono S2.out.size))
               clear hb l0 l1 l2 l3
               go_wp2
               go_ret2
               exact ⟨rfl, S3.out⟩)))
  cases hgo : (alikeC a0 a1 a2 x b0 b1 b2 y && allB x (-1000000) 1000000 && allB y (-1000000) 1000000) with
  | false =>
    have hp : pCellsDot a0 a1 a2 x b0 b1 b2 y = (0, false) := by simp only [pCellsDot, hgo]; rfl
    rw [hp]
    exact key _ _ _ rfl rfl rfl hgo
  | true =>
  have hp : pCellsDot a0 a1 a2 x b0 b1 b2 y = (minL (dotsL x y a0.toNat a1.toNat), true) := by simp only [pCellsDot, hgo]; rfl
  rw [hp]
  simp only [Bool.and_eq_true] at hgo
  obtain ⟨⟨hal, hax⟩, hay⟩ := hgo
  obtain ⟨hv, hv', rfl, rfl, rfl⟩ := alikeC_iff hal
  obtain ⟨⟨hw1, hw2⟩, ⟨hd1, hd2⟩, ⟨hs1, hs2⟩, hl, _⟩ := vCells_iff' hv
  obtain ⟨_, _, _, hl', _⟩ := vCells_iff' hv'
  obtain ⟨wd, rfl⟩ := Int.eq_ofNat_of_zero_le (show 0 ≤ a0 by omega)
  obtain ⟨dp, rfl⟩ := Int.eq_ofNat_of_zero_le (show 0 ≤ a1 by omega)
  obtain ⟨s, rfl⟩ := Int.eq_ofNat_of_zero_le hs1
  simp only [Int.toNat_natCast]
  have hlx : x.length = wd * dp := by rw [← Int.natCast_mul] at hl; omega
  have hly : y.length = wd * dp := by rw [← Int.natCast_mul] at hl'; omega
  have hlx4 : x.length ≤ 384 := by rw [hlx]; have := Nat.mul_le_mul (show wd ≤ 64 by omega) (show dp ≤ 6 by omega); omega
  have hly4 : y.length ≤ 384 := by rw [hly]; have := Nat.mul_le_mul (show wd ≤ 64 by omega) (show dp ≤ 6 by omega); omega
  have hpx : 0 < x.length := by rw [hlx]; exact Nat.mul_pos (by omega) (by omega)
  have hpy : 0 < y.length := by rw [hly]; exact Nat.mul_pos (by omega) (by omega)
  have BX := hid (allB_iff hax)
  have BY := hid (allB_iff hay)
  have LX := hid hlx
  have LY := hid hly
  have HAL := hid hal
  have HAX := hid hax
  have HAY := hid hay
  clear hl hl' hlx hly hal hax hay hp key hv hv'
  obtain ⟨b, o, _, rfl, _, _⟩ := HX.out.at_ hpx
  obtain ⟨b', o', _, rfl, _, _⟩ := HY.out.at_ hpy
  obtain ⟨i0, hi0, hz0, hz1, hz2⟩ := info_parts Try.infoI
  go_enter Try.func42, Try.ntmps42
  go_wp2_with fail
  refine (alike_any wd dp s _ c x wd dp s _ c' y _ h0 h1 h2 (HX.out.below (below_a2 _ _ _)) hn WX.out h0' h1' h2' (HY.out.below (below_a2 _ _ _)) hn' WY.out).mono ?_
  rw [HAL.out]
  rintro e w1 ⟨rfl, hb⟩
  clear k0 k1 k2 l0 l1 l2 k3 l3
  have S1 := below_call (below_a2 _ _ _) hb
  have B1 := hid (BA0.out.below hb)
  have C1 := hid (BB0.out.below hb)
  obtain ⟨k0, k1, k2, k3⟩ := B1.out.cells4
  clear hb BA0 BB0
  go_wp2_with fail
  refine (areSmall_any wd dp s _ c x _ (HX.out.below S1.out) hn).mono ?_
  rw [HAX.out]
  rintro e w2 ⟨rfl, hb⟩
  have S2 := hid (S1.out.trans (hb.mono S1.out.size))
  have B2 := hid (B1.out.below hb)
  have C2 := hid (C1.out.below hb)
  obtain ⟨l0, l1, l2, l3⟩ := C2.out.cells4
  clear hb k0 k1 k2 k3 B1 C1 S1
  go_wp2_with fail
  refine (areSmall_any wd dp s _ c' y _ (HY.out.below S2.out) hn').mono ?_
  rw [HAY.out]
  rintro e w3 ⟨rfl, hb⟩
  have S3 := hid (S2.out.trans (hb.mono S2.out.size))
  have B3 := hid (B2.out.below hb)
  have C3 := hid (C2.out.below hb)
  have X3 := hid (HX.out.below S3.out)
  have Y3 := hid (HY.out.below S3.out)
  clear hb l0 l1 l2 l3 B2 C2 S2
  obtain ⟨k0, k1, k2, k3⟩ := (B3.out.alloc (.cells #[] 2)).cells4
  go_wp2
  go_loopw [6, 7, 8, 9, 10, 28] (fun v i_ s_ k_ n_ i wr => ∃ k : Nat, k ≤ dp ∧ i = .int .i64 k ∧ Hid (wr.ownsRow w3.heap.size 2 1 v k ((dotsL x y wd k).map (Value.int .i64))) ∧ Hid (Below w3.heap.size w3 wr)) (fun v i_ s_ k_ n_ i _ => dp - (intOf i).toNat)
  case atStart => exact ⟨0, Nat.zero_le _, rfl, World.ownsRow_made w3 #[] 0 (Nat.le_refl _) (Nat.zero_le _) rfl, below_a1 _ _⟩
  case round =>
    obtain ⟨k, hkr, rfl, hown, hW⟩ := hrel
    have BR := hid (B3.out.below hW.out)
    have CR := hid (C3.out.below hW.out)
    obtain ⟨e0, e1, e2, e3⟩ := BR.out.cells4
    by_cases hlt : k < dp
    · have hi : (k : Int) < (dp : Int) := by omega
      have hR := hid (prodL_length (i := k) LX.out LY.out hlt)
      have hSB := hid (sum_bound (l := prodL x y wd k) (M := 1000000000000) (by omega) (prodL_bound BX.out BY.out))
      clear k0 k1 k2 k3
      go_wp2_with fail
      refine (irow_any wd dp s k x.length c b o _ (by omega) (by omega) hlt (by omega) LX.out hc.1.1 hc.1.2).mono ?_
      rintro e w4 ⟨c4, rfl, _, hb⟩
      have S4 := hid (S3.out.trans ((hW.out.trans (hb.mono hW.out.size)).mono S3.out.size))
      have W4 := hid (hW.out.trans (hb.mono hW.out.size))
      have C4 := hid (CR.out.below hb)
      have RX := hid (rowL_rd (i := k) (wd := wd) ((X3.out.below hW.out).below hb))
      have hRX := hid (rowL_length (i := k) LX.out hlt)
      have hRY := hid (rowL_length (i := k) LY.out hlt)
      have OW4 : Hid (w4.ownsRow w3.heap.size 2 1 u6 k ((dotsL x y wd k).map (Value.int .i64))) := ownsRow_below hown.out hb
      clear hb e0 e1 e2 e3 hown hW BR CR
      go_wp2
      go_loopw [8, 9, 10, 35] (fun v k_ n_ j wi => ∃ q : Nat, q ≤ wd ∧ j = .int .i64 q ∧ Hid (Below w4.heap.size w4 wi) ∧ ∃ t : Int, v = .int .i64 t ∧ Hid (((prodL x y wd k).take q).sum = t)) (fun v k_ n_ j _ => wd - (intOf j).toNat)
      case atStart => exact ⟨0, Nat.zero_le _, rfl, Below.refl _ _, 0, rfl, by show ((prodL x y wd k).take 0).sum = 0; simp⟩
      case round =>
        obtain ⟨q, hqr, rfl, hV, t, rfl, hh⟩ := hrel
        by_cases hlq : q < wd
        · have hi' : (q : Int) < (wd : Int) := by omega
          obtain ⟨bx, ox, u, hAx, hcu, hun⟩ := (RX.out.below hV.out).at_ (k := q) (by rw [hRX.out]; exact hlq)
          injection hAx with hAx; injection hAx with h1 h2
          subst h1 h2
          obtain ⟨g0, g1, g2, g3⟩ := (C4.out.below hV.out).cells4
          go_wp2_with fail
          refine (irow_any wd dp s k y.length c' b' o' _ (by omega) (by omega) hlt (by omega) LY.out hc.2.1 hc.2.2).mono ?_
          rintro e w5 ⟨c5, rfl, _, hb⟩
          have RY := hid (rowL_rd (i := k) (wd := wd) ((((Y3.out.below W4.out).below hV.out)).below hb))
          have V5 := hid (hV.out.trans (hb.mono hV.out.size))
          clear hb g0 g1 g2 g3 hcu
          obtain ⟨by', oy, t2, hAy, hct, htn⟩ := RY.out.at_ (k := q) (by rw [hRY.out]; exact hlq)
          injection hAy with hAy; injection hAy with h1 h2
          subst h1 h2
          have hun' : Hid (x[k * wd + q]? = some u) := by show _ = _; rw [← rowL_at hlq]; exact hun.out
          have htn' : Hid (y[k * wd + q]? = some t2) := by show _ = _; rw [← rowL_at hlq]; exact htn.out
          have he : Hid (((prodL x y wd k).take (q + 1)).sum = t + u * t2) := by rw [sum_snoc (prodL_at hlq hun' htn'), hh.out]; rfl
          have hub := BX.out u (List.mem_of_getElem? hun'.out)
          have htb := BY.out t2 (List.mem_of_getElem? htn'.out)
          have hpb := mul_small hub htb
          have hzb := hSB.out q
          rw [hh.out] at hzb
          have e6 : IntKind.i64.wrap (u * t2) = u * t2 := by rw [IntKind.wrap_i64]; omega
          have e7 : IntKind.i64.wrap (t + u * t2) = t + u * t2 := by rw [IntKind.wrap_i64]; omega
          go_wp2
          exact ⟨⟨q + 1, by omega, by go_num, V5, _, rfl, he⟩, by simp [intOf]; omega⟩
        · have hi' : ¬ (q : Int) < (wd : Int) := by omega
          have hs := hh.out
          rw [List.take_of_length_le (by rw [hR.out]; omega)] at hs
          have HS := hid hs
          clear hs
          have OW5 := hid (ownsRow_below OW4.out hV.out)
          have W5 := hid (W4.out.trans (hV.out.mono W4.out.size))
          have hmx := dotsL_length x y wd k
          clear hmx
          go_wp2_with (at_builtin; refine wpList_append_own _ rfl _ _ 22 rfl w3.heap.size 2 i0 (.int .i64 0) 1 8 Try.underlying22 hi0 hz0 hz1 hz2 rfl (by decide) _ _ _ rfl (OW5.out.alloc _) ⟨wr.heap.size, 0, none⟩ 1 1 [.int .i64 t] rfl rfl ?c1 ?c2 ?c3 ?c4 ?c5 ?_)
          case c2 => rfl
          case c3 => simp only [maxLen]; omega
          case c4 => omega
          case c5 => have := W5.out.size; omega
          intro v' w6 hown' hgrow _
          have hd : (dotsL x y wd k).map (Value.int .i64) ++ [Value.int .i64 t] = (dotsL x y wd (k + 1)).map (Value.int .i64) := by rw [dotsL_succ, HS.out]; simp
          rw [hd] at hown'
          have O1 := hid hown'
          have W1 : Hid (Below w3.heap.size w3 w6) := (W5.out.alloc W5.out.size _).grown hgrow (by simp; have := W5.out.size; omega) (fun g hg => (OW5.out.lt g hg).1)
          clear hown' hgrow hd
          go_wp2
          exact ⟨⟨k + 1, by omega, by go_num, O1, W1⟩, by simp [intOf]; omega⟩
    · have hi : ¬ (k : Int) < (dp : Int) := by omega
      obtain rfl : k = dp := by omega
      obtain ⟨A9, c9, hv9, ho9⟩ := ownS_of_row hown.out (dotsL_length _ _ _ _)
      have hO9 := hid ho9.rd
      have hS9 := hid (S3.out.trans (hW.out.mono S3.out.size))
      clear ho9 hown e0 e1 e2 e3
      subst hv9
      go_wp2_with fail
      refine (slMin_any A9 c9 (dotsL x y wd k) _ hO9.out (by rw [dotsL_length]; omega) (by rw [dotsL_length]; omega)).mono ?_
      rintro e w9 ⟨rfl, rfl⟩
      go_wp2
      go_ret2
      exact ⟨rfl, hS9.out⟩
end Go.Proofs.Ytmmolicodlmlkaa
