/-
  The cells of a key: reference and program, by contracts.
-/
import Derived.Test.YtbodfepfapjikaaPlaces
import Derived.Test.YtbodfepfapjikaaCells
import Derived.Deep.AppendLies
namespace Go.Proofs.Ytbodfepfapjikaa
open Go.RowKit
set_option linter.unusedVariables false

/-- The index of the cell of a key in row i. -/
def placeN (wd s key i : Nat) : Nat := i * wd + belowN key (saltN s i) wd
theorem placeN_lt {wd s key i dp : Nat} (hw : 0 < wd) (hi : i < dp) : placeN wd s key i < wd * dp := by
  have h1 := belowN_lt key (saltN s i) wd hw
  have h2 : (i + 1) * wd ≤ dp * wd := Nat.mul_le_mul_right wd hi
  rw [Nat.add_mul] at h2
  rw [Nat.mul_comm wd dp]
  unfold placeN
  omega
theorem mul_le6 {i wd : Nat} (hi : i ≤ 6) (hw : wd ≤ 64) : (i : Int) * (wd : Int) ≤ 384 ∧ 0 ≤ (i : Int) * (wd : Int) := by
  have h : i * wd ≤ 6 * 64 := Nat.mul_le_mul hi hw
  have h2 : ((i * wd : Nat) : Int) = (i : Int) * (wd : Int) := Int.natCast_mul _ _
  omega
theorem place_cast (wd s key i : Nat) : ((placeN wd s key i : Nat) : Int) = (i : Int) * (wd : Int) + (belowN key (saltN s i) wd : Int) := by
  unfold placeN
  rw [Int.natCast_add, Int.natCast_mul]

set_option maxHeartbeats 800000 in
theorem l03Place_any (p wd s key i : Nat) (w : World) (h0 : w.cell? ⟨p, 0, none⟩ = some (.int .i64 wd)) (h2 : w.cell? ⟨p, 2, none⟩ = some (.int .i64 s)) (hw1 : 2 ≤ wd) (hw2 : wd ≤ 64) (hs : s < 4294967296) (hk : key < 4294967296) (hi : i ≤ 6) :
    Calls Try.prog 81 #[.pointer (some ⟨p, 0, none⟩), .int .i64 key, .int .i64 i] w fun e w' => e = .returned (.int .i64 (placeN wd s key i)) ∧ ∃ n, w' = w.drewN n := by
  have hm := mul_le6 hi hw2
  have hb := belowN_lt key (saltN s i) wd (by omega)
  have e1 : IntKind.i64.wrap ((i : Int) * (wd : Int)) = (i : Int) * (wd : Int) := by rw [IntKind.wrap_i64]; omega
  have e2 : IntKind.i64.wrap ((s : Int) + (i : Int)) = (s : Int) + (i : Int) := by rw [IntKind.wrap_i64]; omega
  have e3 : ((s : Int) + (i : Int)).tmod 4294967296 = (saltN s i : Int) := by rw [Int.tmod_eq_emod_of_nonneg (by omega)]; unfold saltN; omega
  have e4 : IntKind.i64.wrap ((i : Int) * (wd : Int) + (belowN key (saltN s i) wd : Int)) = (placeN wd s key i : Int) := by rw [IntKind.wrap_i64, place_cast]; omega
  go_enter Try.func81, Try.ntmps81
  go_wp2
  go_quiet ((go_at_call 122; refine Calls.quiet_of_same ((l02Below_any _ _ _ _ hk (saltN_lt _ _) (by omega)).mono fun _ _ ⟨h, h'⟩ => ⟨h, h'.symm⟩)))
  go_wp2
  go_ret
  exact ⟨rfl, _, rfl⟩
/-- An empty row of the call's own, behind a box. -/
theorem row_start1 (w : World) (o : Obj) (e : TypeId) : ((w.alloc o).alloc (.cells #[] e)).ownsRow (w.heap.size + 1) e 1 (.slice (some ⟨w.heap.size + 1, 0, none⟩) 0 0) 0 [] := by
  have h := World.ownsRow_made (base := w.heap.size + 1) (size := 1) (e := e) (w.alloc o) #[] 0 (by simp) (Nat.zero_le _) rfl
  rwa [World.size_alloc] at h

/-- The cells of a key in the first n rows. -/
def cellsL (wd s key n : Nat) : List Int := (List.range n).map fun i => (placeN wd s key i : Int)
theorem cellsL_succ (wd s key n : Nat) : (cellsL wd s key n).map (Value.int .i64) ++ [Value.int .i64 (placeN wd s key n)] = (cellsL wd s key (n + 1)).map (Value.int .i64) := by
  simp [cellsL, List.range_succ]
theorem cellsL_length (wd s key n : Nat) : (cellsL wd s key n).length = n := by simp [cellsL]
theorem cellsL_mem {wd s key dp : Nat} (hw : 0 < wd) {x : Int} (h : x ∈ cellsL wd s key dp) : ∃ m : Nat, x = m ∧ m < wd * dp := by
  simp only [cellsL, List.mem_map, List.mem_range] at h
  obtain ⟨j, hj, rfl⟩ := h
  exact ⟨_, rfl, placeN_lt hw hj⟩

set_option maxRecDepth 100000 in
set_option maxHeartbeats 1600000 in
theorem places_any (wd dp s key n c : Nat) (A : Option Addr) (w : World) (hw1 : 2 ≤ wd) (hw2 : wd ≤ 64) (hd : dp ≤ 6) (hs : s < 4294967296) (hk : key < 4294967296) :
    Calls Try.prog 83 #[.agg #[.int .i64 wd, .int .i64 dp, .int .i64 s, .slice A n c], .int .i64 key] w (RetL (Value.int .i64) 2 w (cellsL wd s key dp)) := by
  obtain ⟨i0, hi0, hz0, hz1, hz2⟩ := info_parts Try.infoI
  go_enter Try.func83, Try.ntmps83
  go_wp2
  go_loopw [5, 10] (fun v i wr => ∃ k : Nat, k ≤ dp ∧ i = .int .i64 k ∧ Hid (wr.ownsRow (w.heap.size + 1) 2 1 v k ((cellsL wd s key k).map (Value.int .i64))) ∧
      Hid (Below (w.heap.size + 1) (w.alloc (.cells #[.int .i64 wd, .int .i64 dp, .int .i64 s, .slice A n c] 48)) wr)) (fun _ i _ => dp - (intOf i).toNat)
  case atStart => exact ⟨0, Nat.zero_le _, rfl, row_start1 w _ _, (Below.refl _ _).alloc (by simp) _⟩
  case round =>
    obtain ⟨k, hkr, rfl, hown, hW⟩ := hrel
    have hBx : Hid (Blk wr w.heap.size 48 [.int .i64 wd, .int .i64 dp, .int .i64 s, .slice A n c]) := (hW.out.block w.heap.size (by omega)).trans (Blk.new w _ _)
    obtain ⟨c0, c1, c2, c3⟩ := hBx.out.cells4
    by_cases hlt : k < dp
    · have hi : (k : Int) < (dp : Int) := by omega
      have hm := mul_le6 (show k ≤ 6 by omega) hw2
      have hb := belowN_lt key (saltN s k) wd (by omega)
      have hlb : w.heap.size < wr.heap.size := hBx.out.lt
      have hag : u5.ownBlock ≠ some w.heap.size := fun e => by have := (hown.out.lt _ e).1; omega
      have hsl := saltN_lt s k
      have e1 : IntKind.i64.wrap ((k : Int) * (wd : Int)) = (k : Int) * (wd : Int) := by rw [IntKind.wrap_i64]; omega
      have e4 : IntKind.i64.wrap ((k : Int) * (wd : Int) + (belowN key (saltN s k) wd : Int)) = (placeN wd s key k : Int) := by rw [IntKind.wrap_i64, place_cast]; omega
      go_wp2
      go_region_held3 (fun w' => w'.cell? ⟨w.heap.size, 0, none⟩ = some (.int .i64 wd) ∧ w'.cell? ⟨w.heap.size, 2, none⟩ = some (.int .i64 s)) (first | go_keep | (go_split_ands; refine ⟨?_, ?_⟩ <;> (rw [hgrow.cell_far _ (by simp; omega) (Ne.symm hag)]; assumption)))
        (first
          | (go_at_call 125
             refine (salted_any _ _ _ hs (by omega)).mono ?_
             rintro e w' ⟨rfl, rfl⟩)
          | (go_at_call 124
             refine (ibelow_any _ _ _ _ hk hsl (by omega)).mono ?_
             rintro e w' ⟨rfl, rfl⟩)
          | (refine step_append_lies _ (by rfl) _ _ _ (by rfl) (w.heap.size + 1) 2 i0 _ 1 8 Try.underlying22 hi0 hz0 hz1 hz2 rfl (by omega) _ _ _ (by rfl) ((hown.out.alloc _).drew) ⟨wr.heap.size, 0, none⟩ 1 1 [.int .i64 (placeN wd s key k)] (by rfl) (by rfl) (World.news_of_block (cs := #[.int .i64 (placeN wd s key k)]) (t := 2) (fr := (0, 0)) (heap_alloc_new wr _)) (by simp [Value.oneCell']) (by omega) (by simp only [maxLen]; omega) (by omega) (by simp; omega) (wr.heap.size + 1) (by simp) ?_
             intro gg cap w1 hown1 hgrow hat hlt'))
      rw [cellsL_succ] at hown1
      have O1 := hid hown1
      have W1 : Hid (Below (w.heap.size + 1) (w.alloc (.cells #[.int .i64 wd, .int .i64 dp, .int .i64 s, .slice A n c] 48)) w1) :=
        ((hW.out.alloc (by omega) _).drew).grown hgrow (by simp; omega) (fun g hg => (hown.out.lt g hg).1)
      clear hown1 hgrow hat hlt' e1 e4 c0 c1 c2 c3 hag
      go_wp2
      exact ⟨⟨k + 1, by omega, by go_num, O1, W1⟩, by simp [intOf]; omega⟩
    · have hi : ¬ (k : Int) < (dp : Int) := by omega
      go_wp2
      go_ret
      obtain rfl : k = dp := by omega
      obtain ⟨A', c', hv, ho⟩ := ownS_of_row hown.out (cellsL_length _ _ _ _)
      exact ⟨A', c', congrArg Ending.returned hv, ho.mono (by omega), (below_a1 _ _).trans (hW.out.mono (by omega))⟩

end Go.Proofs.Ytbodfepfapjikaa
