/-
  The places of a key: the reference's l04Places and the program's spots, by contracts.
-/
import Derived.Test.YtlcpchpodcchlaaHash
import Derived.Test.YtlcpchpodcchlaaRet
namespace Go.Proofs.Ytlcpchpodcchlaa
open Go.RowKit
set_option linter.unusedVariables false

/-- The places of a key. -/
def spotsL (key salt size n : Nat) : List Int := (List.range n).map fun (j : Nat) => (belowN key (saltN salt j) size : Int)
theorem spotsL_succ (key salt size n : Nat) : (spotsL key salt size n).map (Value.int .i64) ++ [Value.int .i64 (belowN key (saltN salt n) size)] = (spotsL key salt size (n + 1)).map (Value.int .i64) := by
  simp [spotsL, List.range_succ]
theorem spotsL_length (key salt size n : Nat) : (spotsL key salt size n).length = n := by simp [spotsL]
theorem spotsL_mem {key salt size n : Nat} (hs : 0 < size) {x : Int} (h : x ∈ spotsL key salt size n) : ∃ m : Nat, x = m ∧ m < size := by
  simp only [spotsL, List.mem_map, List.mem_range] at h
  obtain ⟨j, _, rfl⟩ := h
  exact ⟨_, rfl, belowN_lt _ _ _ hs⟩

set_option maxHeartbeats 800000 in
theorem l04Places_any (key salt rounds size : Nat) (w : World) (hk : key < 4294967296) (hs : salt < 4294967296) (hr : rounds ≤ 8) (hz : size ≤ 4294967296) :
    Calls Try.prog 132 #[.int .i64 key, .int .i64 salt, .int .i64 rounds, .int .i64 size] w (RetL (Value.int .i64) 2 w (spotsL key salt size rounds)) := by
  obtain ⟨i0, hi0, hz0, hz1, hz2⟩ := info_parts Try.infoI
  go_enter Try.func132, Try.ntmps132
  go_wp2
  go_loopw [9, 10] (fun v i wr => ∃ k : Nat, k ≤ rounds ∧ i = .int .i64 k ∧ Hid (wr.ownsRow w.heap.size 2 1 v k ((spotsL key salt size k).map (Value.int .i64))) ∧ Hid (Below w.heap.size w wr)) (fun _ i _ => rounds - (intOf i).toNat)
  case atStart => exact ⟨0, Nat.zero_le _, rfl, World.ownsRow_made w #[] 0 (Nat.le_refl _) (Nat.zero_le _) rfl, below_a1 _ _⟩
  case round =>
    obtain ⟨k, hkr, rfl, hown, hW⟩ := hrel
    have hsl := saltN_lt salt k
    by_cases hlt : k < rounds
    · have hi : (k : Int) < (rounds : Int) := by omega
      go_wp2_with (first | (go_at_call 116; refine (l04Salt_any _ _ _ hs (by omega)).mono ?_; rintro e w' ⟨rfl, rfl⟩) | (go_at_call 113; refine (l02Below_any _ _ _ _ hk hsl hz).mono ?_; rintro e w' ⟨rfl, rfl⟩) | (at_builtin; refine wpList_append_own _ rfl _ _ 22 rfl w.heap.size 2 i0 (.int .i64 0) 1 8 Try.underlying22 hi0 hz0 hz1 hz2 rfl (by decide) _ _ _ rfl (hown.out.alloc _) ⟨wr.heap.size, 0, none⟩ 1 1 [.int .i64 (belowN key (saltN salt k) size)] rfl rfl ?c1 ?c2 ?c3 ?c4 ?c5 ?_))
      case c1 => exact cell_one_new _ _ _
      case c2 => intro u hu; simp at hu; subst hu; rfl
      case c3 => simp only [maxLen]; omega
      case c4 => omega
      case c5 => have := hW.out.size; simp; omega
      intro v' w1 hown' hgrow _
      rw [spotsL_succ] at hown'
      have O1 := hid hown'
      have W1 : Hid (Below w.heap.size w w1) := (hW.out.alloc hW.out.size _).grown hgrow (by have := hW.out.size; simp; omega) (fun g hg => (hown.out.alloc (.cells #[.int .i64 (belowN key (saltN salt k) size)] 2)).lt g hg |>.1)
      clear hown' hgrow
      go_wp2
      exact ⟨⟨k + 1, by omega, by go_num, O1, W1⟩, by simp [intOf]; omega⟩
    · have hi : ¬ (k : Int) < (rounds : Int) := by omega
      go_wp2
      go_ret
      obtain rfl : k = rounds := by omega
      obtain ⟨A, c, hv, ho⟩ := ownS_of_row hown.out (spotsL_length _ _ _ _)
      exact ⟨A, c, congrArg Ending.returned hv, ho, hW.out⟩
set_option maxHeartbeats 800000 in
theorem spots_any (key salt rounds size : Nat) (w : World) (hk : key < 4294967296) (hs : salt < 4294967296) (hr : rounds ≤ 8) (hz : size ≤ 4294967296) :
    Calls Try.prog 134 #[.int .i64 key, .int .i64 rounds, .int .i64 salt, .int .i64 size] w (RetL (Value.int .i64) 2 w (spotsL key salt size rounds)) := by
  obtain ⟨i0, hi0, hz0, hz1, hz2⟩ := info_parts Try.infoI
  go_enter Try.func134, Try.ntmps134
  go_wp2
  go_loopw [9, 13] (fun v i wr => ∃ k : Nat, k ≤ rounds ∧ i = .int .i64 k ∧ Hid (wr.ownsRow w.heap.size 2 1 v k ((spotsL key salt size k).map (Value.int .i64))) ∧ Hid (Below w.heap.size w wr)) (fun _ i _ => rounds - (intOf i).toNat)
  case atStart => exact ⟨0, Nat.zero_le _, rfl, World.ownsRow_made w #[] 0 (Nat.le_refl _) (Nat.zero_le _) rfl, below_a1 _ _⟩
  case round =>
    obtain ⟨k, hkr, rfl, hown, hW⟩ := hrel
    have hsl := saltN_lt salt k
    by_cases hlt : k < rounds
    · have hi : (k : Int) < (rounds : Int) := by omega
      go_wp2_with (first | (go_at_call 120; refine (salted_any _ _ _ hs (by omega)).mono ?_; rintro e w' ⟨rfl, rfl⟩) | (go_at_call 117; refine (ibelow_any _ _ _ _ hk hsl hz).mono ?_; rintro e w' ⟨rfl, rfl⟩) | (at_builtin; refine wpList_append_own _ rfl _ _ 22 rfl w.heap.size 2 i0 (.int .i64 0) 1 8 Try.underlying22 hi0 hz0 hz1 hz2 rfl (by decide) _ _ _ rfl (hown.out.alloc _) ⟨wr.heap.size, 0, none⟩ 1 1 [.int .i64 (belowN key (saltN salt k) size)] rfl rfl ?c1 ?c2 ?c3 ?c4 ?c5 ?_))
      case c1 => exact cell_one_new _ _ _
      case c2 => intro u hu; simp at hu; subst hu; rfl
      case c3 => simp only [maxLen]; omega
      case c4 => omega
      case c5 => have := hW.out.size; simp; omega
      intro v' w1 hown' hgrow _
      rw [spotsL_succ] at hown'
      have O1 := hid hown'
      have W1 : Hid (Below w.heap.size w w1) := (hW.out.alloc hW.out.size _).grown hgrow (by have := hW.out.size; simp; omega) (fun g hg => (hown.out.alloc (.cells #[.int .i64 (belowN key (saltN salt k) size)] 2)).lt g hg |>.1)
      clear hown' hgrow
      go_wp2
      exact ⟨⟨k + 1, by omega, by go_num, O1, W1⟩, by simp [intOf]; omega⟩
    · have hi : ¬ (k : Int) < (rounds : Int) := by omega
      go_wp2
      go_ret
      obtain rfl : k = rounds := by omega
      obtain ⟨A, c, hv, ho⟩ := ownS_of_row hown.out (spotsL_length _ _ _ _)
      exact ⟨A, c, congrArg Ending.returned hv, ho, hW.out⟩
end Go.Proofs.Ytlcpchpodcchlaa
