/-
  New sieves, reference and program, by contracts.
-/
import Derived.Test.YtekgohnggnlonaaNum
import Derived.Test.YtekgohnggnlonaaOpen
import Derived.Test.YtekgohnggnlonaaHelp
namespace Go.Proofs.Ytekgohnggnlonaa
open Go.RowKit
set_option linter.unusedVariables false

/-- What NewSieve returns. -/
def pNewSieve (size rounds salt : Int) : (Int × Int × List Bool) × Bool :=
  if inB size 1 512 = true ∧ inB rounds 1 8 = true ∧ inB salt 0 4294967295 = true then ((rounds, salt, List.replicate size.toNat false), true) else ((0, 0, []), false)
theorem pNewSieve_no {a b c : Int} (h : ¬ (inB a 1 512 = true ∧ inB b 1 8 = true ∧ inB c 0 4294967295 = true)) : pNewSieve a b c = ((0, 0, []), false) := if_neg h
theorem pNewSieve_yes {a b c : Int} (h1 : inB a 1 512 = true) (h2 : inB b 1 8 = true) (h3 : inB c 0 4294967295 = true) : pNewSieve a b c = ((b, c, List.replicate a.toNat false), true) := if_pos ⟨h1, h2, h3⟩

set_option maxHeartbeats 1000000 in
theorem sNewSieve_any (a0 a1 a2 : Int) (w : World) (h0 : W64 a0) (h1 : W64 a1) (h2 : W64 a2) :
    Calls Try.prog 20 #[.int .i64 a0, .int .i64 a1, .int .i64 a2] w fun e w' => ∃ A c,
      e = .returned (.tuple #[.agg #[.int .i64 (pNewSieve a0 a1 a2).1.1, .int .i64 (pNewSieve a0 a1 a2).1.2.1, .slice A (pNewSieve a0 a1 a2).1.2.2.length c], .bool (pNewSieve a0 a1 a2).2]) ∧
      OwnS Value.bool w' w.heap.size 4 A (pNewSieve a0 a1 a2).1.2.2 ∧ (pNewSieve a0 a1 a2).1.2.2.length ≤ 1048576 ∧ Below w.heap.size w w' := by
  clear h0 h1 h2
  have no : ¬ (inB a0 1 512 = true ∧ inB a1 1 8 = true ∧ inB a2 0 4294967295 = true) → ∀ (e : Ending) (w' : World), (e = .returned (.tuple #[.agg #[.int .i64 0, .int .i64 0, .slice none 0 0], .bool false]) ∧ Below w.heap.size w w') → ∃ A c,
      e = .returned (.tuple #[.agg #[.int .i64 (pNewSieve a0 a1 a2).1.1, .int .i64 (pNewSieve a0 a1 a2).1.2.1, .slice A (pNewSieve a0 a1 a2).1.2.2.length c], .bool (pNewSieve a0 a1 a2).2]) ∧
      OwnS Value.bool w' w.heap.size 4 A (pNewSieve a0 a1 a2).1.2.2 ∧ (pNewSieve a0 a1 a2).1.2.2.length ≤ 1048576 ∧ Below w.heap.size w w' := fun h e w' ⟨he, hb⟩ => by
    rw [pNewSieve_no h]
    exact ⟨none, 0, he, OwnS.nil, by simp, hb⟩
  cases e0 : inB a0 1 512 with
  | false =>
    refine Calls.mono ?_ (no (by simp [e0]))
    go_enter Try.func20, Try.ntmps20
    go_wp2_with (first | (go_at_call 70; refine (l00In_any _ _ _ _).mono ?_; rintro e w' ⟨rfl, rfl⟩) | (go_at_call 71; refine (l02Key_any _ _).mono ?_; rintro e w' ⟨rfl, rfl⟩))
    refine bodyPost_ret (v := .tuple #[.agg #[.int .i64 0, .int .i64 0, .slice none 0 0], .bool false]) (by simp [results, Try.results20, go_sem]) rfl ⟨rfl, below_a1 _ _⟩
  | true =>
  cases e1 : inB a1 1 8 with
  | false =>
    refine Calls.mono ?_ (no (by simp [e1]))
    go_enter Try.func20, Try.ntmps20
    go_wp2_with (first | (go_at_call 70; refine (l00In_any _ _ _ _).mono ?_; rintro e w' ⟨rfl, rfl⟩) | (go_at_call 71; refine (l02Key_any _ _).mono ?_; rintro e w' ⟨rfl, rfl⟩))
    refine bodyPost_ret (v := .tuple #[.agg #[.int .i64 0, .int .i64 0, .slice none 0 0], .bool false]) (by simp [results, Try.results20, go_sem]) rfl ⟨rfl, below_a1 _ _⟩
  | true =>
  cases e2 : inB a2 0 4294967295 with
  | false =>
    refine Calls.mono ?_ (no (by simp [e2]))
    go_enter Try.func20, Try.ntmps20
    go_wp2_with (first | (go_at_call 70; refine (l00In_any _ _ _ _).mono ?_; rintro e w' ⟨rfl, rfl⟩) | (go_at_call 71; refine (l02Key_any _ _).mono ?_; rintro e w' ⟨rfl, rfl⟩))
    refine bodyPost_ret (v := .tuple #[.agg #[.int .i64 0, .int .i64 0, .slice none 0 0], .bool false]) (by simp [results, Try.results20, go_sem]) rfl ⟨rfl, below_a1 _ _⟩
  | true =>
  rw [pNewSieve_yes e0 e1 e2]
  obtain ⟨n, rfl⟩ := Int.eq_ofNat_of_zero_le (show 0 ≤ a0 by have := (inB_iff.1 e0); omega)
  have hn : n ≤ 512 := by have := (inB_iff.1 e0); omega
  have hmk := run_make_row' (P := Try.prog) 22 4 (.bool false) 1 Try.underlying22 (by kernel_rfl) rfl .i64 .i64 n (by omega) (by omega)
  go_enter Try.func20, Try.ntmps20
  go_wp2_with (first | (go_at_call 70; refine (l00In_any _ _ _ _).mono ?_; rintro e w' ⟨rfl, rfl⟩) | (go_at_call 71; refine (l02Key_any _ _).mono ?_; rintro e w' ⟨rfl, rfl⟩))
  clear hmk e0
  refine bodyPost_ret (v := .tuple #[.agg #[.int .i64 a1, .int .i64 a2, .slice (some ⟨w.heap.size + 1, 0, none⟩) n n], .bool true]) (by simp [results, Try.results20, go_sem]) rfl ⟨some ⟨w.heap.size + 1, 0, none⟩, n, by simp, ?_, by simp; omega, below_a2 _ _ _⟩
  rw [madeCells_one, Int.toNat_natCast]
  refine OwnS.of_blk ?_ (by omega)
  rw [List.map_replicate]
  exact Blk.new2 _ _ _ _

set_option maxHeartbeats 1000000 in
theorem iNewSieve_any (a0 a1 a2 : Int) (w : World) (h0 : W64 a0) (h1 : W64 a1) (h2 : W64 a2) :
    Calls Try.prog 21 #[.int .i64 a0, .int .i64 a1, .int .i64 a2] w fun e w' => ∃ A c,
      e = .returned (.tuple #[.agg #[.int .i64 (pNewSieve a0 a1 a2).1.1, .int .i64 (pNewSieve a0 a1 a2).1.2.1, .slice A (pNewSieve a0 a1 a2).1.2.2.length c], .bool (pNewSieve a0 a1 a2).2]) ∧
      OwnS Value.bool w' w.heap.size 4 A (pNewSieve a0 a1 a2).1.2.2 ∧ (pNewSieve a0 a1 a2).1.2.2.length ≤ 1048576 ∧ Below w.heap.size w w' := by
  clear h0 h1 h2
  have no : ¬ (inB a0 1 512 = true ∧ inB a1 1 8 = true ∧ inB a2 0 4294967295 = true) → ∀ (e : Ending) (w' : World), (e = .returned (.tuple #[.agg #[.int .i64 0, .int .i64 0, .slice none 0 0], .bool false]) ∧ Below w.heap.size w w') → ∃ A c,
      e = .returned (.tuple #[.agg #[.int .i64 (pNewSieve a0 a1 a2).1.1, .int .i64 (pNewSieve a0 a1 a2).1.2.1, .slice A (pNewSieve a0 a1 a2).1.2.2.length c], .bool (pNewSieve a0 a1 a2).2]) ∧
      OwnS Value.bool w' w.heap.size 4 A (pNewSieve a0 a1 a2).1.2.2 ∧ (pNewSieve a0 a1 a2).1.2.2.length ≤ 1048576 ∧ Below w.heap.size w w' := fun h e w' ⟨he, hb⟩ => by
    rw [pNewSieve_no h]
    exact ⟨none, 0, he, OwnS.nil, by simp, hb⟩
  cases e0 : inB a0 1 512 with
  | false =>
    refine Calls.mono ?_ (no (by simp [e0]))
    go_enter Try.func21, Try.ntmps21
    go_wp2_with (first | (go_at_call 72; refine (within_any _ _ _ _).mono ?_; rintro e w' ⟨rfl, rfl⟩) | (go_at_call 67; refine (areRounds_any _ _).mono ?_; rintro e w' ⟨rfl, rfl⟩) | (go_at_call 68; refine (IsKey_any _ _).mono ?_; rintro e w' ⟨rfl, rfl⟩))
    refine bodyPost_ret (v := .tuple #[.agg #[.int .i64 0, .int .i64 0, .slice none 0 0], .bool false]) (by simp [results, Try.results21, go_sem]) rfl ⟨rfl, below_a1 _ _⟩
  | true =>
  cases e1 : inB a1 1 8 with
  | false =>
    refine Calls.mono ?_ (no (by simp [e1]))
    go_enter Try.func21, Try.ntmps21
    go_wp2_with (first | (go_at_call 72; refine (within_any _ _ _ _).mono ?_; rintro e w' ⟨rfl, rfl⟩) | (go_at_call 67; refine (areRounds_any _ _).mono ?_; rintro e w' ⟨rfl, rfl⟩) | (go_at_call 68; refine (IsKey_any _ _).mono ?_; rintro e w' ⟨rfl, rfl⟩))
    refine bodyPost_ret (v := .tuple #[.agg #[.int .i64 0, .int .i64 0, .slice none 0 0], .bool false]) (by simp [results, Try.results21, go_sem]) rfl ⟨rfl, below_a1 _ _⟩
  | true =>
  cases e2 : inB a2 0 4294967295 with
  | false =>
    refine Calls.mono ?_ (no (by simp [e2]))
    go_enter Try.func21, Try.ntmps21
    go_wp2_with (first | (go_at_call 72; refine (within_any _ _ _ _).mono ?_; rintro e w' ⟨rfl, rfl⟩) | (go_at_call 67; refine (areRounds_any _ _).mono ?_; rintro e w' ⟨rfl, rfl⟩) | (go_at_call 68; refine (IsKey_any _ _).mono ?_; rintro e w' ⟨rfl, rfl⟩))
    refine bodyPost_ret (v := .tuple #[.agg #[.int .i64 0, .int .i64 0, .slice none 0 0], .bool false]) (by simp [results, Try.results21, go_sem]) rfl ⟨rfl, below_a1 _ _⟩
  | true =>
  rw [pNewSieve_yes e0 e1 e2]
  obtain ⟨n, rfl⟩ := Int.eq_ofNat_of_zero_le (show 0 ≤ a0 by have := (inB_iff.1 e0); omega)
  have hn : n ≤ 512 := by have := (inB_iff.1 e0); omega
  have hmk := run_make_row' (P := Try.prog) 22 4 (.bool false) 1 Try.underlying22 (by kernel_rfl) rfl .i64 .i64 n (by omega) (by omega)
  go_enter Try.func21, Try.ntmps21
  go_wp2_with (first | (go_at_call 72; refine (within_any _ _ _ _).mono ?_; rintro e w' ⟨rfl, rfl⟩) | (go_at_call 67; refine (areRounds_any _ _).mono ?_; rintro e w' ⟨rfl, rfl⟩) | (go_at_call 68; refine (IsKey_any _ _).mono ?_; rintro e w' ⟨rfl, rfl⟩))
  clear hmk e0
  refine bodyPost_ret (v := .tuple #[.agg #[.int .i64 a1, .int .i64 a2, .slice (some ⟨w.heap.size + 1, 0, none⟩) n n], .bool true]) (by simp [results, Try.results21, go_sem]) rfl ⟨some ⟨w.heap.size + 1, 0, none⟩, n, by simp, ?_, by simp; omega, below_a2 _ _ _⟩
  rw [madeCells_one, Int.toNat_natCast]
  refine OwnS.of_blk ?_ (by omega)
  rw [List.map_replicate]
  exact Blk.new2 _ _ _ _

end Go.Proofs.Ytekgohnggnlonaa
