/-
  Sieves: valid ones, their copies and comparisons, by contracts.
-/
import Derived.Test.YtekgohnggnlonaaHelp
import Derived.Test.YtekgohnggnlonaaNum
namespace Go.Proofs.Ytekgohnggnlonaa
open Go.RowKit

/-- A sieve is valid. -/
def vSieve (r s : Int) (n : Nat) : Bool := inB r 1 8 && inB s 0 4294967295 && decide ((1 : Int) ≤ n) && decide ((n : Int) ≤ 512)

set_option maxHeartbeats 400000 in
theorem l04Is_any (b o n c : Nat) (A : Option Addr) (r s : Int) (w : World) (h0 : w.cell? ⟨b, o, none⟩ = some (.int .i64 r)) (h1 : w.cell? ⟨b, o + 1, none⟩ = some (.int .i64 s))
    (h2 : w.cell? ⟨b, o + 2, none⟩ = some (.slice A n c)) :
    Calls Try.prog 65 #[.pointer (some ⟨b, o, none⟩)] w fun e w' => e = .returned (.bool (vSieve r s n)) ∧ w = w' := by
  have key : ∀ x y, inB r 1 8 = x → inB s 0 4294967295 = y → Calls Try.prog 65 #[.pointer (some ⟨b, o, none⟩)] w fun e w' => e = .returned (.bool (x && y && decide ((1 : Int) ≤ n) && decide ((n : Int) ≤ 512))) ∧ w = w' := by
    intro x y hx hy
    rcases three n 1 512 (by omega) with ⟨h3, h4⟩ | ⟨h3, h4⟩ | ⟨h3, h4⟩ <;> cases x <;> cases y <;>
    · go_enter Try.func65, Try.ntmps65
      go_wp2_with (first | (go_at_call 70; refine (l00In_any _ _ _ _).mono ?_; rintro e w' ⟨rfl, rfl⟩) | (go_at_call 71; refine (l02Key_any _ _).mono ?_; rintro e w' ⟨rfl, rfl⟩))
      go_ret
      exact ⟨by simp; try omega, rfl⟩
  exact key _ _ rfl rfl

set_option maxHeartbeats 400000 in
theorem sValidSieve_any (n c : Nat) (A : Option Addr) (r s : Int) (w : World) :
    Calls Try.prog 16 #[.agg #[.int .i64 r, .int .i64 s, .slice A n c]] w fun e w' => e = .returned (.bool (vSieve r s n)) ∧ Below w.heap.size w w' := by
  go_enter Try.func16, Try.ntmps16
  go_wp2_with (go_at_call 65; refine (l04Is_any _ _ n c A r s _ (by simp) (by simp) (by simp)).mono ?_; rintro e w' ⟨rfl, rfl⟩)
  go_ret
  exact ⟨rfl, (Below.refl _ _).alloc (Nat.le_refl _) _⟩

set_option maxHeartbeats 400000 in
theorem iValidSieve_any (n c : Nat) (A : Option Addr) (r s : Int) (w : World) :
    Calls Try.prog 18 #[.agg #[.int .i64 r, .int .i64 s, .slice A n c]] w fun e w' => e = .returned (.bool (vSieve r s n)) ∧ Below w.heap.size w w' := by
  have key : ∀ x y, inB r 1 8 = x → inB s 0 4294967295 = y → Calls Try.prog 18 #[.agg #[.int .i64 r, .int .i64 s, .slice A n c]] w fun e w' => e = .returned (.bool (x && y && decide ((1 : Int) ≤ n) && decide ((n : Int) ≤ 512))) ∧ Below w.heap.size w w' := by
    intro x y hx hy
    rcases three n 1 512 (by omega) with ⟨h3, h4⟩ | ⟨h3, h4⟩ | ⟨h3, h4⟩ <;> cases x <;> cases y <;>
    · go_enter Try.func18, Try.ntmps18
      go_wp2_with (first | (go_at_call 67; refine (areRounds_any _ _).mono ?_; rintro e w' ⟨rfl, rfl⟩) | (go_at_call 68; refine (IsKey_any _ _).mono ?_; rintro e w' ⟨rfl, rfl⟩))
      go_ret
      exact ⟨by simp; try omega, (Below.refl _ _).alloc (Nat.le_refl _) _⟩
  exact key _ _ rfl rfl

theorem szSieve_yes (A : Option Addr) (n c : Nat) (r s left : Int) (w : World) (h0 : 0 ≤ left) (h1 : left ≤ 1048576) (h : (n : Int) ≤ left) :
    Calls Try.prog 15 #[.agg #[.int .i64 r, .int .i64 s, .slice A n c], .int .i64 left] w fun e w' => e = .returned (.int .i64 (left - n)) ∧ Below w.heap.size w w' := by
  have hb : 0 ≤ left - (n : Int) := by omega
  go_enter Try.func15, Try.ntmps15
  go_wp2_with (go_at_call 64; refine (szBoolS_yes _ _ _ _ _ h0 h1 h).mono ?_; rintro e w' ⟨rfl, rfl⟩)
  go_ret
  exact ⟨rfl, (Below.refl _ _).alloc (Nat.le_refl _) _⟩
theorem szSieve_no (A : Option Addr) (n c : Nat) (r s left : Int) (w : World) (h0 : 0 ≤ left) (h1 : left ≤ 1048576) (hn : n ≤ 9223372036854775807) (h : left < (n : Int)) :
    Calls Try.prog 15 #[.agg #[.int .i64 r, .int .i64 s, .slice A n c], .int .i64 left] w fun e w' => e = .returned (.int .i64 (-1)) ∧ Below w.heap.size w w' := by
  go_enter Try.func15, Try.ntmps15
  go_wp2_with (go_at_call 64; refine (szBoolS_no _ _ _ _ _ h0 h1 hn h).mono ?_; rintro e w' ⟨rfl, rfl⟩)
  go_ret
  exact ⟨rfl, (Below.refl _ _).alloc (Nat.le_refl _) _⟩

set_option maxHeartbeats 400000 in
theorem toSieve_any (A : Option Addr) (c : Nat) (xs : List Bool) (r s : Int) (w : World) (hx : RdL Value.bool w A xs) (hn : xs.length ≤ 1048576) :
    Calls Try.prog 17 #[.agg #[.int .i64 r, .int .i64 s, .slice A xs.length c]] w fun e w' => ∃ g, e = .returned (.agg #[.int .i64 r, .int .i64 s, .slice (some ⟨g, 0, none⟩) xs.length xs.length]) ∧ w.heap.size ≤ g ∧
      Blk w' g 4 (xs.map Value.bool) ∧ Below w.heap.size w w' := by
  have HX := hid hx
  clear hx
  go_enter Try.func17, Try.ntmps17
  go_wp2_with fail
  refine (toBoolS_any A c xs _ (HX.out.below (below_alloc3 _ _ _ _)) hn).mono ?_
  rintro e w1 ⟨g, rfl, hg, hk, hb⟩
  obtain ⟨hc, hf⟩ := bcell hb
  go_wp2
  simp at hg
  refine bodyPost_ret (v := .agg #[.int .i64 r, .int .i64 s, .slice (some ⟨g, 0, none⟩) xs.length xs.length]) (by simp [results, Try.results17, go_sem, hc]) rfl ⟨g, rfl, by omega, ?_, ?_⟩
  · exact (((hk.far (by simp; omega) _).far (by simp; omega) _).far (by simp; omega) _).far (by simp; omega) _
  · exact (((((below_alloc3 _ _ _ _).trans (hb.mono (by simp; omega))).setCell (by simp; omega) _).setCell (by simp) _).setCell (by simp) _).setCell (by simp) _
set_option maxHeartbeats 400000 in
theorem eqSieve_yes (A A' : Option Addr) (n c c' : Nat) (xs : List Bool) (hl : Hid (xs.length = n)) (r s : Int) (w : World) (hx : RdL Value.bool w A xs) (hy : RdL Value.bool w A' xs) (hn : n ≤ 1048576) :
    Calls Try.prog 19 #[.agg #[.int .i64 r, .int .i64 s, .slice A n c], .agg #[.int .i64 r, .int .i64 s, .slice A' n c']] w fun e w' => e = .returned (.bool true) ∧ Below w.heap.size w w' := by
  obtain rfl := hl.out
  have HX := hid hx
  have HY := hid hy
  clear hx hy
  go_enter Try.func19, Try.ntmps19
  go_wp2_with (go_at_call 69; refine (eqBoolS_any A A' c c' xs xs _ (HX.out.below (below_alloc2 _ _ _)) (HY.out.below (below_alloc2 _ _ _)) hn).mono ?_; rintro e w1 ⟨rfl, n, rfl⟩)
  all_goals go_ret
  all_goals exact ⟨rfl, below_drewN (below_alloc2 _ _ _) _⟩

end Go.Proofs.Ytekgohnggnlonaa
