/-
  CellsAt and PlacesOf, reference and program, by contracts.
-/
import Derived.Test.YtocmcghhjjhogaaCellsAt
namespace Go.Proofs.Ytocmcghhjjhogaa
open Go.RowKit
set_option linter.unusedVariables false

/-- What CellsAt returns. -/
def pCellsAt (a0 a1 a2 : Int) (x : List Int) (key : Int) : Int × Bool :=
  if vCells a0 a1 a2 x = true ∧ inB key 0 4294967295 = true then (minAtM 1000000000000 x (cellsL a0.toNat a2.toNat key.toNat a1.toNat), true) else (0, false)
/-- What PlacesOf returns. -/
def pPlacesOf (a0 a1 a2 : Int) (x : List Int) (key : Int) : List Int × Bool :=
  if vCells a0 a1 a2 x = true ∧ inB key 0 4294967295 = true then (cellsL a0.toNat a2.toNat key.toNat a1.toNat, true) else ([], false)
/-- It hands back a slice of its own and a bool. -/
def RetLB {α : Type} (f : α → Value) (t : TypeId) (w : World) (r : List α × Bool) (e : Ending) (w' : World) : Prop :=
  ∃ A c, e = .returned (.tuple #[.slice A r.1.length c, .bool r.2]) ∧ OwnS f w' w.heap.size t A r.1 ∧ r.1.length ≤ 1048576 ∧ Below w.heap.size w w'
set_option maxRecDepth 100000 in
set_option maxHeartbeats 1600000 in
theorem sCellsAt_any (a0 a1 a2 : Int) (A : Option Addr) (c : Nat) (x : List Int) (key : Int) (w : World) (h0 : W64 a0) (h1 : W64 a1) (h2 : W64 a2) (hx : RdL (Value.int .i64) w A x) (hn : x.length ≤ 1048576) (we : ∀ y ∈ x, W64 y) (hkey : W64 key) :
    Calls Try.prog 48 #[.agg #[.int .i64 a0, .int .i64 a1, .int .i64 a2, .slice A x.length c], .int .i64 key] w fun e w' => e = .returned (.tuple #[.int .i64 (pCellsAt a0 a1 a2 x key).1, .bool (pCellsAt a0 a1 a2 x key).2]) ∧ Below w.heap.size w w' := by
  have HX := hid hx
  clear hx we h0 h1 h2 hkey
  cases hv : vCells a0 a1 a2 x with
  | false =>
    have hp : pCellsAt a0 a1 a2 x key = (0, false) := by simp [pCellsAt, hv]
    rw [hp]
    clear hp
    go_enter Try.func48, Try.ntmps48
    go_wp2_with fail
    refine (l03Is_any _ c A a0 a1 a2 x _ (by simp) (by simp) (by simp) (by simp) (HX.out.below (below_a1 _ _)) hn).mono ?_
    rintro e w1 ⟨rfl, n, rfl⟩
    go_wp2
    go_ret2
    exact ⟨rfl, below_drewN (below_a1 _ _) _⟩
  | true =>
  cases hk : inB key 0 4294967295 with
  | false =>
    have hp : pCellsAt a0 a1 a2 x key = (0, false) := by simp [pCellsAt, hk]
    rw [hp]
    clear hp
    go_enter Try.func48, Try.ntmps48
    go_wp2_with fail
    refine (l03Is_any _ c A a0 a1 a2 x _ (by simp) (by simp) (by simp) (by simp) (HX.out.below (below_a1 _ _)) hn).mono ?_
    rintro e w1 ⟨rfl, n, rfl⟩
    go_wp2_with ((go_at_call 82; refine (l02Key_any _ _).mono ?_; rintro e w' ⟨rfl, rfl⟩))
    go_ret2
    exact ⟨rfl, below_drewN (below_a1 _ _) _⟩
  | true =>
  obtain ⟨⟨hw1, hw2⟩, ⟨hd1, hd2⟩, ⟨hs1, hs2⟩, hlen, hbd⟩ := vCells_iff hv
  obtain ⟨hk1, hk2⟩ := inB_iff.1 hk
  obtain ⟨wd, rfl⟩ := Int.eq_ofNat_of_zero_le (show 0 ≤ a0 by omega)
  obtain ⟨dp, rfl⟩ := Int.eq_ofNat_of_zero_le (show 0 ≤ a1 by omega)
  obtain ⟨s, rfl⟩ := Int.eq_ofNat_of_zero_le hs1
  obtain ⟨key, rfl⟩ := Int.eq_ofNat_of_zero_le hk1
  have hlen' : x.length = wd * dp := by rw [← Int.natCast_mul] at hlen; omega
  have hp : pCellsAt wd dp s x key = (minAtM 1000000000000 x (cellsL wd s key dp), true) := by simp [pCellsAt, hv, hk]
  rw [hp]
  clear hp hlen
  go_enter Try.func48, Try.ntmps48
  have HL := hid hlen'
  clear hlen'
  go_wp2_with fail
  refine (l03Is_any _ c A wd dp s x _ (by simp) (by simp) (by simp) (by simp) (HX.out.below (below_a1 _ _)) hn).mono ?_
  rintro e w1 ⟨rfl, n, rfl⟩
  go_wp2_with ((go_at_call 82; refine (l02Key_any _ _).mono ?_; rintro e w' ⟨rfl, rfl⟩))
  refine (l03At_any _ wd dp s key c A x _ ?_ ?_ ?_ ?_ (HX.out.below (below_drewN (below_a1 _ _) _)) (by omega) (by omega) (by omega) (by omega) (by omega) (by omega) HL.out (fun y hy => (hbd y hy).2)).mono ?_
  all_goals (try (simp; done))
  rintro e w2 ⟨rfl, m, rfl⟩
  go_wp2
  go_ret2
  exact ⟨rfl, below_drewN (below_a1 _ _) _⟩
set_option maxRecDepth 100000 in
set_option maxHeartbeats 1600000 in
theorem iCellsAt_any (a0 a1 a2 : Int) (A : Option Addr) (c : Nat) (x : List Int) (key : Int) (w : World) (h0 : W64 a0) (h1 : W64 a1) (h2 : W64 a2) (hx : RdL (Value.int .i64) w A x) (hn : x.length ≤ 1048576) (we : ∀ y ∈ x, W64 y) (hkey : W64 key) :
    Calls Try.prog 49 #[.agg #[.int .i64 a0, .int .i64 a1, .int .i64 a2, .slice A x.length c], .int .i64 key] w fun e w' => e = .returned (.tuple #[.int .i64 (pCellsAt a0 a1 a2 x key).1, .bool (pCellsAt a0 a1 a2 x key).2]) ∧ Below w.heap.size w w' := by
  have HX := hid hx
  have b0 := hid (Blk.new w 41 [.int .i64 a0, .int .i64 a1, .int .i64 a2, .slice A x.length c])
  cases hv : vCells a0 a1 a2 x with
  | false =>
    have hp : pCellsAt a0 a1 a2 x key = (0, false) := by simp [pCellsAt, hv]
    rw [hp]
    clear hp
    go_enter Try.func49, Try.ntmps49
    go_wp2_with fail
    refine (iValidCells_any a0 a1 a2 A c x _ h0 h1 h2 (HX.out.below (below_a1 _ _)) hn we).mono ?_
    rintro e w1 ⟨rfl, hb⟩
    go_wp2
    go_ret2
    exact ⟨rfl, (below_call (below_a1 _ _) hb).out⟩
  | true =>
  cases hk : inB key 0 4294967295 with
  | false =>
    have hp : pCellsAt a0 a1 a2 x key = (0, false) := by simp [pCellsAt, hk]
    rw [hp]
    clear hp
    go_enter Try.func49, Try.ntmps49
    go_wp2_with fail
    refine (iValidCells_any a0 a1 a2 A c x _ h0 h1 h2 (HX.out.below (below_a1 _ _)) hn we).mono ?_
    rintro e w1 ⟨rfl, hb⟩
    go_wp2_with ((go_at_call 84; refine (IsKey_any _ _).mono ?_; rintro e w' ⟨rfl, rfl⟩))
    go_ret2
    exact ⟨rfl, (below_call (below_a1 _ _) hb).out⟩
  | true =>
  obtain ⟨⟨hw1, hw2⟩, ⟨hd1, hd2⟩, ⟨hs1, hs2⟩, hlen, hbd⟩ := vCells_iff hv
  obtain ⟨hk1, hk2⟩ := inB_iff.1 hk
  obtain ⟨wd, rfl⟩ := Int.eq_ofNat_of_zero_le (show 0 ≤ a0 by omega)
  obtain ⟨dp, rfl⟩ := Int.eq_ofNat_of_zero_le (show 0 ≤ a1 by omega)
  obtain ⟨s, rfl⟩ := Int.eq_ofNat_of_zero_le hs1
  obtain ⟨key, rfl⟩ := Int.eq_ofNat_of_zero_le hk1
  have hlen' : x.length = wd * dp := by rw [← Int.natCast_mul] at hlen; omega
  have hp : pCellsAt wd dp s x key = (minAtM 1000000000000 x (cellsL wd s key dp), true) := by simp [pCellsAt, hv, hk]
  rw [hp]
  clear hp hlen
  have HL := hid hlen'
  clear hlen'
  go_enter Try.func49, Try.ntmps49
  go_wp2_with fail
  refine (iValidCells_any wd dp s A c x _ h0 h1 h2 (HX.out.below (below_a1 _ _)) hn we).mono ?_
  rintro e w1 ⟨rfl, hb⟩
  have S1 := below_call (below_a1 _ _) hb
  have HX1 := hid (HX.out.below S1.out)
  obtain ⟨c0, c1, c2, c3⟩ := (b0.out.below hb).cells4
  clear hb b0
  go_wp2_with ((go_at_call 84; refine (IsKey_any _ _).mono ?_; rintro e w' ⟨rfl, rfl⟩))
  refine (iat_any wd dp s key c A x _ HX1.out (by omega) (by omega) (by omega) (by omega) (by omega) (by omega) HL.out).mono ?_
  rintro e w2 ⟨rfl, hb2⟩
  go_wp2
  go_ret2
  exact ⟨rfl, S1.out.trans (hb2.mono S1.out.size)⟩
set_option maxRecDepth 100000 in
set_option maxHeartbeats 1600000 in
theorem sPlacesOf_any (a0 a1 a2 : Int) (A : Option Addr) (c : Nat) (x : List Int) (key : Int) (w : World) (h0 : W64 a0) (h1 : W64 a1) (h2 : W64 a2) (hx : RdL (Value.int .i64) w A x) (hn : x.length ≤ 1048576) (we : ∀ y ∈ x, W64 y) (hkey : W64 key) :
    Calls Try.prog 50 #[.agg #[.int .i64 a0, .int .i64 a1, .int .i64 a2, .slice A x.length c], .int .i64 key] w (RetLB (Value.int .i64) 2 w (pPlacesOf a0 a1 a2 x key)) := by
  have HX := hid hx
  clear hx we h0 h1 h2 hkey
  cases hv : vCells a0 a1 a2 x with
  | false =>
    have hp : pPlacesOf a0 a1 a2 x key = ([], false) := by simp [pPlacesOf, hv]
    rw [hp]
    clear hp
    go_enter Try.func50, Try.ntmps50
    go_wp2_with fail
    refine (l03Is_any _ c A a0 a1 a2 x _ (by simp) (by simp) (by simp) (by simp) (HX.out.below (below_a1 _ _)) hn).mono ?_
    rintro e w1 ⟨rfl, n, rfl⟩
    go_wp2
    go_ret2
    exact ⟨none, 0, rfl, OwnS.nil, by simp, below_drewN (below_a1 _ _) _⟩
  | true =>
  cases hk : inB key 0 4294967295 with
  | false =>
    have hp : pPlacesOf a0 a1 a2 x key = ([], false) := by simp [pPlacesOf, hk]
    rw [hp]
    clear hp
    go_enter Try.func50, Try.ntmps50
    go_wp2_with fail
    refine (l03Is_any _ c A a0 a1 a2 x _ (by simp) (by simp) (by simp) (by simp) (HX.out.below (below_a1 _ _)) hn).mono ?_
    rintro e w1 ⟨rfl, n, rfl⟩
    go_wp2_with ((go_at_call 82; refine (l02Key_any _ _).mono ?_; rintro e w' ⟨rfl, rfl⟩))
    go_ret2
    exact ⟨none, 0, rfl, OwnS.nil, by simp, below_drewN (below_a1 _ _) _⟩
  | true =>
  obtain ⟨⟨hw1, hw2⟩, ⟨hd1, hd2⟩, ⟨hs1, hs2⟩, hlen, hbd⟩ := vCells_iff hv
  obtain ⟨hk1, hk2⟩ := inB_iff.1 hk
  obtain ⟨wd, rfl⟩ := Int.eq_ofNat_of_zero_le (show 0 ≤ a0 by omega)
  obtain ⟨dp, rfl⟩ := Int.eq_ofNat_of_zero_le (show 0 ≤ a1 by omega)
  obtain ⟨s, rfl⟩ := Int.eq_ofNat_of_zero_le hs1
  obtain ⟨key, rfl⟩ := Int.eq_ofNat_of_zero_le hk1
  have hlen' : x.length = wd * dp := by rw [← Int.natCast_mul] at hlen; omega
  have hp : pPlacesOf wd dp s x key = (cellsL wd s key dp, true) := by simp [pPlacesOf, hv, hk]
  rw [hp]
  clear hp hlen
  go_enter Try.func50, Try.ntmps50
  have HL := hid hlen'
  clear hlen'
  go_wp2_with fail
  refine (l03Is_any _ c A wd dp s x _ (by simp) (by simp) (by simp) (by simp) (HX.out.below (below_a1 _ _)) hn).mono ?_
  rintro e w1 ⟨rfl, n, rfl⟩
  go_wp2_with ((go_at_call 82; refine (l02Key_any _ _).mono ?_; rintro e w' ⟨rfl, rfl⟩))
  obtain ⟨i0, hi0, hz0, hz1, hz2⟩ := info_parts Try.infoI
  clear hv hk hbd
  go_loopw [6, 7] (fun v i wr => ∃ k : Nat, k ≤ dp ∧ i = .int .i64 k ∧ Hid (wr.ownsRow (w.heap.size + 1) 2 1 v k ((cellsL wd s key k).map (Value.int .i64))) ∧
      Hid (Below (w.heap.size + 1) (w.alloc (.cells #[.int .i64 wd, .int .i64 dp, .int .i64 s, .slice A x.length c] 41)) wr)) (fun _ i _ => dp - (intOf i).toNat)
  case atStart => exact ⟨0, Nat.zero_le _, rfl, row_start1 w _ _, below_drewN ((Below.refl _ _).alloc (by simp) _) _⟩
  case round =>
    obtain ⟨k, hkr, rfl, hown, hW⟩ := hrel
    have hBx : Hid (Blk wr w.heap.size 41 [.int .i64 wd, .int .i64 dp, .int .i64 s, .slice A x.length c]) := (hW.out.block w.heap.size (by omega)).trans (Blk.new w _ _)
    obtain ⟨c0, c1, c2, c3⟩ := hBx.out.cells4
    by_cases hlt : k < dp
    · have hi : (k : Int) < (dp : Int) := by omega
      have hlb : w.heap.size < wr.heap.size := hBx.out.lt
      go_wp2_with fail
      refine (l03Place_any _ wd s key k _ c0 c2 (by omega) (by omega) (by omega) (by omega) (by omega)).mono ?_
      rintro e w2 ⟨rfl, nd, hnd⟩
      have hown2 : Hid (w2.ownsRow (w.heap.size + 1) 2 1 u6 k ((cellsL wd s key k).map (Value.int .i64))) := by rw [hnd]; exact hown.out
      have hW2 : Hid (Below (w.heap.size + 1) (w.alloc (.cells #[.int .i64 wd, .int .i64 dp, .int .i64 s, .slice A x.length c] 41)) w2) := by rw [hnd]; exact below_drewN hW.out _
      have hlb2 : w.heap.size < w2.heap.size := by rw [hnd]; exact hlb
      clear hnd hown hW hBx c0 c1 c2 c3 hlb
      go_wp2_with (at_builtin; refine wpList_append_own _ rfl _ _ 35 rfl (w.heap.size + 1) 2 i0 (.int .i64 0) 1 8 Try.underlying35 hi0 hz0 hz1 hz2 rfl (by decide) _ _ _ rfl (hown2.out.alloc _) ⟨w2.heap.size, 0, none⟩ 1 1 [.int .i64 (placeN wd s key k)] rfl rfl ?c1 ?c2 ?c3 ?c4 ?c5 ?_)
      case c1 => exact cell_one_new _ _ _
      case c2 => intro u hu; simp at hu; subst hu; rfl
      case c3 => simp only [maxLen]; omega
      case c4 => omega
      case c5 => simp; omega
      intro v' w3 hown' hgrow _
      rw [cellsL_succ] at hown'
      have O1 := hid hown'
      have W1 : Hid (Below (w.heap.size + 1) (w.alloc (.cells #[.int .i64 wd, .int .i64 dp, .int .i64 s, .slice A x.length c] 41)) w3) :=
        (hW2.out.alloc (by omega) _).grown hgrow (by simp; omega) (fun g hg => (hown2.out.lt g hg).1)
      clear hown' hgrow
      go_wp2
      exact ⟨⟨k + 1, by omega, by go_num, O1, W1⟩, by simp [intOf]; omega⟩
    · have hi : ¬ (k : Int) < (dp : Int) := by omega
      go_wp2
      go_ret2
      obtain rfl : k = dp := by omega
      obtain ⟨A', c', hv, ho⟩ := ownS_of_row hown.out (cellsL_length _ _ _ _)
      exact ⟨A', c', by rw [hv]; rfl, ho.mono (by omega), by rw [cellsL_length]; omega, (below_a1 _ _).trans (hW.out.mono (by omega))⟩
set_option maxRecDepth 100000 in
set_option maxHeartbeats 1600000 in
theorem iPlacesOf_any (a0 a1 a2 : Int) (A : Option Addr) (c : Nat) (x : List Int) (key : Int) (w : World) (h0 : W64 a0) (h1 : W64 a1) (h2 : W64 a2) (hx : RdL (Value.int .i64) w A x) (hn : x.length ≤ 1048576) (we : ∀ y ∈ x, W64 y) (hkey : W64 key) :
    Calls Try.prog 51 #[.agg #[.int .i64 a0, .int .i64 a1, .int .i64 a2, .slice A x.length c], .int .i64 key] w (RetLB (Value.int .i64) 2 w (pPlacesOf a0 a1 a2 x key)) := by
  have HX := hid hx
  have b0 := hid (Blk.new w 41 [.int .i64 a0, .int .i64 a1, .int .i64 a2, .slice A x.length c])
  cases hv : vCells a0 a1 a2 x with
  | false =>
    have hp : pPlacesOf a0 a1 a2 x key = ([], false) := by simp [pPlacesOf, hv]
    rw [hp]
    clear hp
    go_enter Try.func51, Try.ntmps51
    go_wp2_with fail
    refine (iValidCells_any a0 a1 a2 A c x _ h0 h1 h2 (HX.out.below (below_a1 _ _)) hn we).mono ?_
    rintro e w1 ⟨rfl, hb⟩
    go_wp2
    go_ret2
    exact ⟨none, 0, rfl, OwnS.nil, by simp, (below_call (below_a1 _ _) hb).out⟩
  | true =>
  cases hk : inB key 0 4294967295 with
  | false =>
    have hp : pPlacesOf a0 a1 a2 x key = ([], false) := by simp [pPlacesOf, hk]
    rw [hp]
    clear hp
    go_enter Try.func51, Try.ntmps51
    go_wp2_with fail
    refine (iValidCells_any a0 a1 a2 A c x _ h0 h1 h2 (HX.out.below (below_a1 _ _)) hn we).mono ?_
    rintro e w1 ⟨rfl, hb⟩
    go_wp2_with ((go_at_call 84; refine (IsKey_any _ _).mono ?_; rintro e w' ⟨rfl, rfl⟩))
    go_ret2
    exact ⟨none, 0, rfl, OwnS.nil, by simp, (below_call (below_a1 _ _) hb).out⟩
  | true =>
  obtain ⟨⟨hw1, hw2⟩, ⟨hd1, hd2⟩, ⟨hs1, hs2⟩, hlen, hbd⟩ := vCells_iff hv
  obtain ⟨hk1, hk2⟩ := inB_iff.1 hk
  obtain ⟨wd, rfl⟩ := Int.eq_ofNat_of_zero_le (show 0 ≤ a0 by omega)
  obtain ⟨dp, rfl⟩ := Int.eq_ofNat_of_zero_le (show 0 ≤ a1 by omega)
  obtain ⟨s, rfl⟩ := Int.eq_ofNat_of_zero_le hs1
  obtain ⟨key, rfl⟩ := Int.eq_ofNat_of_zero_le hk1
  have hlen' : x.length = wd * dp := by rw [← Int.natCast_mul] at hlen; omega
  have hp : pPlacesOf wd dp s x key = (cellsL wd s key dp, true) := by simp [pPlacesOf, hv, hk]
  rw [hp]
  clear hp hlen
  have HL := hid hlen'
  clear hlen'
  go_enter Try.func51, Try.ntmps51
  go_wp2_with fail
  refine (iValidCells_any wd dp s A c x _ h0 h1 h2 (HX.out.below (below_a1 _ _)) hn we).mono ?_
  rintro e w1 ⟨rfl, hb⟩
  have S1 := below_call (below_a1 _ _) hb
  have HX1 := hid (HX.out.below S1.out)
  obtain ⟨c0, c1, c2, c3⟩ := (b0.out.below hb).cells4
  clear hb b0
  go_wp2_with ((go_at_call 84; refine (IsKey_any _ _).mono ?_; rintro e w' ⟨rfl, rfl⟩))
  refine (places_any wd dp s key x.length c A _ (by omega) (by omega) (by omega) (by omega) (by omega)).mono ?_
  rintro e w2 ⟨A', c', rfl, ho, hb2⟩
  go_wp2
  go_ret2
  exact ⟨A', c', rfl, ho.mono S1.out.size, by rw [cellsL_length]; omega, S1.out.trans (hb2.mono S1.out.size)⟩
end Go.Proofs.Ytocmcghhjjhogaa
