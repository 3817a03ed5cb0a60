/-
  Parts of the proof: CellsAt and PlacesOf, reference and program, by contracts. The rows of cells: reference and program, by contracts. The least one of a list; slices.Min, by contract. The least product of rows: reference and program, by contracts. Cells with a capacity that is told: clones, NewCells, PutCells; CellsTotal and CellsDot of cells of any capacity. Printed by gen_fcc.py. One element appended to a slice of the call's own. What the laws of this set draw from bytes, and how they compare: by contracts. Floats that are no NaN: what the operations and conversions make of them. Floats that are numbers and no No condition.
-/
import Derived.Test.YtmmolicodlmlkaaFG
import Derived.Maps.AppendAt
import Derived.Deep.AppendLies
import Derived.Deep.QuietTactic
import Derived.Laws.FloatArith
import Derived.Laws.Cover2
set_option linter.unusedVariables false
set_option linter.unusedSimpArgs false
namespace Go.Proofs.Ytmmolicodlmlkaa
open Go.RowKit
set_option linter.unusedVariables false

/-- What CellsAt returns. -/
def pCellsAt (a0 a1 a2 : Int) (x : List Int) (key : Int) : Int × Bool :=
  if vCells a0 a1 a2 x = true ∧ inB key 0 4294967295 = true then (minAtM 1000000000000 x (cellsL a0.toNat a2.toNat key.toNat a1.toNat), true) else (0, false)
/-- What PlacesOf returns. -/
def pPlacesOf (a0 a1 a2 : Int) (x : List Int) (key : Int) : List Int × Bool :=
  if vCells a0 a1 a2 x = true ∧ inB key 0 4294967295 = true then (cellsL a0.toNat a2.toNat key.toNat a1.toNat, true) else ([], false)
/-- It hands back a slice of its own and a bool. -/
def RetLB {α : Type} (f : α → Value) (t : TypeId) (w : World) (r : List α × Bool) (e : Ending) (w' : World) : Prop :=
  ∃ A c, e = .returned (.tuple #[.slice A r.1.length c, .bool r.2]) ∧ OwnS f w' w.heap.size t A r.1 ∧ r.1.length ≤ 1048576 ∧ Below w.heap.size w w'
set_option maxRecDepth 100000 in
set_option maxHeartbeats 1600000 in
theorem iCellsAt_any (a0 a1 a2 : Int) (A : Option Addr) (c : Nat) (x : List Int) (key : Int) (w : World) (h0 : W64 a0) (h1 : W64 a1) (h2 : W64 a2) (hx : RdL (Value.int .i64) w A x) (hn : x.length ≤ 1048576) (we : ∀ y ∈ x, W64 y) (hkey : W64 key) :
    Calls Try.prog 48 #[.agg #[.int .i64 a0, .int .i64 a1, .int .i64 a2, .slice A x.length c], .int .i64 key] w fun e w' => e = .returned (.tuple #[.int .i64 (pCellsAt a0 a1 a2 x key).1, .bool (pCellsAt a0 a1 a2 x key).2]) ∧ Below w.heap.size w w' := by
  have HX := hid hx
  have b0 := hid (Blk.new w 37 [.int .i64 a0, .int .i64 a1, .int .i64 a2, .slice A x.length c])
  cases hv : vCells a0 a1 a2 x with
  | false =>
    have hp : pCellsAt a0 a1 a2 x key = (0, false) := by simp [pCellsAt, hv]
    rw [hp]
    clear hp
    go_enter Try.func48, Try.ntmps48
    go_wp2_with fail
    refine (iValidCells_any a0 a1 a2 A c x _ h0 h1 h2 (HX.out.below (below_a1 _ _)) hn we).mono ?_
    rintro e w1 ⟨rfl, hb⟩
    go_wp2
    go_ret2
    exact ⟨rfl, (below_call (below_a1 _ _) hb).out⟩
  | true =>
  cases hk : inB key 0 4294967295 with
  | false =>
    have hp : pCellsAt a0 a1 a2 x key = (0, false) := by simp [pCellsAt, hk]
    rw [hp]
    clear hp
    go_enter Try.func48, Try.ntmps48
    go_wp2_with fail
    refine (iValidCells_any a0 a1 a2 A c x _ h0 h1 h2 (HX.out.below (below_a1 _ _)) hn we).mono ?_
    rintro e w1 ⟨rfl, hb⟩
    go_wp2_with ((go_at_call 63; refine (IsKey_any _ _).mono ?_; rintro e w' ⟨rfl, rfl⟩))
    go_ret2
    exact ⟨rfl, (below_call (below_a1 _ _) hb).out⟩
  | true =>
  obtain ⟨⟨hw1, hw2⟩, ⟨hd1, hd2⟩, ⟨hs1, hs2⟩, hlen, hbd⟩ := vCells_iff hv
  obtain ⟨hk1, hk2⟩ := inB_iff.1 hk
  obtain ⟨wd, rfl⟩ := Int.eq_ofNat_of_zero_le (show 0 ≤ a0 by omega)
  obtain ⟨dp, rfl⟩ := Int.eq_ofNat_of_zero_le (show 0 ≤ a1 by omega)
  obtain ⟨s, rfl⟩ := Int.eq_ofNat_of_zero_le hs1
  obtain ⟨key, rfl⟩ := Int.eq_ofNat_of_zero_le hk1
  have hlen' : x.length = wd * dp := by rw [← Int.natCast_mul] at hlen; omega
  have hp : pCellsAt wd dp s x key = (minAtM 1000000000000 x (cellsL wd s key dp), true) := by simp [pCellsAt, hv, hk]
  rw [hp]
  clear hp hlen
  have HL := hid hlen'
  clear hlen'
  go_enter Try.func48, Try.ntmps48
  go_wp2_with fail
  refine (iValidCells_any wd dp s A c x _ h0 h1 h2 (HX.out.below (below_a1 _ _)) hn we).mono ?_
  rintro e w1 ⟨rfl, hb⟩
  have S1 := below_call (below_a1 _ _) hb
  have HX1 := hid (HX.out.below S1.out)
  obtain ⟨c0, c1, c2, c3⟩ := (b0.out.below hb).cells4
  clear hb b0
  go_wp2_with ((go_at_call 63; refine (IsKey_any _ _).mono ?_; rintro e w' ⟨rfl, rfl⟩))
  refine (iat_any wd dp s key c A x _ HX1.out (by omega) (by omega) (by omega) (by omega) (by omega) (by omega) HL.out).mono ?_
  rintro e w2 ⟨rfl, hb2⟩
  go_wp2
  go_ret2
  exact ⟨rfl, S1.out.trans (hb2.mono S1.out.size)⟩
set_option maxRecDepth 100000 in
set_option maxHeartbeats 1600000 in
theorem iPlacesOf_any (a0 a1 a2 : Int) (A : Option Addr) (c : Nat) (x : List Int) (key : Int) (w : World) (h0 : W64 a0) (h1 : W64 a1) (h2 : W64 a2) (hx : RdL (Value.int .i64) w A x) (hn : x.length ≤ 1048576) (we : ∀ y ∈ x, W64 y) (hkey : W64 key) :
    Calls Try.prog 49 #[.agg #[.int .i64 a0, .int .i64 a1, .int .i64 a2, .slice A x.length c], .int .i64 key] w (RetLB (Value.int .i64) 2 w (pPlacesOf a0 a1 a2 x key)) := by
  have HX := hid hx
  have b0 := hid (Blk.new w 37 [.int .i64 a0, .int .i64 a1, .int .i64 a2, .slice A x.length c])
  cases hv : vCells a0 a1 a2 x with
  | false =>
    have hp : pPlacesOf a0 a1 a2 x key = ([], false) := by simp [pPlacesOf, hv]
    rw [hp]
    clear hp
    go_enter Try.func49, Try.ntmps49
    go_wp2_with fail
    refine (iValidCells_any a0 a1 a2 A c x _ h0 h1 h2 (HX.out.below (below_a1 _ _)) hn we).mono ?_
    rintro e w1 ⟨rfl, hb⟩
    go_wp2
    go_ret2
    exact ⟨none, 0, rfl, OwnS.nil, by simp, (below_call (below_a1 _ _) hb).out⟩
  | true =>
  cases hk : inB key 0 4294967295 with
  | false =>
    have hp : pPlacesOf a0 a1 a2 x key = ([], false) := by simp [pPlacesOf, hk]
    rw [hp]
    clear hp
    go_enter Try.func49, Try.ntmps49
    go_wp2_with fail
    refine (iValidCells_any a0 a1 a2 A c x _ h0 h1 h2 (HX.out.below (below_a1 _ _)) hn we).mono ?_
    rintro e w1 ⟨rfl, hb⟩
    go_wp2_with ((go_at_call 63; refine (IsKey_any _ _).mono ?_; rintro e w' ⟨rfl, rfl⟩))
    go_ret2
    exact ⟨none, 0, rfl, OwnS.nil, by simp, (below_call (below_a1 _ _) hb).out⟩
  | true =>
  obtain ⟨⟨hw1, hw2⟩, ⟨hd1, hd2⟩, ⟨hs1, hs2⟩, hlen, hbd⟩ := vCells_iff hv
  obtain ⟨hk1, hk2⟩ := inB_iff.1 hk
  obtain ⟨wd, rfl⟩ := Int.eq_ofNat_of_zero_le (show 0 ≤ a0 by omega)
  obtain ⟨dp, rfl⟩ := Int.eq_ofNat_of_zero_le (show 0 ≤ a1 by omega)
  obtain ⟨s, rfl⟩ := Int.eq_ofNat_of_zero_le hs1
  obtain ⟨key, rfl⟩ := Int.eq_ofNat_of_zero_le hk1
  have hlen' : x.length = wd * dp := by rw [← Int.natCast_mul] at hlen; omega
  have hp : pPlacesOf wd dp s x key = (cellsL wd s key dp, true) := by simp [pPlacesOf, hv, hk]
  rw [hp]
  clear hp hlen
  have HL := hid hlen'
  clear hlen'
  go_enter Try.func49, Try.ntmps49
  go_wp2_with fail
  refine (iValidCells_any wd dp s A c x _ h0 h1 h2 (HX.out.below (below_a1 _ _)) hn we).mono ?_
  rintro e w1 ⟨rfl, hb⟩
  have S1 := below_call (below_a1 _ _) hb
  have HX1 := hid (HX.out.below S1.out)
  obtain ⟨c0, c1, c2, c3⟩ := (b0.out.below hb).cells4
  clear hb b0
  go_wp2_with ((go_at_call 63; refine (IsKey_any _ _).mono ?_; rintro e w' ⟨rfl, rfl⟩))
  refine (places_any wd dp s key x.length c A _ (by omega) (by omega) (by omega) (by omega) (by omega)).mono ?_
  rintro e w2 ⟨A', c', rfl, ho, hb2⟩
  go_wp2
  go_ret2
  exact ⟨A', c', rfl, ho.mono S1.out.size, by rw [cellsL_length]; omega, S1.out.trans (hb2.mono S1.out.size)⟩
end Go.Proofs.Ytmmolicodlmlkaa
namespace Go.Proofs.Ytmmolicodlmlkaa
open Go.RowKit
set_option linter.unusedVariables false

theorem ret_slice {A : Option Addr} {n n' c : Nat} (h : n = n') : Ending.returned (.slice A n c) = .returned (.slice A n' c) := by rw [h]
/-- Row i. -/
def rowL (x : List Int) (wd i : Nat) : List Int := (x.drop (i * wd)).take wd
theorem rowL_length {x : List Int} {wd dp i : Nat} (hl : x.length = wd * dp) (hi : i < dp) : (rowL x wd i).length = wd := by
  have h2 : (i + 1) * wd ≤ dp * wd := Nat.mul_le_mul_right wd hi
  rw [Nat.add_mul] at h2
  rw [Nat.mul_comm wd dp] at hl
  simp only [rowL, List.length_take, List.length_drop]
  omega
theorem rowL_at {x : List Int} {wd i k : Nat} (hk : k < wd) : (rowL x wd i)[k]? = x[i * wd + k]? := by
  simp only [rowL, List.getElem?_take, if_pos hk, List.getElem?_drop]
theorem rowL_mem {x : List Int} {wd i : Nat} {y : Int} (h : y ∈ rowL x wd i) : y ∈ x := List.mem_of_mem_drop (List.mem_of_mem_take h)
theorem rowL_rd {x : List Int} {wd i : Nat} {w : World} {b o : Nat} (h : RdL (Value.int .i64) w (some ⟨b, o, none⟩) x) : RdL (Value.int .i64) w (some ⟨b, o + i * wd, none⟩) (rowL x wd i) := fun j hj => by
  have hlen : j < wd ∧ i * wd + j < x.length := by
    simp only [rowL, List.length_take, List.length_drop] at hj; omega
  obtain ⟨b', o', hA, hc⟩ := h (i * wd + j) hlen.2
  injection hA with hA; injection hA with h1 h2
  subst h1 h2
  refine ⟨b, o + i * wd, rfl, ?_⟩
  rw [Nat.add_assoc, hc]
  have := rowL_at (x := x) (i := i) hlen.1
  rw [List.getElem?_eq_getElem hj, List.getElem?_eq_getElem hlen.2] at this
  injection this with this
  rw [this]
theorem sum_snoc {l : List Int} {k : Nat} {y : Int} (h : Hid (l[k]? = some y)) : (l.take (k + 1)).sum = (l.take k).sum + y := by
  rw [List.take_add_one, h.out]; simp
theorem sum_bound {l : List Int} {M : Int} (hM : 0 ≤ M) (h : ∀ y ∈ l, -M ≤ y ∧ y ≤ M) : ∀ k, -(k * M) ≤ (l.take k).sum ∧ (l.take k).sum ≤ k * M := by
  intro k
  induction k with
  | zero => simp
  | succ k ih =>
    have e : ((k + 1 : Nat) : Int) * M = k * M + M := by rw [Int.natCast_add, Int.add_mul]; simp
    rcases Nat.lt_or_ge k l.length with hk | hk
    · rw [sum_snoc (show Hid (l[k]? = some l[k]) from List.getElem?_eq_getElem hk), e]
      have := h l[k] (List.getElem_mem hk)
      omega
    · rw [List.take_of_length_le (by omega)] at ih ⊢
      rw [e]; omega

set_option maxHeartbeats 800000 in
theorem sumOf_any (A : Option Addr) (c : Nat) (x : List Int) (w : World) (hx : RdL (Value.int .i64) w A x) (hn : x.length ≤ 4096) (hbd : ∀ y ∈ x, -1000000000000 ≤ y ∧ y ≤ 1000000000000) :
    Calls Try.prog 101 #[.slice A x.length c] w fun e w' => e = .returned (.int .i64 x.sum) ∧ w = w' := by
  have HX := hid hx
  have HSB := hid (sum_bound (l := x) (M := 1000000000000) (by omega) hbd)
  have HBD := hid hbd
  clear hx hbd
  go_enter Try.func101, Try.ntmps101
  go_wp2
  go_loop [3, 8] (fun v j => ∃ k : Nat, k ≤ x.length ∧ j = .int .i64 k ∧ ∃ z : Int, v = .int .i64 z ∧ Hid ((x.take k).sum = z)) (fun _ j => x.length - (intOf j).toNat)
  case atStart => exact ⟨0, Nat.zero_le _, rfl, 0, rfl, by show (x.take 0).sum = 0; simp⟩
  case round =>
    obtain ⟨k, hk, rfl, z, rfl, hh⟩ := hrel
    by_cases hlt : k < x.length
    · have hi' : (k : Int) < (x.length : Int) := by omega
      obtain ⟨b, o, y, rfl, hcy, hym⟩ := HX.out.at_ hlt
      have he : Hid ((x.take (k + 1)).sum = z + y) := by rw [sum_snoc hym, hh.out]; rfl
      have hyb := HBD.out y (List.mem_of_getElem? hym.out)
      have hzb := HSB.out k
      rw [hh.out] at hzb
      go_wp2
      exact ⟨⟨k + 1, by omega, by go_num, _, rfl, he⟩, by simp [intOf]; omega⟩
    · have hi' : ¬ (k : Int) < (x.length : Int) := by omega
      go_wp2
      go_ret
      have he := hh.out
      rw [List.take_of_length_le (by omega)] at he
      exact ⟨ret_int he.symm, rfl⟩
theorem sumOf_any' (A : Option Addr) (n c : Nat) (x : List Int) (w : World) (hl : Hid (x.length = n)) (hx : RdL (Value.int .i64) w A x) (hn : n ≤ 4096) (hbd : ∀ y ∈ x, -1000000000000 ≤ y ∧ y ≤ 1000000000000) :
    Calls Try.prog 101 #[.slice A n c] w fun e w' => e = .returned (.int .i64 x.sum) ∧ w = w' := by
  obtain rfl := hl.out
  exact sumOf_any A c x w hx hn hbd
/-- What CellsTotal returns. -/
def pCellsTotal (a0 a1 a2 : Int) (x : List Int) : Int × Bool := if vCells a0 a1 a2 x = true then ((rowL x a0.toNat 0).sum, true) else (0, false)
end Go.Proofs.Ytmmolicodlmlkaa
namespace Go.Proofs.Ytmmolicodlmlkaa
open Go.RowKit
set_option linter.unusedVariables false

/-- The least one; 0 if there is none. -/
def minL : List Int → Int
  | [] => 0
  | a :: l => l.foldl min a
theorem minL_snoc {l : List Int} (a : Int) (h : l ≠ []) : minL (l ++ [a]) = min (minL l) a := by
  cases l with
  | nil => exact absurd rfl h
  | cons b l => simp [minL, List.foldl_append]
set_option maxHeartbeats 1000000 in
theorem slMin_any (A : Option Addr) (c : Nat) (x : List Int) (w : World) (hx : RdL (Value.int .i64) w A x) (hn : x.length ≤ 1048576) (hp : 0 < x.length) :
    Calls Try.prog 104 #[.slice A x.length c] w fun e w' => e = .returned (.int .i64 (minL x)) ∧ w = w' := by
  have HX := hid hx
  clear hx
  obtain ⟨b, o, y0, rfl, hy0, hym0⟩ := HX.out.at_ hp
  have hs : Hid (minL (x.take 1) = y0) := by
    show _ = _
    rw [show x.take 1 = x.take (0 + 1) from rfl, List.take_add_one, hym0.out]
    simp [minL]
  have hy0' : w.cell? ⟨b, o, none⟩ = some (.int .i64 y0) := by simpa using hy0
  go_enter Try.func104, Try.ntmps104
  go_wp2
  go_loop [3, 4] (fun v i => ∃ k : Nat, 1 ≤ k ∧ k ≤ x.length ∧ i = .int .i64 k ∧ ∃ z : Int, v = .int .i64 z ∧ Hid (minL (x.take k) = z)) (fun v i => x.length - (intOf i).toNat)
  case atStart => exact ⟨1, Nat.le_refl _, hp, rfl, _, rfl, hs⟩
  case round =>
    obtain ⟨k, hk1, hk, rfl, z, rfl, hh⟩ := hrel
    by_cases hlt : k < x.length
    · have hi : (k : Int) < (x.length : Int) := by omega
      obtain ⟨b', o', y, hA', hcy, hym⟩ := HX.out.at_ hlt
      obtain ⟨rfl, rfl⟩ : b = b' ∧ o = o' := by injection hA' with hA'; injection hA' with h1 h2; exact ⟨h1, h2⟩
      have hne : x.take k ≠ [] := by
        intro h
        have h2 : (x.take k).length = k := by simp; omega
        rw [h] at h2; simp at h2; omega
      have he : Hid (minL (x.take (k + 1)) = min z y) := by
        show _ = _
        rw [List.take_add_one, hym.out, Option.toList_some, minL_snoc y hne, hh.out]
      clear hA' hne
      by_cases hzy : z ≤ y
      · rw [show min z y = z by omega] at he
        go_wp2
        exact ⟨⟨k + 1, by omega, by omega, by go_num, _, rfl, he⟩, by simp [intOf]; omega⟩
      · rw [show min z y = y by omega] at he
        have hyz : y < z := by omega
        clear hzy
        go_wp2
        exact ⟨⟨k + 1, by omega, by omega, by go_num, _, rfl, he⟩, by simp [intOf]; omega⟩
    · have hi : ¬ (k : Int) < (x.length : Int) := by omega
      go_wp2
      go_ret
      have he := hh.out
      rw [List.take_of_length_le (by omega)] at he
      exact ⟨ret_int he.symm, rfl⟩
end Go.Proofs.Ytmmolicodlmlkaa
namespace Go.Proofs.Ytmmolicodlmlkaa
open Go.RowKit
set_option linter.unusedVariables false
set_option linter.unusedSimpArgs false

/-- The products of two rows. -/
def prodL (x y : List Int) (wd i : Nat) : List Int := List.zipWith (fun a b => a * b) (rowL x wd i) (rowL y wd i)
/-- The sums of the products of the first n rows. -/
def dotsL (x y : List Int) (wd n : Nat) : List Int := (List.range n).map fun i => (prodL x y wd i).sum
theorem dotsL_succ (x y : List Int) (wd n : Nat) : dotsL x y wd (n + 1) = dotsL x y wd n ++ [(prodL x y wd n).sum] := by simp [dotsL, List.range_succ]
theorem dotsL_length (x y : List Int) (wd n : Nat) : (dotsL x y wd n).length = n := by simp [dotsL]
theorem prodL_length {x y : List Int} {wd dp i : Nat} (hx : x.length = wd * dp) (hy : y.length = wd * dp) (hi : i < dp) : (prodL x y wd i).length = wd := by
  unfold prodL
  rw [List.length_zipWith, rowL_length hx hi, rowL_length hy hi]; simp
theorem mul_small {a b : Int} (ha : -1000000 ≤ a ∧ a ≤ 1000000) (hb : -1000000 ≤ b ∧ b ≤ 1000000) : -1000000000000 ≤ a * b ∧ a * b ≤ 1000000000000 := by
  have h1 : (a * b).natAbs = a.natAbs * b.natAbs := Int.natAbs_mul a b
  have h2 : a.natAbs * b.natAbs ≤ 1000000 * 1000000 := Nat.mul_le_mul (by omega) (by omega)
  omega
theorem prodL_bound {x y : List Int} {wd i : Nat} (hx : ∀ z ∈ x, -1000000 ≤ z ∧ z ≤ 1000000) (hy : ∀ z ∈ y, -1000000 ≤ z ∧ z ≤ 1000000) : ∀ z ∈ prodL x y wd i, -1000000000000 ≤ z ∧ z ≤ 1000000000000 := fun z hz => by
  unfold prodL at hz
  obtain ⟨j, hj, hz⟩ := List.mem_iff_getElem.1 hz
  rw [List.getElem_zipWith] at hz
  subst hz
  exact mul_small (hx _ (rowL_mem (List.getElem_mem _))) (hy _ (rowL_mem (List.getElem_mem _)))
theorem prodL_at {x y : List Int} {wd i k : Nat} {u v : Int} (hk : k < wd) (hu : Hid (x[i * wd + k]? = some u)) (hv : Hid (y[i * wd + k]? = some v)) : Hid ((prodL x y wd i)[k]? = some (u * v)) := by
  show _ = _
  unfold prodL
  rw [List.getElem?_zipWith, rowL_at hk, rowL_at hk, hu.out, hv.out]
/-- What CellsDot returns. -/
def pCellsDot (a0 a1 a2 : Int) (x : List Int) (b0 b1 b2 : Int) (y : List Int) : Int × Bool :=
  if (alikeC a0 a1 a2 x b0 b1 b2 y && allB x (-1000000) 1000000 && allB y (-1000000) 1000000) = true then (minL (dotsL x y a0.toNat a1.toNat), true) else (0, false)
theorem ownsRow_below {w w' : World} {base : Nat} {e : TypeId} {size : Nat} {v : Value} {n : Nat} {xs : List Value} (h : w.ownsRow base e size v n xs) (hb : Below w.heap.size w w') : w'.ownsRow base e size v n xs := by
  obtain ⟨h1, h2⟩ := h
  refine ⟨h1, h2.imp id ?_⟩
  rintro ⟨g, cap, cur, hv, hB, hg, h3⟩
  exact ⟨g, cap, cur, hv, hB, (hb.block g (Array.getElem?_eq_some_iff.1 hg).1).trans hg, h3⟩
theorem allB_iff {x : List Int} {lo hi : Int} (h : allB x lo hi = true) : ∀ y ∈ x, lo ≤ y ∧ y ≤ hi := fun y hy => by
  unfold allB at h
  rw [List.all_eq_true] at h
  exact inB_iff.1 (h y hy)

set_option maxHeartbeats 800000 in
theorem areSmall_any (a0 a1 a2 : Int) (A : Option Addr) (c : Nat) (x : List Int) (w : World) (hx : RdL (Value.int .i64) w A x) (hn : x.length ≤ 1048576) :
    Calls Try.prog 103 #[.agg #[.int .i64 a0, .int .i64 a1, .int .i64 a2, .slice A x.length c]] w fun e w' => e = .returned (.bool (allB x (-1000000) 1000000)) ∧ Below w.heap.size w w' := by
  have HX := hid hx
  clear hx
  go_enter Try.func103, Try.ntmps103
  go_wp2_with fail
  refine (areWithin_any A c x _ _ _ (HX.out.below (below_a1 _ _)) hn).mono ?_
  rintro e w1 ⟨rfl, hb⟩
  have S1 := below_call (below_a1 _ _) hb
  clear hb
  go_wp2
  go_ret
  exact ⟨rfl, S1.out⟩
end Go.Proofs.Ytmmolicodlmlkaa
namespace Go.Proofs.Ytmmolicodlmlkaa
open Go.RowKit
set_option linter.unusedVariables false
set_option linter.unusedSimpArgs false

/-- As RetCl; the capacity is told too. -/
def RetCc (M : Nat) (w : World) (p : (Int × Int × Int × List Int) × Bool) (e : Ending) (w' : World) : Prop := ∃ A c,
  e = .returned (.tuple #[.agg #[.int .i64 p.1.1, .int .i64 p.1.2.1, .int .i64 p.1.2.2.1, .slice A p.1.2.2.2.length c], .bool p.2]) ∧ OwnS (Value.int .i64) w' w.heap.size 2 A p.1.2.2.2 ∧ p.1.2.2.2.length ≤ 1048576 ∧ Below w.heap.size w w' ∧ p.1.2.2.2.length ≤ c ∧ c ≤ M
theorem retCc_no {M : Nat} {w : World} : ∀ (e : Ending) (w' : World), (e = .returned (.tuple #[.agg #[.int .i64 0, .int .i64 0, .int .i64 0, .slice none 0 0], .bool false]) ∧ Below w.heap.size w w') → RetCc M w ((0, 0, 0, []), false) e w' :=
  fun e w' ⟨he, hb⟩ => ⟨none, 0, he, OwnS.nil, by simp, hb, by simp, by simp⟩
theorem retCc_give {M : Nat} {w w' : World} {a0 a1 a2 : Int} {x : List Int} {A : Option Addr} {n c : Nat} {b0 b1 b2 : Int} {A' : Option Addr} {n' c' : Nat} {t : Bool} (hh : GiveCl a0 a1 a2 x A n c b0 b1 b2 A' n' c' t)
    (ho : OwnS (Value.int .i64) w' w.heap.size 2 A x) (hl : x.length = n) (hn : n ≤ 1048576) (hb : Below w.heap.size w w') (hc1 : n ≤ c) (hc2 : c ≤ M) : RetCc M w (giveP a0 a1 a2 x) (.returned (.tuple #[.agg #[.int .i64 b0, .int .i64 b1, .int .i64 b2, .slice A' n' c'], .bool t])) w' := by
  subst hl
  rcases hh with ⟨hv, rfl, rfl, rfl, rfl, rfl, rfl, rfl⟩ | ⟨hv, rfl, rfl, rfl, rfl, rfl, rfl, rfl⟩
  · rw [giveP, if_pos hv]
    exact ⟨A', c', rfl, ho, hn, hb, hc1, hc2⟩
  · rw [giveP, if_neg (by rw [hv]; decide)]
    exact ⟨none, 0, rfl, OwnS.nil, by simp, hb, by simp, by simp⟩
/-- A slice built by append: with its capacity. -/
theorem ownS_cap {α : Type} {f : α → Value} {w : World} {B : Nat} {e : TypeId} {v : Value} {n : Nat} {xs : List α} (h : w.ownsRow B e 1 v n (xs.map f)) (hl : xs.length = n) :
    ∃ A c, v = .slice A xs.length c ∧ OwnS f w B e A xs ∧ xs.length ≤ c ∧ c ≤ 9223372036854775807 := by
  obtain ⟨A, c, hv, ho⟩ := ownS_of_row h hl
  obtain ⟨hn, ⟨h, h0⟩ | ⟨g, cap, cur, hv2, hB, hg, hc, hm, hs, ht⟩⟩ := h
  · rw [h] at hv
    injection hv with h1 h2 h3
    exact ⟨A, c, by rw [h, ← h1, ← h2, ← h3], ho, by omega, by omega⟩
  · rw [hv2] at hv
    injection hv with h1 h2 h3
    exact ⟨A, c, by rw [hv2, h1, h2, h3], ho, by omega, by unfold maxLen at hm; omega⟩

set_option maxRecDepth 100000 in
set_option maxHeartbeats 800000 in
theorem cloneI_cap (A : Option Addr) (c : Nat) (x : List Int) (w : World) (hx : RdL (Value.int .i64) w A x) (hn : x.length ≤ 1048576) :
    Calls Try.prog 118 #[.slice A x.length c] w fun e w' => ∃ A' c', e = .returned (.slice A' x.length c') ∧ OwnS (Value.int .i64) w' w.heap.size 2 A' x ∧ Below w.heap.size w w' ∧ x.length ≤ c' ∧ c' ≤ 9223372036854775807 := by
  obtain ⟨i0, hi0, hz0, hz1, hz2⟩ := info_parts Try.infoI
  have q22 : ∀ (w : World) (a : Option Addr) (n c n' c' : Nat), (binOp .eql 22 (.slice a n c) (.slice none n' c')).run Try.prog w = .ok (.bool a.isNone) w := fun w a n c n' c' => Lib.run_eql_slice_nil w _ _ a n c n' c' Try.underlying22
  cases A with
  | none =>
    obtain rfl := rd_none hx
    go_enter Try.func118, Try.ntmps118
    go_wp2
    go_ret
    exact ⟨none, 0, rfl, OwnS.nil, Below.refl _ _, by simp, by simp⟩
  | some ad =>
    have HX := hid hx
    clear hx
    go_enter Try.func118, Try.ntmps118
    go_wp2_with (at_builtin; refine wpList_append_own _ rfl _ _ 22 rfl w.heap.size 2 i0 (.int .i64 0) 1 8 Try.underlying22 hi0 hz0 hz1 hz2 rfl (by decide) _ 0 [] rfl (World.ownsRow_made w #[] 0 (Nat.le_refl _) (Nat.zero_le _) rfl) ad x.length c (x.map (Value.int .i64)) rfl ?c1 (rd_news (HX.out.below (below_a1 _ _))) ?c2 ?c3 ?c4 ?c5 ?_)
    case c1 => simp
    case c2 => intro u hu; obtain ⟨y, _, rfl⟩ := List.mem_map.1 hu; rfl
    case c3 => simp only [maxLen]; omega
    case c4 => omega
    case c5 => simp
    intro v' w1 hown' hgrow _
    have O1 := hid hown'
    have W1 : Hid (Below w.heap.size w w1) := ((Below.refl _ w).alloc (Nat.le_refl _) _).grown hgrow (by simp) (by intro k hk; simp [Value.ownBlock] at hk; omega)
    clear hown' hgrow
    go_wp2
    go_ret
    obtain ⟨A', c', hv, ho, hc1, hc2⟩ := ownS_cap (f := (Value.int .i64)) (xs := x) (n := 0 + x.length) (by simpa using O1.out) (by simp)
    exact ⟨A', c', congrArg Ending.returned hv, ho, W1.out, hc1, hc2⟩

set_option maxHeartbeats 800000 in
theorem copyCells_cap (a0 a1 a2 : Int) (A : Option Addr) (c : Nat) (x : List Int) (w : World) (hx : RdL (Value.int .i64) w A x) (hn : x.length ≤ 1048576) :
    Calls Try.prog 91 #[.agg #[.int .i64 a0, .int .i64 a1, .int .i64 a2, .slice A x.length c]] w fun e w' => ∃ A' c', e = .returned (.agg #[.int .i64 a0, .int .i64 a1, .int .i64 a2, .slice A' x.length c']) ∧ OwnS (Value.int .i64) w' w.heap.size 2 A' x ∧ Below w.heap.size w w' ∧ x.length ≤ c' ∧ c' ≤ 9223372036854775807 := by
  have HX := hid hx
  have B0 := hid ((Blk.new w 37 [.int .i64 a0, .int .i64 a1, .int .i64 a2, .slice A x.length c]).alloc (.cells #[.int .i64 0, .int .i64 0, .int .i64 0, .slice none 0 0] 37))
  have R0 := hid (Blk.new2 w (.cells #[.int .i64 a0, .int .i64 a1, .int .i64 a2, .slice A x.length c] 37) 37 [.int .i64 0, .int .i64 0, .int .i64 0, .slice none 0 0])
  clear hx
  go_enter Try.func91, Try.ntmps91
  go_wp2_with fail
  refine (cloneI_cap A c x _ (HX.out.below (below_a2 _ _ _)) hn).mono ?_
  rintro e w1 ⟨A1, c1, rfl, ho, hb, hcc⟩
  have HCC := hid hcc
  clear hcc
  obtain ⟨c0, c1', c2, c3⟩ := (B0.out.below hb).cells4
  have g3 := (B0.out.below hb).frozen 3
  obtain ⟨d0, d1, d2, d3⟩ := (R0.out.below hb).cells4
  have f0 := (R0.out.below hb).frozen 0
  have f1 := (R0.out.below hb).frozen 1
  have f2 := (R0.out.below hb).frozen 2
  have f3 := (R0.out.below hb).frozen 3
  have S1 := below_call (below_a2 _ _ _) hb
  have O1 := hid (ho.mono (B' := w.heap.size + 2) (by simp))
  clear hb B0 R0 ho
  go_wp2
  refine bodyPost_ret (v := .agg #[.int .i64 a0, .int .i64 a1, .int .i64 a2, .slice A1 x.length c1]) (by simp [results, Try.results91, go_sem, d0, d1, d2, d3]) rfl ⟨A1, c1, rfl, ?_, ?_, HCC.out⟩
  · exact (((((O1.out.setFar (by simp <;> omega) _).setFar (by simp <;> omega) _).setFar (by simp <;> omega) _).setFar (by simp <;> omega) _).setFar (by simp <;> omega) _).mono (by omega)
  · exact ((((S1.out.setCell (by simp) _).setCell (by simp) _).setCell (by simp) _).setCell (by simp) _).setCell (by simp) _

set_option maxRecDepth 100000 in
set_option maxHeartbeats 3200000 in
theorem iPutCells_cap (a0 a1 a2 : Int) (A : Option Addr) (c : Nat) (x : List Int) (key by_ : Int) (w : World) (h0 : W64 a0) (h1 : W64 a1) (h2 : W64 a2) (hx : RdL (Value.int .i64) w A x) (hn : x.length ≤ 1048576) (we : ∀ y ∈ x, W64 y) (hkey : W64 key) (hby : W64 by_) :
    Calls Try.prog 38 #[.agg #[.int .i64 a0, .int .i64 a1, .int .i64 a2, .slice A x.length c], .int .i64 key, .int .i64 by_] w (RetCc 9223372036854775807 w (pPutCells a0 a1 a2 x key by_)) := by
  have HX := hid hx
  have WE := hid we
  have B0 := hid ((Blk.new w 37 [.int .i64 a0, .int .i64 a1, .int .i64 a2, .slice A x.length c]).alloc (.cells #[.int .i64 0, .int .i64 0, .int .i64 0, .slice none 0 0] 37))
  have R0 := hid (Blk.new2 w (.cells #[.int .i64 a0, .int .i64 a1, .int .i64 a2, .slice A x.length c] 37) 37 [.int .i64 0, .int .i64 0, .int .i64 0, .slice none 0 0])
  clear hx we hkey hby
  have key_ : ∀ u v z : Bool, vCells a0 a1 a2 x = u → inB key 0 4294967295 = v → inB by_ (-1000000) 1000000 = z → (u && v && z) = false →
      Calls Try.prog 38 #[.agg #[.int .i64 a0, .int .i64 a1, .int .i64 a2, .slice A x.length c], .int .i64 key, .int .i64 by_] w (RetCc 9223372036854775807 w ((0, 0, 0, []), false)) := by
    intro u v z hu hv hz hno
    refine Calls.mono ?_ retCc_no
    cases u
    case' true =>
      cases v
      case' true => cases z
    all_goals
      first
      | (exfalso; revert hno; decide)
      | (go_enter Try.func38, Try.ntmps38
         go_wp2_with fail
         refine (iValidCells_any a0 a1 a2 A c x _ h0 h1 h2 (HX.out.below (below_a2 _ _ _)) hn WE.out).mono ?_
         rw [hu]
         rintro e w1 ⟨rfl, hb⟩
         obtain ⟨d0, d1, d2, d3⟩ := (R0.out.below hb).cells4
         have f0 := (R0.out.below hb).frozen 0
         have f1 := (R0.out.below hb).frozen 1
         have f2 := (R0.out.below hb).frozen 2
         have f3 := (R0.out.below hb).frozen 3
         have S1 := below_call (below_a2 _ _ _) hb
         clear hb B0 R0 hu hno
         go_wp2_with (first | (go_at_call 97; refine (within_any _ _ _ _).mono ?_; rintro e w' ⟨rfl, rfl⟩) | (go_at_call 63; refine (IsKey_any _ _).mono ?_; rintro e w' ⟨rfl, rfl⟩))
         refine bodyPost_ret (v := .tuple #[.agg #[.int .i64 0, .int .i64 0, .int .i64 0, .slice none 0 0], .bool false]) (by simp [results, Try.results38, go_sem, d0, d1, d2, d3]) rfl ⟨rfl, ?_⟩
         exact (((S1.out.setCell (by simp) _).setCell (by simp) _).setCell (by simp) _).setCell (by simp) _)
  cases hgo : (vCells a0 a1 a2 x && inB key 0 4294967295 && inB by_ (-1000000) 1000000) with
  | false =>
    have hp : pPutCells a0 a1 a2 x key by_ = ((0, 0, 0, []), false) := by simp only [pPutCells, hgo]; rfl
    rw [hp]
    exact key_ _ _ _ rfl rfl rfl hgo
  | true =>
  have hp : pPutCells a0 a1 a2 x key by_ = giveP a0 a1 a2 (addAt by_ x (cellsL a0.toNat a2.toNat key.toNat a1.toNat)) := by simp only [pPutCells, hgo]; rfl
  rw [hp]
  simp only [Bool.and_eq_true] at hgo
  obtain ⟨⟨hv, hk⟩, hby⟩ := hgo
  obtain ⟨⟨hw1, hw2⟩, ⟨hd1, hd2⟩, ⟨hs1, hs2⟩, hl, hbd⟩ := vCells_iff' hv
  obtain ⟨hk1, hk2⟩ := inB_iff.1 hk
  obtain ⟨hby1, hby2⟩ := inB_iff.1 hby
  obtain ⟨wd, rfl⟩ := Int.eq_ofNat_of_zero_le (show 0 ≤ a0 by omega)
  obtain ⟨dp, rfl⟩ := Int.eq_ofNat_of_zero_le (show 0 ≤ a1 by omega)
  obtain ⟨s, rfl⟩ := Int.eq_ofNat_of_zero_le hs1
  obtain ⟨key, rfl⟩ := Int.eq_ofNat_of_zero_le hk1
  simp only [Int.toNat_natCast] at hp ⊢
  have hl' : x.length = wd * dp := by rw [← Int.natCast_mul] at hl; omega
  have HL := hid hl'
  have hlx : x.length ≤ 384 := by rw [hl']; have := Nat.mul_le_mul (show wd ≤ 64 by omega) (show dp ≤ 6 by omega); omega
  have hlp : 0 < x.length := by rw [hl']; exact Nat.mul_pos (by omega) (by omega)
  have HBD := hid hbd
  have HV := hid hv
  clear hl hl' hbd hp hv key_
  go_enter Try.func38, Try.ntmps38
  go_wp2_with fail
  refine (iValidCells_any wd dp s A c x _ h0 h1 h2 (HX.out.below (below_a2 _ _ _)) hn WE.out).mono ?_
  rw [HV.out]
  rintro e w1 ⟨rfl, hb⟩
  have B1 := hid (B0.out.below hb)
  have R1 := hid (R0.out.below hb)
  have S1 := below_call (below_a2 _ _ _) hb
  have hl1 : w.heap.size + 2 ≤ w1.heap.size := by have := hb.size; simp at this; omega
  clear hb B0 R0
  obtain ⟨k0, k1, k2, k3⟩ := B1.out.cells4
  go_wp2_with (first | (go_at_call 97; refine (within_any _ _ _ _).mono ?_; rintro e w' ⟨rfl, rfl⟩) | (go_at_call 63; refine (IsKey_any _ _).mono ?_; rintro e w' ⟨rfl, rfl⟩))
  refine (copyCells_cap wd dp s A c x _ (HX.out.below S1.out) hn).mono ?_
  rintro e w2 ⟨A1, c1, rfl, ho, hb, hcc⟩
  have HCC := hid hcc
  clear hcc
  clear k0 k1 k2 k3 hk hby
  have ho' : OwnS (Value.int .i64) w2 (w.heap.size + 2) 2 A1 x := ho.mono hl1
  obtain ⟨g, ex, rfl, hgB, hgb⟩ := ho' (by rintro rfl; simp at hlp)
  have hgl := hgb.lt
  have hl2 := hb.size
  have S2 : Hid (Below w.heap.size w w2) := S1.out.trans (hb.mono (by omega))
  have O2 := hid (ho'.below (below_a1 w2 (.cells #[.int .i64 wd, .int .i64 dp, .int .i64 s, .slice (some ⟨g, 0, none⟩) x.length c1] 37)))
  have R2 := hid ((R1.out.below hb).below (below_a1 w2 (.cells #[.int .i64 wd, .int .i64 dp, .int .i64 s, .slice (some ⟨g, 0, none⟩) x.length c1] 37)))
  have Q2 := hid (Blk.new w2 37 [.int .i64 wd, .int .i64 dp, .int .i64 s, .slice (some ⟨g, 0, none⟩) x.length c1])
  clear hgb hb ho ho' R1 B1
  go_wp2_with fail
  refine (places_any wd dp s key x.length c1 _ _ (by omega) (by omega) (by omega) (by omega) (by omega)).mono ?_
  rintro e w3 ⟨A3, c3, rfl, hoP, hbP⟩
  have HP := hid hoP
  have O3 := hid (O2.out.below hbP)
  have Q3 := hid (Q2.out.below hbP)
  have R3 := hid (R2.out.below hbP)
  have S3 : Hid (Below w.heap.size w w3) := (S2.out.alloc (by omega) _).trans (hbP.mono (by simp; omega))
  have hl3 : w2.heap.size + 1 ≤ w3.heap.size := by have := hbP.size; simp at this; omega
  have HA := hid (OwnS.apart_lt O2.out hoP (Nat.le_refl _))
  have hPl := cellsL_length wd s key dp
  have hmem : Hid (∀ p ∈ cellsL wd s key dp, ∃ m : Nat, p = m ∧ m < x.length) := fun p hp' => by rw [HL.out]; exact cellsL_mem (by omega) hp'
  obtain ⟨P, hPe⟩ : ∃ P, P = cellsL wd s key dp := ⟨_, rfl⟩
  rw [← hPe] at HA HP hPl hmem ⊢
  have hP8 : P.length ≤ 6 := by omega
  have HPe := hid hPe
  clear hPe hPl hoP hbP O2 Q2 R2
  go_wp2
  go_loopw [31] (fun j wi => ∃ m : Nat, m ≤ P.length ∧ j = .int .i64 m ∧ Hid (OwnS (Value.int .i64) wi (w.heap.size + 2) 2 (some ⟨g, 0, none⟩) (addAt by_ x (P.take m))) ∧ Hid (Touch w3 wi (some ⟨g, 0, none⟩) x.length)) (fun j _ => P.length - (intOf j).toNat)
  case atStart => exact ⟨0, Nat.zero_le _, rfl, by rw [addAt_zero]; exact O3, Touch.refl⟩
  case round =>
    obtain ⟨m, hmr, rfl, hom, hTm⟩ := hrel
    by_cases hlm : m < P.length
    · have him : (m : Int) < (P.length : Int) := by omega
      obtain ⟨b3, o3, p, rfl, hcp, hpk⟩ := (HP.out.touch hTm.out HA.out).rd.at_ hlm
      obtain ⟨n, rfl, hnx⟩ := hmem.out p (List.mem_of_getElem? hpk.out)
      have hlen := addAt_length by_ x (P.take m)
      obtain ⟨g', u, hg', hgB', hcy, hfy, hym, hput⟩ := hom.out.put (j := n) (by omega)
      injection hg' with hg'; injection hg' with hg'
      subst hg'
      have hbu := addAt_bound (l := P.take m) (D := 1000000) HBD.out ⟨hby1, hby2⟩ (by omega) u (List.mem_of_getElem? hym.out)
      have hkl : (P.take m).length ≤ 6 := by simp; omega
      have hO2 := hput (u + by_)
      rw [addAt_succ hpk hym] at hO2
      have hT2 := hid (hTm.out.set_ (by omega) n (.int .i64 (u + by_)))
      obtain ⟨q0, q1, q2, q3⟩ := (Q3.out.touch hTm.out (by omega)).cells4
      have hn' : (n : Int) < (x.length : Int) := by omega
      have hn0 : (0 : Int) ≤ (n : Int) := by omega
      have hub1 : -1000006000000 ≤ u := by omega
      have hub2 : u ≤ 1000006000000 := by omega
      clear hput q0 q1 q2 hlen hgB' hbu hkl hym
      go_wp2
      exact ⟨⟨m + 1, by omega, by go_num, hO2, hT2⟩, by simp [intOf]; omega⟩
    · have him : ¬ (m : Int) < (P.length : Int) := by omega
      have he := hom.out
      rw [List.take_of_length_le (show P.length ≤ m by omega)] at he
      have O4 := hid he
      have T4 := hTm
      have hyl : (addAt by_ x P).length = x.length := addAt_length _ _ _
      have HYL := hid hyl
      have hbu : ∀ y ∈ addAt by_ x P, W64 y := fun y hy => by
        have := addAt_bound (l := P) (D := 1000000) HBD.out ⟨hby1, hby2⟩ (by omega) y hy
        exact w64_of_bounds (by omega)
      have HBU := hid hbu
      obtain ⟨q0, q1, q2, q3⟩ := (Q3.out.touch hTm.out (by omega)).cells4
      have R4 := hid (R3.out.touch hTm.out (by omega))
      have S4 : Hid (Below w.heap.size w wr) := S3.out.trans ((hTm.out.below O3.out).mono (by omega))
      clear he hyl hbu
      go_wp2_with fail
      refine (ifCells_any wd dp s _ x.length c1 (addAt by_ x P) _ h0 h1 h2 HYL.out O4.out.rd hn HBU.out).mono ?_
      rintro e w4 ⟨b0, b1, b2, A', n', c', t, rfl, hG, hb⟩
      have S5 := hid (S4.out.trans (hb.mono S4.out.size))
      have O5 := hid (O4.out.below hb)
      obtain ⟨d0, d1, d2, d3⟩ := (R4.out.below hb).cells4
      have f0 := (R4.out.below hb).frozen 0
      have f1 := (R4.out.below hb).frozen 1
      have f2 := (R4.out.below hb).frozen 2
      have f3 := (R4.out.below hb).frozen 3
      clear hb q0 q1 q2 q3
      go_wp2
      have hPP := HPe.out
      clear HPe
      subst hPP
      refine bodyPost_ret (v := .tuple #[.agg #[.int .i64 b0, .int .i64 b1, .int .i64 b2, .slice A' n' c'], .bool t]) (by simp [results, Try.results38, go_sem, d0, d1, d2, d3]) rfl (retCc_give hG.out ?_ HYL.out hn ?_ HCC.out.1 HCC.out.2)
      · exact ((((O5.out.setFar (by simp <;> omega) _).setFar (by simp <;> omega) _).setFar (by simp <;> omega) _).setFar (by simp <;> omega) _).mono (by omega)
      · exact (((S5.out.setCell (by simp <;> omega) _).setCell (by simp <;> omega) _).setCell (by simp <;> omega) _).setCell (by simp <;> omega) _

set_option maxHeartbeats 1600000 in
theorem iNewCells_cap (a0 a1 a2 : Int) (w : World) (h0 : W64 a0) (h1 : W64 a1) (h2 : W64 a2) :
    Calls Try.prog 37 #[.int .i64 a0, .int .i64 a1, .int .i64 a2] w (RetCc 1048576 w (pNewCells a0 a1 a2)) := by
  cases e0 : inB a0 2 64 with
  | false =>
    rw [pNewCells_no (by simp [sidesB, e0])]
    refine Calls.mono ?_ retCc_no
    go_enter Try.func37, Try.ntmps37
    go_wp2_with ((go_at_call 97; refine (within_any _ _ _ _).mono ?_; rintro e w' ⟨rfl, rfl⟩))
    refine bodyPost_ret (v := .tuple #[.agg #[.int .i64 0, .int .i64 0, .int .i64 0, .slice none 0 0], .bool false]) (by simp [results, Try.results37, go_sem]) rfl ⟨rfl, below_a1 _ _⟩
  | true =>
  cases e1 : inB a1 1 6 with
  | false =>
    rw [pNewCells_no (by simp [sidesB, e1])]
    refine Calls.mono ?_ retCc_no
    go_enter Try.func37, Try.ntmps37
    go_wp2_with ((go_at_call 97; refine (within_any _ _ _ _).mono ?_; rintro e w' ⟨rfl, rfl⟩))
    refine bodyPost_ret (v := .tuple #[.agg #[.int .i64 0, .int .i64 0, .int .i64 0, .slice none 0 0], .bool false]) (by simp [results, Try.results37, go_sem]) rfl ⟨rfl, below_a1 _ _⟩
  | true =>
  obtain ⟨hm0, hm1⟩ := mul_sides e0 e1
  obtain ⟨n, hn⟩ := Int.eq_ofNat_of_zero_le (show 0 ≤ a0 * a1 by omega)
  have hn1 : n ≤ 384 := by omega
  have ew : IntKind.i64.wrap (a0 * a1) = (n : Int) := by rw [hn, IntKind.wrap_i64]; omega
  have HV := hid (vCells_new (c := a2) e0 e1 hn.symm)
  have hmk := run_make_row' (P := Try.prog) 22 2 (.int .i64 0) 8 Try.underlying22 (by kernel_rfl) rfl .i64 .i64 n (by omega) (by omega)
  have HN := hid hn
  have hZ : RdL (Value.int .i64) ((w.alloc (.cells #[.int .i64 0, .int .i64 0, .int .i64 0, .slice none 0 0] 37)).alloc (.cells (madeCells #[.int .i64 0] n) 2)) (some ⟨w.heap.size + 1, 0, none⟩) (List.replicate n 0) := by
    refine Blk.rd0 ?_ (t := 2)
    rw [madeCells_one, List.map_replicate]
    exact Blk.new2 _ _ _ _
  have HZ := hid hZ
  have HO : Hid (OwnS (Value.int .i64) ((w.alloc (.cells #[.int .i64 0, .int .i64 0, .int .i64 0, .slice none 0 0] 37)).alloc (.cells (madeCells #[.int .i64 0] n) 2)) (w.heap.size + 1) 2 (some ⟨w.heap.size + 1, 0, none⟩) (List.replicate n 0)) := by
    refine OwnS.of_blk ?_ (by omega)
    rw [madeCells_one, List.map_replicate]
    exact Blk.new2 _ _ _ _
  have R0 := hid ((Blk.new w 37 [.int .i64 0, .int .i64 0, .int .i64 0, .slice none 0 0]).alloc (.cells (madeCells #[.int .i64 0] n) 2))
  have hw0 : ∀ y ∈ List.replicate n (0 : Int), W64 y := fun y hy => by
    obtain ⟨_, rfl⟩ := List.mem_replicate.1 hy
    exact w64_of_bounds (by omega)
  have HW := hid hw0
  clear hn hm0 hm1 hZ hw0
  cases e2 : inB a2 0 4294967295 with
  | false =>
    rw [pNewCells_no (by simp [sidesB, e2])]
    refine Calls.mono ?_ retCc_no
    go_enter Try.func37, Try.ntmps37
    go_wp2_with ((go_at_call 97; refine (within_any _ _ _ _).mono ?_; rintro e w' ⟨rfl, rfl⟩))
    refine (ifCells_no a0 a1 a2 _ n n (List.replicate n 0) _ h0 h1 h2 (by simp) HZ.out (by omega) HW.out (HV.out.trans e2)).mono ?_
    rintro e w1 ⟨rfl, hb⟩
    obtain ⟨d0, d1, d2, d3⟩ := (R0.out.below hb).cells4
    have f0 := (R0.out.below hb).frozen 0
    have f1 := (R0.out.below hb).frozen 1
    have f2 := (R0.out.below hb).frozen 2
    have f3 := (R0.out.below hb).frozen 3
    have S1 := below_call (below_a2 _ _ _) hb
    clear hb hmk ew
    go_wp2
    refine bodyPost_ret (v := .tuple #[.agg #[.int .i64 0, .int .i64 0, .int .i64 0, .slice none 0 0], .bool false]) (by simp [results, Try.results37, go_sem, d0, d1, d2, d3]) rfl ⟨rfl, ?_⟩
    exact (((S1.out.setCell (by simp) _).setCell (by simp) _).setCell (by simp) _).setCell (by simp) _
  | true =>
    rw [pNewCells_yes (by simp [sidesB, e0, e1, e2]), HN.out, Int.toNat_natCast]
    go_enter Try.func37, Try.ntmps37
    go_wp2_with ((go_at_call 97; refine (within_any _ _ _ _).mono ?_; rintro e w' ⟨rfl, rfl⟩))
    refine (ifCells_yes a0 a1 a2 _ n n (List.replicate n 0) _ h0 h1 h2 (by simp) HZ.out (by omega) HW.out (HV.out.trans e2)).mono ?_
    rintro e w1 ⟨rfl, hb⟩
    obtain ⟨d0, d1, d2, d3⟩ := (R0.out.below hb).cells4
    have f0 := (R0.out.below hb).frozen 0
    have f1 := (R0.out.below hb).frozen 1
    have f2 := (R0.out.below hb).frozen 2
    have f3 := (R0.out.below hb).frozen 3
    have O1 := hid (HO.out.below hb)
    have S1 := below_call (below_a2 _ _ _) hb
    clear hb hmk ew
    go_wp2
    refine bodyPost_ret (v := .tuple #[.agg #[.int .i64 a0, .int .i64 a1, .int .i64 a2, .slice (some ⟨w.heap.size + 1, 0, none⟩) n n], .bool true]) (by simp [results, Try.results37, go_sem, d0, d1, d2, d3]) rfl ⟨some ⟨w.heap.size + 1, 0, none⟩, n, by simp, ?_, by simp; omega, ?_, by simp, by omega⟩
    · exact ((((O1.out.setFar (by simp) _).setFar (by simp) _).setFar (by simp) _).setFar (by simp) _).mono (by omega)
    · exact (((S1.out.setCell (by simp) _).setCell (by simp) _).setCell (by simp) _).setCell (by simp) _

set_option maxHeartbeats 800000 in
theorem irow_big (wd dp s i n c b o : Nat) (w : World) (hw1 : 2 ≤ wd) (hw2 : wd ≤ 64) (hi : i < dp) (hd2 : dp ≤ 6) (hl : n = wd * dp) (hc : n ≤ c) (hc2 : c ≤ 9223372036854775807) :
    Calls Try.prog 102 #[.agg #[.int .i64 wd, .int .i64 dp, .int .i64 s, .slice (some ⟨b, o, none⟩) n c], .int .i64 i] w fun e w' => ∃ c', e = .returned (.slice (some ⟨b, o + i * wd, none⟩) wd c') ∧ wd ≤ c' ∧ Below w.heap.size w w' := by
  have hm := mul_le6 (show i ≤ 6 by omega) hw2
  have hm2 := mul_le6 (show i + 1 ≤ 6 by omega) hw2
  have h2 : (i + 1) * wd ≤ dp * wd := Nat.mul_le_mul_right wd hi
  rw [Nat.mul_comm dp wd, ← hl] at h2
  have e0 : ((i : Int) + 1) * (wd : Int) = (i : Int) * (wd : Int) + (wd : Int) := by rw [Int.add_mul, Int.one_mul]
  have ec : ((i * wd : Nat) : Int) = (i : Int) * (wd : Int) := Int.natCast_mul _ _
  have ed : (i + 1) * wd = i * wd + wd := by rw [Nat.add_mul, Nat.one_mul]
  have h5 : 0 ≤ (i : Int) * (wd : Int) + (wd : Int) ∧ (i : Int) * (wd : Int) + (wd : Int) ≤ (c : Int) := by rw [ed] at h2; omega
  have hne : ¬ c = i * wd := by rw [ed] at h2; omega
  have hlast : wd ≤ c - i * wd := by rw [ed] at h2; omega
  clear hl ed h2 hm2 ec
  go_enter Try.func102, Try.ntmps102
  go_wp2
  go_ret
  exact ⟨_, ret_slice (by omega), hlast, below_a1 _ _⟩

set_option maxHeartbeats 800000 in
theorem iCellsTotal_big (a0 a1 a2 : Int) (A : Option Addr) (c : Nat) (x : List Int) (w : World) (h0 : W64 a0) (h1 : W64 a1) (h2 : W64 a2) (hx : RdL (Value.int .i64) w A x) (hn : x.length ≤ 1048576) (we : ∀ y ∈ x, W64 y) (hc : x.length ≤ c ∧ c ≤ 9223372036854775807) :
    Calls Try.prog 41 #[.agg #[.int .i64 a0, .int .i64 a1, .int .i64 a2, .slice A x.length c]] w fun e w' => e = .returned (.tuple #[.int .i64 (pCellsTotal a0 a1 a2 x).1, .bool (pCellsTotal a0 a1 a2 x).2]) ∧ Below w.heap.size w w' := by
  have HX := hid hx
  have b0 := hid (Blk.new w 37 [.int .i64 a0, .int .i64 a1, .int .i64 a2, .slice A x.length c])
  cases hv : vCells a0 a1 a2 x with
  | false =>
    have hp : pCellsTotal a0 a1 a2 x = (0, false) := by simp [pCellsTotal, hv]
    rw [hp]
    clear hp
    go_enter Try.func41, Try.ntmps41
    go_wp2_with fail
    refine (iValidCells_any a0 a1 a2 A c x _ h0 h1 h2 (HX.out.below (below_a1 _ _)) hn we).mono ?_
    rintro e w1 ⟨rfl, hb⟩
    go_wp2
    go_ret2
    exact ⟨rfl, (below_call (below_a1 _ _) hb).out⟩
  | true =>
  obtain ⟨⟨hw1, hw2⟩, ⟨hd1, hd2⟩, ⟨hs1, hs2⟩, hlen, hbd⟩ := vCells_iff hv
  obtain ⟨wd, rfl⟩ := Int.eq_ofNat_of_zero_le (show 0 ≤ a0 by omega)
  obtain ⟨dp, rfl⟩ := Int.eq_ofNat_of_zero_le (show 0 ≤ a1 by omega)
  obtain ⟨s, rfl⟩ := Int.eq_ofNat_of_zero_le hs1
  have hlen' : x.length = wd * dp := by rw [← Int.natCast_mul] at hlen; omega
  have hp : pCellsTotal wd dp s x = ((rowL x wd 0).sum, true) := by simp [pCellsTotal, hv]
  rw [hp]
  clear hp hlen
  have hpos : 0 < x.length := by rw [hlen']; exact Nat.mul_pos (by omega) (by omega)
  have hR := rowL_length (i := 0) hlen' (by omega)
  have HL := hid hlen'
  clear hlen'
  obtain ⟨b, o, y, rfl, hc0, hy0⟩ := hx.at_ hpos
  clear hc0 hy0
  go_enter Try.func41, Try.ntmps41
  go_wp2_with fail
  refine (iValidCells_any wd dp s _ c x _ h0 h1 h2 (HX.out.below (below_a1 _ _)) hn we).mono ?_
  rintro e w1 ⟨rfl, hb⟩
  have S1 := below_call (below_a1 _ _) hb
  have HX1 := hid (HX.out.below S1.out)
  obtain ⟨c0, c1, c2, c3⟩ := (b0.out.below hb).cells4
  clear hb b0
  go_wp2_with fail
  refine (irow_big wd dp s 0 x.length c b o _ (by omega) (by omega) (by omega) (by omega) HL.out hc.1 hc.2).mono ?_
  rintro e w2 ⟨c', rfl, _, hb2⟩
  have HX2 : Hid (RdL (Value.int .i64) w2 (some ⟨b, o, none⟩) (rowL x wd 0)) := by
    have h := rowL_rd (i := 0) (wd := wd) (HX1.out.below hb2)
    rwa [Nat.zero_mul, Nat.add_zero] at h
  have S2 := hid (S1.out.trans (hb2.mono S1.out.size))
  clear hb2 c0 c1 c2 c3
  have HR := hid hR
  clear hR
  go_wp2_with fail
  refine (sumOf_any' _ wd c' (rowL x wd 0) _ HR HX2.out (by omega) (fun y hy => hbd y (rowL_mem hy))).mono ?_
  rintro e w3 ⟨rfl, rfl⟩
  go_wp2
  go_ret2
  exact ⟨rfl, S2.out⟩

set_option maxRecDepth 100000 in
set_option maxHeartbeats 3200000 in
theorem iCellsDot_big (a0 a1 a2 : Int) (A : Option Addr) (c : Nat) (x : List Int) (b0 b1 b2 : Int) (A' : Option Addr) (c' : Nat) (y : List Int) (w : World) (h0 : W64 a0) (h1 : W64 a1) (h2 : W64 a2) (hx : RdL (Value.int .i64) w A x) (hn : x.length ≤ 1048576) (we : ∀ y ∈ x, W64 y) (h0' : W64 b0) (h1' : W64 b1) (h2' : W64 b2) (hy : RdL (Value.int .i64) w A' y) (hn' : y.length ≤ 1048576) (we' : ∀ z ∈ y, W64 z) (hc : (x.length ≤ c ∧ c ≤ 9223372036854775807) ∧ y.length ≤ c' ∧ c' ≤ 9223372036854775807) :
    Calls Try.prog 42 #[.agg #[.int .i64 a0, .int .i64 a1, .int .i64 a2, .slice A x.length c], .agg #[.int .i64 b0, .int .i64 b1, .int .i64 b2, .slice A' y.length c']] w fun e w' => e = .returned (.tuple #[.int .i64 (pCellsDot a0 a1 a2 x b0 b1 b2 y).1, .bool (pCellsDot a0 a1 a2 x b0 b1 b2 y).2]) ∧ Below w.heap.size w w' := by
  have HX := hid hx
  have HY := hid hy
  have WX := hid we
  have WY := hid we'
  clear hx hy we we'
  have BA0 := hid ((Blk.new w 37 [.int .i64 a0, .int .i64 a1, .int .i64 a2, .slice A x.length c]).alloc (.cells #[.int .i64 b0, .int .i64 b1, .int .i64 b2, .slice A' y.length c'] 37))
  have BB0 := hid (Blk.new2 w (.cells #[.int .i64 a0, .int .i64 a1, .int .i64 a2, .slice A x.length c] 37) 37 [.int .i64 b0, .int .i64 b1, .int .i64 b2, .slice A' y.length c'])
  obtain ⟨k0, k1, k2, k3⟩ := BA0.out.cells4
  obtain ⟨l0, l1, l2, l3⟩ := BB0.out.cells4
  have key : ∀ u v z : Bool, alikeC a0 a1 a2 x b0 b1 b2 y = u → allB x (-1000000) 1000000 = v → allB y (-1000000) 1000000 = z → (u && v && z) = false →
      Calls Try.prog 42 #[.agg #[.int .i64 a0, .int .i64 a1, .int .i64 a2, .slice A x.length c], .agg #[.int .i64 b0, .int .i64 b1, .int .i64 b2, .slice A' y.length c']] w fun e w' => e = .returned (.tuple #[.int .i64 0, .bool false]) ∧ Below w.heap.size w w' := by
    intro u v z hu hv hz hno
    cases u
    case' true =>
      cases v
      case' true => cases z
    all_goals
      first
      | (exfalso; revert hno; decide)
      | (go_enter Try.func42, Try.ntmps42
         go_wp2_with fail
         refine (alike_any a0 a1 a2 A c x b0 b1 b2 A' c' y _ h0 h1 h2 (HX.out.below (below_a2 _ _ _)) hn WX.out h0' h1' h2' (HY.out.below (below_a2 _ _ _)) hn' WY.out).mono ?_
         rw [hu]
         rintro e w1 ⟨rfl, hb⟩
         clear k0 k1 k2 l0 l1 l2 k3 l3 hno
         have S1 := below_call (below_a2 _ _ _) hb
         have B1 := hid (BA0.out.below hb)
         have C1 := hid (BB0.out.below hb)
         obtain ⟨k0, k1, k2, k3⟩ := B1.out.cells4
         clear hb hu
         go_wp2_with fail
         first
         | (go_ret2
            exact ⟨rfl, S1.out⟩)
         | (refine (areSmall_any a0 a1 a2 A c x _ (HX.out.below S1.out) hn).mono ?_
            rw [hv]
            rintro e w2 ⟨rfl, hb⟩
            have S2 := hid (S1.out.trans (hb.mono S1.out.size))
            obtain ⟨l0, l1, l2, l3⟩ := (C1.out.below hb).cells4
            clear hb k0 k1 k2 k3
            go_wp2_with fail
            first
            | (go_ret2
               exact ⟨rfl, S2.out⟩)
            | (refine (areSmall_any b0 b1 b2 A' c' y _ (HY.out.below S2.out) hn').mono ?_
               rw [hz]
               rintro e w3 ⟨rfl, hb⟩
               have S3 := hid (S2.out.trans (hb.mono S2.out.size))
               clear hb l0 l1 l2 l3
               go_wp2
               go_ret2
               exact ⟨rfl, S3.out⟩)))
  cases hgo : (alikeC a0 a1 a2 x b0 b1 b2 y && allB x (-1000000) 1000000 && allB y (-1000000) 1000000) with
  | false =>
    have hp : pCellsDot a0 a1 a2 x b0 b1 b2 y = (0, false) := by simp only [pCellsDot, hgo]; rfl
    rw [hp]
    exact key _ _ _ rfl rfl rfl hgo
  | true =>
  have hp : pCellsDot a0 a1 a2 x b0 b1 b2 y = (minL (dotsL x y a0.toNat a1.toNat), true) := by simp only [pCellsDot, hgo]; rfl
  rw [hp]
  simp only [Bool.and_eq_true] at hgo
  obtain ⟨⟨hal, hax⟩, hay⟩ := hgo
  obtain ⟨hv, hv', rfl, rfl, rfl⟩ := alikeC_iff hal
  obtain ⟨⟨hw1, hw2⟩, ⟨hd1, hd2⟩, ⟨hs1, hs2⟩, hl, _⟩ := vCells_iff' hv
  obtain ⟨_, _, _, hl', _⟩ := vCells_iff' hv'
  obtain ⟨wd, rfl⟩ := Int.eq_ofNat_of_zero_le (show 0 ≤ a0 by omega)
  obtain ⟨dp, rfl⟩ := Int.eq_ofNat_of_zero_le (show 0 ≤ a1 by omega)
  obtain ⟨s, rfl⟩ := Int.eq_ofNat_of_zero_le hs1
  simp only [Int.toNat_natCast]
  have hlx : x.length = wd * dp := by rw [← Int.natCast_mul] at hl; omega
  have hly : y.length = wd * dp := by rw [← Int.natCast_mul] at hl'; omega
  have hlx4 : x.length ≤ 384 := by rw [hlx]; have := Nat.mul_le_mul (show wd ≤ 64 by omega) (show dp ≤ 6 by omega); omega
  have hly4 : y.length ≤ 384 := by rw [hly]; have := Nat.mul_le_mul (show wd ≤ 64 by omega) (show dp ≤ 6 by omega); omega
  have hpx : 0 < x.length := by rw [hlx]; exact Nat.mul_pos (by omega) (by omega)
  have hpy : 0 < y.length := by rw [hly]; exact Nat.mul_pos (by omega) (by omega)
  have BX := hid (allB_iff hax)
  have BY := hid (allB_iff hay)
  have LX := hid hlx
  have LY := hid hly
  have HAL := hid hal
  have HAX := hid hax
  have HAY := hid hay
  clear hl hl' hlx hly hal hax hay hp key hv hv'
  obtain ⟨b, o, _, rfl, _, _⟩ := HX.out.at_ hpx
  obtain ⟨b', o', _, rfl, _, _⟩ := HY.out.at_ hpy
  obtain ⟨i0, hi0, hz0, hz1, hz2⟩ := info_parts Try.infoI
  go_enter Try.func42, Try.ntmps42
  go_wp2_with fail
  refine (alike_any wd dp s _ c x wd dp s _ c' y _ h0 h1 h2 (HX.out.below (below_a2 _ _ _)) hn WX.out h0' h1' h2' (HY.out.below (below_a2 _ _ _)) hn' WY.out).mono ?_
  rw [HAL.out]
  rintro e w1 ⟨rfl, hb⟩
  clear k0 k1 k2 l0 l1 l2 k3 l3
  have S1 := below_call (below_a2 _ _ _) hb
  have B1 := hid (BA0.out.below hb)
  have C1 := hid (BB0.out.below hb)
  obtain ⟨k0, k1, k2, k3⟩ := B1.out.cells4
  clear hb BA0 BB0
  go_wp2_with fail
  refine (areSmall_any wd dp s _ c x _ (HX.out.below S1.out) hn).mono ?_
  rw [HAX.out]
  rintro e w2 ⟨rfl, hb⟩
  have S2 := hid (S1.out.trans (hb.mono S1.out.size))
  have B2 := hid (B1.out.below hb)
  have C2 := hid (C1.out.below hb)
  obtain ⟨l0, l1, l2, l3⟩ := C2.out.cells4
  clear hb k0 k1 k2 k3 B1 C1 S1
  go_wp2_with fail
  refine (areSmall_any wd dp s _ c' y _ (HY.out.below S2.out) hn').mono ?_
  rw [HAY.out]
  rintro e w3 ⟨rfl, hb⟩
  have S3 := hid (S2.out.trans (hb.mono S2.out.size))
  have B3 := hid (B2.out.below hb)
  have C3 := hid (C2.out.below hb)
  have X3 := hid (HX.out.below S3.out)
  have Y3 := hid (HY.out.below S3.out)
  clear hb l0 l1 l2 l3 B2 C2 S2
  obtain ⟨k0, k1, k2, k3⟩ := (B3.out.alloc (.cells #[] 2)).cells4
  go_wp2
  go_loopw [6, 7, 8, 9, 10, 28] (fun v i_ s_ k_ n_ i wr => ∃ k : Nat, k ≤ dp ∧ i = .int .i64 k ∧ Hid (wr.ownsRow w3.heap.size 2 1 v k ((dotsL x y wd k).map (Value.int .i64))) ∧ Hid (Below w3.heap.size w3 wr)) (fun v i_ s_ k_ n_ i _ => dp - (intOf i).toNat)
  case atStart => exact ⟨0, Nat.zero_le _, rfl, World.ownsRow_made w3 #[] 0 (Nat.le_refl _) (Nat.zero_le _) rfl, below_a1 _ _⟩
  case round =>
    obtain ⟨k, hkr, rfl, hown, hW⟩ := hrel
    have BR := hid (B3.out.below hW.out)
    have CR := hid (C3.out.below hW.out)
    obtain ⟨e0, e1, e2, e3⟩ := BR.out.cells4
    by_cases hlt : k < dp
    · have hi : (k : Int) < (dp : Int) := by omega
      have hR := hid (prodL_length (i := k) LX.out LY.out hlt)
      have hSB := hid (sum_bound (l := prodL x y wd k) (M := 1000000000000) (by omega) (prodL_bound BX.out BY.out))
      clear k0 k1 k2 k3
      go_wp2_with fail
      refine (irow_big wd dp s k x.length c b o _ (by omega) (by omega) hlt (by omega) LX.out hc.1.1 hc.1.2).mono ?_
      rintro e w4 ⟨c4, rfl, _, hb⟩
      have S4 := hid (S3.out.trans ((hW.out.trans (hb.mono hW.out.size)).mono S3.out.size))
      have W4 := hid (hW.out.trans (hb.mono hW.out.size))
      have C4 := hid (CR.out.below hb)
      have RX := hid (rowL_rd (i := k) (wd := wd) ((X3.out.below hW.out).below hb))
      have hRX := hid (rowL_length (i := k) LX.out hlt)
      have hRY := hid (rowL_length (i := k) LY.out hlt)
      have OW4 : Hid (w4.ownsRow w3.heap.size 2 1 u6 k ((dotsL x y wd k).map (Value.int .i64))) := ownsRow_below hown.out hb
      clear hb e0 e1 e2 e3 hown hW BR CR
      go_wp2
      go_loopw [8, 9, 10, 35] (fun v k_ n_ j wi => ∃ q : Nat, q ≤ wd ∧ j = .int .i64 q ∧ Hid (Below w4.heap.size w4 wi) ∧ ∃ t : Int, v = .int .i64 t ∧ Hid (((prodL x y wd k).take q).sum = t)) (fun v k_ n_ j _ => wd - (intOf j).toNat)
      case atStart => exact ⟨0, Nat.zero_le _, rfl, Below.refl _ _, 0, rfl, by show ((prodL x y wd k).take 0).sum = 0; simp⟩
      case round =>
        obtain ⟨q, hqr, rfl, hV, t, rfl, hh⟩ := hrel
        by_cases hlq : q < wd
        · have hi' : (q : Int) < (wd : Int) := by omega
          obtain ⟨bx, ox, u, hAx, hcu, hun⟩ := (RX.out.below hV.out).at_ (k := q) (by rw [hRX.out]; exact hlq)
          injection hAx with hAx; injection hAx with h1 h2
          subst h1 h2
          obtain ⟨g0, g1, g2, g3⟩ := (C4.out.below hV.out).cells4
          go_wp2_with fail
          refine (irow_big wd dp s k y.length c' b' o' _ (by omega) (by omega) hlt (by omega) LY.out hc.2.1 hc.2.2).mono ?_
          rintro e w5 ⟨c5, rfl, _, hb⟩
          have RY := hid (rowL_rd (i := k) (wd := wd) ((((Y3.out.below W4.out).below hV.out)).below hb))
          have V5 := hid (hV.out.trans (hb.mono hV.out.size))
          clear hb g0 g1 g2 g3 hcu
          obtain ⟨by', oy, t2, hAy, hct, htn⟩ := RY.out.at_ (k := q) (by rw [hRY.out]; exact hlq)
          injection hAy with hAy; injection hAy with h1 h2
          subst h1 h2
          have hun' : Hid (x[k * wd + q]? = some u) := by show _ = _; rw [← rowL_at hlq]; exact hun.out
          have htn' : Hid (y[k * wd + q]? = some t2) := by show _ = _; rw [← rowL_at hlq]; exact htn.out
          have he : Hid (((prodL x y wd k).take (q + 1)).sum = t + u * t2) := by rw [sum_snoc (prodL_at hlq hun' htn'), hh.out]; rfl
          have hub := BX.out u (List.mem_of_getElem? hun'.out)
          have htb := BY.out t2 (List.mem_of_getElem? htn'.out)
          have hpb := mul_small hub htb
          have hzb := hSB.out q
          rw [hh.out] at hzb
          have e6 : IntKind.i64.wrap (u * t2) = u * t2 := by rw [IntKind.wrap_i64]; omega
          have e7 : IntKind.i64.wrap (t + u * t2) = t + u * t2 := by rw [IntKind.wrap_i64]; omega
          go_wp2
          exact ⟨⟨q + 1, by omega, by go_num, V5, _, rfl, he⟩, by simp [intOf]; omega⟩
        · have hi' : ¬ (q : Int) < (wd : Int) := by omega
          have hs := hh.out
          rw [List.take_of_length_le (by rw [hR.out]; omega)] at hs
          have HS := hid hs
          clear hs
          have OW5 := hid (ownsRow_below OW4.out hV.out)
          have W5 := hid (W4.out.trans (hV.out.mono W4.out.size))
          have hmx := dotsL_length x y wd k
          clear hmx
          go_wp2_with (at_builtin; refine wpList_append_own _ rfl _ _ 22 rfl w3.heap.size 2 i0 (.int .i64 0) 1 8 Try.underlying22 hi0 hz0 hz1 hz2 rfl (by decide) _ _ _ rfl (OW5.out.alloc _) ⟨wr.heap.size, 0, none⟩ 1 1 [.int .i64 t] rfl rfl ?c1 ?c2 ?c3 ?c4 ?c5 ?_)
          case c2 => rfl
          case c3 => simp only [maxLen]; omega
          case c4 => omega
          case c5 => have := W5.out.size; omega
          intro v' w6 hown' hgrow _
          have hd : (dotsL x y wd k).map (Value.int .i64) ++ [Value.int .i64 t] = (dotsL x y wd (k + 1)).map (Value.int .i64) := by rw [dotsL_succ, HS.out]; simp
          rw [hd] at hown'
          have O1 := hid hown'
          have W1 : Hid (Below w3.heap.size w3 w6) := (W5.out.alloc W5.out.size _).grown hgrow (by simp; have := W5.out.size; omega) (fun g hg => (OW5.out.lt g hg).1)
          clear hown' hgrow hd
          go_wp2
          exact ⟨⟨k + 1, by omega, by go_num, O1, W1⟩, by simp [intOf]; omega⟩
    · have hi : ¬ (k : Int) < (dp : Int) := by omega
      obtain rfl : k = dp := by omega
      obtain ⟨A9, c9, hv9, ho9⟩ := ownS_of_row hown.out (dotsL_length _ _ _ _)
      have hO9 := hid ho9.rd
      have hS9 := hid (S3.out.trans (hW.out.mono S3.out.size))
      clear ho9 hown e0 e1 e2 e3
      subst hv9
      go_wp2_with fail
      refine (slMin_any A9 c9 (dotsL x y wd k) _ hO9.out (by rw [dotsL_length]; omega) (by rw [dotsL_length]; omega)).mono ?_
      rintro e w9 ⟨rfl, rfl⟩
      go_wp2
      go_ret2
      exact ⟨rfl, hS9.out⟩

end Go.Proofs.Ytmmolicodlmlkaa
namespace Go.Proofs.Ytmmolicodlmlkaa
open Go.RowKit
set_option linter.unusedVariables false

/-- v is a slice of the call's own (from block B on) that holds xs, as append leaves it. -/
def OwnV (w : World) (B : Nat) (v : Value) (xs : List Int) : Prop := w.ownsRow B 2 1 v xs.length (xs.map (Value.int .i64))
theorem OwnV.made (w : World) {B : Nat} (hB : B ≤ w.heap.size) : OwnV (w.alloc (.cells #[] 2)) B (.slice (some ⟨w.heap.size, 0, none⟩) 0 0) [] := World.ownsRow_made w #[] 0 hB (Nat.zero_le _) rfl
theorem OwnV.drewN {w : World} {B : Nat} {v : Value} {xs : List Int} (h : OwnV w B v xs) (n : Nat) : OwnV (w.drewN n) B v xs := h
theorem OwnV.below {w w' : World} {B : Nat} {v : Value} {xs : List Int} (h : OwnV w B v xs) (hb : Below w.heap.size w w') : OwnV w' B v xs := by
  obtain ⟨hn, h | ⟨g, cap, cur, hv, hB, hg, hc, hm, hs, ht⟩⟩ := h
  · exact ⟨hn, .inl h⟩
  · refine ⟨hn, .inr ⟨g, cap, cur, hv, hB, ?_, hc, hm, hs, ht⟩⟩
    exact (hb.block g (Array.getElem?_eq_some_iff.1 hg).1).trans hg
theorem OwnV.mono {w : World} {B B' : Nat} {v : Value} {xs : List Int} (h : OwnV w B v xs) (hB : B' ≤ B) : OwnV w B' v xs := by
  obtain ⟨hn, h | ⟨g, cap, cur, hv, h1, hg, hc, hm, hs, ht⟩⟩ := h
  · exact ⟨hn, .inl h⟩
  · exact ⟨hn, .inr ⟨g, cap, cur, hv, by omega, hg, hc, hm, hs, ht⟩⟩
theorem OwnV.ownS {w : World} {B : Nat} {v : Value} {xs : List Int} (h : OwnV w B v xs) : ∃ A c, v = .slice A xs.length c ∧ OwnS (Value.int .i64) w B 2 A xs := ownS_of_row h rfl

/-- Two such slices lie in different blocks. -/
def AptV (v u : Value) : Prop := ∀ g, v.ownBlock = some g → u.ownBlock ≠ some g
theorem AptV.symm {v u : Value} (h : AptV v u) : AptV u v := fun g h1 h2 => h g h2 h1
/-- What an append to v, which became v', has left of other slices of the call's own. -/
def Keeps (w : World) (B : Nat) (v : Value) (w' : World) (v' : Value) : Prop := ∀ u ys, OwnV w B u ys → AptV v u → OwnV w' B u ys ∧ AptV v' u
theorem OwnV.lt {w : World} {B : Nat} {v : Value} {xs : List Int} (h : OwnV w B v xs) (g : Nat) (hg : v.ownBlock = some g) : g < w.heap.size ∧ B ≤ g := by
  have := World.ownsRow.lt h g hg
  omega
theorem OwnV.grown {w w' : World} {B : Nat} {u : Value} {ys : List Int} {row : Option Nat} (h : OwnV w B u ys) (hg : w.grownBy w' row) (hne : ∀ g, u.ownBlock = some g → some g ≠ row) : OwnV w' B u ys := by
  obtain ⟨hn, h | ⟨g, cap, cur, hv, hB, hgg, hc, hm, hs, ht⟩⟩ := h
  · exact ⟨hn, .inl h⟩
  · refine ⟨hn, .inr ⟨g, cap, cur, hv, hB, ?_, hc, hm, hs, ht⟩⟩
    exact (hg.block g (Array.getElem?_eq_some_iff.1 hgg).1 (hne g (by rw [hv]; rfl))).trans hgg

/-- At place j: the cell is there and may be written; what is written lies there. -/
theorem OwnV.put {w : World} {B : Nat} {v : Value} {xs : List Int} (h : OwnV w B v xs) {j : Nat} (hj : j < xs.length) :
    ∃ g c u, v = .slice (some ⟨g, 0, none⟩) xs.length c ∧ B ≤ g ∧ g < w.heap.size ∧ w.cell? ⟨g, j, none⟩ = some (.int .i64 u) ∧ w.frozen? ⟨g, j, none⟩ = false ∧ Hid (xs[j]? = some u) ∧
      ∀ x, Hid (OwnV (w.setCell ⟨g, j, none⟩ (.int .i64 x)) B v (xs.set j x)) := by
  obtain ⟨hn, h | ⟨g, cap, cur, hv, hB, hg, hc, hm, hs, ht⟩⟩ := h
  · omega
  · rw [Nat.mul_one] at ht hs
    have hjc : j < cur.size := by omega
    have hlt : g < w.heap.size := (Array.getElem?_eq_some_iff.1 hg).1
    have hcj : cur[j]? = some (.int .i64 xs[j]) := by
      have h1 : (cur.toList.take xs.length)[j]? = some (.int .i64 xs[j]) := by rw [ht, List.getElem?_map, List.getElem?_eq_getElem hj]; rfl
      rw [List.getElem?_take_of_lt hj] at h1
      simpa using h1
    refine ⟨g, cap, xs[j], hv, hB, hlt, ?_, ?_, by show xs[j]? = _; simp [hj], fun x => hid ?_⟩
    · rw [cell_of_row w g j cur 2 (0, 0) hg]; exact hcj
    · simp [World.frozen?, hg]
    · unfold OwnV
      rw [List.length_set]
      refine ⟨by simp, .inr ⟨g, cap, cur.setIfInBounds j (.int .i64 x), hv, hB, ?_, hc, hm, by simpa using hs, ?_⟩⟩
      · simp [World.setCell, Array.getElem?_modify, hg]
      · rw [Nat.mul_one, Array.toList_setIfInBounds, List.take_set, ht, List.map_set]
theorem OwnV.setOther {w : World} {B : Nat} {v : Value} {xs : List Int} (h : OwnV w B v xs) {g : Nat} (hne : v.ownBlock ≠ some g) (j : Nat) (u : Value) : OwnV (w.setCell ⟨g, j, none⟩ u) B v xs := by
  obtain ⟨hn, h | ⟨g', cap, cur, hv, hB, hg, hc, hm, hs, ht⟩⟩ := h
  · exact ⟨hn, .inl h⟩
  · refine ⟨hn, .inr ⟨g', cap, cur, hv, hB, ?_, hc, hm, hs, ht⟩⟩
    refine (Below.heap_setCell w ⟨g, j, none⟩ u g' ?_).trans hg
    rintro rfl
    exact hne (by rw [hv]; rfl)

theorem app_int {ops : Array Oper} {rest : List Oper} {o : Oper} {a : Act} {Q : Exit → Act → World → Prop} (hgd : o.guard = none) (s x : Operand)
    (ho : o.op = .call { callee := .builtin .append, args := #[s, x], argTypes := #[22, 22] })
    (y : Int) {w0 wr : World} {B : Nat} {v : Value} {xs : List Int} (hown : OwnV wr B v xs) (hB : Below B w0 wr) (hs : a.eval s = v) (hx : a.eval x = .slice (some ⟨wr.heap.size, 0, none⟩) 1 1)
    (hl : xs.length ≤ 1048577) (hsz : B ≤ wr.heap.size)
    (h : ∀ v' w', Hid (OwnV w' B v' (xs ++ [y])) → Hid (Below B w0 w') → Hid (wr.heap.size + 1 ≤ w'.heap.size) → Hid (Keeps wr B v w' v') → wpList Try.prog ops Q rest (a.put o.dst v') w') :
    wpList Try.prog ops Q (o :: rest) a (wr.alloc (.cells #[.int .i64 y] 2)) := by
  obtain ⟨i0, hi0, hz0, hz1, hz2⟩ := info_parts Try.infoI
  refine wpList_append_own_at (wr.alloc (.cells #[.int .i64 y] 2)) hgd s x 22 ho B 2 i0 (.int .i64 0) 1 8 Try.underlying22 hi0 hz0 hz1 hz2 rfl (by decide) v xs.length _ hs (World.ownsRow.alloc hown _) ⟨wr.heap.size, 0, none⟩ 1 1 [.int .i64 y] hx rfl (cell_one_new _ _ _) ?_ ?_ ?_ ?_ ?_
  · intro u hu; simp at hu; subst hu; rfl
  · simp only [maxLen]; omega
  · omega
  · simp; omega
  · intro v' w1 hown' hgrow _ hat
    refine h v' w1 ?_ ?_ ?_ ?_
    · have e : (xs ++ [y]).length = xs.length + 1 := by simp
      unfold OwnV
      rw [e, List.map_append]; exact hown'
    · exact (hB.alloc hsz _).grown hgrow (by simp; omega) (fun g hg => (World.ownsRow.lt (World.ownsRow.alloc hown (.cells #[.int .i64 y] 2)) g hg).1)
    · have := hgrow.size; simp at this; exact this
    · intro u ys hu hap
      have hu' : OwnV (wr.alloc (.cells #[.int .i64 y] 2)) B u ys := hu.below (Below.alloc (Below.refl _ _) (Nat.le_refl _) _)
      refine ⟨hu'.grown hgrow fun g hg e => hap g e.symm hg, fun g hg => ?_⟩
      rcases hat with hat | hat
      · exact hap g (hat ▸ hg)
      · intro e
        rw [hat] at hg
        injection hg with hg
        have := (hu.lt g e).1
        simp at hg
        omega
end Go.Proofs.Ytmmolicodlmlkaa
namespace Go.Proofs.Ytmmolicodlmlkaa
open Go.RowKit
set_option linter.unusedVariables false
set_option linter.unusedSimpArgs false

/-- All are bytes. -/
def Byt (x : List Int) : Prop := ∀ y ∈ x, 0 ≤ y ∧ y ≤ 255
set_option maxHeartbeats 800000 in
theorem b10Long_any (A A' : Option Addr) (n n' c c' : Nat) (w : World) : Calls Try.prog 34 #[.slice A n c, .slice A' n' c'] w fun e w' => e = .returned (.bool (decide (1048576 < n ∨ 1048576 < n'))) ∧ w = w' := by
  by_cases h : (1048576 : Int) < (n : Int)
  · have hd : decide (1048576 < n ∨ 1048576 < n') = true := decide_eq_true (.inl (by omega))
    rw [hd]
    clear hd
    go_enter Try.func34, Try.ntmps34
    go_wp2
    go_ret
    exact ⟨rfl, rfl⟩
  · by_cases h' : (1048576 : Int) < (n' : Int)
    · have hd : decide (1048576 < n ∨ 1048576 < n') = true := decide_eq_true (.inr (by omega))
      rw [hd]
      clear hd
      go_enter Try.func34, Try.ntmps34
      go_wp2
      go_ret
      exact ⟨rfl, rfl⟩
    · have hd : decide (1048576 < n ∨ 1048576 < n') = false := decide_eq_false (by omega)
      rw [hd]
      clear hd
      go_enter Try.func34, Try.ntmps34
      go_wp2
      go_ret
      exact ⟨rfl, rfl⟩
set_option maxHeartbeats 800000 in
theorem b10At_any (A : Option Addr) (c : Nat) (x : List Int) (i n : Int) (w : World) (hx : RdL (Value.int .u8) w A x) (hb : Byt x) (hn : x.length ≤ 1048576) (hi0 : 0 ≤ i) (hi1 : i ≤ 1000) (hn1 : 1 < n) (hn2 : n ≤ 256) :
    Calls Try.prog 36 #[.slice A x.length c, .int .i64 i, .int .i64 n] w fun e w' => (∃ r, e = .returned (.int .i64 r) ∧ 0 ≤ r ∧ r < n) ∧ w = w' := by
  have HX := hid hx
  have HB := hid hb
  clear hx hb
  obtain ⟨k, rfl⟩ := Int.eq_ofNat_of_zero_le hi0
  have hn1' : ¬ n ≤ 1 := by omega
  have hnz : (n == 0) = false := beq_eq_false_iff_ne.2 (by omega)
  have hnz' : n ≠ 0 := by omega
  by_cases hlt : k < x.length
  · have hi : (k : Int) < (x.length : Int) := by omega
    obtain ⟨b, o, y, rfl, hc, hy⟩ := HX.out.at_ hlt
    have hyb := HB.out y (List.mem_of_getElem? hy.out)
    have v1 : IntKind.i64.wrap y = y := by rw [IntKind.wrap_i64]; omega
    go_enter Try.func36, Try.ntmps36
    go_wp2
    go_ret
    exact ⟨⟨_, rfl, Int.emod_nonneg _ hnz', Int.emod_lt_of_pos _ (by omega)⟩, rfl⟩
  · have hi : ¬ (k : Int) < (x.length : Int) := by omega
    have v1 : IntKind.i64.wrap ((k : Int) * 37) = (k : Int) * 37 := by rw [IntKind.wrap_i64]; omega
    have v3 : IntKind.i64.wrap ((k : Int) * 37 + 11) = (k : Int) * 37 + 11 := by rw [IntKind.wrap_i64]; omega
    go_enter Try.func36, Try.ntmps36
    go_wp2
    go_ret
    exact ⟨⟨_, rfl, Int.emod_nonneg _ hnz', Int.emod_lt_of_pos _ (by omega)⟩, rfl⟩
set_option maxHeartbeats 800000 in
theorem b10How_any (A : Option Addr) (c : Nat) (x : List Int) (v : Int) (w : World) (hx : RdL (Value.int .i64) w A x) (hn : x.length ≤ 1048576) :
    Calls Try.prog 47 #[.slice A x.length c, .int .i64 v] w fun e w' => e = .returned (.int .i64 (x.count v : Nat)) ∧ w = w' := by
  have HX := hid hx
  clear hx
  go_enter Try.func47, Try.ntmps47
  go_wp2
  go_loop [5, 9] (fun z i => ∃ k m : Nat, k ≤ x.length ∧ i = .int .i64 k ∧ z = .int .i64 m ∧ m ≤ k ∧ Hid ((x.take k).count v = m)) (fun _ i => x.length - (intOf i).toNat)
  case atStart => exact ⟨0, 0, Nat.zero_le _, rfl, rfl, Nat.le_refl _, by show _ = _; simp⟩
  case round =>
    obtain ⟨k, m, hk, rfl, rfl, hm, hh⟩ := hrel
    by_cases hlt : k < x.length
    · have hi : (k : Int) < (x.length : Int) := by omega
      obtain ⟨b, o, y, rfl, hc, hy⟩ := HX.out.at_ hlt
      by_cases hyv : y = v
      · have ht : (y == v) = true := by simp [hyv]
        have he : Hid ((x.take (k + 1)).count v = m + 1) := by show _ = _; rw [List.take_add_one, hy.out, List.count_append, hh.out]; simp [hyv]
        clear hyv
        go_wp2
        exact ⟨⟨k + 1, m + 1, by omega, by go_num, by go_num, by omega, he⟩, by simp [intOf]; omega⟩
      · have ht : (y == v) = false := by simp [hyv]
        have he : Hid ((x.take (k + 1)).count v = m) := by show _ = _; rw [List.take_add_one, hy.out, List.count_append, hh.out]; simp [hyv]
        clear hyv
        go_wp2
        exact ⟨⟨k + 1, m, by omega, by go_num, rfl, by omega, he⟩, by simp [intOf]; omega⟩
    · have hi : ¬ (k : Int) < (x.length : Int) := by omega
      have he := hh.out
      rw [List.take_of_length_le (by omega)] at he
      subst he
      go_wp2
      go_ret
      exact ⟨rfl, rfl⟩
set_option maxHeartbeats 800000 in
theorem b10Ints_yes (A A' : Option Addr) (c c' : Nat) (xs : List Int) (w : World) (hx : RdL (Value.int .i64) w A xs) (hy : RdL (Value.int .i64) w A' xs) (hn : xs.length ≤ 1048576) :
    Calls Try.prog 46 #[.slice A xs.length c, .slice A' xs.length c'] w fun e w' => e = .returned (.bool true) ∧ ∃ n, w' = w.drewN n := by
  have HX := hid hx
  have HY := hid hy
  clear hx hy
  go_enter Try.func46, Try.ntmps46
  go_wp2
  go_loopw [13] (fun i wr => ∃ k n : Nat, k ≤ xs.length ∧ i = .int .i64 k ∧ wr = w.drewN n) (fun i _ => xs.length - (intOf i).toNat)
  case atStart => exact ⟨0, 0, Nat.zero_le _, rfl, rfl⟩
  case round =>
    obtain ⟨k, n, hk, rfl, rfl⟩ := hrel
    by_cases hlt : k < xs.length
    · have hi : (k : Int) < (xs.length : Int) := by omega
      obtain ⟨b, o, x, rfl, hc, hxk⟩ := HX.out.at_ hlt
      obtain ⟨b', o', y, rfl, hc', hyk⟩ := HY.out.at_ hlt
      obtain rfl : y = x := by have h1 := hyk.out; rw [hxk.out] at h1; injection h1 with h1; exact h1.symm
      clear hyk
      go_wp2
      go_quiet (fail)
      go_wp2
      exact ⟨⟨k + 1, _, by omega, by go_num, rfl⟩, by simp [intOf]; omega⟩
    · have hi : ¬ (k : Int) < (xs.length : Int) := by omega
      go_wp2
      go_ret
      exact ⟨rfl, _, rfl⟩
/-- A slice of the call's own behind a block that is written. -/
theorem OwnV.touchQ {w w' : World} {B q n : Nat} {v : Value} {xs : List Int} (h : OwnV w B v xs) (ht : Touch w w' (some ⟨q, 0, none⟩) n) (hq : q < B) : OwnV w' B v xs := by
  obtain ⟨hn, h | ⟨g, cap, cur, hv, hB, hgg, hc, hm, hs, hh⟩⟩ := h
  · exact ⟨hn, .inl h⟩
  · exact ⟨hn, .inr ⟨g, cap, cur, hv, hB, (ht.block g (.inr fun o e => by injection e with e; injection e with e; omega)).trans hgg, hc, hm, hs, hh⟩⟩
theorem wrapU_nn (z : Int) : 0 ≤ IntKind.u64.wrap z := by
  rw [IntKind.wrap_u64]
  omega
theorem wrapU_lt (z : Int) : IntKind.u64.wrap z < 18446744073709551616 := by
  rw [IntKind.wrap_u64]
  omega
/-- The byte that is taken of it. -/
theorem byte_of {m : Nat} (h : m < 18446744073709551616) : 0 ≤ wrap64 (bits .and .u64 ((m : Int) / 1099511627776) 255) ∧ wrap64 (bits .and .u64 ((m : Int) / 1099511627776) 255) ≤ 255 := by
  have e : bits .and .u64 ((m : Int) / 1099511627776) 255 = (((m / 1099511627776) &&& 255 : Nat) : Int) := by
    rw [show ((m : Int) / 1099511627776) = ((m / 1099511627776 : Nat) : Int) by omega]
    exact bits_and_u64_nat _ 255 (by omega) (by decide)
  have h2 : (m / 1099511627776) &&& 255 ≤ 255 := Nat.and_le_right
  rw [e]
  unfold wrap64
  omega
theorem touch_two (w : World) (q m n : Nat) (u v : Value) : Touch w ((((w.drewN m).setCell ⟨q, 1, none⟩ u).setCell ⟨q, 2, none⟩ v).drewN n) (some ⟨q, 0, none⟩) 3 := by
  refine ⟨rfl, rfl, rfl, by simp, fun b hb => ?_⟩
  have hbq : b ≠ q := by
    rcases hb with h | h
    · omega
    · rintro rfl; exact h 0 rfl
  exact (Below.heap_setCell _ ⟨q, 2, none⟩ v b hbq).trans (Below.heap_setCell _ ⟨q, 1, none⟩ u b hbq)
/-- The source's box. -/
def SrcB (w : World) (q : Nat) (A : Option Addr) (n c : Nat) (at_ sd : Int) : Prop := Blk w q 129 [.slice A n c, .int .i64 at_, .int .u64 sd]
set_option maxHeartbeats 1600000 in
theorem next_any (q : Nat) (A : Option Addr) (c : Nat) (x : List Int) (at_ sd : Int) (w : World) (hs : SrcB w q A x.length c at_ sd) (hx : RdL (Value.int .u8) w A x) (hb : Byt x) (hn : x.length ≤ 1048576) (ha0 : 0 ≤ at_) (ha1 : at_ ≤ 1000000) (hA : ∀ g o, A = some ⟨g, o, none⟩ → x ≠ [] → g ≠ q) :
    Calls Try.prog 130 #[.pointer (some ⟨q, 0, none⟩)] w fun e w' => ∃ v sd', (e = .returned (.int .i64 v) ∧ 0 ≤ v ∧ v ≤ 255) ∧ SrcB w' q A x.length c (at_ + 1) sd' ∧ Touch w w' (some ⟨q, 0, none⟩) 3 := by
  have HS := hid hs
  have HX := hid hx
  have HB := hid hb
  obtain ⟨k, rfl⟩ := Int.eq_ofNat_of_zero_le ha0
  obtain ⟨c0, c1, c2⟩ := Blk.cells3 hs
  have f0 := Blk.frozen hs 0
  have f1 := Blk.frozen hs 1
  have f2 := Blk.frozen hs 2
  clear hs hx hb
  have v1 : IntKind.i64.wrap ((k : Int) + 1) = (k : Int) + 1 := by rw [IntKind.wrap_i64]; omega
  by_cases hlt : k < x.length
  · have hi : (k : Int) < (x.length : Int) := by omega
    have hi2 : (k : Int) + 1 ≤ (x.length : Int) := by omega
    obtain ⟨b, o, y, rfl, hc, hy⟩ := HX.out.at_ hlt
    have hyb := HB.out y (List.mem_of_getElem? hy.out)
    have hbq := hA b o rfl (by rintro rfl; simp at hlt)
    have v2 : IntKind.i64.wrap y = y := by rw [IntKind.wrap_i64]; omega
    go_enter Try.func130, Try.ntmps130
    go_wp2
    go_quiet (fail)
    go_wp2
    go_quiet (fail)
    go_wp2
    go_quiet (fail)
    go_wp2
    go_ret
    exact ⟨_, _, ⟨rfl, hyb.1, hyb.2⟩, ((Blk.drewN HS.out _).set_ 1 _).set_ 2 _, touch_two _ _ _ _ _ _⟩
  · have hi : ¬ (k : Int) < (x.length : Int) := by omega
    have hi2 : ¬ (k : Int) + 1 ≤ (x.length : Int) := by omega
    go_enter Try.func130, Try.ntmps130
    go_wp2
    go_quiet (fail)
    go_wp2
    go_quiet (fail)
    go_wp2
    go_ret
    obtain ⟨m, hm⟩ := Int.eq_ofNat_of_zero_le (wrapU_nn (IntKind.u64.wrap (IntKind.u64.wrap (sd * 6364136223846793005)) + 1442695040888963407))
    have hml : m < 18446744073709551616 := by have := wrapU_lt (IntKind.u64.wrap (IntKind.u64.wrap (sd * 6364136223846793005)) + 1442695040888963407); omega
    refine ⟨_, _, ⟨rfl, ?_, ?_⟩, ((Blk.drewN HS.out _).set_ 1 _).set_ 2 _, touch_two _ _ _ _ _ _⟩
    · rw [hm]; exact (byte_of hml).1
    · rw [hm]; exact (byte_of hml).2
set_option maxHeartbeats 1600000 in
theorem pick9_any (q : Nat) (A : Option Addr) (c : Nat) (x : List Int) (at_ sd : Int) (w : World) (hs : SrcB w q A x.length c at_ sd) (hx : RdL (Value.int .u8) w A x) (hb : Byt x) (hn : x.length ≤ 1048576) (ha0 : 0 ≤ at_) (ha1 : at_ ≤ 1000000) (hA : ∀ g o, A = some ⟨g, o, none⟩ → x ≠ [] → g ≠ q) :
    Calls Try.prog 96 #[.pointer (some ⟨q, 0, none⟩), .int .i64 9] w fun e w' => ∃ v sd', (e = .returned (.int .i64 v) ∧ 0 ≤ v ∧ v ≤ 8) ∧ SrcB w' q A x.length c (at_ + 1) sd' ∧ Touch w w' (some ⟨q, 0, none⟩) 3 := by
  have C := hid (next_any q A c x at_ sd w hs hx hb hn ha0 ha1 hA)
  clear hs hx hb hA
  go_enter Try.func96, Try.ntmps96
  go_wp2_with fail
  refine C.out.mono ?_
  rintro e w' ⟨v, sd', ⟨rfl, hv0, hv1⟩, hS, hT⟩
  have HS := hid hS
  have HT := hid hT
  clear hS hT C
  go_wp2
  go_ret
  exact ⟨_, _, ⟨rfl, by omega, by omega⟩, HS.out, HT.out⟩
set_option maxHeartbeats 1600000 in
theorem l00From_any (A : Option Addr) (n c : Nat) (w : World) : Calls Try.prog 95 #[.slice A n c] w fun e w' => e = .returned (.pointer (some ⟨w.heap.size, 0, none⟩)) ∧ w' = w.alloc (.cells #[.slice A n c, .int .i64 0, .int .u64 0] 129) := by
  go_enter Try.func95, Try.ntmps95
  go_wp2
  go_ret
  exact ⟨rfl, rfl⟩
set_option maxRecDepth 100000 in
set_option maxHeartbeats 1600000 in
theorem b10Keys_any (A : Option Addr) (c : Nat) (x : List Int) (n : Int) (w : World) (hx : RdL (Value.int .u8) w A x) (hb : Byt x) (hn : x.length ≤ 1048576) (hn0 : 0 ≤ n) (hn1 : n ≤ 1000) :
    Calls Try.prog 35 #[.slice A x.length c, .int .i64 n] w fun e w' => ∃ v K, e = .returned v ∧ OwnV w' w.heap.size v K ∧ (K.length : Int) = n ∧ (∀ y ∈ K, 0 ≤ y ∧ y ≤ 8) ∧ Below w.heap.size w w' := by
  have HX := hid hx
  have HB := hid hb
  clear hx hb
  go_enter Try.func35, Try.ntmps35
  go_wp2_with fail
  refine (l00From_any A x.length c w).mono ?_
  rintro e w1 ⟨rfl, hw1⟩
  have hq1 : w.heap.size < w1.heap.size := by rw [hw1]; simp
  have S1 : Hid (Below w.heap.size w w1) := by rw [hw1]; exact below_a1 _ _
  have B1 : Hid (SrcB w1 w.heap.size A x.length c 0 0) := by rw [hw1]; exact Blk.new _ _ _
  clear hw1
  go_wp2
  go_loopw [1, 6] (fun t v wr => ∃ (k : Nat) (K : List Int) (sd : Int), (k : Int) ≤ n ∧ t = .int .i64 (n - (k : Int)) ∧ Hid (K.length = k) ∧ Hid (∀ y ∈ K, 0 ≤ y ∧ y ≤ 8) ∧ Hid (OwnV wr w1.heap.size v K) ∧ Hid (SrcB wr w.heap.size A x.length c (k : Int) sd) ∧ Hid (Below w.heap.size w wr) ∧ w1.heap.size ≤ wr.heap.size) (fun t _ _ => (intOf t).toNat)
  case atStart => exact ⟨0, [], 0, by omega, by simp, rfl, by show ∀ y ∈ [], _; simp, OwnV.made w1 (Nat.le_refl _), B1.out.alloc _, S1.out.alloc (Nat.le_of_lt hq1) _, by simp⟩
  case round =>
    obtain ⟨k, K, sd, hk, rfl, hKl, hKb, hO, hS, hW, hsz⟩ := hrel
    by_cases hlt : (k : Int) < n
    · have hpos : (0 : Int) < n - (k : Int) := by omega
      have hA : ∀ g o, A = some ⟨g, o, none⟩ → x ≠ [] → g ≠ w.heap.size := by
        intro g o hA hne hg
        obtain ⟨b, o', y, hA', hc, _⟩ := HX.out.at_ (k := 0) (List.length_pos_iff.2 hne)
        rw [hA] at hA'; injection hA' with hA'; injection hA' with h1 h2
        have := World.block_lt_of_cell? w _ hc
        simp at this
        omega
      have C := hid (pick9_any w.heap.size A c x (k : Int) sd wr hS.out (HX.out.below hW.out) HB.out hn (by omega) (by omega) hA)
      have hKn : K.length ≤ 1048577 := by rw [hKl.out]; omega
      clear hA
      go_wp2_with fail
      refine C.out.mono ?_
      rintro e w2 ⟨v, sd', ⟨rfl, hv0, hv1⟩, hS2, hT⟩
      have HS2 := hid hS2
      have O2 := hid (OwnV.touchQ hO.out hT hq1)
      have W2 : Hid (Below w.heap.size w w2) := ⟨hT.os.trans hW.out.os, hT.tape.trans hW.out.tape, hT.output.trans hW.out.output, by rw [hT.size]; exact hW.out.size, fun b hb => (hT.block b (.inr fun o e => by injection e with e; injection e with e; omega)).trans (hW.out.block b hb)⟩
      have hsz2 : w1.heap.size ≤ w2.heap.size := by rw [hT.size]; exact hsz
      have hb2 : Hid (∀ y ∈ K ++ [v], 0 ≤ y ∧ y ≤ 8) := fun y hy => by
        rcases List.mem_append.1 hy with h | h
        · exact hKb.out y h
        · simp at h; subst h; exact ⟨hv0, hv1⟩
      have hl2 : Hid ((K ++ [v]).length = k + 1) := by show _ = _; rw [List.length_append, hKl.out]; rfl
      clear hS2 hT C hO hS hW
      go_wp2_with (at_builtin; refine app_int rfl _ _ rfl v O2.out (Below.refl w1.heap.size w2) rfl rfl hKn hsz2 ?_)
      intro v' w' O3 W3 hg3 KP
      have S3 : Hid (SrcB w' w.heap.size A x.length c ((k : Int) + 1) sd') := (W3.out.block w.heap.size hq1).trans HS2.out
      have W4 := hid (W2.out.trans (W3.out.mono (Nat.le_of_lt hq1)))
      have hsz3 : w1.heap.size ≤ w'.heap.size := by have := hg3.out; omega
      clear KP W3 W2
      go_wp2
      exact ⟨⟨k + 1, _, sd', by omega, by go_num, hl2, hb2, O3, S3, W4, hsz3⟩, by simp [intOf]; omega⟩
    · have hpos : ¬ (0 : Int) < n - (k : Int) := by omega
      have hkn : Hid ((K.length : Int) = n) := by show _ = _; rw [hKl.out]; omega
      go_wp2
      go_ret
      exact ⟨u6, rfl, K, hO.out.mono (Nat.le_of_lt hq1), hkn.out, hKb.out, hW.out⟩
end Go.Proofs.Ytmmolicodlmlkaa
namespace Go.Proofs.Ytmmolicodlmlkaa
open Go.RowKit Ieee

/-- Its word is no NaN, and its sign is s. -/
def Sg (f : Format) (s : Bool) (b : Nat) : Prop := (∃ m e, f.read b = .number s m e) ∨ f.read b = .infinity s
/-- Its word is no NaN. -/
def NN (f : Format) (b : Nat) : Prop := ∃ s, Sg f s b

theorem word_div (f : Format) (s : Bool) {r : Nat} (h : r < f.signWeight) : (f.word s r / f.signWeight % 2 == 1) = s ∧ f.word s r % f.signWeight = r := by
  have hp : 0 < f.signWeight := Nat.pow_pos (by omega)
  unfold Format.word
  cases s with
  | true =>
    have h1 : (f.signWeight + r) / f.signWeight = 1 := by
      rw [Nat.add_div_left _ hp, Nat.div_eq_of_lt h]
    simp [h1, Nat.mod_eq_of_lt h]
  | false => simp [Nat.div_eq_of_lt h, Nat.mod_eq_of_lt h]
theorem infRung_lt' (f : Format) : f.infRung < f.signWeight := f.infRung_lt
theorem read_word_lt (f : Format) (s : Bool) {r : Nat} (h : r < f.infRung) : ∃ m e, f.read (f.word s r) = .number s m e := by
  obtain ⟨h1, h2⟩ := word_div f s (Nat.lt_trans h (infRung_lt' f))
  unfold Format.read
  simp only [h1, h2]
  by_cases hb : r < f.binade
  · exact ⟨_, _, by rw [if_pos hb]⟩
  · exact ⟨_, _, by rw [if_neg hb, if_pos h]⟩
theorem read_word_inf (f : Format) (s : Bool) (hb : f.binade ≤ f.infRung) : f.read (f.word s f.infRung) = .infinity s := by
  obtain ⟨h1, h2⟩ := word_div f s (infRung_lt' f)
  unfold Format.read
  simp only [h1, h2]
  rw [if_neg (by omega), if_neg (by omega)]
  simp
theorem nearest_form (f : Format) (s : Bool) (m : Nat) (p : Int) : ∃ r, r ≤ f.infRung ∧ f.nearest s m p = f.word s r ∧ (m = 0 → r = 0) := by
  unfold Format.nearest
  by_cases h : m = 0
  · exact ⟨0, Nat.zero_le _, by rw [if_pos h], fun _ => rfl⟩
  · exact ⟨_, Nat.min_le_right _ _, by rw [if_neg h], fun h' => absurd h' h⟩
theorem write_sg (f : Format) (hb : f.binade ≤ f.infRung) (s : Bool) (m : Nat) (p : Int) : Sg f s (f.write (.number s m p)) := by
  obtain ⟨r, hr, he, _⟩ := nearest_form f s m p
  show Sg f s (f.nearest s m p)
  rw [he]
  rcases Nat.lt_or_ge r f.infRung with h | h
  · exact .inl (read_word_lt f s h)
  · obtain rfl : r = f.infRung := by omega
    exact .inr (read_word_inf f s hb)
theorem write_inf_sg (f : Format) (hb : f.binade ≤ f.infRung) (s : Bool) : Sg f s (f.write (.infinity s)) := .inr (read_word_inf f s hb)
theorem single_bi : single.binade ≤ single.infRung := by decide
theorem double_bi : double.binade ≤ double.infRung := by decide

/-- A product with a finite number that is not 0. -/
theorem mul_pos {x y : Nat} (hx : Sg single false x) (hy : ∃ n j, single.read y = .number false n j ∧ n ≠ 0) : ∃ r, floatBits .mul .f32 x y = some r ∧ Sg single false r := by
  obtain ⟨n, j, hy, hn⟩ := hy
  show ∃ r, single.mul x y = some r ∧ _
  unfold Format.mul
  rcases hx with ⟨m, e, hx⟩ | hx <;> rw [hx, hy]
  · simp only [Datum.product, Option.map_some, Bool.xor_self]
    exact ⟨_, rfl, write_sg _ single_bi _ _ _⟩
  · simp only [Datum.product, if_neg hn, Option.map_some, Bool.xor_self]
    exact ⟨_, rfl, write_inf_sg _ single_bi _⟩
theorem log2_lt_of {m k : Nat} (h : m < 2 ^ k) (hk : 0 < k) : m.log2 < k := by
  by_cases hm : m = 0
  · subst hm; simpa using hk
  · exact (Nat.log2_lt hm).2 h
/-- What the single format reads. -/
theorem read_single_bounds {b : Nat} {s : Bool} {m : Nat} {e : Int} (h : single.read b = .number s m e) : m < 16777216 ∧ -149 ≤ e ∧ e ≤ 104 := by
  have hw : single.signWeight = 2147483648 := by decide
  have hi : single.infRung = 2139095040 := by decide
  have hb : single.binade = 8388608 := by decide
  have hl : single.leastPlace = -149 := by decide
  unfold Format.read at h
  simp only [hw, hi, hb, hl] at h
  split at h
  · injection h with h1 h2 h3
    omega
  · split at h
    · injection h with h1 h2 h3
      omega
    · split at h <;> cases h
theorem cut_even_zero (neg : Bool) (n : Nat) : Toward.even.cut neg n 0 = n := by
  unfold Toward.cut
  simp [Nat.mod_one]
theorem rung_lt {L K : Nat} (h : L ≤ 1149) (h' : K < 9007199254740992) : min (L * 4503599627370496 + K) 9218868437227405312 < 9218868437227405312 := by
  have h7 : L * 4503599627370496 ≤ 1149 * 4503599627370496 := Nat.mul_le_mul_right _ h
  omega
/-- A finite single number is a finite double one. -/
theorem widen {b : Nat} (h : NN single b) : ∃ r, floatToFloatBits .f32 b .f64 = some r ∧ NN double r := by
  obtain ⟨s, ⟨m, e, h⟩ | h⟩ := h
  · obtain ⟨hm, he1, he2⟩ := read_single_bounds h
    have hlt : double.nearest s m e = double.word s 0 ∨ ∃ r, r < double.infRung ∧ double.nearest s m e = double.word s r := by
      by_cases h0 : m = 0
      · exact .inl (by unfold Format.nearest; rw [if_pos h0])
      · refine .inr ?_
        have hl : double.leastPlace = -1074 := by decide
        have hb : double.binade = 4503599627370496 := by decide
        have hi : double.infRung = 9218868437227405312 := by decide
        have hf : double.fractionBits = 52 := rfl
        have hlog := log2_lt_of (k := 24) (m := m) (by omega) (by omega)
        unfold Format.nearest
        rw [if_neg h0]
        simp only [hl, hb, hi, hf]
        have hmax : max (e + (m.log2 : Int) - ((52 : Nat) : Int)) (-1074) = e + (m.log2 : Int) - 52 := by omega
        rw [hmax]
        have h1 : (e + (m.log2 : Int) - 52 - e).toNat = 0 := by omega
        have h2 : (e - (e + (m.log2 : Int) - 52)).toNat = 52 - m.log2 := by omega
        rw [h1, h2, cut_even_zero]
        have h3 : m <<< (52 - m.log2) < 9007199254740992 := by
          rw [Nat.shiftLeft_eq]
          have h4 : m < 2 ^ (m.log2 + 1) := Nat.lt_log2_self
          have h5 : m * 2 ^ (52 - m.log2) < 2 ^ (m.log2 + 1) * 2 ^ (52 - m.log2) := Nat.mul_lt_mul_of_pos_right h4 (Nat.pow_pos (by omega))
          rw [← Nat.pow_add, show m.log2 + 1 + (52 - m.log2) = 53 by omega] at h5
          exact h5
        refine ⟨_, ?_, rfl⟩
        have h6 : (e + (m.log2 : Int) - 52 - -1074).toNat ≤ 1149 := by omega
        exact rung_lt h6 h3
    have hrd : ∃ m' e', double.read (double.nearest s m e) = .number s m' e' := by
      rcases hlt with h1 | ⟨r, hr, h1⟩
      · rw [h1]; exact read_word_lt _ _ (by decide)
      · rw [h1]; exact read_word_lt _ _ hr
    obtain ⟨m', e', hrd⟩ := hrd
    refine ⟨double.nearest s m e, ?_, s, .inl ⟨m', e', hrd⟩⟩
    have hd : FloatKind.f32.decode b = .number s m e := h
    have hni : (FloatKind.f64.decode (FloatKind.f64.encode (.number s m e))).isInfinity = false := by
      show (double.read (double.nearest s m e)).isInfinity = false
      rw [hrd]; rfl
    unfold floatToFloatBits
    rw [if_neg (by decide), hd]
    simp only [hni]
    rfl
  · refine ⟨double.write (.infinity s), ?_, s, write_inf_sg _ double_bi _⟩
    have hd : FloatKind.f32.decode b = .infinity s := h
    unfold floatToFloatBits
    rw [if_neg (by decide), hd]
    rfl
/-- It is a number that is not below 0 and not above 2 ^ (L + 1). -/
def Lg (b : Nat) (L : Int) : Prop := ∃ m e, single.read b = .number false m e ∧ (m.log2 : Int) + e ≤ L
theorem Lg.sg {b : Nat} {L : Int} (h : Lg b L) : Sg single false b := by
  obtain ⟨m, e, h, _⟩ := h
  exact .inl ⟨m, e, h⟩
theorem Sg.nn {f : Format} {s : Bool} {b : Nat} (h : Sg f s b) : NN f b := ⟨s, h⟩
theorem Lg.mono {b : Nat} {L L' : Int} (h : Lg b L) (hl : L ≤ L') : Lg b L' := by
  obtain ⟨m, e, h, h2⟩ := h
  exact ⟨m, e, h, by omega⟩
end Go.Proofs.Ytmmolicodlmlkaa
namespace Go.Proofs.Ytmmolicodlmlkaa
open Go.RowKit Ieee
set_option linter.unusedVariables false

/-- It is a normal number, not below 0, of 24 digits, from 2 ^ a up to less than 2 ^ (b + 1). -/
def Nm (x : Nat) (a b : Int) : Prop := ∃ m e, single.read x = .number false m e ∧ 8388608 ≤ m ∧ m < 16777216 ∧ a ≤ e + 23 ∧ e + 23 ≤ b
theorem Nm.sg {x : Nat} {a b : Int} (h : Nm x a b) : Sg single false x := by
  obtain ⟨m, e, h, _⟩ := h
  exact .inl ⟨m, e, h⟩
theorem Nm.mono {x : Nat} {a b a' b' : Int} (h : Nm x a b) (ha : a' ≤ a) (hb : b ≤ b') : Nm x a' b' := by
  obtain ⟨m, e, h, h1, h2, h3, h4⟩ := h
  exact ⟨m, e, h, h1, h2, by omega, by omega⟩
end Go.Proofs.Ytmmolicodlmlkaa
namespace Go.Proofs.Ytmmolicodlmlkaa
open Go.RowKit Ieee
set_option linter.unusedVariables false
set_option linter.unusedSimpArgs false

end Go.Proofs.Ytmmolicodlmlkaa
namespace Go.Proofs.Ytmmolicodlmlkaa
open Go.RowKit Ieee
set_option linter.unusedVariables false
set_option linter.unusedSimpArgs false

/-- It is a number, not below 0. -/
def Fin0 (r : Nat) : Prop := ∃ m e, single.read r = .number false m e
theorem Fin0.nn {r : Nat} (h : Fin0 r) : NN single r := by
  obtain ⟨m, e, h⟩ := h
  exact ⟨false, .inl ⟨m, e, h⟩⟩
end Go.Proofs.Ytmmolicodlmlkaa
namespace Go.Proofs.Ytmmolicodlmlkaa
open Go.RowKit Ieee
set_option linter.unusedVariables false
set_option linter.unusedSimpArgs false

end Go.Proofs.Ytmmolicodlmlkaa
namespace Go.Proofs.Ytmmolicodlmlkaa
open Go.RowKit Ieee
set_option linter.unusedVariables false
set_option linter.unusedSimpArgs false

/-- The hash of the key at place k. -/
def hashAt (x : List Int) (salt k : Nat) : Nat := hashN (x.getD k 0).toNat salt
/-- The hashes of the first n keys. -/
def rowH (x : List Int) (salt n : Nat) : List Int := (List.range n).map fun k => (hashAt x salt k : Int)
end Go.Proofs.Ytmmolicodlmlkaa
namespace Go.Proofs.Ytmmolicodlmlkaa
open Go.RowKit
set_option linter.unusedVariables false
set_option linter.unusedSimpArgs false

end Go.Proofs.Ytmmolicodlmlkaa
namespace Go.Proofs.Ytmmolicodlmlkaa
open Go.RowKit
set_option linter.unusedVariables false

/-- Both Cells are the same. -/
def sameCells (a0 b0 : Int) (a1 b1 : Int) (a2 b2 : Int) (x3 y3 : List Int) : Bool := decide (a0 = b0) && decide (a1 = b1) && decide (a2 = b2) && decide (x3 = y3)
set_option maxHeartbeats 1000000 in
theorem iSameCells_any (a0 : Int) (a1 : Int) (a2 : Int) (A3 : Option Addr) (c3 : Nat) (x3 : List Int) (b0 : Int) (b1 : Int) (b2 : Int) (B3 : Option Addr) (d3 : Nat) (y3 : List Int) (w : World) (hw0 : W64 a0) (hw1 : W64 a1) (hw2 : W64 a2) (hx3 : RdL (Value.int .i64) w A3 x3) (hn3 : x3.length ≤ 1048576) (he3 : ∀ y ∈ x3, W64 y) (gw0 : W64 b0) (gw1 : W64 b1) (gw2 : W64 b2) (gx3 : RdL (Value.int .i64) w B3 y3) (gn3 : y3.length ≤ 1048576) (ge3 : ∀ y ∈ y3, W64 y) :
    Calls Try.prog 45 #[.agg #[.int .i64 a0, .int .i64 a1, .int .i64 a2, .slice A3 x3.length c3], .agg #[.int .i64 b0, .int .i64 b1, .int .i64 b2, .slice B3 y3.length d3]] w fun e w' => e = .returned (.bool (sameCells a0 b0 a1 b1 a2 b2 x3 y3)) ∧ Below w.heap.size w w' := by
  clear hw0 gw0
  clear hw1 gw1
  clear hw2 gw2
  have HX3 := hid hx3
  have HY3 := hid gx3
  clear hx3 gx3 he3 ge3
  by_cases e0 : a0 = b0
  · have t0 : (a0 == b0) = true := by simp [e0]
    by_cases e1 : a1 = b1
    · have t1 : (a1 == b1) = true := by simp [e1]
      by_cases e2 : a2 = b2
      · have t2 : (a2 == b2) = true := by simp [e2]
        cases t3 : decide (x3 = y3)
        · skip
          have hv := hid (show sameCells a0 b0 a1 b1 a2 b2 x3 y3 = false by simp [sameCells, *])
          clear e0 e1 e2
          go_enter Try.func45, Try.ntmps45
          go_wp2_with fail
          refine (slEqInt64S_any A3 B3 c3 d3 x3 y3 _ (HX3.out.below (below_a2 _ _ _)) (HY3.out.below (below_a2 _ _ _)) hn3).mono ?_
          rintro e w3 ⟨rfl, m3, rfl⟩
          go_wp2
          go_ret
          exact ⟨ret_bool hv.out.symm, below_drewN (below_a2 _ _ _) _⟩
        · skip
          have hv := hid (show sameCells a0 b0 a1 b1 a2 b2 x3 y3 = true by simp [sameCells, *])
          clear e0 e1 e2
          go_enter Try.func45, Try.ntmps45
          go_wp2_with fail
          refine (slEqInt64S_any A3 B3 c3 d3 x3 y3 _ (HX3.out.below (below_a2 _ _ _)) (HY3.out.below (below_a2 _ _ _)) hn3).mono ?_
          rintro e w3 ⟨rfl, m3, rfl⟩
          go_wp2
          go_ret
          exact ⟨ret_bool hv.out.symm, below_drewN (below_a2 _ _ _) _⟩
      · have t2 : (a2 == b2) = false := by simp [e2]
        have hv := hid (show sameCells a0 b0 a1 b1 a2 b2 x3 y3 = false by simp [sameCells, *])
        clear e0 e1 e2
        go_enter Try.func45, Try.ntmps45
        go_wp2
        go_ret
        exact ⟨ret_bool hv.out.symm, below_a2 _ _ _⟩
    · have t1 : (a1 == b1) = false := by simp [e1]
      have hv := hid (show sameCells a0 b0 a1 b1 a2 b2 x3 y3 = false by simp [sameCells, *])
      clear e0 e1
      go_enter Try.func45, Try.ntmps45
      go_wp2
      go_ret
      exact ⟨ret_bool hv.out.symm, below_a2 _ _ _⟩
  · have t0 : (a0 == b0) = false := by simp [e0]
    have hv := hid (show sameCells a0 b0 a1 b1 a2 b2 x3 y3 = false by simp [sameCells, *])
    clear e0
    go_enter Try.func45, Try.ntmps45
    go_wp2
    go_ret
    exact ⟨ret_bool hv.out.symm, below_a2 _ _ _⟩

end Go.Proofs.Ytmmolicodlmlkaa
namespace Go.Proofs.Ytmmolicodlmlkaa.Ph
set_option linter.unusedVariables false

/-- Four cells of a row of cells. -/
def Four (w : World) (C o wd dp s n R c : Nat) : Prop := w.cell? ⟨C, 4 * o, none⟩ = some (.int .i64 wd) ∧ w.cell? ⟨C, 4 * o + 1, none⟩ = some (.int .i64 dp) ∧ w.cell? ⟨C, 4 * o + 2, none⟩ = some (.int .i64 s) ∧ w.cell? ⟨C, 4 * o + 3, none⟩ = some (.slice (some ⟨R, 0, none⟩) n c)
end Go.Proofs.Ytmmolicodlmlkaa.Ph
namespace Go.Proofs.Ytmmolicodlmlkaa
open Go.ChangeShapes Go.WideShapes Go.ChangeAt Go.RowKit Go.Deep

section
variable {H : Type} {enc : TypeId × Value → H} {P : Program} {w : World}
theorem byte_wf {y : Int} (h : (Lit.int .u8 y).wf = true) : 0 ≤ y ∧ y ≤ 255 := by
  simpa [Lit.wf, IntKind.min, IntKind.max, IntKind.signed, IntKind.bits] using h
theorem open_byteL {t e : TypeId} {fuel : Nat} {v : Value} {x : DataW H × List MemPlace} (ht : P.underlying t = some (.slice e)) (he : P.underlying e = some (.int .u8)) (hc : P.cellsOf e = 1)
    (h : DataW.trod enc P w 0 (fun _ => true) true fuel t [v] = some x) :
    ∃ A c xs n, v = .slice A n c ∧ Hid (xs.length = n) ∧ n ≤ 9223372036854775807 ∧ RdL (Value.int .u8) w A xs ∧ ∀ y ∈ xs, 0 ≤ y ∧ y ≤ 255 := by
  rcases open_ints ht he hc h with ⟨hcs, _⟩ | ⟨a, len, cap, zs, hcs, _, hl, hm, hz, _, hcell, hwz⟩
  · simp at hcs
    subst hcs
    exact ⟨none, 0, [], 0, rfl, rfl, by omega, RdL.nil, by simp⟩
  · simp at hcs hz
    subst hcs
    obtain ⟨b, o, spot⟩ := a
    refine ⟨some ⟨b, o, spot⟩, cap, zs.take len, len, rfl, ?_, ?_, ?_, fun y hy => byte_wf (hwz y (List.mem_of_mem_take hy))⟩
    · show (zs.take len).length = len
      simp; omega
    · simp only [maxLen] at hm; omega
    · intro j hj
      have hj' : j < len ∧ j < zs.length := by
        have h0 : j < (zs.take len).length := hj
        simp at h0; omega
      have hs : spot = none := by simpa [Addr.add] using World.cell?_spot (hcell 0 (by omega))
      subst hs
      refine ⟨b, o, rfl, ?_⟩
      have := hcell j hj'.2
      rw [show (⟨b, o, none⟩ : Addr).add j = ⟨b, o + j, none⟩ from by unfold Addr.add; split <;> simp_all] at this
      rw [this]
      simp [hj'.2]
end
end Go.Proofs.Ytmmolicodlmlkaa
