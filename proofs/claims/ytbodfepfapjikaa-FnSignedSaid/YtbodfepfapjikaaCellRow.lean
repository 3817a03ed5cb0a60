/-
  The rows of cells: reference and program, by contracts.
-/
import Derived.Test.YtbodfepfapjikaaCellsAt
namespace Go.Proofs.Ytbodfepfapjikaa
open Go.RowKit
set_option linter.unusedVariables false

theorem ret_slice {A : Option Addr} {n n' c : Nat} (h : n = n') : Ending.returned (.slice A n c) = .returned (.slice A n' c) := by rw [h]
/-- Row i. -/
def rowL (x : List Int) (wd i : Nat) : List Int := (x.drop (i * wd)).take wd
theorem rowL_length {x : List Int} {wd dp i : Nat} (hl : x.length = wd * dp) (hi : i < dp) : (rowL x wd i).length = wd := by
  have h2 : (i + 1) * wd ≤ dp * wd := Nat.mul_le_mul_right wd hi
  rw [Nat.add_mul] at h2
  rw [Nat.mul_comm wd dp] at hl
  simp only [rowL, List.length_take, List.length_drop]
  omega
theorem rowL_at {x : List Int} {wd i k : Nat} (hk : k < wd) : (rowL x wd i)[k]? = x[i * wd + k]? := by
  simp only [rowL, List.getElem?_take, if_pos hk, List.getElem?_drop]
theorem rowL_mem {x : List Int} {wd i : Nat} {y : Int} (h : y ∈ rowL x wd i) : y ∈ x := List.mem_of_mem_drop (List.mem_of_mem_take h)
theorem rowL_rd {x : List Int} {wd i : Nat} {w : World} {b o : Nat} (h : RdL (Value.int .i64) w (some ⟨b, o, none⟩) x) : RdL (Value.int .i64) w (some ⟨b, o + i * wd, none⟩) (rowL x wd i) := fun j hj => by
  have hlen : j < wd ∧ i * wd + j < x.length := by
    simp only [rowL, List.length_take, List.length_drop] at hj; omega
  obtain ⟨b', o', hA, hc⟩ := h (i * wd + j) hlen.2
  injection hA with hA; injection hA with h1 h2
  subst h1 h2
  refine ⟨b, o + i * wd, rfl, ?_⟩
  rw [Nat.add_assoc, hc]
  have := rowL_at (x := x) (i := i) hlen.1
  rw [List.getElem?_eq_getElem hj, List.getElem?_eq_getElem hlen.2] at this
  injection this with this
  rw [this]
theorem sum_snoc {l : List Int} {k : Nat} {y : Int} (h : Hid (l[k]? = some y)) : (l.take (k + 1)).sum = (l.take k).sum + y := by
  rw [List.take_add_one, h.out]; simp
theorem sum_bound {l : List Int} {M : Int} (hM : 0 ≤ M) (h : ∀ y ∈ l, -M ≤ y ∧ y ≤ M) : ∀ k, -(k * M) ≤ (l.take k).sum ∧ (l.take k).sum ≤ k * M := by
  intro k
  induction k with
  | zero => simp
  | succ k ih =>
    have e : ((k + 1 : Nat) : Int) * M = k * M + M := by rw [Int.natCast_add, Int.add_mul]; simp
    rcases Nat.lt_or_ge k l.length with hk | hk
    · rw [sum_snoc (show Hid (l[k]? = some l[k]) from List.getElem?_eq_getElem hk), e]
      have := h l[k] (List.getElem_mem hk)
      omega
    · rw [List.take_of_length_le (by omega)] at ih ⊢
      rw [e]; omega

set_option maxRecDepth 100000 in
set_option maxHeartbeats 1600000 in
theorem l03Row_any (p wd dp i c : Nat) (A : Option Addr) (x : List Int) (w : World) (h0 : w.cell? ⟨p, 0, none⟩ = some (.int .i64 wd)) (h3 : w.cell? ⟨p, 3, none⟩ = some (.slice A x.length c))
    (hx : RdL (Value.int .i64) w A x) (hw1 : 2 ≤ wd) (hw2 : wd ≤ 64) (hi : i < dp) (hd2 : dp ≤ 6) (hl : x.length = wd * dp) (hbd : ∀ y ∈ x, -1000000000000 ≤ y ∧ y ≤ 1000000000000) :
    Calls Try.prog 85 #[.pointer (some ⟨p, 0, none⟩), .int .i64 i] w fun e w' => e = .returned (.int .i64 (rowL x wd i).sum) ∧ ∃ n, w' = w.drewN n := by
  have HX := hid hx
  have hR := rowL_length hl hi
  have hSB := sum_bound (l := rowL x wd i) (M := 1000000000000) (by omega) (fun y hy => hbd y (rowL_mem hy))
  have HSB := hid hSB
  have HR := hid hR
  have HL := hid hl
  have HBD := hid hbd
  clear hx hl hbd hR hSB
  have hm := mul_le6 (show i ≤ 6 by omega) hw2
  have hlx : x.length ≤ 384 := by rw [HL.out]; have := Nat.mul_le_mul hw2 hd2; omega
  go_enter Try.func85, Try.ntmps85
  go_wp2
  go_loopw [5, 6] (fun v j wr => ∃ k n : Nat, k ≤ wd ∧ j = .int .i64 k ∧ wr = w.drewN n ∧ ∃ z : Int, v = .int .i64 z ∧ Hid (((rowL x wd i).take k).sum = z)) (fun _ j _ => wd - (intOf j).toNat)
  case atStart => exact ⟨0, 0, Nat.zero_le _, rfl, rfl, 0, rfl, by show ((rowL x wd i).take 0).sum = 0; simp⟩
  case round =>
    obtain ⟨k, n, hk, rfl, rfl, z, rfl, hh⟩ := hrel
    by_cases hlt : k < wd
    · have hi' : (k : Int) < (wd : Int) := by omega
      have hidx : i * wd + k < x.length := by
        have := rowL_at (x := x) (i := i) hlt
        rw [List.getElem?_eq_getElem (by rw [HR.out]; exact hlt)] at this
        rcases Nat.lt_or_ge (i * wd + k) x.length with h | h
        · exact h
        · rw [List.getElem?_eq_none h] at this; cases this
      obtain ⟨b, o, y, rfl, hcy, hym⟩ := HX.out.at_ hidx
      have hry : Hid ((rowL x wd i)[k]? = some y) := by rw [rowL_at hlt]; exact hym.out
      have he : Hid (((rowL x wd i).take (k + 1)).sum = z + y) := by rw [sum_snoc hry, hh.out]; rfl
      have hyb := HBD.out y (List.mem_of_getElem? hym.out)
      have hzb := HSB.out k
      rw [hh.out] at hzb
      have hcast : ((i * wd + k : Nat) : Int) = (i : Int) * (wd : Int) + (k : Int) := by rw [Int.natCast_add, Int.natCast_mul]
      have e1 : IntKind.i64.wrap ((i : Int) * (wd : Int)) = (i : Int) * (wd : Int) := by rw [IntKind.wrap_i64]; omega
      have e2 : IntKind.i64.wrap ((i : Int) * (wd : Int) + (k : Int)) = (i : Int) * (wd : Int) + (k : Int) := by rw [IntKind.wrap_i64]; omega
      have e3 : ((i : Int) * (wd : Int) + (k : Int)).toNat = i * wd + k := by rw [← hcast]; exact Int.toNat_natCast _
      have e4 : (i : Int) * (wd : Int) + (k : Int) < (x.length : Int) := by rw [← hcast]; omega
      have e5 : (0 : Int) ≤ (i : Int) * (wd : Int) + (k : Int) := by omega
      have e6 : IntKind.i64.wrap (z + y) = z + y := by rw [IntKind.wrap_i64]; omega
      clear hcast
      go_wp2
      go_quiet (fail)
      go_wp2
      exact ⟨⟨k + 1, _, by omega, by go_num, rfl, _, rfl, he⟩, by simp [intOf]; omega⟩
    · have hi' : ¬ (k : Int) < (wd : Int) := by omega
      go_wp2
      go_ret
      have he := hh.out
      rw [List.take_of_length_le (by rw [HR.out]; omega)] at he
      exact ⟨ret_int he.symm, _, rfl⟩
set_option maxHeartbeats 800000 in
theorem sumOf_any (A : Option Addr) (c : Nat) (x : List Int) (w : World) (hx : RdL (Value.int .i64) w A x) (hn : x.length ≤ 4096) (hbd : ∀ y ∈ x, -1000000000000 ≤ y ∧ y ≤ 1000000000000) :
    Calls Try.prog 87 #[.slice A x.length c] w fun e w' => e = .returned (.int .i64 x.sum) ∧ w = w' := by
  have HX := hid hx
  have HSB := hid (sum_bound (l := x) (M := 1000000000000) (by omega) hbd)
  have HBD := hid hbd
  clear hx hbd
  go_enter Try.func87, Try.ntmps87
  go_wp2
  go_loop [3, 8] (fun v j => ∃ k : Nat, k ≤ x.length ∧ j = .int .i64 k ∧ ∃ z : Int, v = .int .i64 z ∧ Hid ((x.take k).sum = z)) (fun _ j => x.length - (intOf j).toNat)
  case atStart => exact ⟨0, Nat.zero_le _, rfl, 0, rfl, by show (x.take 0).sum = 0; simp⟩
  case round =>
    obtain ⟨k, hk, rfl, z, rfl, hh⟩ := hrel
    by_cases hlt : k < x.length
    · have hi' : (k : Int) < (x.length : Int) := by omega
      obtain ⟨b, o, y, rfl, hcy, hym⟩ := HX.out.at_ hlt
      have he : Hid ((x.take (k + 1)).sum = z + y) := by rw [sum_snoc hym, hh.out]; rfl
      have hyb := HBD.out y (List.mem_of_getElem? hym.out)
      have hzb := HSB.out k
      rw [hh.out] at hzb
      go_wp2
      exact ⟨⟨k + 1, by omega, by go_num, _, rfl, he⟩, by simp [intOf]; omega⟩
    · have hi' : ¬ (k : Int) < (x.length : Int) := by omega
      go_wp2
      go_ret
      have he := hh.out
      rw [List.take_of_length_le (by omega)] at he
      exact ⟨ret_int he.symm, rfl⟩
theorem sumOf_any' (A : Option Addr) (n c : Nat) (x : List Int) (w : World) (hl : Hid (x.length = n)) (hx : RdL (Value.int .i64) w A x) (hn : n ≤ 4096) (hbd : ∀ y ∈ x, -1000000000000 ≤ y ∧ y ≤ 1000000000000) :
    Calls Try.prog 87 #[.slice A n c] w fun e w' => e = .returned (.int .i64 x.sum) ∧ w = w' := by
  obtain rfl := hl.out
  exact sumOf_any A c x w hx hn hbd
set_option maxHeartbeats 800000 in
theorem irow_any (wd dp s i n c b o : Nat) (w : World) (hw1 : 2 ≤ wd) (hw2 : wd ≤ 64) (hi : i < dp) (hd2 : dp ≤ 6) (hl : n = wd * dp) (hc : n ≤ c) (hc2 : c ≤ 1048576) :
    Calls Try.prog 79 #[.agg #[.int .i64 wd, .int .i64 dp, .int .i64 s, .slice (some ⟨b, o, none⟩) n c], .int .i64 i] w fun e w' => ∃ c', e = .returned (.slice (some ⟨b, o + i * wd, none⟩) wd c') ∧ wd ≤ c' ∧ Below w.heap.size w w' := by
  have hm := mul_le6 (show i ≤ 6 by omega) hw2
  have hm2 := mul_le6 (show i + 1 ≤ 6 by omega) hw2
  have h2 : (i + 1) * wd ≤ dp * wd := Nat.mul_le_mul_right wd hi
  rw [Nat.mul_comm dp wd, ← hl] at h2
  have e0 : ((i : Int) + 1) * (wd : Int) = (i : Int) * (wd : Int) + (wd : Int) := by rw [Int.add_mul, Int.one_mul]
  have ec : ((i * wd : Nat) : Int) = (i : Int) * (wd : Int) := Int.natCast_mul _ _
  have ed : (i + 1) * wd = i * wd + wd := by rw [Nat.add_mul, Nat.one_mul]
  have h5 : 0 ≤ (i : Int) * (wd : Int) + (wd : Int) ∧ (i : Int) * (wd : Int) + (wd : Int) ≤ (c : Int) := by rw [ed] at h2; omega
  have hne : ¬ c = i * wd := by rw [ed] at h2; omega
  have hlast : wd ≤ c - i * wd := by rw [ed] at h2; omega
  clear hl ed h2 hm2 ec
  go_enter Try.func79, Try.ntmps79
  go_wp2
  go_ret
  exact ⟨_, ret_slice (by omega), hlast, below_a1 _ _⟩

/-- What CellsTotal returns. -/
def pCellsTotal (a0 a1 a2 : Int) (x : List Int) : Int × Bool := if vCells a0 a1 a2 x = true then ((rowL x a0.toNat 0).sum, true) else (0, false)
end Go.Proofs.Ytbodfepfapjikaa
