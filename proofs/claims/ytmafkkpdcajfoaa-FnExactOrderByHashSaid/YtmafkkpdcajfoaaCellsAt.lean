/-
  The least cell of a key, and the cells of a key: reference and program, by contracts.
-/
import Derived.Test.YtmafkkpdcajfoaaCellPlace
namespace Go.Proofs.Ytmafkkpdcajfoaa
open Go.RowKit
set_option linter.unusedVariables false

theorem quiet_moreN {P : Program} {f : FuncId} {args : Array Value} {w : World} {a n : Nat} {v : Value}
    (h : Calls P f args (w.drewN (a + n)) fun e w' => e = .returned v ∧ ∃ m, w' = (w.drewN (a + n)).drewN m) : Calls P f args (w.drewN (a + n)) fun e w'' => e = .returned v ∧ ∃ m, w'' = w.drewN (a + m) :=
  h.mono fun _ _ ⟨he, m, hm⟩ => ⟨he, n + m, by rw [hm, World.drewN_drewN, Nat.add_assoc]⟩
theorem vCells_iff {a0 a1 a2 : Int} {x : List Int} (h : vCells a0 a1 a2 x = true) : (2 ≤ a0 ∧ a0 ≤ 64) ∧ (1 ≤ a1 ∧ a1 ≤ 6) ∧ (0 ≤ a2 ∧ a2 ≤ 4294967295) ∧ (x.length : Int) = a0 * a1 ∧ ∀ y ∈ x, -1000000000000 ≤ y ∧ y ≤ 1000000000000 := by
  simp only [vCells, Bool.and_eq_true, decide_eq_true_eq, inB_iff] at h
  refine ⟨h.1.1.1.1, h.1.1.1.2, h.1.1.2, h.1.2, fun y hy => ?_⟩
  have := h.2
  unfold allB at this
  rw [List.all_eq_true] at this
  exact inB_iff.1 (this y hy)

/-- The least one of the cells at the listed places, and of M. -/
def minAtM (M : Int) (x : List Int) (l : List Int) : Int := l.foldl (fun a p => min a (x.getD p.toNat 0)) M
theorem minAtM_snoc {M : Int} {x l : List Int} {k m : Nat} {y : Int} (hl : Hid (l[k]? = some (m : Int))) (hx : Hid (x[m]? = some y)) : minAtM M x (l.take (k + 1)) = min (minAtM M x (l.take k)) y := by
  unfold minAtM
  rw [List.take_add_one, hl.out]
  simp only [Option.toList_some, List.foldl_append, List.foldl_cons, List.foldl_nil, Int.toNat_natCast]
  rw [List.getD_eq_getElem?_getD, hx.out]; rfl
theorem cellsL_at {wd s key dp k : Nat} (h : k < dp) : (cellsL wd s key dp)[k]? = some (placeN wd s key k : Int) := by simp [cellsL, h]

theorem l00Min_any' (a b : Int) (w : World) : Calls Try.prog 49 #[.int .i64 a, .int .i64 b] w fun e w' => e = .returned (.int .i64 (min a b)) ∧ w = w' := by
  by_cases h : a < b <;>
  · go_enter Try.func49, Try.ntmps49
    go_wp2
    go_ret
    exact ⟨ret_int (by omega), rfl⟩
set_option maxRecDepth 100000 in
set_option maxHeartbeats 1600000 in
theorem l03At_any (p wd dp s key c : Nat) (A : Option Addr) (x : List Int) (w : World) (h0 : w.cell? ⟨p, 0, none⟩ = some (.int .i64 wd)) (h1 : w.cell? ⟨p, 1, none⟩ = some (.int .i64 dp)) (h2 : w.cell? ⟨p, 2, none⟩ = some (.int .i64 s)) (h3 : w.cell? ⟨p, 3, none⟩ = some (.slice A x.length c))
    (hx : RdL (Value.int .i64) w A x) (hw1 : 2 ≤ wd) (hw2 : wd ≤ 64) (hd1 : 1 ≤ dp) (hd2 : dp ≤ 6) (hs : s < 4294967296) (hk : key < 4294967296) (hl : x.length = wd * dp) (hbd : ∀ y ∈ x, y ≤ 1000000000000) :
    Calls Try.prog 30 #[.pointer (some ⟨p, 0, none⟩), .int .i64 key] w fun e w' => e = .returned (.int .i64 (minAtM 1000000000000 x (cellsL wd s key dp))) ∧ ∃ n, w' = w.drewN n := by
  have HX := hid hx
  have HBD := hid hbd
  have HL := hid hl
  clear hx hbd hl
  have hlt0 : placeN wd s key 0 < x.length := by rw [HL.out]; exact placeN_lt (by omega) (by omega)
  have hlx : x.length ≤ 384 := by rw [HL.out]; have := Nat.mul_le_mul hw2 hd2; omega
  obtain ⟨b, o, y0, rfl, hy0, hym0⟩ := HX.out.at_ hlt0
  have hi0 : (placeN wd s key 0 : Int) < (x.length : Int) := by omega
  have hi0' : (0 : Int) ≤ (placeN wd s key 0 : Int) := by omega
  have hv1 : Hid (minAtM 1000000000000 x ((cellsL wd s key dp).take 1) = y0) := by
    show minAtM 1000000000000 x ((cellsL wd s key dp).take (0 + 1)) = y0
    rw [minAtM_snoc (cellsL_at (by omega)) hym0]
    have := HBD.out y0 (List.mem_of_getElem? hym0.out)
    simp only [List.take_zero, minAtM, List.foldl_nil]
    omega
  go_enter Try.func30, Try.ntmps30
  go_wp2
  go_quiet ((go_at_call 48; exact Calls.quiet_of (l03Place_any _ wd s key 0 _ (by simpa using h0) (by simpa using h2) hw1 hw2 hs hk (by omega))))
  go_wp2
  go_loopw [5, 6] (fun v i wr => ∃ k n : Nat, 1 ≤ k ∧ k ≤ dp ∧ i = .int .i64 k ∧ wr = w.drewN n ∧ ∃ z : Int, v = .int .i64 z ∧ Hid (minAtM 1000000000000 x ((cellsL wd s key dp).take k) = z)) (fun _ i _ => dp - (intOf i).toNat)
  case atStart => exact ⟨1, _, Nat.le_refl _, by omega, rfl, rfl, y0, rfl, hv1⟩
  case round =>
    obtain ⟨k, n, hk1', hkr, rfl, rfl, z, rfl, hh⟩ := hrel
    by_cases hlt : k < dp
    · have hi : (k : Int) < (dp : Int) := by omega
      have hltk : placeN wd s key k < x.length := by rw [HL.out]; exact placeN_lt (by omega) hlt
      obtain ⟨b', o', y, hA', hcy, hym⟩ := HX.out.at_ hltk
      obtain ⟨rfl, rfl⟩ : b = b' ∧ o = o' := by injection hA' with hA'; injection hA' with h1 h2; exact ⟨h1, h2⟩
      have hik : (placeN wd s key k : Int) < (x.length : Int) := by omega
      have hik' : (0 : Int) ≤ (placeN wd s key k : Int) := by omega
      have he : Hid (minAtM 1000000000000 x ((cellsL wd s key dp).take (k + 1)) = min z y) := by rw [minAtM_snoc (cellsL_at hlt) hym, hh.out]; rfl
      clear hA'
      go_wp2
      go_quiet ((first | (go_at_call 48; exact quiet_moreN (l03Place_any _ wd s key k _ (by simpa using h0) (by simpa using h2) hw1 hw2 hs hk (by omega))) | (go_at_call 49; exact quiet_more (l00Min_any' _ _ _))))
      go_wp2
      exact ⟨⟨k + 1, _, by omega, by omega, by go_num, rfl, _, rfl, he⟩, by simp [intOf]; omega⟩
    · have hi : ¬ (k : Int) < (dp : Int) := by omega
      go_wp2
      go_ret
      have he := hh.out
      rw [List.take_of_length_le (by rw [cellsL_length]; omega)] at he
      exact ⟨ret_int he.symm, _, rfl⟩
set_option maxRecDepth 100000 in
set_option maxHeartbeats 1600000 in
theorem iat_any (wd dp s key c : Nat) (A : Option Addr) (x : List Int) (w : World)
    (hx : RdL (Value.int .i64) w A x) (hw1 : 2 ≤ wd) (hw2 : wd ≤ 64) (hd1 : 1 ≤ dp) (hd2 : dp ≤ 6) (hs : s < 4294967296) (hk : key < 4294967296) (hl : x.length = wd * dp) :
    Calls Try.prog 31 #[.agg #[.int .i64 wd, .int .i64 dp, .int .i64 s, .slice A x.length c], .int .i64 key] w fun e w' => e = .returned (.int .i64 (minAtM 1000000000000 x (cellsL wd s key dp))) ∧ Below w.heap.size w w' := by
  have HX := hid hx
  have hlx : x.length ≤ 384 := by rw [hl]; have := Nat.mul_le_mul hw2 hd2; omega
  have HL := hid hl
  clear hx hl
  have b0 := hid (Blk.new w 46 [.int .i64 wd, .int .i64 dp, .int .i64 s, .slice A x.length c])
  go_enter Try.func31, Try.ntmps31
  go_wp2_with fail
  refine (places_any wd dp s key x.length c A _ hw1 hw2 hd2 hs hk).mono ?_
  rintro e w1 ⟨A1, c1, rfl, ho, hb⟩
  have HO := hid ho.rd
  have S1 := below_call (below_a1 _ _) hb
  have HX1 := hid (HX.out.below S1.out)
  obtain ⟨c0, c2, c4, c3⟩ := (b0.out.below hb).cells4
  have hPl := cellsL_length wd s key dp
  obtain ⟨P, hP⟩ : ∃ P, P = cellsL wd s key dp := ⟨_, rfl⟩
  have hmem : Hid (∀ p ∈ P, ∃ m : Nat, p = m ∧ m < x.length) := fun p hp' => by rw [HL.out]; exact cellsL_mem (by omega) (hP ▸ hp')
  rw [← hP] at hPl HO ⊢
  have HP := hid hP
  clear ho hb hP c0 c2 c4 b0
  have HPl := hid hPl
  have hP8 : P.length ≤ 8 := by omega
  clear hPl
  go_wp2
  go_loop [5, 12] (fun v i => ∃ k : Nat, k ≤ P.length ∧ i = .int .i64 k ∧ ∃ z : Int, v = .int .i64 z ∧ Hid (minAtM 1000000000000 x (P.take k) = z)) (fun _ i => P.length - (intOf i).toNat)
  case atStart => exact ⟨0, Nat.zero_le _, rfl, _, rfl, rfl⟩
  case round =>
    obtain ⟨k, hkr, rfl, z, rfl, hh⟩ := hrel
    by_cases hlt : k < P.length
    · have hi : (k : Int) < (P.length : Int) := by omega
      obtain ⟨b1, o1, p, rfl, hcp, hpk⟩ := HO.out.at_ hlt
      obtain ⟨m, rfl, hm⟩ := hmem.out p (List.mem_of_getElem? hpk.out)
      obtain ⟨b, o, y, rfl, hcy, hym⟩ := HX1.out.at_ hm
      have hm' : (m : Int) < (x.length : Int) := by omega
      have hm0 : (0 : Int) ≤ (m : Int) := by omega
      have he : Hid (minAtM 1000000000000 x (P.take (k + 1)) = min z y) := by rw [minAtM_snoc hpk hym, hh.out]; rfl
      by_cases hzy : z ≤ y
      · rw [show min z y = z by omega] at he
        go_wp2
        exact ⟨⟨k + 1, by omega, by go_num, _, rfl, he⟩, by simp [intOf]; omega⟩
      · have he2 : Hid (minAtM 1000000000000 x (P.take (k + 1)) = y) := by rw [he.out]; show min z y = y; omega
        go_wp2
        exact ⟨⟨k + 1, by omega, by go_num, _, rfl, he2⟩, by simp [intOf]; omega⟩
    · have hi : ¬ (k : Int) < (P.length : Int) := by omega
      go_wp2
      go_ret
      have he := hh.out
      rw [List.take_of_length_le (by omega)] at he
      exact ⟨ret_int (by rw [← HP.out, he]), S1.out⟩
end Go.Proofs.Ytmafkkpdcajfoaa
