/-
  Signed and careful numbers put to the cells of a key: reference and program, by contracts. Printed by gen_putlike.py.
-/
import Derived.Test.YtbodfepfapjikaaPutCells
import Derived.Test.YtbodfepfapjikaaStepL
import Derived.Test.YtbodfepfapjikaaCellsAt
import Derived.Deep.RegionLaw
namespace Go.Proofs.Ytbodfepfapjikaa
open Go.RowKit
set_option linter.unusedVariables false
set_option linter.unusedSimpArgs false

/-- The sign of a key. -/
def signN (key salt : Nat) : Int := if hashN key salt < 2147483648 then 1 else -1
theorem signN_or (key salt : Nat) : signN key salt = 1 ∨ signN key salt = -1 := by unfold signN; split <;> simp
/-- A number with the sign of a row. -/
def fSig (key s : Nat) (by_ : Int) (k : Nat) (u : Int) : Int := u + by_ * signN key (saltN s (1000 + k))
/-- No less than a goal. -/
def fCar (goal : Int) (_ : Nat) (u : Int) : Int := max u goal
theorem fSig_bound {key s : Nat} {by_ lo hi : Int} (h : -1000000 ≤ by_ ∧ by_ ≤ 1000000) (k : Nat) (u : Int) : fSig key s by_ k u ≤ max u hi + 1000000 ∧ min u lo - 1000000 ≤ fSig key s by_ k u := by
  unfold fSig
  rcases signN_or key (saltN s (1000 + k)) with e | e <;> rw [e] <;> omega
theorem fCar_bound {goal lo hi : Int} (h : goal ≤ hi + 1000000) (k : Nat) (u : Int) : fCar goal k u ≤ max u hi + 1000000 ∧ min u lo - 1000000 ≤ fCar goal k u := by
  unfold fCar
  omega
theorem minAtM_le (M : Int) (x l : List Int) : minAtM M x l ≤ M := by
  unfold minAtM
  induction l generalizing M with
  | nil => exact Int.le_refl _
  | cons a l ih => exact Int.le_trans (ih _) (Int.min_le_left _ _)
theorem minAtM_ge {lo M : Int} {x l : List Int} (hM : lo ≤ M) (h0 : lo ≤ 0) (hx : ∀ y ∈ x, lo ≤ y) : lo ≤ minAtM M x l := by
  unfold minAtM
  induction l generalizing M with
  | nil => exact hM
  | cons a l ih =>
    refine ih ?_
    have : lo ≤ x.getD a.toNat 0 := by
      rw [List.getD_eq_getElem?_getD]
      by_cases hl : a.toNat < x.length
      · rw [List.getElem?_eq_getElem hl, Option.getD_some]; exact hx _ (List.getElem_mem _)
      · rw [List.getElem?_eq_none (by omega)]; exact h0
    show lo ≤ min M (x.getD a.toNat 0)
    omega
/-- What PutSigned returns. -/
def pPutSigned (a0 a1 a2 : Int) (x : List Int) (key by_ : Int) : (Int × Int × Int × List Int) × Bool :=
  if (vCells a0 a1 a2 x && inB key 0 4294967295 && inB by_ (-1000000) 1000000) = true then giveP a0 a1 a2 (stepL (fSig key.toNat a2.toNat by_) x (cellsL a0.toNat a2.toNat key.toNat a1.toNat) a1.toNat) else ((0, 0, 0, []), false)
/-- What PutCareful returns. -/
def pPutCareful (a0 a1 a2 : Int) (x : List Int) (key by_ : Int) : (Int × Int × Int × List Int) × Bool :=
  if (vCells a0 a1 a2 x && inB key 0 4294967295 && inB by_ 0 1000000) = true then giveP a0 a1 a2 (stepL (fCar (minAtM 1000000000000 x (cellsL a0.toNat a2.toNat key.toNat a1.toNat) + by_)) x (cellsL a0.toNat a2.toNat key.toNat a1.toNat) a1.toNat) else ((0, 0, 0, []), false)
theorem cell_below {w w' : World} {a : Addr} {v : Value} (h : w.cell? a = some v) (hb : Below w.heap.size w w') : w'.cell? a = some v := (hb.cell (World.block_lt_of_cell? w a h)).trans h
theorem frozen_below {w w' : World} {a : Addr} {v : Value} {b : Bool} (h : w.cell? a = some v) (hf : w.frozen? a = b) (hb : Below w.heap.size w w') : w'.frozen? a = b := (hb.frozen (World.block_lt_of_cell? w a h)).trans hf

set_option maxRecDepth 100000 in
theorem l02Sign_any (k s : Nat) (w : World) (hk : k < 4294967296) (hs : s < 4294967296) :
    Calls Try.prog 123 #[.int .i64 k, .int .i64 s] w fun e w' => e = .returned (.int .i64 (signN k s)) ∧ w = w' := by
  have hlt := hashN_lt k s
  obtain ⟨h, hh⟩ : ∃ h, h = hashN k s := ⟨_, rfl⟩
  have HH := hid hh
  rw [← hh] at hlt
  clear hh
  rcases Int.lt_or_le (h : Int) 2147483648 with hc | hc
  · have hv : Hid (signN k s = 1) := by show _ = _; unfold signN; rw [← HH.out, if_pos (by omega)]
    go_enter Try.func123, Try.ntmps123
    go_wp2_with (go_at_call 149; refine (l02Hash_any k s _ hk hs).mono ?_; rw [← HH.out]; rintro e w' ⟨rfl, rfl⟩)
    go_ret
    exact ⟨ret_int hv.out.symm, rfl⟩
  · have hv : Hid (signN k s = -1) := by show _ = _; unfold signN; rw [← HH.out, if_neg (by omega)]
    have hd : decide ((h : Int) < 2147483648) = false := by simp; omega
    clear hc hlt
    go_enter Try.func123, Try.ntmps123
    go_wp2_with (go_at_call 149; refine (l02Hash_any k s _ hk hs).mono ?_; rw [← HH.out]; rintro e w' ⟨rfl, rfl⟩)
    go_ret
    exact ⟨ret_int hv.out.symm, rfl⟩
theorem l02Sign_int (k : Nat) (s : Int) (w : World) (hk : k < 4294967296) (h0 : 0 ≤ s) (hs : s < 4294967296) :
    Calls Try.prog 123 #[.int .i64 k, .int .i64 s] w fun e w' => e = .returned (.int .i64 (signN k s.toNat)) ∧ w = w' := by
  obtain ⟨s, rfl⟩ := Int.eq_ofNat_of_zero_le h0
  exact l02Sign_any k s w hk (by omega)
set_option maxHeartbeats 800000 in
theorem l03Sign_any (p s key i : Nat) (w : World) (h2 : w.cell? ⟨p, 2, none⟩ = some (.int .i64 s)) (hs : s < 4294967296) (hk : key < 4294967296) (hi : i ≤ 6) :
    Calls Try.prog 82 #[.pointer (some ⟨p, 0, none⟩), .int .i64 key, .int .i64 i] w fun e w' => e = .returned (.int .i64 (signN key (saltN s (1000 + i)))) ∧ w = w' := by
  have he : Hid (∀ z : Int, z = ((s : Int) + 1000 + i) % 4294967296 → z.toNat = saltN s (1000 + i)) := fun z hz => by rw [hz]; unfold saltN; omega
  go_enter Try.func82, Try.ntmps82
  go_wp2_with (go_at_call 123; refine (l02Sign_int key _ _ hk (by omega) (by omega)).mono ?_; rw [he.out _ rfl]; rintro e w' ⟨rfl, rfl⟩)
  go_ret
  exact ⟨rfl, rfl⟩
set_option maxRecDepth 100000 in
theorem isign_any (k s : Nat) (w : World) (hk : k < 4294967296) (hs : s < 4294967296) :
    Calls Try.prog 126 #[.int .i64 k, .int .i64 s] w fun e w' => e = .returned (.int .i64 (signN k s)) ∧ w = w' := by
  have hlt := hashN_lt k s
  obtain ⟨h, hh⟩ : ∃ h, h = hashN k s := ⟨_, rfl⟩
  have HH := hid hh
  rw [← hh] at hlt
  clear hh
  rcases Int.lt_or_le (h : Int) 2147483648 with hc | hc
  · have hv : Hid (signN k s = 1) := by show _ = _; unfold signN; rw [← HH.out, if_pos (by omega)]
    go_enter Try.func126, Try.ntmps126
    go_wp2_with (go_at_call 99; refine (ihash_any k s _ hk hs).mono ?_; rw [← HH.out]; rintro e w' ⟨rfl, rfl⟩)
    go_ret
    exact ⟨ret_int hv.out.symm, rfl⟩
  · have hv : Hid (signN k s = -1) := by show _ = _; unfold signN; rw [← HH.out, if_neg (by omega)]
    have hd : decide ((h : Int) < 2147483648) = false := by simp; omega
    clear hc hlt
    go_enter Try.func126, Try.ntmps126
    go_wp2_with (go_at_call 99; refine (ihash_any k s _ hk hs).mono ?_; rw [← HH.out]; rintro e w' ⟨rfl, rfl⟩)
    go_ret
    exact ⟨ret_int hv.out.symm, rfl⟩
theorem salted_int (s : Nat) (k : Int) (w : World) (hs : s < 4294967296) (h0 : 0 ≤ k) (hk : k < 4294967296) :
    Calls Try.prog 125 #[.int .i64 s, .int .i64 k] w fun e w' => e = .returned (.int .i64 (saltN s k.toNat)) ∧ w = w' := by
  obtain ⟨k, rfl⟩ := Int.eq_ofNat_of_zero_le h0
  exact salted_any s k w hs (by omega)
set_option maxHeartbeats 800000 in
theorem rowSign_any (a0 a1 : Int) (s n c key i : Nat) (A : Option Addr) (w : World) (hs : s < 4294967296) (hk : key < 4294967296) (hi : i ≤ 6) :
    Calls Try.prog 84 #[.agg #[.int .i64 a0, .int .i64 a1, .int .i64 s, .slice A n c], .int .i64 key, .int .i64 i] w fun e w' => e = .returned (.int .i64 (signN key (saltN s (1000 + i)))) ∧ Below w.heap.size w w' := by
  have he : Hid (∀ z : Int, z = 1000 + (i : Int) → z.toNat = 1000 + i) := fun z hz => by omega
  have hl := saltN_lt s (1000 + i)
  go_enter Try.func84, Try.ntmps84
  go_wp2_with (first | (go_at_call 125; refine (salted_int s _ _ hs (by omega) (by omega)).mono ?_; rw [he.out _ rfl]; rintro e w' ⟨rfl, rfl⟩) | (go_at_call 126; refine (isign_any key _ _ hk hl).mono ?_; rintro e w' ⟨rfl, rfl⟩))
  go_ret
  exact ⟨rfl, below_a1 _ _⟩
theorem touchAll_refl (w : World) (l : List (Option Addr × Nat)) : TouchAll w w l := ⟨rfl, rfl, rfl, Nat.le_refl _, fun _ _ _ => rfl⟩
theorem touchAll_below {w w' w'' : World} {l : List (Option Addr × Nat)} (h : TouchAll w w' l) (hb : Below w'.heap.size w' w'') : TouchAll w w'' l :=
  ⟨hb.os.trans h.os, hb.tape.trans h.tape, hb.output.trans h.output, Nat.le_trans h.size hb.size, fun b hb' hp => (hb.block b (Nat.lt_of_lt_of_le hb' h.size)).trans (h.block b hb' hp)⟩
theorem touchAll_set {w w' : World} {g n : Nat} (h : TouchAll w w' [(some ⟨g, 0, none⟩, n)]) (hn : 0 < n) (i : Nat) (u : Value) : TouchAll w (w'.setCell ⟨g, i, none⟩ u) [(some ⟨g, 0, none⟩, n)] :=
  h.trans (Touch.refl.set_ hn i u)
set_option maxRecDepth 100000 in
set_option maxHeartbeats 3200000 in
theorem iPutSigned_any (a0 a1 a2 : Int) (A : Option Addr) (c : Nat) (x : List Int) (key by_ : Int) (w : World) (h0 : W64 a0) (h1 : W64 a1) (h2 : W64 a2) (hx : RdL (Value.int .i64) w A x) (hn : x.length ≤ 1048576) (we : ∀ y ∈ x, W64 y) (hkey : W64 key) (hby : W64 by_) :
    Calls Try.prog 54 #[.agg #[.int .i64 a0, .int .i64 a1, .int .i64 a2, .slice A x.length c], .int .i64 key, .int .i64 by_] w (RetCl w (pPutSigned a0 a1 a2 x key by_)) := by
  have HX := hid hx
  have WE := hid we
  have B0 := hid ((Blk.new w 48 [.int .i64 a0, .int .i64 a1, .int .i64 a2, .slice A x.length c]).alloc (.cells #[.int .i64 0, .int .i64 0, .int .i64 0, .slice none 0 0] 48))
  have R0 := hid (Blk.new2 w (.cells #[.int .i64 a0, .int .i64 a1, .int .i64 a2, .slice A x.length c] 48) 48 [.int .i64 0, .int .i64 0, .int .i64 0, .slice none 0 0])
  clear hx we hkey hby
  have key_ : ∀ u v z : Bool, vCells a0 a1 a2 x = u → inB key 0 4294967295 = v → inB by_ (-1000000) 1000000 = z → (u && v && z) = false →
      Calls Try.prog 54 #[.agg #[.int .i64 a0, .int .i64 a1, .int .i64 a2, .slice A x.length c], .int .i64 key, .int .i64 by_] w (RetCl w ((0, 0, 0, []), false)) := by
    intro u v z hu hv hz hno
    refine Calls.mono ?_ retCl_no
    cases u
    case' true =>
      cases v
      case' true => cases z
    all_goals
      first
      | (exfalso; revert hno; decide)
      | (go_enter Try.func54, Try.ntmps54
         go_wp2_with fail
         refine (iValidCells_any a0 a1 a2 A c x _ h0 h1 h2 (HX.out.below (below_a2 _ _ _)) hn WE.out).mono ?_
         rw [hu]
         rintro e w1 ⟨rfl, hb⟩
         obtain ⟨d0, d1, d2, d3⟩ := (R0.out.below hb).cells4
         have f0 := (R0.out.below hb).frozen 0
         have f1 := (R0.out.below hb).frozen 1
         have f2 := (R0.out.below hb).frozen 2
         have f3 := (R0.out.below hb).frozen 3
         have S1 := below_call (below_a2 _ _ _) hb
         clear hb B0 R0 hu hno
         go_wp2_with (first | (go_at_call 67; refine (within_any _ _ _ _).mono ?_; rintro e w' ⟨rfl, rfl⟩) | (go_at_call 72; refine (IsKey_any _ _).mono ?_; rintro e w' ⟨rfl, rfl⟩))
         refine bodyPost_ret (v := .tuple #[.agg #[.int .i64 0, .int .i64 0, .int .i64 0, .slice none 0 0], .bool false]) (by simp [results, Try.results54, go_sem, d0, d1, d2, d3]) rfl ⟨rfl, ?_⟩
         exact (((S1.out.setCell (by simp) _).setCell (by simp) _).setCell (by simp) _).setCell (by simp) _)
  cases hgo : (vCells a0 a1 a2 x && inB key 0 4294967295 && inB by_ (-1000000) 1000000) with
  | false =>
    have hp : pPutSigned a0 a1 a2 x key by_ = ((0, 0, 0, []), false) := by simp only [pPutSigned, hgo]; rfl
    rw [hp]
    exact key_ _ _ _ rfl rfl rfl hgo
  | true =>
  have hp : pPutSigned a0 a1 a2 x key by_ = giveP a0 a1 a2 (stepL (fSig key.toNat a2.toNat by_) x (cellsL a0.toNat a2.toNat key.toNat a1.toNat) a1.toNat) := by simp only [pPutSigned, hgo]; rfl
  rw [hp]
  simp only [Bool.and_eq_true] at hgo
  obtain ⟨⟨hv, hk⟩, hby⟩ := hgo
  obtain ⟨⟨hw1, hw2⟩, ⟨hd1, hd2⟩, ⟨hs1, hs2⟩, hl, hbd⟩ := vCells_iff' hv
  obtain ⟨hk1, hk2⟩ := inB_iff.1 hk
  obtain ⟨hby1, hby2⟩ := inB_iff.1 hby
  obtain ⟨wd, rfl⟩ := Int.eq_ofNat_of_zero_le (show 0 ≤ a0 by omega)
  obtain ⟨dp, rfl⟩ := Int.eq_ofNat_of_zero_le (show 0 ≤ a1 by omega)
  obtain ⟨s, rfl⟩ := Int.eq_ofNat_of_zero_le hs1
  obtain ⟨key, rfl⟩ := Int.eq_ofNat_of_zero_le hk1
  simp only [Int.toNat_natCast] at hp ⊢
  have hl' : x.length = wd * dp := by rw [← Int.natCast_mul] at hl; omega
  have HL := hid hl'
  have hlx : x.length ≤ 384 := by rw [hl']; have := Nat.mul_le_mul (show wd ≤ 64 by omega) (show dp ≤ 6 by omega); omega
  have hlp : 0 < x.length := by rw [hl']; exact Nat.mul_pos (by omega) (by omega)
  have HBD := hid hbd
  have HV := hid hv
  clear hl hl' hbd hp hv key_
  have hFb : ∀ k u, (fSig key s by_) k u ≤ max u 1000000000000 + 1000000 ∧ min u (-1000000000000) - 1000000 ≤ (fSig key s by_) k u := fSig_bound ⟨hby1, hby2⟩
  have HFB := hid (stepL_bound (l := cellsL wd s key dp) HBD.out (by omega) hFb)
  obtain ⟨F, hF⟩ : ∃ F, F = fSig key s by_ := ⟨_, rfl⟩
  have HF := hid hF
  rw [← hF] at HFB ⊢
  clear hFb hF
  go_enter Try.func54, Try.ntmps54
  go_wp2_with fail
  refine (iValidCells_any wd dp s A c x _ h0 h1 h2 (HX.out.below (below_a2 _ _ _)) hn WE.out).mono ?_
  rw [HV.out]
  rintro e w1 ⟨rfl, hb⟩
  have B1 := hid (B0.out.below hb)
  have R1 := hid (R0.out.below hb)
  have S1 := below_call (below_a2 _ _ _) hb
  have hl1 : w.heap.size + 2 ≤ w1.heap.size := by have := hb.size; simp at this; omega
  clear hb B0 R0
  obtain ⟨k0, k1, k2, k3⟩ := B1.out.cells4
  go_wp2_with (first | (go_at_call 67; refine (within_any _ _ _ _).mono ?_; rintro e w' ⟨rfl, rfl⟩) | (go_at_call 72; refine (IsKey_any _ _).mono ?_; rintro e w' ⟨rfl, rfl⟩))
  refine (copyCells_any wd dp s A c x _ (HX.out.below S1.out) hn).mono ?_
  rintro e w2 ⟨A1, c1, rfl, ho, hb⟩
  clear k0 k1 k2 k3 hk hby
  have ho' : OwnS (Value.int .i64) w2 (w.heap.size + 2) 2 A1 x := ho.mono hl1
  obtain ⟨g, ex, rfl, hgB, hgb⟩ := ho' (by rintro rfl; simp at hlp)
  have hgl := hgb.lt
  have hl2 := hb.size
  obtain ⟨wq, hwc⟩ : ∃ wq, wq = w2.alloc (.cells #[.int .i64 wd, .int .i64 dp, .int .i64 s, .slice (some ⟨g, 0, none⟩) x.length c1] 48) := ⟨_, rfl⟩
  obtain ⟨q, hq⟩ : ∃ q, q = w2.heap.size := ⟨_, rfl⟩
  have HQ : Hid (Blk wq q 48 [.int .i64 wd, .int .i64 dp, .int .i64 s, .slice (some ⟨g, 0, none⟩) x.length c1]) := by rw [hwc, hq]; exact Blk.new _ _ _
  have HO : Hid (OwnS (Value.int .i64) wq (w.heap.size + 2) 2 (some ⟨g, 0, none⟩) x) := by rw [hwc]; exact ho'.below (below_a1 _ _)
  have S2 : Hid (Below w.heap.size w wq) := by rw [hwc]; exact (S1.out.trans (hb.mono (by omega))).alloc (by omega) _
  have B2 : Hid (Blk wq w.heap.size 48 [.int .i64 wd, .int .i64 dp, .int .i64 s, .slice A x.length c]) := by rw [hwc]; exact (B1.out.below hb).below (below_a1 _ _)
  have R2 : Hid (Blk wq (w.heap.size + 1) 48 [.int .i64 0, .int .i64 0, .int .i64 0, .slice none 0 0]) := by rw [hwc]; exact (R1.out.below hb).below (below_a1 _ _)
  have X2 : Hid (RdL (Value.int .i64) wq A x) := HX.out.below S2.out
  have hszq : wq.heap.size = q + 1 := by rw [hwc, hq]; simp
  have hgq : g ≠ q := by omega
  have hqg := Ne.symm hgq
  have hgw : g ≠ w.heap.size := by omega
  have hwg := Ne.symm hgw
  clear hgb hb ho ho' R1 B1
  go_wp2_with fail
  rw [← hwc, ← hq]
  clear hwc hq
  refine (places_any wd dp s key x.length c1 _ _ (by omega) (by omega) (by omega) (by omega) (by omega)).mono ?_
  rintro e w3 ⟨A3, c3, rfl, hoP, hbP⟩
  have HP := hid hoP
  have O3 := hid (HO.out.below hbP)
  have Q3 := hid (HQ.out.below hbP)
  have R3 := hid (R2.out.below hbP)
  have S3 : Hid (Below w.heap.size w w3) := S2.out.trans (hbP.mono S2.out.size)
  have hl3 : wq.heap.size ≤ w3.heap.size := hbP.size
  have HA := hid (OwnS.apart_lt HO.out hoP (Nat.le_refl _))
  have hPl := cellsL_length wd s key dp
  have hmem : Hid (∀ p ∈ cellsL wd s key dp, ∃ m : Nat, p = m ∧ m < x.length) := fun p hp' => by rw [HL.out]; exact cellsL_mem (by omega) hp'
  obtain ⟨P, hPe⟩ : ∃ P, P = cellsL wd s key dp := ⟨_, rfl⟩
  rw [← hPe] at HA HP hPl hmem HFB ⊢
  have hP8 : P.length ≤ 6 := by omega
  have HPe := hid hPe
  clear hPe hoP hbP
  go_wp2
  go_loopw [9, 10, 31] (fun ia ib j wi => ∃ m : Nat, m ≤ P.length ∧ j = .int .i64 m ∧ Hid (OwnS (Value.int .i64) wi (w.heap.size + 2) 2 (some ⟨g, 0, none⟩) (stepL F x P m)) ∧ Hid (TouchAll w3 wi [(some ⟨g, 0, none⟩, x.length)])) (fun ia ib j _ => P.length - (intOf j).toNat)
  case atStart => exact ⟨0, Nat.zero_le _, rfl, O3, touchAll_refl _ _⟩
  case round =>
    obtain ⟨m, hmr, rfl, hom, hTm⟩ := hrel
    have hszr : w3.heap.size ≤ wr.heap.size := hTm.out.size
    have QR := hid (Q3.out.touchAll hTm.out (by intro p hp; simp at hp; subst hp; exact .inr fun o e => by injection e with e; injection e with e; omega))
    by_cases hlm : m < P.length
    · have him : (m : Int) < (P.length : Int) := by omega
      obtain ⟨b3, o3, p, rfl, hcp, hpk⟩ := (HP.out.touchAll hTm.out (by intro p hp; simp at hp; subst hp; exact HA.out)).rd.at_ hlm
      obtain ⟨n, rfl, hnx⟩ := hmem.out p (List.mem_of_getElem? hpk.out)
      have hlen := stepL_length F x P m
      obtain ⟨g', u, hg', hgB', hcy, hfy, hym, hput⟩ := hom.out.put (j := n) (by omega)
      injection hg' with hg'; injection hg' with hg'
      subst hg'
      have hbu := HFB.out m u (List.mem_of_getElem? hym.out)
      obtain ⟨q0, q1, q2, q3⟩ := QR.out.cells4
      have hn' : (n : Int) < (x.length : Int) := by omega
      have hn0 : (0 : Int) ≤ (n : Int) := by omega
      have hub1 : -1000006000000 ≤ u := by omega
      have hub2 : u ≤ 1000006000000 := by omega
      have hFk : F m u = u + by_ * signN key (saltN s (1000 + m)) := by rw [HF.out]; rfl
      have hszm : wr.heap.size ≤ wr.heap.size := Nat.le_refl _
      rcases signN_or key (saltN s (1000 + m)) with hsg | hsg
      all_goals
        have HSG := hid hsg
        rw [hsg] at hFk
        clear hsg
        have v1 : IntKind.i64.wrap (by_ * 1) = by_ := by rw [IntKind.wrap_i64]; omega
        have v2 : IntKind.i64.wrap (by_ * -1) = -by_ := by rw [IntKind.wrap_i64]; omega
        have v3 : IntKind.i64.wrap (u + by_) = u + by_ := by rw [IntKind.wrap_i64]; omega
        have v4 : IntKind.i64.wrap (u + -by_) = u + -by_ := by rw [IntKind.wrap_i64]; omega
        have v5 : IntKind.i64.wrap by_ = by_ := by rw [IntKind.wrap_i64]; omega
        have v6 : IntKind.i64.wrap (-by_) = -by_ := by rw [IntKind.wrap_i64]; omega
        have v7 : IntKind.i64.wrap (u - by_) = u + -by_ := by rw [IntKind.wrap_i64]; omega
        simp only [Int.mul_one, Int.mul_neg] at hFk
        have HFk := hid hFk
        clear hput hlen hgB' hbu hFk
        go_wp2
        go_region_law (first
          | (go_simp
             go_at_call 84
             refine (rowSign_any wd dp s x.length c1 key m _ _ (by omega) (by omega) (by omega)).mono ?_
             rw [HSG.out]
             rintro e w1 ⟨rfl, hbb⟩
             have hbb := below_drew' hbb
             obtain ⟨p0, p1, p2, p3⟩ := (QR.out.below hbb).cells4
             have hcy1 := cell_below hcy hbb
             have hfy1 := frozen_below hcy hfy hbb
             have hO1 := hid (hom.out.below hbb)
             have hT1 := hid (touchAll_below hTm.out hbb)
             clear hbb))
        all_goals
          obtain ⟨g2, u2, hg2, _, hc2, _, hy2, hput2⟩ := hO1.out.put (j := n) (by rw [stepL_length]; omega)
          injection hg2 with hg2; injection hg2 with hg2
          subst hg2
          obtain rfl : u2 = u := by have h1 := hy2.out; rw [hym.out] at h1; injection h1 with h1; exact h1.symm
          have hO2 := hput2 (F m u2)
          rw [stepL_succ hpk hym, HFk.out] at hO2
          have hT2 := hid (touchAll_set hT1.out (show 0 < x.length by omega) n (.int .i64 (F m u2)))
          rw [HFk.out] at hT2
          go_wp2
          exact ⟨⟨m + 1, by omega, by go_num, hO2, hT2⟩, by simp [intOf]; omega⟩
    · obtain rfl : m = P.length := by omega
      have him : ¬ (P.length : Int) < (P.length : Int) := by omega
      have R4 := hid (R3.out.touchAll hTm.out (by intro p hp; simp at hp; subst hp; exact .inr fun o e => by injection e with e; injection e with e; omega))
      have hw3 : w.heap.size ≤ w3.heap.size := S3.out.size
      have hgB3 : w.heap.size ≤ g := by omega
      have S4 : Hid (Below w.heap.size w wr) := S3.out.trans (hTm.out.below1 (B := w.heap.size) hw3 hgB3)
      clear HP hmem HA
      clear Q3 R3 S3 O3 hl3
      have Q3 := QR
      have R3 := R4
      have S3 := S4
      have O3 := hom
      have hl3 : w.heap.size + 2 ≤ wr.heap.size := by have := R3.out.lt; omega
      have hyl : (stepL F x P P.length).length = x.length := stepL_length _ _ _ _
      have HYL := hid hyl
      have HBU : Hid (∀ y ∈ stepL F x P P.length, W64 y) := fun y hy => by
        have h1 := HFB.out P.length y hy
        exact w64_of_bounds (by omega)
      clear hyl
      obtain ⟨c0, c1', c2, c3⟩ := Q3.out.cells4
      go_wp2_with fail
      refine (ifCells_any wd dp s _ x.length c1 (stepL F x P P.length) _ h0 h1 h2 HYL.out O3.out.rd hn HBU.out).mono ?_
      rintro e w4 ⟨b0, b1, b2, A', n', c', t, rfl, hG, hb⟩
      have S4 := hid (S3.out.trans (hb.mono S3.out.size))
      have O4 := hid (O3.out.below hb)
      obtain ⟨d0, d1, d2, d3⟩ := (R3.out.below hb).cells4
      have f0 := (R3.out.below hb).frozen 0
      have f1 := (R3.out.below hb).frozen 1
      have f2 := (R3.out.below hb).frozen 2
      have f3 := (R3.out.below hb).frozen 3
      clear hb c0 c1' c2 c3 Q3 R3 O3
      go_wp2
      have hPP := HPe.out
      clear HPe
      subst hPP
      rw [cellsL_length] at hG O4 HYL
      refine bodyPost_ret (v := .tuple #[.agg #[.int .i64 b0, .int .i64 b1, .int .i64 b2, .slice A' n' c'], .bool t]) (by simp [results, Try.results54, go_sem, d0, d1, d2, d3]) rfl (retCl_give hG.out ?_ HYL.out hn ?_)
      · exact ((((O4.out.setFar (by simp <;> omega) _).setFar (by simp <;> omega) _).setFar (by simp <;> omega) _).setFar (by simp <;> omega) _).mono (by omega)
      · exact (((S4.out.setCell (by simp <;> omega) _).setCell (by simp <;> omega) _).setCell (by simp <;> omega) _).setCell (by simp <;> omega) _
end Go.Proofs.Ytbodfepfapjikaa
