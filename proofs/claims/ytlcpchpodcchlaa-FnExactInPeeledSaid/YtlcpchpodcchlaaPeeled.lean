/-
  Whether a key is in cells that were peeled: reference and program, by contracts.
-/
import Derived.Test.YtlcpchpodcchlaaHash
import Derived.Test.YtlcpchpodcchlaaRet
import Derived.Test.YtlcpchpodcchlaaWithin
import Derived.Deep.RegionHeld3
namespace Go.Proofs.Ytlcpchpodcchlaa
open Go.RowKit
set_option linter.unusedVariables false
set_option linter.unusedSimpArgs false

/-- The cell of a key in third i. -/
def thirdN (key salt z i : Nat) : Nat := i * z + belowN key (saltN salt i) z
theorem thirdN_lt {key salt z i n : Nat} (hz : 0 < z) (hi : i < 3) (hn : n = 3 * z) : thirdN key salt z i < n := by
  have h1 := belowN_lt key (saltN salt i) z hz
  unfold thirdN
  rcases (show i = 0 ∨ i = 1 ∨ i = 2 by omega) with rfl | rfl | rfl <;> omega
def thirdL (key salt z n : Nat) : List Int := (List.range n).map fun i => (thirdN key salt z i : Int)
theorem thirdL_succ (key salt z n : Nat) : (thirdL key salt z n).map (Value.int .i64) ++ [Value.int .i64 (thirdN key salt z n)] = (thirdL key salt z (n + 1)).map (Value.int .i64) := by
  simp [thirdL, List.range_succ]
theorem thirdL_length (key salt z n : Nat) : (thirdL key salt z n).length = n := by simp [thirdL]
/-- Its mark. -/
def markN (key salt : Nat) : Nat := belowN key (saltN salt 3) 255 + 1
/-- Cells, a key and a salt are valid. -/
def vPeel (x : List Int) (key salt : Int) : Bool := decide (3 ≤ x.length ∧ x.length ≤ 384 ∧ x.length % 3 = 0) && allB x 0 255 && inB key 0 4294967295 && inB salt 0 4294967295
/-- What InPeeled returns. -/
def pInPeeled (x : List Int) (key salt : Int) : Bool × Bool :=
  if vPeel x key salt = true then
    (bits .xor .i64 (bits .xor .i64 (x.getD (thirdN key.toNat salt.toNat (x.length / 3) 0) 0) (x.getD (thirdN key.toNat salt.toNat (x.length / 3) 1) 0)) (x.getD (thirdN key.toNat salt.toNat (x.length / 3) 2) 0) == (markN key.toNat salt.toNat : Int), true)
  else (false, false)

set_option maxRecDepth 100000 in
set_option maxHeartbeats 1600000 in
theorem l04Three_any (key salt z : Nat) (zi : Int) (hzi : zi = (z : Int)) (w : World) (hk : key < 4294967296) (hs : salt < 4294967296) (hz1 : 1 ≤ z) (hz : z ≤ 128) :
    Calls Try.prog 67 #[.int .i64 key, .int .i64 salt, .int .i64 zi] w fun e w' => ∃ A c, e = .returned (.tuple #[.slice A 3 c, .int .i64 (markN key salt)]) ∧ OwnS (Value.int .i64) w' w.heap.size 2 A (thirdL key salt z 3) ∧ Below w.heap.size w w' := by
  subst hzi
  obtain ⟨i0, hi0, hz0, hz1', hz2⟩ := info_parts Try.infoI
  have hl3 := saltN_lt salt 3
  have hm3 := belowN_lt key (saltN salt 3) 255 (by omega)
  go_enter Try.func67, Try.ntmps67
  go_wp2
  go_loopw [8, 9] (fun v i wr => ∃ k : Nat, k ≤ 3 ∧ i = .int .i64 k ∧ Hid (wr.ownsRow w.heap.size 2 1 v k ((thirdL key salt z k).map (Value.int .i64))) ∧ Hid (Below w.heap.size w wr)) (fun _ i _ => 3 - (intOf i).toNat)
  case atStart => exact ⟨0, Nat.zero_le _, rfl, World.ownsRow_made w #[] 0 (Nat.le_refl _) (Nat.zero_le _) rfl, below_a1 _ _⟩
  case round =>
    obtain ⟨k, hkr, rfl, hown, hW⟩ := hrel
    have hsl := saltN_lt salt k
    by_cases hlt : k < 3
    · have hi : (k : Int) < (3 : Int) := by omega
      have hb := belowN_lt key (saltN salt k) z (by omega)
      have hkz : (k : Int) * (z : Int) ≤ 384 ∧ 0 ≤ (k : Int) * (z : Int) := by
        have h := Nat.mul_le_mul (show k ≤ 3 by omega) hz
        have h2 : ((k * z : Nat) : Int) = (k : Int) * (z : Int) := Int.natCast_mul _ _
        omega
      have hth : (k : Int) * (z : Int) + (belowN key (saltN salt k) z : Int) = (thirdN key salt z k : Int) := by unfold thirdN; rw [Int.natCast_add, Int.natCast_mul]
      go_wp2_with (first | (go_at_call 116; refine (l04Salt_any _ _ _ hs (by omega)).mono ?_; rintro e w' ⟨rfl, rfl⟩) | (go_at_call 113; refine (l02Below_any _ _ _ _ hk hsl (by omega)).mono ?_; rintro e w' ⟨rfl, rfl⟩) | (at_builtin; refine wpList_append_own _ rfl _ _ 22 rfl w.heap.size 2 i0 (.int .i64 0) 1 8 Try.underlying22 hi0 hz0 hz1' hz2 rfl (by decide) _ _ _ rfl (hown.out.alloc _) ⟨wr.heap.size, 0, none⟩ 1 1 [.int .i64 (thirdN key salt z k)] rfl rfl ?c1 ?c2 ?c3 ?c4 ?c5 ?_))
      case c1 => exact cell_one_new _ _ _
      case c2 => intro u hu; simp at hu; subst hu; rfl
      case c3 => simp only [maxLen]; omega
      case c4 => omega
      case c5 => have := hW.out.size; simp; omega
      intro v' w1 hown' hgrow _
      rw [thirdL_succ] at hown'
      have O1 := hid hown'
      have W1 : Hid (Below w.heap.size w w1) := (hW.out.alloc hW.out.size _).grown hgrow (by have := hW.out.size; simp; omega) (fun g hg => (hown.out.alloc (.cells #[.int .i64 (thirdN key salt z k)] 2)).lt g hg |>.1)
      clear hown' hgrow
      go_wp2
      exact ⟨⟨k + 1, by omega, by go_num, O1, W1⟩, by simp [intOf]; omega⟩
    · have hi : ¬ (k : Int) < (3 : Int) := by omega
      obtain rfl : k = 3 := by omega
      obtain ⟨A, c, hv, ho⟩ := ownS_of_row hown.out (thirdL_length _ _ _ _)
      rw [thirdL_length] at hv
      subst hv
      have HO := hid ho
      have hmk : Hid (∀ q : Int, q = (belowN key (saltN salt 3) 255 : Int) + 1 → q = (markN key salt : Int)) := fun q hq => by rw [hq]; unfold markN; omega
      clear ho hown
      go_wp2_with (first | (go_at_call 116; refine (l04Salt_any _ 3 _ hs (by omega)).mono ?_; rintro e w' ⟨rfl, rfl⟩) | (go_at_call 113; refine (l02Below_any _ _ 255 _ hk hl3 (by omega)).mono ?_; rintro e w' ⟨rfl, rfl⟩))
      go_ret2
      exact ⟨A, c, by rw [← hmk.out _ rfl]; rfl, HO.out, hW.out⟩
theorem allB_byte {x : List Int} (h : allB x 0 255 = true) : ∀ y ∈ x, 0 ≤ y ∧ y ≤ 255 := fun y hy => by
  unfold allB at h
  rw [List.all_eq_true] at h
  exact inB_iff.1 (h y hy)
theorem pInPeeled_no {x : List Int} {key salt : Int} (h : vPeel x key salt = false) : pInPeeled x key salt = (false, false) := by unfold pInPeeled; rw [if_neg (by simp [h])]
theorem thirdL_at (key salt z k : Nat) (hk : k < 3) : (thirdL key salt z 3)[k]? = some (thirdN key salt z k : Int) := by simp [thirdL, hk]
set_option maxRecDepth 100000 in
set_option maxHeartbeats 3200000 in
theorem sInPeeled_any (A : Option Addr) (c : Nat) (x : List Int) (key salt : Int) (w : World) (hx : RdL (Value.int .i64) w A x) (hn : x.length ≤ 1048576) (we : ∀ y ∈ x, W64 y) (hkey : W64 key) (hsalt : W64 salt) :
    Calls Try.prog 15 #[.slice A x.length c, .int .i64 key, .int .i64 salt] w fun e w' => e = .returned (.tuple #[.bool (pInPeeled x key salt).1, .bool (pInPeeled x key salt).2]) ∧ Below w.heap.size w w' := by
  have HX := hid hx
  clear hx we hkey hsalt
  have bad : ∀ u v : Bool, inB key 0 4294967295 = u → inB salt 0 4294967295 = v → (decide (3 ≤ x.length ∧ x.length ≤ 384 ∧ x.length % 3 = 0) && u && v) = false →
      Calls Try.prog 15 #[.slice A x.length c, .int .i64 key, .int .i64 salt] w fun e w' => e = .returned (.tuple #[.bool false, .bool false]) ∧ Below w.heap.size w w' := by
    intro u v hu hv hno
    by_cases h3 : 3 ≤ x.length
    · by_cases h4 : x.length ≤ 384
      · by_cases hm : x.length % 3 = 0
        · have hm' : (x.length : Int) % 3 = 0 := by omega
          have hm2 : (x.length : Int).tmod 3 = 0 := by rw [Int.tmod_eq_emod_of_nonneg (by omega)]; exact hm'
          rw [decide_eq_true ⟨h3, h4, hm⟩] at hno
          clear hm
          cases u
          case' true => cases v
          all_goals
            first
            | (exfalso; revert hno; decide)
            | (clear hno
               go_enter Try.func15, Try.ntmps15
               go_wp2_with ((go_at_call 65; refine (l02Key_any _ _).mono ?_; rintro e w' ⟨rfl, rfl⟩))
               go_ret2
               exact ⟨rfl, Below.refl _ _⟩)
        · have hm' : ((x.length : Int) % 3 == 0) = false := by simp; omega
          have hm2 : ¬ (x.length : Int) % 3 = 0 := by omega
          clear hno hm
          go_enter Try.func15, Try.ntmps15
          go_wp2_with ((go_at_call 65; refine (l02Key_any _ _).mono ?_; rintro e w' ⟨rfl, rfl⟩))
          go_ret2
          exact ⟨rfl, Below.refl _ _⟩
      · have h4' : (384 : Int) < (x.length : Int) := by omega
        have h3' : (3 : Int) ≤ (x.length : Int) := by omega
        clear hno
        go_enter Try.func15, Try.ntmps15
        go_wp2_with ((go_at_call 65; refine (l02Key_any _ _).mono ?_; rintro e w' ⟨rfl, rfl⟩))
        go_ret2
        exact ⟨rfl, Below.refl _ _⟩
    · have h3' : (x.length : Int) < 3 := by omega
      clear hno
      go_enter Try.func15, Try.ntmps15
      go_wp2_with ((go_at_call 65; refine (l02Key_any _ _).mono ?_; rintro e w' ⟨rfl, rfl⟩))
      go_ret2
      exact ⟨rfl, Below.refl _ _⟩
  cases hg : (decide (3 ≤ x.length ∧ x.length ≤ 384 ∧ x.length % 3 = 0) && inB key 0 4294967295 && inB salt 0 4294967295) with
  | false =>
    rw [pInPeeled_no (by unfold vPeel; revert hg; cases decide (3 ≤ x.length ∧ x.length ≤ 384 ∧ x.length % 3 = 0) <;> cases inB key 0 4294967295 <;> cases inB salt 0 4294967295 <;> cases allB x 0 255 <;> simp)]
    exact bad _ _ rfl rfl hg
  | true =>
  simp only [Bool.and_eq_true, decide_eq_true_eq] at hg
  obtain ⟨⟨⟨h3, h4, hm⟩, hk⟩, hs⟩ := hg
  obtain ⟨hk1, hk2⟩ := inB_iff.1 hk
  obtain ⟨hs1, hs2⟩ := inB_iff.1 hs
  obtain ⟨key, rfl⟩ := Int.eq_ofNat_of_zero_le hk1
  obtain ⟨salt, rfl⟩ := Int.eq_ofNat_of_zero_le hs1
  have h3' : (3 : Int) ≤ (x.length : Int) := by omega
  have h4' : (x.length : Int) ≤ 384 := by omega
  have hm' : (x.length : Int) % 3 = 0 := by omega
  have hm2 : (x.length : Int).tmod 3 = 0 := by rw [Int.tmod_eq_emod_of_nonneg (by omega)]; exact hm'
  have HM := hid hm
  have hvp : vPeel x key salt = allB x 0 255 := by unfold vPeel; rw [decide_eq_true ⟨h3, h4, hm⟩, hk, hs]; simp
  have hpe : pInPeeled x key salt = (if allB x 0 255 = true then
      (bits .xor .i64 (bits .xor .i64 (x.getD (thirdN key salt (x.length / 3) 0) 0) (x.getD (thirdN key salt (x.length / 3) 1) 0)) (x.getD (thirdN key salt (x.length / 3) 2) 0) == (markN key salt : Int), true) else (false, false)) := by
    unfold pInPeeled; rw [hvp]; simp only [Int.toNat_natCast]
  have HPE := hid hpe
  obtain ⟨p, hp⟩ : ∃ p, p = pInPeeled x key salt := ⟨_, rfl⟩
  rw [← hp] at HPE ⊢
  clear hp hpe hvp bad hm
  go_enter Try.func15, Try.ntmps15
  go_wp2_with ((go_at_call 65; refine (l02Key_any _ _).mono ?_; rintro e w' ⟨rfl, rfl⟩))
  clear hk hs
  go_loop [9] (fun i => ∃ k : Nat, k ≤ x.length ∧ i = .int .i64 k ∧ Hid (allB (x.take k) 0 255 = true)) (fun i => x.length - (intOf i).toNat)
  case atStart => exact ⟨0, Nat.zero_le _, rfl, rfl⟩
  case round =>
    obtain ⟨k, hk, rfl, hh⟩ := hrel
    by_cases hlt : k < x.length
    · have hi : (k : Int) < (x.length : Int) := by omega
      obtain ⟨b', o', y, rfl, hc, hxk⟩ := HX.out.at_ hlt
      cases hb : inB y 0 255 with
      | true =>
        have he := hid (allB_snoc hh hxk hb)
        go_wp2_with ((go_at_call 66; refine (l00In_any _ _ _ _).mono ?_; rintro e w' ⟨rfl, rfl⟩))
        exact ⟨⟨k + 1, by omega, by go_num, he⟩, by simp [intOf]; omega⟩
      | false =>
        have he := hid (allB_no hxk hb)
        go_wp2_with ((go_at_call 66; refine (l00In_any _ _ _ _).mono ?_; rintro e w' ⟨rfl, rfl⟩))
        go_ret2
        exact ⟨by rw [HPE.out, he.out]; rfl, Below.refl _ _⟩
    · have hi : ¬ (k : Int) < (x.length : Int) := by omega
      have he := hh.out
      rw [List.take_of_length_le (by omega)] at he
      have hpe := HPE.out
      rw [if_pos he] at hpe
      have HPE2 := hid hpe
      clear HPE hpe he
      obtain ⟨z, hz⟩ : ∃ z, z = x.length / 3 := ⟨_, rfl⟩
      have hx3 : x.length = 3 * z := by have := HM.out; omega
      have hz1 : 1 ≤ z := by omega
      have hz2 : z ≤ 128 := by omega
      rw [← hz] at HPE2
      have HX3 := hid hx3
      clear hz hx3
      go_wp2_with fail
      refine (l04Three_any key salt z _ (by have := HX3.out; omega) _ (by omega) (by omega) hz1 hz2).mono ?_
      rintro e w1 ⟨A1, c1, rfl, ho, hb⟩
      have HO := hid ho.rd
      have X1 := hid (HX.out.below hb)
      have S1 := hid hb
      clear ho hb
      obtain ⟨b1, o1, q0, rfl, hc0, hq0⟩ := HO.out.at_ (k := 0) (by rw [thirdL_length]; omega)
      obtain ⟨b2, o2, q1, hA2, hc1, hq1⟩ := HO.out.at_ (k := 1) (by rw [thirdL_length]; omega)
      obtain ⟨b3, o3, q2, hA3, hc2, hq2⟩ := HO.out.at_ (k := 2) (by rw [thirdL_length]; omega)
      injection hA2 with hA2; injection hA2 with e1 e2
      injection hA3 with hA3; injection hA3 with e3 e4
      subst e1 e2 e3 e4
      have g0 := hq0.out; rw [thirdL_at _ _ _ _ (by omega)] at g0; injection g0 with g0
      have g1 := hq1.out; rw [thirdL_at _ _ _ _ (by omega)] at g1; injection g1 with g1
      have g2 := hq2.out; rw [thirdL_at _ _ _ _ (by omega)] at g2; injection g2 with g2
      have l0 := thirdN_lt (key := key) (salt := salt) (n := x.length) (i := 0) (by omega) (by omega) HX3.out
      have l1 := thirdN_lt (key := key) (salt := salt) (n := x.length) (i := 1) (by omega) (by omega) HX3.out
      have l2 := thirdN_lt (key := key) (salt := salt) (n := x.length) (i := 2) (by omega) (by omega) HX3.out
      obtain ⟨t0, ht0⟩ : ∃ t, t = thirdN key salt z 0 := ⟨_, rfl⟩
      obtain ⟨t1, ht1⟩ : ∃ t, t = thirdN key salt z 1 := ⟨_, rfl⟩
      obtain ⟨t2, ht2⟩ : ∃ t, t = thirdN key salt z 2 := ⟨_, rfl⟩
      obtain ⟨mk, hmk⟩ : ∃ t, t = markN key salt := ⟨_, rfl⟩
      rw [← ht0] at g0 l0 HPE2
      rw [← ht1] at g1 l1 HPE2
      rw [← ht2] at g2 l2 HPE2
      rw [← hmk] at HPE2 ⊢
      subst g0 g1 g2
      clear ht0 ht1 ht2 hmk hq0 hq1 hq2 HO
      obtain ⟨bx, ox, y0, hAx, hy0, hx0⟩ := X1.out.at_ l0
      obtain ⟨by', oy, y1, hAy, hy1, hx1⟩ := X1.out.at_ l1
      obtain ⟨bz, oz, y2, hAz, hy2, hx2⟩ := X1.out.at_ l2
      subst hAx
      injection hAy with hAy; injection hAy with e1 e2
      injection hAz with hAz; injection hAz with e3 e4
      subst e1 e2 e3 e4
      have i0 : (t0 : Int) < (x.length : Int) := by omega
      have i1 : (t1 : Int) < (x.length : Int) := by omega
      have i2 : (t2 : Int) < (x.length : Int) := by omega
      have j0 : (0 : Int) ≤ (t0 : Int) := by omega
      have j1 : (0 : Int) ≤ (t1 : Int) := by omega
      have j2 : (0 : Int) ≤ (t2 : Int) := by omega
      have d0 : x.getD t0 0 = y0 := by rw [List.getD_eq_getElem?_getD, hx0.out]; rfl
      have d1 : x.getD t1 0 = y1 := by rw [List.getD_eq_getElem?_getD, hx1.out]; rfl
      have d2 : x.getD t2 0 = y2 := by rw [List.getD_eq_getElem?_getD, hx2.out]; rfl
      rw [d0, d1, d2] at HPE2
      have hc0' : w1.cell? ⟨b1, o1, none⟩ = some (.int .i64 t0) := by simpa using hc0
      clear d0 d1 d2 hx0 hx1 hx2 X1 hc0 l0 l1 l2
      go_wp2
      go_quiet (fail)
      go_wp2
      go_ret2
      exact ⟨by rw [HPE2.out]; rfl, below_drewN S1.out _⟩
theorem ret_agg3 {a b : Int} {v : Value} (h : a = b) : Ending.returned (.tuple #[v, .int .i64 a]) = .returned (.tuple #[v, .int .i64 b]) := by rw [h]
theorem blk_touch {w w' : World} {q g n : Nat} {t : TypeId} {cs : List Value} (h : Blk w q t cs) (k : Touch w w' (some ⟨g, 0, none⟩) n) (hq : g ≠ q) : Blk w' q t cs :=
  (k.block q (.inr fun o e => by injection e with e; injection e with e; exact hq e)).trans h
set_option maxRecDepth 100000 in
set_option maxHeartbeats 1600000 in
theorem peelPlaces_any (key salt z : Nat) (zi : Int) (hzi : zi = (z : Int)) (w : World) (hk : key < 4294967296) (hs : salt < 4294967296) (hz1 : 1 ≤ z) (hz : z ≤ 128) :
    Calls Try.prog 70 #[.int .i64 key, .int .i64 zi, .int .i64 salt] w fun e w' => e = .returned (.tuple #[.agg #[.int .i64 (thirdN key salt z 0), .int .i64 (thirdN key salt z 1), .int .i64 (thirdN key salt z 2)], .int .i64 (markN key salt)]) ∧ Below w.heap.size w w' := by
  subst hzi
  obtain ⟨w0, hw0⟩ : ∃ w0, w0 = (w.alloc (.cells #[.int .i64 0, .int .i64 0, .int .i64 0] 91)).alloc (.cells #[.int .i64 0, .int .i64 0, .int .i64 0] 91) := ⟨_, rfl⟩
  have R0 : Hid (Blk w0 w.heap.size 91 [.int .i64 0, .int .i64 0, .int .i64 0]) := by rw [hw0]; exact (Blk.new w _ _).alloc _
  have A0 : Hid (OwnS (Value.int .i64) w0 (w.heap.size + 1) 91 (some ⟨w.heap.size + 1, 0, none⟩) [0, 0, 0]) := by
    rw [hw0]; exact OwnS.of_blk (f := Value.int .i64) (Blk.new2 w _ _ [.int .i64 0, .int .i64 0, .int .i64 0]) (Nat.le_refl _)
  have S0 : Hid (Below w.heap.size w w0) := by rw [hw0]; exact below_a2 _ _ _
  have hw0s : w0.heap.size = w.heap.size + 2 := by rw [hw0]; simp
  have hl3 := saltN_lt salt 3
  go_enter Try.func70, Try.ntmps70
  go_wp2
  rw [← hw0]
  clear hw0
  go_loopw [9, 11] (fun v i wr => ∃ k : Nat, k ≤ 3 ∧ i = .int .i64 k ∧ Hid (OwnS (Value.int .i64) wr (w.heap.size + 1) 91 (some ⟨w.heap.size + 1, 0, none⟩) (fillUp k (thirdL key salt z 3) [0, 0, 0])) ∧ Hid (Touch w0 wr (some ⟨w.heap.size + 1, 0, none⟩) 3)) (fun _ i _ => 3 - (intOf i).toNat)
  case atStart => exact ⟨0, Nat.zero_le _, rfl, by rw [fillUp_zero]; exact A0, Touch.refl⟩
  case round =>
    obtain ⟨k, hkr, rfl, hok, hT⟩ := hrel
    have hsl := saltN_lt salt k
    by_cases hlt : k < 3
    · have hi : (k : Int) < (3 : Int) := by omega
      have hb := belowN_lt key (saltN salt k) z (by omega)
      have hkz : (k : Int) * (z : Int) ≤ 384 ∧ 0 ≤ (k : Int) * (z : Int) := by
        have h := Nat.mul_le_mul (show k ≤ 3 by omega) hz
        have h2 : ((k * z : Nat) : Int) = (k : Int) * (z : Int) := Int.natCast_mul _ _
        omega
      have hth : (k : Int) * (z : Int) + (belowN key (saltN salt k) z : Int) = (thirdN key salt z k : Int) := by unfold thirdN; rw [Int.natCast_add, Int.natCast_mul]
      have hfl : (fillUp k (thirdL key salt z 3) ([0, 0, 0] : List Int)).length = 3 := fillUp_length (by rw [thirdL_length]; omega) (by simp; omega)
      obtain ⟨g', u, hg', hgB, hcy, hfy, hym, hput⟩ := hok.out.put (j := k) (by rw [hfl]; exact hlt)
      injection hg' with hg'; injection hg' with hg'
      subst hg'
      have hO2 := hput (thirdN key salt z k)
      rw [fillUp_step (thirdL_at _ _ _ _ hlt) (by simp; omega)] at hO2
      have hT2 := hid (hT.out.set_ (by omega) k (.int .i64 (thirdN key salt z k)))
      have hk0 : (0 : Int) ≤ (k : Int) := by omega
      clear hput hfl hgB hym
      go_wp2_with (first | (go_at_call 120; refine (salted_any _ _ _ hs (by omega)).mono ?_; rintro e w' ⟨rfl, rfl⟩) | (go_at_call 117; refine (ibelow_any _ _ _ _ hk hsl (by omega)).mono ?_; rintro e w' ⟨rfl, rfl⟩))
      exact ⟨⟨k + 1, by omega, by go_num, hO2, hT2⟩, by simp [intOf]; omega⟩
    · have hi : ¬ (k : Int) < (3 : Int) := by omega
      obtain rfl : k = 3 := by omega
      have hO3 := hok.out
      rw [fillUp_all (thirdL_length _ _ _ _) (by simp)] at hO3
      obtain ⟨b1, o1, q0, hA1, hc0, hq0⟩ := hO3.rd.at_ (k := 0) (by rw [thirdL_length]; omega)
      obtain ⟨b2, o2, q1, hA2, hc1, hq1⟩ := hO3.rd.at_ (k := 1) (by rw [thirdL_length]; omega)
      obtain ⟨b3, o3, q2, hA3, hc2, hq2⟩ := hO3.rd.at_ (k := 2) (by rw [thirdL_length]; omega)
      injection hA1 with hA1; injection hA1 with e1 e2
      injection hA2 with hA2; injection hA2 with e3 e4
      injection hA3 with hA3; injection hA3 with e5 e6
      subst e1 e2 e3 e4 e5 e6
      have g0 := hq0.out; rw [thirdL_at _ _ _ _ (by omega)] at g0; injection g0 with g0
      have g1 := hq1.out; rw [thirdL_at _ _ _ _ (by omega)] at g1; injection g1 with g1
      have g2 := hq2.out; rw [thirdL_at _ _ _ _ (by omega)] at g2; injection g2 with g2
      subst g0 g1 g2
      rw [Nat.zero_add] at hc0 hc1 hc2
      have RR := hid (blk_touch R0.out hT.out (by omega))
      obtain ⟨d0, d1, d2⟩ := RR.out.cells3
      have f0 := RR.out.frozen 0
      have f1 := RR.out.frozen 1
      have f2 := RR.out.frozen 2
      have SR : Hid (Below w.heap.size w wr) := S0.out.trans ((hT.out.below (show OwnS (Value.int .i64) w0 (w.heap.size + 1) 91 (some ⟨w.heap.size + 1, 0, none⟩) [0, 0, 0] from A0.out)).mono (by omega))
      have hmk : Hid (∀ q : Int, q = (belowN key (saltN salt 3) 255 : Int) + 1 → q = (markN key salt : Int)) := fun q hq => by rw [hq]; unfold markN; omega
      have hm3 := belowN_lt key (saltN salt 3) 255 (by omega)
      have n1 : w.heap.size + 1 ≠ w.heap.size := by omega
      have n2 := Ne.symm n1
      have hmw : IntKind.i64.wrap ((belowN key (saltN salt 3) 255 : Int) + 1) = (markN key salt : Int) := by rw [IntKind.wrap_i64]; unfold markN; omega
      clear hO3 hok hq0 hq1 hq2 hT A0 R0
      go_wp2
      go_region_held3 (fun w' => w'.cell? ⟨w.heap.size + 1, 0, none⟩ = some (.int .i64 (thirdN key salt z 0)) ∧ w'.cell? ⟨w.heap.size + 1, 1, none⟩ = some (.int .i64 (thirdN key salt z 1)) ∧ w'.cell? ⟨w.heap.size + 1, 2, none⟩ = some (.int .i64 (thirdN key salt z 2))) (first | go_keep | exact hS | (refine ⟨?_, ?_, ?_⟩ <;> go_keep))
        (first
          | (go_at_call 120
             refine (salted_any _ 3 _ hs (by omega)).mono ?_
             rintro e w' ⟨rfl, rfl⟩)
          | (go_at_call 117
             refine (ibelow_any _ _ 255 _ hk hl3 (by omega)).mono ?_
             rintro e w' ⟨rfl, rfl⟩))
      all_goals
        go_wp2_with fail
        refine bodyPost_ret (v := .tuple #[.agg #[.int .i64 (thirdN key salt z 0), .int .i64 (thirdN key salt z 1), .int .i64 (thirdN key salt z 2)], .int .i64 (markN key salt)]) (by simp [results, Try.results70, go_sem, d0, d1, d2, hmw]) rfl ⟨rfl, ?_⟩
        exact below_drew1 (((SR.out.setCell (by simp) _).setCell (by simp) _).setCell (by simp) _)
set_option maxRecDepth 100000 in
set_option maxHeartbeats 3200000 in
theorem iInPeeled_any (A : Option Addr) (c : Nat) (x : List Int) (key salt : Int) (w : World) (hx : RdL (Value.int .i64) w A x) (hn : x.length ≤ 1048576) (we : ∀ y ∈ x, W64 y) (hkey : W64 key) (hsalt : W64 salt) :
    Calls Try.prog 17 #[.slice A x.length c, .int .i64 key, .int .i64 salt] w fun e w' => e = .returned (.tuple #[.bool (pInPeeled x key salt).1, .bool (pInPeeled x key salt).2]) ∧ Below w.heap.size w w' := by
  have HX := hid hx
  clear hx we hkey hsalt
  have badn : ∀ u v z : Bool, ((x.length : Int) % 3 == 0) = u → decide ((x.length : Int) < 3) = v → decide ((x.length : Int) > 384) = z → (u && !v && !z) = false →
      Calls Try.prog 17 #[.slice A x.length c, .int .i64 key, .int .i64 salt] w fun e w' => e = .returned (.tuple #[.bool false, .bool false]) ∧ Below w.heap.size w w' := by
    intro u v z hu hv hz hno
    have hu2 : ((x.length : Int) % 3 != 0) = !u := by rw [← hu]; rfl
    have hz2 : decide ((384 : Int) < (x.length : Int)) = z := hz
    cases u
    case' true =>
      cases v
      case' false => cases z
    all_goals
      first
      | (exfalso; revert hno; decide)
      | (simp only [Bool.not_true, Bool.not_false] at hu2
         simp only [decide_eq_true_eq, decide_eq_false_iff_not, beq_iff_eq, beq_eq_false_iff_ne, bne_iff_ne, bne_eq_false_iff_eq] at hu hv hz hu2 hz2
         clear hno
         go_enter Try.func17, Try.ntmps17
         go_wp2_with ((go_at_call 69; refine (IsKey_any _ _).mono ?_; rintro e w' ⟨rfl, rfl⟩))
         go_ret2
         exact ⟨rfl, Below.refl _ _⟩)
  by_cases hg : 3 ≤ x.length ∧ x.length ≤ 384 ∧ x.length % 3 = 0
  · obtain ⟨h3, h4, hm⟩ := hg
    have hm' : (x.length : Int) % 3 = 0 := by omega
    have hm3 : ((x.length : Int) % 3 == 0) = true := by simp; omega
    have h3' : ¬ (x.length : Int) < 3 := by omega
    have h4' : ¬ (384 : Int) < (x.length : Int) := by omega
    have HM := hid hm
    clear badn
    cases ha : allB x 0 255 with
    | false =>
      have hp : Hid (pInPeeled x key salt = (false, false)) := pInPeeled_no (by unfold vPeel; rw [ha]; simp)
      go_enter Try.func17, Try.ntmps17
      go_wp2_with fail
      refine (areWithin_any A c x _ _ _ HX.out hn).mono ?_
      rw [ha]
      rintro e w1 ⟨rfl, hb⟩
      have S1 := hid hb
      clear hb ha
      go_wp2
      go_ret2
      exact ⟨by rw [hp.out]; rfl, S1.out⟩
    | true =>
    have key_ : ∀ u v : Bool, inB key 0 4294967295 = u → inB salt 0 4294967295 = v → (u && v) = false →
        Calls Try.prog 17 #[.slice A x.length c, .int .i64 key, .int .i64 salt] w fun e w' => e = .returned (.tuple #[.bool false, .bool false]) ∧ Below w.heap.size w w' := by
      intro u v hu hv hno
      cases u
      case' true => cases v
      all_goals
        first
        | (exfalso; revert hno; decide)
        | (clear hno
           go_enter Try.func17, Try.ntmps17
           go_wp2_with fail
           refine (areWithin_any A c x _ _ _ HX.out hn).mono ?_
           rw [ha]
           rintro e w1 ⟨rfl, hb⟩
           have S1 := hid hb
           clear hb ha
           go_wp2_with ((go_at_call 69; refine (IsKey_any _ _).mono ?_; rintro e w' ⟨rfl, rfl⟩))
           go_ret2
           exact ⟨rfl, S1.out⟩)
    cases hks : (inB key 0 4294967295 && inB salt 0 4294967295) with
    | false =>
      rw [pInPeeled_no (by unfold vPeel; revert hks; cases inB key 0 4294967295 <;> cases inB salt 0 4294967295 <;> simp)]
      exact key_ _ _ rfl rfl hks
    | true =>
    simp only [Bool.and_eq_true] at hks
    obtain ⟨hk, hs⟩ := hks
    obtain ⟨hk1, hk2⟩ := inB_iff.1 hk
    obtain ⟨hs1, hs2⟩ := inB_iff.1 hs
    obtain ⟨key, rfl⟩ := Int.eq_ofNat_of_zero_le hk1
    obtain ⟨salt, rfl⟩ := Int.eq_ofNat_of_zero_le hs1
    obtain ⟨z, hz⟩ : ∃ z, z = x.length / 3 := ⟨_, rfl⟩
    have hx3 : x.length = 3 * z := by omega
    have hz1 : 1 ≤ z := by omega
    have hz2 : z ≤ 128 := by omega
    have hvp : vPeel x key salt = true := by unfold vPeel; rw [decide_eq_true ⟨h3, h4, hm⟩, hk, hs, ha]; rfl
    have hpe : pInPeeled x key salt = (bits .xor .i64 (bits .xor .i64 (x.getD (thirdN key salt z 0) 0) (x.getD (thirdN key salt z 1) 0)) (x.getD (thirdN key salt z 2) 0) == (markN key salt : Int), true) := by
      unfold pInPeeled; rw [if_pos hvp, hz]; simp only [Int.toNat_natCast]
    have HPE := hid hpe
    have HX3 := hid hx3
    have HA := hid ha
    obtain ⟨p, hp⟩ : ∃ p, p = pInPeeled x key salt := ⟨_, rfl⟩
    rw [← hp] at HPE ⊢
    clear hp hpe hvp hm hz hx3 key_ ha
    go_enter Try.func17, Try.ntmps17
    go_wp2_with fail
    refine (areWithin_any A c x _ _ _ HX.out hn).mono ?_
    rw [HA.out]
    rintro e w1 ⟨rfl, hb⟩
    have X1 := hid (HX.out.below hb)
    have S1 := hid hb
    clear hb
    go_wp2_with ((go_at_call 69; refine (IsKey_any _ _).mono ?_; rintro e w' ⟨rfl, rfl⟩))
    clear hk hs
    refine (peelPlaces_any key salt z _ (by have := HX3.out; omega) _ (by omega) (by omega) hz1 hz2).mono ?_
    rintro e w2 ⟨rfl, hb⟩
    have X2 := hid (X1.out.below hb)
    have S2 := hid (S1.out.trans (hb.mono S1.out.size))
    clear hb
    have l0 := thirdN_lt (key := key) (salt := salt) (n := x.length) (i := 0) (by omega) (by omega) HX3.out
    have l1 := thirdN_lt (key := key) (salt := salt) (n := x.length) (i := 1) (by omega) (by omega) HX3.out
    have l2 := thirdN_lt (key := key) (salt := salt) (n := x.length) (i := 2) (by omega) (by omega) HX3.out
    obtain ⟨t0, ht0⟩ : ∃ t, t = thirdN key salt z 0 := ⟨_, rfl⟩
    obtain ⟨t1, ht1⟩ : ∃ t, t = thirdN key salt z 1 := ⟨_, rfl⟩
    obtain ⟨t2, ht2⟩ : ∃ t, t = thirdN key salt z 2 := ⟨_, rfl⟩
    obtain ⟨mk, hmk⟩ : ∃ t, t = markN key salt := ⟨_, rfl⟩
    rw [← ht0, ← ht1, ← ht2, ← hmk]
    rw [← ht0] at l0 HPE
    rw [← ht1] at l1 HPE
    rw [← ht2] at l2 HPE
    rw [← hmk] at HPE
    clear ht0 ht1 ht2 hmk
    obtain ⟨bx, ox, y0, rfl, hy0, hx0⟩ := X2.out.at_ l0
    obtain ⟨by', oy, y1, hAy, hy1, hx1⟩ := X2.out.at_ l1
    obtain ⟨bz, oz, y2, hAz, hy2, hx2⟩ := X2.out.at_ l2
    injection hAy with hAy; injection hAy with e1 e2
    injection hAz with hAz; injection hAz with e3 e4
    subst e1 e2 e3 e4
    have d0 : x.getD t0 0 = y0 := by rw [List.getD_eq_getElem?_getD, hx0.out]; rfl
    have d1 : x.getD t1 0 = y1 := by rw [List.getD_eq_getElem?_getD, hx1.out]; rfl
    have d2 : x.getD t2 0 = y2 := by rw [List.getD_eq_getElem?_getD, hx2.out]; rfl
    rw [d0, d1, d2] at HPE
    have i0 : (t0 : Int) < (x.length : Int) := by omega
    have i1 : (t1 : Int) < (x.length : Int) := by omega
    have i2 : (t2 : Int) < (x.length : Int) := by omega
    have j0 : (0 : Int) ≤ (t0 : Int) := by omega
    have j1 : (0 : Int) ≤ (t1 : Int) := by omega
    have j2 : (0 : Int) ≤ (t2 : Int) := by omega
    obtain ⟨w3, hw3⟩ : ∃ w3, w3 = w2.alloc (.cells #[.int .i64 t0, .int .i64 t1, .int .i64 t2] 91) := ⟨_, rfl⟩
    obtain ⟨q, hq⟩ : ∃ q, q = w2.heap.size := ⟨_, rfl⟩
    obtain ⟨m0, m1, m2⟩ : w3.cell? ⟨q, 0, none⟩ = some (.int .i64 t0) ∧ w3.cell? ⟨q, 1, none⟩ = some (.int .i64 t1) ∧ w3.cell? ⟨q, 2, none⟩ = some (.int .i64 t2) := by
      rw [hw3, hq]; exact (Blk.new w2 91 [.int .i64 t0, .int .i64 t1, .int .i64 t2]).cells3
    have hb3 : Below w2.heap.size w2 w3 := by rw [hw3]; exact below_a1 _ _
    have z0 : w3.cell? ⟨bx, ox + t0, none⟩ = some (.int .i64 y0) := (hb3.cell (World.block_lt_of_cell? w2 _ hy0)).trans hy0
    have z1 : w3.cell? ⟨bx, ox + t1, none⟩ = some (.int .i64 y1) := (hb3.cell (World.block_lt_of_cell? w2 _ hy1)).trans hy1
    have z2 : w3.cell? ⟨bx, ox + t2, none⟩ = some (.int .i64 y2) := (hb3.cell (World.block_lt_of_cell? w2 _ hy2)).trans hy2
    have S3 := hid (S2.out.trans (hb3.mono S2.out.size))
    clear d0 d1 d2 hx0 hx1 hx2 l0 l1 l2 hy0 hy1 hy2 X1 X2 hb3
    go_wp2
    rw [← hw3, ← hq]
    clear hw3 hq
    go_quiet (fail)
    go_wp2
    go_ret2
    exact ⟨by rw [HPE.out]; rfl, below_drewN S3.out _⟩
  · rw [pInPeeled_no (by unfold vPeel; rw [decide_eq_false hg]; simp)]
    refine badn _ _ _ rfl rfl rfl ?_
    by_cases h1 : (x.length : Int) % 3 = 0
    · by_cases h2 : (x.length : Int) < 3
      · simp [h2]
      · have h3 : (x.length : Int) > 384 := by omega
        simp [h3]
    · simp [h1]
end Go.Proofs.Ytlcpchpodcchlaa
