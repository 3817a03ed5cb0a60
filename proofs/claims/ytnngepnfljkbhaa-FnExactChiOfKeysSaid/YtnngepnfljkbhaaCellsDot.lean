/-
  The least product of rows: reference and program, by contracts.
-/
import Derived.Test.YtnngepnfljkbhaaMergeCells
import Derived.Test.YtnngepnfljkbhaaCellRow
import Derived.Test.YtnngepnfljkbhaaCellsAt
namespace Go.Proofs.Ytnngepnfljkbhaa
open Go.RowKit
set_option linter.unusedVariables false
set_option linter.unusedSimpArgs false

/-- The products of two rows. -/
def prodL (x y : List Int) (wd i : Nat) : List Int := List.zipWith (fun a b => a * b) (rowL x wd i) (rowL y wd i)
/-- The sums of the products of the first n rows. -/
def dotsL (x y : List Int) (wd n : Nat) : List Int := (List.range n).map fun i => (prodL x y wd i).sum
/-- The least one; 0 if there is none. -/
def minL : List Int → Int
  | [] => 0
  | a :: l => l.foldl min a
theorem minL_one (a : Int) : minL [a] = a := rfl
theorem minL_snoc {l : List Int} (a : Int) (h : l ≠ []) : minL (l ++ [a]) = min (minL l) a := by
  cases l with
  | nil => exact absurd rfl h
  | cons b l => simp [minL, List.foldl_append]
theorem dotsL_succ (x y : List Int) (wd n : Nat) : dotsL x y wd (n + 1) = dotsL x y wd n ++ [(prodL x y wd n).sum] := by simp [dotsL, List.range_succ]
theorem dotsL_length (x y : List Int) (wd n : Nat) : (dotsL x y wd n).length = n := by simp [dotsL]
theorem prodL_length {x y : List Int} {wd dp i : Nat} (hx : x.length = wd * dp) (hy : y.length = wd * dp) (hi : i < dp) : (prodL x y wd i).length = wd := by
  unfold prodL
  rw [List.length_zipWith, rowL_length hx hi, rowL_length hy hi]; simp
theorem mul_small {a b : Int} (ha : -1000000 ≤ a ∧ a ≤ 1000000) (hb : -1000000 ≤ b ∧ b ≤ 1000000) : -1000000000000 ≤ a * b ∧ a * b ≤ 1000000000000 := by
  have h1 : (a * b).natAbs = a.natAbs * b.natAbs := Int.natAbs_mul a b
  have h2 : a.natAbs * b.natAbs ≤ 1000000 * 1000000 := Nat.mul_le_mul (by omega) (by omega)
  omega
theorem prodL_bound {x y : List Int} {wd i : Nat} (hx : ∀ z ∈ x, -1000000 ≤ z ∧ z ≤ 1000000) (hy : ∀ z ∈ y, -1000000 ≤ z ∧ z ≤ 1000000) : ∀ z ∈ prodL x y wd i, -1000000000000 ≤ z ∧ z ≤ 1000000000000 := fun z hz => by
  unfold prodL at hz
  obtain ⟨j, hj, hz⟩ := List.mem_iff_getElem.1 hz
  rw [List.getElem_zipWith] at hz
  subst hz
  exact mul_small (hx _ (rowL_mem (List.getElem_mem _))) (hy _ (rowL_mem (List.getElem_mem _)))
theorem prodL_at {x y : List Int} {wd i k : Nat} {u v : Int} (hk : k < wd) (hu : Hid (x[i * wd + k]? = some u)) (hv : Hid (y[i * wd + k]? = some v)) : Hid ((prodL x y wd i)[k]? = some (u * v)) := by
  show _ = _
  unfold prodL
  rw [List.getElem?_zipWith, rowL_at hk, rowL_at hk, hu.out, hv.out]
/-- What CellsDot returns. -/
def pCellsDot (a0 a1 a2 : Int) (x : List Int) (b0 b1 b2 : Int) (y : List Int) : Int × Bool :=
  if (alikeC a0 a1 a2 x b0 b1 b2 y && allB x (-1000000) 1000000 && allB y (-1000000) 1000000) = true then (minL (dotsL x y a0.toNat a1.toNat), true) else (0, false)
theorem ownsRow_below {w w' : World} {base : Nat} {e : TypeId} {size : Nat} {v : Value} {n : Nat} {xs : List Value} (h : w.ownsRow base e size v n xs) (hb : Below w.heap.size w w') : w'.ownsRow base e size v n xs := by
  obtain ⟨h1, h2⟩ := h
  refine ⟨h1, h2.imp id ?_⟩
  rintro ⟨g, cap, cur, hv, hB, hg, h3⟩
  exact ⟨g, cap, cur, hv, hB, (hb.block g (Array.getElem?_eq_some_iff.1 hg).1).trans hg, h3⟩
theorem below_undrew {B m : Nat} {w w' : World} (h : Below B (w.drewN m) w') : Below B w w' := ⟨h.os, h.tape, h.output, h.size, h.block⟩
theorem below_drewX {B m : Nat} {w w' : World} (h : Below B w w') : Below B w (w'.drewN m) := ⟨h.os, h.tape, h.output, h.size, h.block⟩
theorem allB_iff {x : List Int} {lo hi : Int} (h : allB x lo hi = true) : ∀ y ∈ x, lo ≤ y ∧ y ≤ hi := fun y hy => by
  unfold allB at h
  rw [List.all_eq_true] at h
  exact inB_iff.1 (h y hy)

set_option maxHeartbeats 1000000 in
theorem l03Small_any (p c : Nat) (A : Option Addr) (x : List Int) (w : World) (h3 : w.cell? ⟨p, 3, none⟩ = some (.slice A x.length c)) (hx : RdL (Value.int .i64) w A x) (hn : x.length ≤ 1048576) :
    Calls Try.prog 71 #[.pointer (some ⟨p, 0, none⟩)] w fun e w' => e = .returned (.bool (allB x (-1000000) 1000000)) ∧ w = w' := by
  have HX := hid hx
  clear hx
  go_enter Try.func71, Try.ntmps71
  go_wp2
  go_loop [3, 9] (fun j i => ∃ k : Nat, k ≤ x.length ∧ i = .int .i64 k ∧ Hid (allB (x.take k) (-1000000) 1000000 = true)) (fun j i => x.length - (intOf i).toNat)
  case atStart => exact ⟨0, Nat.zero_le _, rfl, rfl⟩
  case round =>
    obtain ⟨k, hk, rfl, hh⟩ := hrel
    by_cases hlt : k < x.length
    · have hi : (k : Int) < (x.length : Int) := by omega
      obtain ⟨b', o', z, rfl, hc, hxk⟩ := HX.out.at_ hlt
      cases hb : inB z (-1000000) 1000000 with
      | true =>
        have he := hid (allB_snoc hh hxk hb)
        go_wp2_with ((go_at_call 106; refine (l00In_any _ _ _ _).mono ?_; rintro e w' ⟨rfl, rfl⟩))
        exact ⟨⟨k + 1, by omega, by go_num, he⟩, by simp [intOf]; omega⟩
      | false =>
        have he := hid (allB_no hxk hb)
        go_wp2_with ((go_at_call 106; refine (l00In_any _ _ _ _).mono ?_; rintro e w' ⟨rfl, rfl⟩))
        go_ret
        exact ⟨ret_bool he.out.symm, rfl⟩
    · have hi : ¬ (k : Int) < (x.length : Int) := by omega
      go_wp2
      go_ret
      have he := hh.out
      rw [List.take_of_length_le (by omega)] at he
      exact ⟨ret_bool he.symm, rfl⟩
set_option maxHeartbeats 800000 in
theorem areSmall_any (a0 a1 a2 : Int) (A : Option Addr) (c : Nat) (x : List Int) (w : World) (hx : RdL (Value.int .i64) w A x) (hn : x.length ≤ 1048576) :
    Calls Try.prog 73 #[.agg #[.int .i64 a0, .int .i64 a1, .int .i64 a2, .slice A x.length c]] w fun e w' => e = .returned (.bool (allB x (-1000000) 1000000)) ∧ Below w.heap.size w w' := by
  have HX := hid hx
  clear hx
  go_enter Try.func73, Try.ntmps73
  go_wp2_with fail
  refine (areWithin_any A c x _ _ _ (HX.out.below (below_a1 _ _)) hn).mono ?_
  rintro e w1 ⟨rfl, hb⟩
  have S1 := below_call (below_a1 _ _) hb
  clear hb
  go_wp2
  go_ret
  exact ⟨rfl, S1.out⟩
set_option maxHeartbeats 1000000 in
theorem slMin_any (A : Option Addr) (c : Nat) (x : List Int) (w : World) (hx : RdL (Value.int .i64) w A x) (hn : x.length ≤ 1048576) (hp : 0 < x.length) :
    Calls Try.prog 75 #[.slice A x.length c] w fun e w' => e = .returned (.int .i64 (minL x)) ∧ w = w' := by
  have HX := hid hx
  clear hx
  obtain ⟨b, o, y0, rfl, hy0, hym0⟩ := HX.out.at_ hp
  have hs : Hid (minL (x.take 1) = y0) := by
    show _ = _
    rw [show x.take 1 = x.take (0 + 1) from rfl, List.take_add_one, hym0.out]
    simp [minL]
  have hy0' : w.cell? ⟨b, o, none⟩ = some (.int .i64 y0) := by simpa using hy0
  go_enter Try.func75, Try.ntmps75
  go_wp2
  go_loop [3, 4] (fun v i => ∃ k : Nat, 1 ≤ k ∧ k ≤ x.length ∧ i = .int .i64 k ∧ ∃ z : Int, v = .int .i64 z ∧ Hid (minL (x.take k) = z)) (fun v i => x.length - (intOf i).toNat)
  case atStart => exact ⟨1, Nat.le_refl _, hp, rfl, _, rfl, hs⟩
  case round =>
    obtain ⟨k, hk1, hk, rfl, z, rfl, hh⟩ := hrel
    by_cases hlt : k < x.length
    · have hi : (k : Int) < (x.length : Int) := by omega
      obtain ⟨b', o', y, hA', hcy, hym⟩ := HX.out.at_ hlt
      obtain ⟨rfl, rfl⟩ : b = b' ∧ o = o' := by injection hA' with hA'; injection hA' with h1 h2; exact ⟨h1, h2⟩
      have hne : x.take k ≠ [] := by
        intro h
        have h2 : (x.take k).length = k := by simp; omega
        rw [h] at h2; simp at h2; omega
      have he : Hid (minL (x.take (k + 1)) = min z y) := by
        show _ = _
        rw [List.take_add_one, hym.out, Option.toList_some, minL_snoc y hne, hh.out]
      clear hA' hne
      by_cases hzy : z ≤ y
      · rw [show min z y = z by omega] at he
        go_wp2
        exact ⟨⟨k + 1, by omega, by omega, by go_num, _, rfl, he⟩, by simp [intOf]; omega⟩
      · rw [show min z y = y by omega] at he
        have hyz : y < z := by omega
        clear hzy
        go_wp2
        exact ⟨⟨k + 1, by omega, by omega, by go_num, _, rfl, he⟩, by simp [intOf]; omega⟩
    · have hi : ¬ (k : Int) < (x.length : Int) := by omega
      go_wp2
      go_ret
      have he := hh.out
      rw [List.take_of_length_le (by omega)] at he
      exact ⟨ret_int he.symm, rfl⟩
set_option maxRecDepth 100000 in
set_option maxHeartbeats 3200000 in
theorem sCellsDot_any (a0 a1 a2 : Int) (A : Option Addr) (c : Nat) (x : List Int) (b0 b1 b2 : Int) (A' : Option Addr) (c' : Nat) (y : List Int) (w : World) (h0 : W64 a0) (h1 : W64 a1) (h2 : W64 a2) (hx : RdL (Value.int .i64) w A x) (hn : x.length ≤ 1048576) (we : ∀ y ∈ x, W64 y) (h0' : W64 b0) (h1' : W64 b1) (h2' : W64 b2) (hy : RdL (Value.int .i64) w A' y) (hn' : y.length ≤ 1048576) (we' : ∀ z ∈ y, W64 z) :
    Calls Try.prog 22 #[.agg #[.int .i64 a0, .int .i64 a1, .int .i64 a2, .slice A x.length c], .agg #[.int .i64 b0, .int .i64 b1, .int .i64 b2, .slice A' y.length c']] w fun e w' => e = .returned (.tuple #[.int .i64 (pCellsDot a0 a1 a2 x b0 b1 b2 y).1, .bool (pCellsDot a0 a1 a2 x b0 b1 b2 y).2]) ∧ Below w.heap.size w w' := by
  have HX := hid hx
  have HY := hid hy
  clear hx hy we we' h0 h1 h2 h0' h1' h2'
  have BA0 := hid ((Blk.new w 41 [.int .i64 a0, .int .i64 a1, .int .i64 a2, .slice A x.length c]).alloc (.cells #[.int .i64 b0, .int .i64 b1, .int .i64 b2, .slice A' y.length c'] 41))
  have BB0 := hid (Blk.new2 w (.cells #[.int .i64 a0, .int .i64 a1, .int .i64 a2, .slice A x.length c] 41) 41 [.int .i64 b0, .int .i64 b1, .int .i64 b2, .slice A' y.length c'])
  obtain ⟨k0, k1, k2, k3⟩ := BA0.out.cells4
  obtain ⟨l0, l1, l2, l3⟩ := BB0.out.cells4
  have key : ∀ u v z : Bool, alikeC a0 a1 a2 x b0 b1 b2 y = u → allB x (-1000000) 1000000 = v → allB y (-1000000) 1000000 = z → (u && v && z) = false →
      Calls Try.prog 22 #[.agg #[.int .i64 a0, .int .i64 a1, .int .i64 a2, .slice A x.length c], .agg #[.int .i64 b0, .int .i64 b1, .int .i64 b2, .slice A' y.length c']] w fun e w' => e = .returned (.tuple #[.int .i64 0, .bool false]) ∧ Below w.heap.size w w' := by
    intro u v z hu hv hz hno
    cases u
    case' true =>
      cases v
      case' true => cases z
    all_goals
      first
      | (exfalso; revert hno; decide)
      | (go_enter Try.func22, Try.ntmps22
         go_wp2_with fail
         refine (l03Like_any w.heap.size (w.heap.size + 1) c c' A A' a0 a1 a2 b0 b1 b2 x y _ k0 k1 k2 k3 l0 l1 l2 l3 (HX.out.below (below_a2 _ _ _)) (HY.out.below (below_a2 _ _ _)) hn hn').mono ?_
         rw [hu]
         rintro e w1 ⟨rfl, m, hm⟩
         have hb := below_of_draw hm
         clear hm k0 k1 k2 l0 l1 l2 k3 l3 hno
         have S1 := below_call (below_a2 _ _ _) hb
         have k3 := (BA0.out.below hb).cells4.2.2.2
         have l3 := (BB0.out.below hb).cells4.2.2.2
         clear hb hu
         go_wp2_with fail
         first
         | (go_ret2
            exact ⟨rfl, S1.out⟩)
         | (refine (l03Small_any w.heap.size c A x _ k3 (HX.out.below S1.out) hn).mono ?_
            rw [hv]
            rintro e w2 ⟨rfl, rfl⟩
            go_wp2_with fail
            first
            | (go_ret2
               exact ⟨rfl, S1.out⟩)
            | (refine (l03Small_any (w.heap.size + 1) c' A' y _ l3 (HY.out.below S1.out) hn').mono ?_
               rw [hz]
               rintro e w2 ⟨rfl, rfl⟩
               go_wp2
               go_ret2
               exact ⟨rfl, S1.out⟩)))
  cases hgo : (alikeC a0 a1 a2 x b0 b1 b2 y && allB x (-1000000) 1000000 && allB y (-1000000) 1000000) with
  | false =>
    have hp : pCellsDot a0 a1 a2 x b0 b1 b2 y = (0, false) := by simp only [pCellsDot, hgo]; rfl
    rw [hp]
    exact key _ _ _ rfl rfl rfl hgo
  | true =>
  have hp : pCellsDot a0 a1 a2 x b0 b1 b2 y = (minL (dotsL x y a0.toNat a1.toNat), true) := by simp only [pCellsDot, hgo]; rfl
  rw [hp]
  simp only [Bool.and_eq_true] at hgo
  obtain ⟨⟨hal, hax⟩, hay⟩ := hgo
  obtain ⟨hv, hv', rfl, rfl, rfl⟩ := alikeC_iff hal
  obtain ⟨⟨hw1, hw2⟩, ⟨hd1, hd2⟩, ⟨hs1, hs2⟩, hl, _⟩ := vCells_iff' hv
  obtain ⟨_, _, _, hl', _⟩ := vCells_iff' hv'
  obtain ⟨wd, rfl⟩ := Int.eq_ofNat_of_zero_le (show 0 ≤ a0 by omega)
  obtain ⟨dp, rfl⟩ := Int.eq_ofNat_of_zero_le (show 0 ≤ a1 by omega)
  simp only [Int.toNat_natCast]
  have hlx : x.length = wd * dp := by rw [← Int.natCast_mul] at hl; omega
  have hly : y.length = wd * dp := by rw [← Int.natCast_mul] at hl'; omega
  have hlx4 : x.length ≤ 384 := by rw [hlx]; have := Nat.mul_le_mul (show wd ≤ 64 by omega) (show dp ≤ 6 by omega); omega
  have hly4 : y.length ≤ 384 := by rw [hly]; have := Nat.mul_le_mul (show wd ≤ 64 by omega) (show dp ≤ 6 by omega); omega
  have BX := hid (allB_iff hax)
  have BY := hid (allB_iff hay)
  have LX := hid hlx
  have LY := hid hly
  have HAL := hid hal
  have HAX := hid hax
  have HAY := hid hay
  clear hl hl' hlx hly hal hax hay hp key hv hv'
  go_enter Try.func22, Try.ntmps22
  go_wp2_with fail
  refine (l03Like_any w.heap.size (w.heap.size + 1) c c' A A' wd dp a2 wd dp a2 x y _ k0 k1 k2 k3 l0 l1 l2 l3 (HX.out.below (below_a2 _ _ _)) (HY.out.below (below_a2 _ _ _)) hn hn').mono ?_
  rw [HAL.out]
  rintro e w1 ⟨rfl, m, hm⟩
  have hb := below_of_draw hm
  clear hm k0 k1 k2 l0 l1 l2 k3 l3
  have S1 := below_call (below_a2 _ _ _) hb
  obtain ⟨k0, k1, k2, k3⟩ := (BA0.out.below hb).cells4
  have l3 := (BB0.out.below hb).cells4.2.2.2
  have X1 := hid (HX.out.below S1.out)
  have Y1 := hid (HY.out.below S1.out)
  clear hb k2
  go_wp2_with fail
  refine (l03Small_any w.heap.size c A x _ k3 X1.out hn).mono ?_
  rw [HAX.out]
  rintro e w2 ⟨rfl, rfl⟩
  go_wp2_with fail
  refine (l03Small_any (w.heap.size + 1) c' A' y _ l3 Y1.out hn').mono ?_
  rw [HAY.out]
  rintro e w2 ⟨rfl, rfl⟩
  go_wp2
  go_loopw [6, 7, 8, 9] (fun v i s_ k_ wr => ∃ k n : Nat, k ≤ dp ∧ i = .int .i64 k ∧ wr = w1.drewN n ∧ ∃ z : Int, v = .int .i64 z ∧ Hid (minL (dotsL x y wd k) = z)) (fun v i s_ k_ _ => dp - (intOf i).toNat)
  case atStart => exact ⟨0, 0, Nat.zero_le _, rfl, rfl, 0, rfl, rfl⟩
  case round =>
    obtain ⟨k, n, hkr, rfl, rfl, z, rfl, hz⟩ := hrel
    by_cases hlt : k < dp
    · have hi : (k : Int) < (dp : Int) := by omega
      have hR := hid (prodL_length (i := k) LX.out LY.out hlt)
      have hSB := hid (sum_bound (l := prodL x y wd k) (M := 1000000000000) (by omega) (prodL_bound BX.out BY.out))
      have hm := mul_le6 (show k ≤ 6 by omega) (show wd ≤ 64 by omega)
      have hwlen : k * wd + wd ≤ wd * dp := by
        have h2 : (k + 1) * wd ≤ dp * wd := Nat.mul_le_mul_right wd hlt
        rw [Nat.add_mul, Nat.mul_comm dp wd] at h2
        omega
      go_wp2
      go_loopw [8, 9] (fun v j wi => ∃ q n : Nat, q ≤ wd ∧ j = .int .i64 q ∧ wi = w1.drewN n ∧ ∃ s : Int, v = .int .i64 s ∧ Hid (((prodL x y wd k).take q).sum = s)) (fun v j _ => wd - (intOf j).toNat)
      case atStart => exact ⟨0, n, Nat.zero_le _, rfl, rfl, 0, rfl, by show ((prodL x y wd k).take 0).sum = 0; simp⟩
      case round =>
        obtain ⟨q, n, hqr, rfl, rfl, s, rfl, hh⟩ := hrel
        by_cases hlq : q < wd
        · have hi' : (q : Int) < (wd : Int) := by omega
          have hlX := LX.out
          have hlY := LY.out
          have hix : k * wd + q < x.length := by omega
          have hiy : k * wd + q < y.length := by omega
          clear hlX hlY
          obtain ⟨b, o, u, rfl, hcu, hun⟩ := X1.out.at_ hix
          obtain ⟨b', o', t, rfl, hct, htn⟩ := Y1.out.at_ hiy
          have he : Hid (((prodL x y wd k).take (q + 1)).sum = s + u * t) := by rw [sum_snoc (prodL_at hlq hun htn), hh.out]; rfl
          have hub := BX.out u (List.mem_of_getElem? hun.out)
          have htb := BY.out t (List.mem_of_getElem? htn.out)
          have hpb := mul_small hub htb
          have hzb := hSB.out q
          rw [hh.out] at hzb
          have hcast : ((k * wd + q : Nat) : Int) = (k : Int) * (wd : Int) + (q : Int) := by rw [Int.natCast_add, Int.natCast_mul]
          have e1 : IntKind.i64.wrap ((k : Int) * (wd : Int)) = (k : Int) * (wd : Int) := by rw [IntKind.wrap_i64]; omega
          have e2 : IntKind.i64.wrap ((k : Int) * (wd : Int) + (q : Int)) = (k : Int) * (wd : Int) + (q : Int) := by rw [IntKind.wrap_i64]; omega
          have e3 : ((k : Int) * (wd : Int) + (q : Int)).toNat = k * wd + q := by rw [← hcast]; exact Int.toNat_natCast _
          have e4 : (k : Int) * (wd : Int) + (q : Int) < (x.length : Int) := by rw [← hcast]; omega
          have e4' : (k : Int) * (wd : Int) + (q : Int) < (y.length : Int) := by rw [← hcast]; omega
          have e5 : (0 : Int) ≤ (k : Int) * (wd : Int) + (q : Int) := by omega
          have e6 : IntKind.i64.wrap (u * t) = u * t := by rw [IntKind.wrap_i64]; omega
          have e7 : IntKind.i64.wrap (s + u * t) = s + u * t := by rw [IntKind.wrap_i64]; omega
          clear hcast
          go_wp2
          go_quiet (fail)
          go_wp2
          exact ⟨⟨q + 1, _, by omega, by go_num, rfl, _, rfl, he⟩, by simp [intOf]; omega⟩
        · have hi' : ¬ (q : Int) < (wd : Int) := by omega
          have hs := hh.out
          rw [List.take_of_length_le (by rw [hR.out]; omega)] at hs
          have HS := hid hs
          clear hs
          rcases (show k = 0 ∨ 0 < k by omega) with rfl | hk0
          · have he : Hid (minL (dotsL x y wd (0 + 1)) = s) := by show _ = _; rw [dotsL_succ, HS.out]; rfl
            go_wp2
            exact ⟨⟨1, _, by omega, by go_num, rfl, _, rfl, he⟩, by simp [intOf]; omega⟩
          · have hne : dotsL x y wd k ≠ [] := by intro h; have := dotsL_length x y wd k; rw [h] at this; simp at this; omega
            have he : Hid (minL (dotsL x y wd (k + 1)) = min z s) := by show _ = _; rw [dotsL_succ, HS.out, minL_snoc s hne, hz.out]
            have hkz : ((k : Int) == 0) = false := by simp; omega
            clear hne
            by_cases hsz : s < z
            · rw [show min z s = s by omega] at he
              go_wp2
              exact ⟨⟨k + 1, _, by omega, by go_num, rfl, _, rfl, he⟩, by simp [intOf]; omega⟩
            · rw [show min z s = z by omega] at he
              go_wp2
              exact ⟨⟨k + 1, _, by omega, by go_num, rfl, _, rfl, he⟩, by simp [intOf]; omega⟩
    · have hi : ¬ (k : Int) < (dp : Int) := by omega
      obtain rfl : k = dp := by omega
      go_wp2
      go_ret2
      exact ⟨by rw [← hz.out]; rfl, below_drewX S1.out⟩
set_option maxRecDepth 100000 in
set_option maxHeartbeats 3200000 in
theorem iCellsDot_any (a0 a1 a2 : Int) (A : Option Addr) (c : Nat) (x : List Int) (b0 b1 b2 : Int) (A' : Option Addr) (c' : Nat) (y : List Int) (w : World) (h0 : W64 a0) (h1 : W64 a1) (h2 : W64 a2) (hx : RdL (Value.int .i64) w A x) (hn : x.length ≤ 1048576) (we : ∀ y ∈ x, W64 y) (h0' : W64 b0) (h1' : W64 b1) (h2' : W64 b2) (hy : RdL (Value.int .i64) w A' y) (hn' : y.length ≤ 1048576) (we' : ∀ z ∈ y, W64 z) (hc : (x.length ≤ c ∧ c ≤ 1048576) ∧ y.length ≤ c' ∧ c' ≤ 1048576 := by omega) :
    Calls Try.prog 24 #[.agg #[.int .i64 a0, .int .i64 a1, .int .i64 a2, .slice A x.length c], .agg #[.int .i64 b0, .int .i64 b1, .int .i64 b2, .slice A' y.length c']] w fun e w' => e = .returned (.tuple #[.int .i64 (pCellsDot a0 a1 a2 x b0 b1 b2 y).1, .bool (pCellsDot a0 a1 a2 x b0 b1 b2 y).2]) ∧ Below w.heap.size w w' := by
  have HX := hid hx
  have HY := hid hy
  have WX := hid we
  have WY := hid we'
  clear hx hy we we'
  have BA0 := hid ((Blk.new w 41 [.int .i64 a0, .int .i64 a1, .int .i64 a2, .slice A x.length c]).alloc (.cells #[.int .i64 b0, .int .i64 b1, .int .i64 b2, .slice A' y.length c'] 41))
  have BB0 := hid (Blk.new2 w (.cells #[.int .i64 a0, .int .i64 a1, .int .i64 a2, .slice A x.length c] 41) 41 [.int .i64 b0, .int .i64 b1, .int .i64 b2, .slice A' y.length c'])
  obtain ⟨k0, k1, k2, k3⟩ := BA0.out.cells4
  obtain ⟨l0, l1, l2, l3⟩ := BB0.out.cells4
  have key : ∀ u v z : Bool, alikeC a0 a1 a2 x b0 b1 b2 y = u → allB x (-1000000) 1000000 = v → allB y (-1000000) 1000000 = z → (u && v && z) = false →
      Calls Try.prog 24 #[.agg #[.int .i64 a0, .int .i64 a1, .int .i64 a2, .slice A x.length c], .agg #[.int .i64 b0, .int .i64 b1, .int .i64 b2, .slice A' y.length c']] w fun e w' => e = .returned (.tuple #[.int .i64 0, .bool false]) ∧ Below w.heap.size w w' := by
    intro u v z hu hv hz hno
    cases u
    case' true =>
      cases v
      case' true => cases z
    all_goals
      first
      | (exfalso; revert hno; decide)
      | (go_enter Try.func24, Try.ntmps24
         go_wp2_with fail
         refine (alike_any a0 a1 a2 A c x b0 b1 b2 A' c' y _ h0 h1 h2 (HX.out.below (below_a2 _ _ _)) hn WX.out h0' h1' h2' (HY.out.below (below_a2 _ _ _)) hn' WY.out).mono ?_
         rw [hu]
         rintro e w1 ⟨rfl, hb⟩
         clear k0 k1 k2 l0 l1 l2 k3 l3 hno
         have S1 := below_call (below_a2 _ _ _) hb
         have B1 := hid (BA0.out.below hb)
         have C1 := hid (BB0.out.below hb)
         obtain ⟨k0, k1, k2, k3⟩ := B1.out.cells4
         clear hb hu
         go_wp2_with fail
         first
         | (go_ret2
            exact ⟨rfl, S1.out⟩)
         | (refine (areSmall_any a0 a1 a2 A c x _ (HX.out.below S1.out) hn).mono ?_
            rw [hv]
            rintro e w2 ⟨rfl, hb⟩
            have S2 := hid (S1.out.trans (hb.mono S1.out.size))
            obtain ⟨l0, l1, l2, l3⟩ := (C1.out.below hb).cells4
            clear hb k0 k1 k2 k3
            go_wp2_with fail
            first
            | (go_ret2
               exact ⟨rfl, S2.out⟩)
            | (refine (areSmall_any b0 b1 b2 A' c' y _ (HY.out.below S2.out) hn').mono ?_
               rw [hz]
               rintro e w3 ⟨rfl, hb⟩
               have S3 := hid (S2.out.trans (hb.mono S2.out.size))
               clear hb l0 l1 l2 l3
               go_wp2
               go_ret2
               exact ⟨rfl, S3.out⟩)))
  cases hgo : (alikeC a0 a1 a2 x b0 b1 b2 y && allB x (-1000000) 1000000 && allB y (-1000000) 1000000) with
  | false =>
    have hp : pCellsDot a0 a1 a2 x b0 b1 b2 y = (0, false) := by simp only [pCellsDot, hgo]; rfl
    rw [hp]
    exact key _ _ _ rfl rfl rfl hgo
  | true =>
  have hp : pCellsDot a0 a1 a2 x b0 b1 b2 y = (minL (dotsL x y a0.toNat a1.toNat), true) := by simp only [pCellsDot, hgo]; rfl
  rw [hp]
  simp only [Bool.and_eq_true] at hgo
  obtain ⟨⟨hal, hax⟩, hay⟩ := hgo
  obtain ⟨hv, hv', rfl, rfl, rfl⟩ := alikeC_iff hal
  obtain ⟨⟨hw1, hw2⟩, ⟨hd1, hd2⟩, ⟨hs1, hs2⟩, hl, _⟩ := vCells_iff' hv
  obtain ⟨_, _, _, hl', _⟩ := vCells_iff' hv'
  obtain ⟨wd, rfl⟩ := Int.eq_ofNat_of_zero_le (show 0 ≤ a0 by omega)
  obtain ⟨dp, rfl⟩ := Int.eq_ofNat_of_zero_le (show 0 ≤ a1 by omega)
  obtain ⟨s, rfl⟩ := Int.eq_ofNat_of_zero_le hs1
  simp only [Int.toNat_natCast]
  have hlx : x.length = wd * dp := by rw [← Int.natCast_mul] at hl; omega
  have hly : y.length = wd * dp := by rw [← Int.natCast_mul] at hl'; omega
  have hlx4 : x.length ≤ 384 := by rw [hlx]; have := Nat.mul_le_mul (show wd ≤ 64 by omega) (show dp ≤ 6 by omega); omega
  have hly4 : y.length ≤ 384 := by rw [hly]; have := Nat.mul_le_mul (show wd ≤ 64 by omega) (show dp ≤ 6 by omega); omega
  have hpx : 0 < x.length := by rw [hlx]; exact Nat.mul_pos (by omega) (by omega)
  have hpy : 0 < y.length := by rw [hly]; exact Nat.mul_pos (by omega) (by omega)
  have BX := hid (allB_iff hax)
  have BY := hid (allB_iff hay)
  have LX := hid hlx
  have LY := hid hly
  have HAL := hid hal
  have HAX := hid hax
  have HAY := hid hay
  clear hl hl' hlx hly hal hax hay hp key hv hv'
  obtain ⟨b, o, _, rfl, _, _⟩ := HX.out.at_ hpx
  obtain ⟨b', o', _, rfl, _, _⟩ := HY.out.at_ hpy
  obtain ⟨i0, hi0, hz0, hz1, hz2⟩ := info_parts Try.infoI
  go_enter Try.func24, Try.ntmps24
  go_wp2_with fail
  refine (alike_any wd dp s _ c x wd dp s _ c' y _ h0 h1 h2 (HX.out.below (below_a2 _ _ _)) hn WX.out h0' h1' h2' (HY.out.below (below_a2 _ _ _)) hn' WY.out).mono ?_
  rw [HAL.out]
  rintro e w1 ⟨rfl, hb⟩
  clear k0 k1 k2 l0 l1 l2 k3 l3
  have S1 := below_call (below_a2 _ _ _) hb
  have B1 := hid (BA0.out.below hb)
  have C1 := hid (BB0.out.below hb)
  obtain ⟨k0, k1, k2, k3⟩ := B1.out.cells4
  clear hb BA0 BB0
  go_wp2_with fail
  refine (areSmall_any wd dp s _ c x _ (HX.out.below S1.out) hn).mono ?_
  rw [HAX.out]
  rintro e w2 ⟨rfl, hb⟩
  have S2 := hid (S1.out.trans (hb.mono S1.out.size))
  have B2 := hid (B1.out.below hb)
  have C2 := hid (C1.out.below hb)
  obtain ⟨l0, l1, l2, l3⟩ := C2.out.cells4
  clear hb k0 k1 k2 k3 B1 C1 S1
  go_wp2_with fail
  refine (areSmall_any wd dp s _ c' y _ (HY.out.below S2.out) hn').mono ?_
  rw [HAY.out]
  rintro e w3 ⟨rfl, hb⟩
  have S3 := hid (S2.out.trans (hb.mono S2.out.size))
  have B3 := hid (B2.out.below hb)
  have C3 := hid (C2.out.below hb)
  have X3 := hid (HX.out.below S3.out)
  have Y3 := hid (HY.out.below S3.out)
  clear hb l0 l1 l2 l3 B2 C2 S2
  obtain ⟨k0, k1, k2, k3⟩ := (B3.out.alloc (.cells #[] 2)).cells4
  go_wp2
  go_loopw [6, 7, 8, 9, 10, 28] (fun v i_ s_ k_ n_ i wr => ∃ k : Nat, k ≤ dp ∧ i = .int .i64 k ∧ Hid (wr.ownsRow w3.heap.size 2 1 v k ((dotsL x y wd k).map (Value.int .i64))) ∧ Hid (Below w3.heap.size w3 wr)) (fun v i_ s_ k_ n_ i _ => dp - (intOf i).toNat)
  case atStart => exact ⟨0, Nat.zero_le _, rfl, World.ownsRow_made w3 #[] 0 (Nat.le_refl _) (Nat.zero_le _) rfl, below_a1 _ _⟩
  case round =>
    obtain ⟨k, hkr, rfl, hown, hW⟩ := hrel
    have BR := hid (B3.out.below hW.out)
    have CR := hid (C3.out.below hW.out)
    obtain ⟨e0, e1, e2, e3⟩ := BR.out.cells4
    by_cases hlt : k < dp
    · have hi : (k : Int) < (dp : Int) := by omega
      have hR := hid (prodL_length (i := k) LX.out LY.out hlt)
      have hSB := hid (sum_bound (l := prodL x y wd k) (M := 1000000000000) (by omega) (prodL_bound BX.out BY.out))
      clear k0 k1 k2 k3
      go_wp2_with fail
      refine (irow_any wd dp s k x.length c b o _ (by omega) (by omega) hlt (by omega) LX.out hc.1.1 hc.1.2).mono ?_
      rintro e w4 ⟨c4, rfl, _, hb⟩
      have S4 := hid (S3.out.trans ((hW.out.trans (hb.mono hW.out.size)).mono S3.out.size))
      have W4 := hid (hW.out.trans (hb.mono hW.out.size))
      have C4 := hid (CR.out.below hb)
      have RX := hid (rowL_rd (i := k) (wd := wd) ((X3.out.below hW.out).below hb))
      have hRX := hid (rowL_length (i := k) LX.out hlt)
      have hRY := hid (rowL_length (i := k) LY.out hlt)
      have OW4 : Hid (w4.ownsRow w3.heap.size 2 1 u6 k ((dotsL x y wd k).map (Value.int .i64))) := ownsRow_below hown.out hb
      clear hb e0 e1 e2 e3 hown hW BR CR
      go_wp2
      go_loopw [8, 9, 10, 35] (fun v k_ n_ j wi => ∃ q : Nat, q ≤ wd ∧ j = .int .i64 q ∧ Hid (Below w4.heap.size w4 wi) ∧ ∃ t : Int, v = .int .i64 t ∧ Hid (((prodL x y wd k).take q).sum = t)) (fun v k_ n_ j _ => wd - (intOf j).toNat)
      case atStart => exact ⟨0, Nat.zero_le _, rfl, Below.refl _ _, 0, rfl, by show ((prodL x y wd k).take 0).sum = 0; simp⟩
      case round =>
        obtain ⟨q, hqr, rfl, hV, t, rfl, hh⟩ := hrel
        by_cases hlq : q < wd
        · have hi' : (q : Int) < (wd : Int) := by omega
          obtain ⟨bx, ox, u, hAx, hcu, hun⟩ := (RX.out.below hV.out).at_ (k := q) (by rw [hRX.out]; exact hlq)
          injection hAx with hAx; injection hAx with h1 h2
          subst h1 h2
          obtain ⟨g0, g1, g2, g3⟩ := (C4.out.below hV.out).cells4
          go_wp2_with fail
          refine (irow_any wd dp s k y.length c' b' o' _ (by omega) (by omega) hlt (by omega) LY.out hc.2.1 hc.2.2).mono ?_
          rintro e w5 ⟨c5, rfl, _, hb⟩
          have RY := hid (rowL_rd (i := k) (wd := wd) ((((Y3.out.below W4.out).below hV.out)).below hb))
          have V5 := hid (hV.out.trans (hb.mono hV.out.size))
          clear hb g0 g1 g2 g3 hcu
          obtain ⟨by', oy, t2, hAy, hct, htn⟩ := RY.out.at_ (k := q) (by rw [hRY.out]; exact hlq)
          injection hAy with hAy; injection hAy with h1 h2
          subst h1 h2
          have hun' : Hid (x[k * wd + q]? = some u) := by show _ = _; rw [← rowL_at hlq]; exact hun.out
          have htn' : Hid (y[k * wd + q]? = some t2) := by show _ = _; rw [← rowL_at hlq]; exact htn.out
          have he : Hid (((prodL x y wd k).take (q + 1)).sum = t + u * t2) := by rw [sum_snoc (prodL_at hlq hun' htn'), hh.out]; rfl
          have hub := BX.out u (List.mem_of_getElem? hun'.out)
          have htb := BY.out t2 (List.mem_of_getElem? htn'.out)
          have hpb := mul_small hub htb
          have hzb := hSB.out q
          rw [hh.out] at hzb
          have e6 : IntKind.i64.wrap (u * t2) = u * t2 := by rw [IntKind.wrap_i64]; omega
          have e7 : IntKind.i64.wrap (t + u * t2) = t + u * t2 := by rw [IntKind.wrap_i64]; omega
          go_wp2
          exact ⟨⟨q + 1, by omega, by go_num, V5, _, rfl, he⟩, by simp [intOf]; omega⟩
        · have hi' : ¬ (q : Int) < (wd : Int) := by omega
          have hs := hh.out
          rw [List.take_of_length_le (by rw [hR.out]; omega)] at hs
          have HS := hid hs
          clear hs
          have OW5 := hid (ownsRow_below OW4.out hV.out)
          have W5 := hid (W4.out.trans (hV.out.mono W4.out.size))
          have hmx := dotsL_length x y wd k
          clear hmx
          go_wp2_with (at_builtin; refine wpList_append_own _ rfl _ _ 35 rfl w3.heap.size 2 i0 (.int .i64 0) 1 8 Try.underlying35 hi0 hz0 hz1 hz2 rfl (by decide) _ _ _ rfl (OW5.out.alloc _) ⟨wr.heap.size, 0, none⟩ 1 1 [.int .i64 t] rfl rfl ?c1 ?c2 ?c3 ?c4 ?c5 ?_)
          case c2 => rfl
          case c3 => simp only [maxLen]; omega
          case c4 => omega
          case c5 => have := W5.out.size; omega
          intro v' w6 hown' hgrow _
          have hd : (dotsL x y wd k).map (Value.int .i64) ++ [Value.int .i64 t] = (dotsL x y wd (k + 1)).map (Value.int .i64) := by rw [dotsL_succ, HS.out]; simp
          rw [hd] at hown'
          have O1 := hid hown'
          have W1 : Hid (Below w3.heap.size w3 w6) := (W5.out.alloc W5.out.size _).grown hgrow (by simp; have := W5.out.size; omega) (fun g hg => (OW5.out.lt g hg).1)
          clear hown' hgrow hd
          go_wp2
          exact ⟨⟨k + 1, by omega, by go_num, O1, W1⟩, by simp [intOf]; omega⟩
    · have hi : ¬ (k : Int) < (dp : Int) := by omega
      obtain rfl : k = dp := by omega
      obtain ⟨A9, c9, hv9, ho9⟩ := ownS_of_row hown.out (dotsL_length _ _ _ _)
      have hO9 := hid ho9.rd
      have hS9 := hid (S3.out.trans (hW.out.mono S3.out.size))
      clear ho9 hown e0 e1 e2 e3
      subst hv9
      go_wp2_with fail
      refine (slMin_any A9 c9 (dotsL x y wd k) _ hO9.out (by rw [dotsL_length]; omega) (by rw [dotsL_length]; omega)).mono ?_
      rintro e w9 ⟨rfl, rfl⟩
      go_wp2
      go_ret2
      exact ⟨rfl, hS9.out⟩
end Go.Proofs.Ytnngepnfljkbhaa
