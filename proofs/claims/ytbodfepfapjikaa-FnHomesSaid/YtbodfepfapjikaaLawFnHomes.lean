/-
  FnHomes: the walk of the law.
-/
import Derived.Test.YtbodfepfapjikaaHomesA
import Derived.Test.YtbodfepfapjikaaHomesB
import Derived.Test.YtbodfepfapjikaaHomesC
import Derived.Test.YtbodfepfapjikaaHomesD
import Derived.Test.YtbodfepfapjikaaHomesE
import Derived.Deep.CutRange
namespace Go.Proofs.Ytbodfepfapjikaa
open Go.RowKit
set_option linter.unusedVariables false
set_option linter.unusedSimpArgs false

theorem OwnV.slc {w : World} {B : Nat} {v : Value} {xs : List Int} (h : OwnV w B v xs) : ∃ A c, v = .slice A xs.length c ∧ xs.length ≤ c ∧ c ≤ 9223372036854775807 ∧ OwnS (Value.int .i64) w B 2 A xs := by
  obtain ⟨A, c, rfl, ho⟩ := h.ownS
  obtain ⟨hn, ⟨h, h0⟩ | ⟨g, cap, cur, hv, hB, hg, hc, hm, hs, ht⟩⟩ := h
  · injection h with h1 h2 h3
    exact ⟨A, c, rfl, by omega, by omega, ho⟩
  · injection hv with h1 h2 h3
    subst h3
    exact ⟨A, c, rfl, hc, hm, ho⟩
theorem bestK_take (f : Int → Nat) (xs : List Int) (m : Nat) : ∀ k, k ≤ m → bestK ((xs.take m).map f) k = bestK (xs.map f) k := by
  intro k
  induction k with
  | zero => intro _; rfl
  | succ k ih =>
    intro hk
    have h1 := ih (by omega)
    have hg : ∀ i, i < m → ((xs.take m).map f).getD i 0 = (xs.map f).getD i 0 := by
      intro i hi
      simp only [List.getD, List.getElem?_map, List.getElem?_take_of_lt hi]
    have hb : bestK (xs.map f) k < m := by
      rcases Nat.eq_zero_or_pos k with rfl | hp
      · show 0 < m; omega
      · have := bestK_lt (xs.map f) k hp; omega
    unfold bestK
    rw [h1, hg _ hb, hg k (by omega)]
theorem RdL.takeQ {f : Int → Value} {w : World} {A : Option Addr} {xs : List Int} (h : RdL f w A xs) (m : Nat) : RdL f w A (xs.take m) := fun j hj => by
  rw [List.length_take] at hj
  obtain ⟨b, o, hA, hc⟩ := h j (by omega)
  exact ⟨b, o, hA, by rw [hc]; simp⟩
theorem jump_c2 (key cnt : Nat) (w : World) (hk : key < 4294967296) (hc : cnt ≤ 100) : Calls Try.prog 47 #[.int .i64 key, .int .i64 ((cnt : Int) + 1)] w fun e w' => (∃ k, e = .returned (.tuple #[.int .i64 (jj key k), .bool true]) ∧ (∀ m, m ≤ k → jj key m < cnt + 1) ∧ cnt + 1 ≤ jj key (k + 1)) ∧ w = w' := by
  have h := JumpHome_any key (cnt + 1) w hk (by omega) (by omega)
  rw [show ((cnt + 1 : Nat) : Int) = (cnt : Int) + 1 by omega] at h
  exact h
theorem jump_c1 (key : Nat) (w : World) (hk : key < 4294967296) : Calls Try.prog 47 #[.int .i64 key, .int .i64 1] w fun e w' => e = .returned (.tuple #[.int .i64 0, .bool true]) ∧ w = w' := by
  have h := JumpHome_any key 1 w hk (by omega) (by omega)
  rw [show ((1 : Nat) : Int) = 1 from rfl] at h
  refine h.mono ?_
  rintro e w' ⟨⟨k, rfl, h1, h2⟩, rfl⟩
  have := h1 k (Nat.le_refl _)
  have e0 : jj key k = 0 := by omega
  exact ⟨by rw [e0]; rfl, rfl⟩
theorem ring_cases (h : Nat) : (ringV (h : Int) = 0 ∧ h ≤ 1000000000) ∨ (ringV (h : Int) = 1 ∧ 1000000000 < h ∧ h ≤ 2000000000) ∨ (ringV (h : Int) = 2 ∧ 2000000000 < h ∧ h ≤ 3000000000) ∨ (ringV (h : Int) = 0 ∧ 3000000000 < h) := by
  unfold ringV
  by_cases h1 : h ≤ 1000000000
  · exact .inl ⟨by rw [if_pos (by omega)], h1⟩
  · by_cases h2 : h ≤ 2000000000
    · exact .inr (.inl ⟨by rw [if_neg (by omega), if_pos (by omega)], by omega, h2⟩)
    · by_cases h3 : h ≤ 3000000000
      · exact .inr (.inr (.inl ⟨by rw [if_neg (by omega), if_neg (by omega), if_pos (by omega)], by omega, h3⟩))
      · exact .inr (.inr (.inr ⟨by rw [if_neg (by omega), if_neg (by omega), if_neg (by omega)], by omega⟩))
theorem Try.infoHB : (Try.prog.info? 4).map (fun i => (i.zero, i.size, i.bytes)) = some (some (.bool false), 1, 1) := by kernel_rfl
theorem half_cases {n : Nat} (h1 : 1 ≤ n) (h2 : n ≤ 60) : ∃ (h : Int) (M d : Nat), HM h M ∧ (halfD n : Int) = h ∧ n ≤ M * M ∧ M = 2 ^ d := by
  by_cases h4 : n ≤ 4
  · exact ⟨1, 2 ^ 1, 1, .inl ⟨rfl, rfl⟩, by unfold halfD; rw [if_pos h4]; rfl, by omega, rfl⟩
  · by_cases h16 : n ≤ 16
    · exact ⟨2, 2 ^ 2, 2, .inr (.inl ⟨rfl, rfl⟩), by unfold halfD; rw [if_neg h4, if_pos h16]; rfl, by omega, rfl⟩
    · exact ⟨3, 2 ^ 3, 3, .inr (.inr ⟨rfl, rfl⟩), by unfold halfD; rw [if_neg h4, if_neg h16]; rfl, by omega, rfl⟩
/-- Each number has a place; it leads back. -/
theorem swap_place {s n M d k : Nat} (hk : k < n) (hn : n ≤ M * M) (hM : M = 2 ^ d) : ∃ p, Lands (swF hashN s M) n k p ∧ Lands (bkF hashN s M) n p k := by
  subst hM
  have h1 : ∀ x, x < 2 ^ d * 2 ^ d → swF hashN s (2 ^ d) x < 2 ^ d * 2 ^ d := fun x hx => swF_lt hx
  have h2 : ∀ x, x < 2 ^ d * 2 ^ d → bkF hashN s (2 ^ d) (swF hashN s (2 ^ d) x) = x := fun x hx => bk_sw hx
  obtain ⟨m, hm⟩ := comes_below h1 h2 hn hk
  obtain ⟨p, hp⟩ := lands_of hm
  exact ⟨p, hp, hp.back h1 h2 hn hk⟩
set_option maxRecDepth 100000 in
set_option maxHeartbeats 6400000 in
theorem FnHomes_any (A : Option Addr) (c : Nat) (x : List Int) (A' : Option Addr) (c' : Nat) (y : List Int) (w : World) (hx : RdL (Value.int .u8) w A x) (hm : x.length ≤ 9223372036854775807) (hbx : Byt x) (hy : RdL (Value.int .u8) w A' y) (hm' : y.length ≤ 9223372036854775807) (hby : Byt y) :
    Calls Try.prog 11 #[.slice A x.length c, .slice A' y.length c'] w fun e w' => e = .returned (.bool true) ∧ Below w.heap.size w w' := by
  have HX := hid hx
  have HY := hid hy
  have BX := hid hbx
  have BY := hid hby
  clear hx hy hbx hby
  by_cases hlong : 48 < x.length ∨ 48 < y.length
  · have hd : decide (48 < x.length ∨ 48 < y.length) = true := decide_eq_true hlong
    have C0 : Hid (∀ w, Calls Try.prog 42 #[.slice A x.length c, .slice A' y.length c'] w fun e w' => e = .returned (.bool true) ∧ w = w') := fun w => hd ▸ r8Long_any A A' x.length y.length c c' w
    clear hd hlong
    go_enter Try.func11, Try.ntmps11
    go_wp2_with (go_at_call 42; refine (C0.out _).mono ?_; rintro e w' ⟨rfl, rfl⟩)
    go_ret
    exact ⟨rfl, Below.refl _ _⟩
  have hd : decide (48 < x.length ∨ 48 < y.length) = false := decide_eq_false hlong
  have C0 : Hid (∀ w, Calls Try.prog 42 #[.slice A x.length c, .slice A' y.length c'] w fun e w' => e = .returned (.bool false) ∧ w = w') := fun w => hd ▸ r8Long_any A A' x.length y.length c c' w
  have hn : x.length ≤ 1048576 := by omega
  have hn' : y.length ≤ 1048576 := by omega
  have CA : Hid (∀ (i n : Int) w', RdL (Value.int .u8) w' A' y → 0 ≤ i → i ≤ 1000 → 1 < n → n ≤ 256 → Calls Try.prog 44 #[.slice A' y.length c', .int .i64 i, .int .i64 n] w' fun e w'' => (∃ r, e = .returned (.int .i64 r) ∧ 0 ≤ r ∧ r < n) ∧ w' = w'') := fun i n w' h1 h2 h3 h4 h5 => r8At_any A' c' y i n w' h1 BY.out hn' h2 h3 h4 h5
  clear hd hlong
  go_enter Try.func11, Try.ntmps11
  go_wp2_with (go_at_call 42; refine (C0.out _).mono ?_; rintro e w' ⟨rfl, rfl⟩)
  refine (CA.out 40 6 w HY.out (by decide) (by decide) (by decide) (by decide)).mono ?_
  rintro e w' ⟨⟨r0, rfl, h00, h01⟩, rfl⟩
  go_wp2_with fail
  refine (r8Different_any A c x (2 + r0) w HX.out BX.out hn (by omega) (by omega)).mono ?_
  rintro e W1 ⟨v, K, rfl, hOK, hKl, hKb, hb⟩
  obtain ⟨Ak, ck, rfl, hck, hckm, hos⟩ := hOK.slc
  obtain ⟨m, hKm⟩ : ∃ m, K.length = m + 2 := ⟨K.length - 2, by omega⟩
  have hm5 : m ≤ 5 := by omega
  have O1 := hid hos
  have S1 := hid hb
  have KB := hid hKb
  have HKm := hid hKm
  rw [hKm] at hck ⊢
  clear hos hb hKb hOK hKl C0 hKm
  go_wp2_with fail
  refine (CA.out 41 256 W1 (HY.out.below S1.out) (by decide) (by decide) (by decide) (by decide)).mono ?_
  rintro e w' ⟨⟨r1, rfl, h10, h11⟩, rfl⟩
  go_wp2_with fail
  refine (CA.out 42 256 W1 (HY.out.below S1.out) (by decide) (by decide) (by decide) (by decide)).mono ?_
  rintro e w' ⟨⟨r2, rfl, h20, h21⟩, rfl⟩
  obtain ⟨key, hkey⟩ : ∃ key : Nat, r1 * 65537 + r2 = (key : Int) := Int.eq_ofNat_of_zero_le (by omega)
  have hkb : key < 4294967296 := by omega
  have hw1 : IntKind.i64.wrap (r1 * 65537) = r1 * 65537 := by rw [IntKind.wrap_i64]; omega
  have hw2 : IntKind.i64.wrap (r1 * 65537 + r2) = r1 * 65537 + r2 := by rw [IntKind.wrap_i64]; omega
  go_upto_region 6 with (fail)
  clear h00 h01 h10 h11 h20 h21 hkey hw1 hw2
  obtain ⟨home, hhome⟩ : ∃ home, home = bestK (nodeH key K) (m + 2) := ⟨_, rfl⟩
  obtain ⟨last, hlast⟩ : ∃ last, last = bestK (nodeH key K) (m + 1) := ⟨_, rfl⟩
  have hh1 : home < m + 2 := by rw [hhome]; exact bestK_lt _ _ (by omega)
  have hl1 : last < m + 1 := by rw [hlast]; exact bestK_lt _ _ (by omega)
  have hhl : home = m + 1 ∨ last = home := by
    have e : bestK (nodeH key K) (m + 2) = if (nodeH key K).getD (bestK (nodeH key K) (m + 1)) 0 < (nodeH key K).getD (m + 1) 0 then m + 1 else bestK (nodeH key K) (m + 1) := rfl
    rw [e] at hhome
    split at hhome
    · exact .inl hhome
    · exact .inr (by rw [hlast, hhome])
  have HLE : Hid (∀ i, i < m + 2 → (nodeH key K).getD i 0 ≤ (nodeH key K).getD home 0) := by rw [hhome]; exact bestK_le _ _
  have CH : Hid (∀ w, RdL (Value.int .i64) w Ak K → Calls Try.prog 45 #[.int .i64 key, .slice Ak (m + 2) ck] w fun e w' => e = .returned (.tuple #[.int .i64 home, .bool true]) ∧ ∃ n, w' = w.drewN n) := fun w h => by
    have := HomeOf_any key Ak ck K w hkb h (by rw [HKm.out]; omega) (by rw [HKm.out]; omega) KB.out
    rw [HKm.out, ← hhome] at this
    exact this
  have CL : Hid (∀ w, RdL (Value.int .i64) w Ak K → Calls Try.prog 45 #[.int .i64 key, .slice Ak (m + 1) ck] w fun e w' => e = .returned (.tuple #[.int .i64 last, .bool true]) ∧ ∃ n, w' = w.drewN n) := fun w h => by
    have hl : (K.take (m + 1)).length = m + 1 := by rw [List.length_take, HKm.out]; omega
    have := HomeOf_any key Ak ck (K.take (m + 1)) w hkb (h.takeQ (m + 1)) (by rw [hl]; omega) (by rw [hl]; omega) (fun z hz => KB.out z (List.mem_of_mem_take hz))
    rw [hl] at this
    have e : bestK (nodeH key (K.take (m + 1))) (m + 1) = last := by rw [hlast]; exact bestK_take _ K (m + 1) (m + 1) (Nat.le_refl _)
    rw [e] at this
    exact this
  clear hhome hlast
  go_wp2_with fail
  refine (CH.out _ O1.out.rd).mono ?_
  rintro e w2 ⟨rfl, nn2, hw2⟩
  have S2 : Hid (Below w.heap.size w w2) := by rw [hw2]; exact ⟨S1.out.os, S1.out.tape, S1.out.output, S1.out.size, S1.out.block⟩
  have O2 : Hid (OwnS (Value.int .i64) w2 w.heap.size 2 Ak K) := by rw [hw2]; exact O1.out
  clear hw2 CH
  go_wp2_with fail
  refine (CL.out _ O2.out.rd).mono ?_
  rintro e w3 ⟨rfl, nn3, hw3⟩
  have S3 : Hid (Below w.heap.size w w3) := by rw [hw3]; exact ⟨S2.out.os, S2.out.tape, S2.out.output, S2.out.size, S2.out.block⟩
  have O3 : Hid (OwnS (Value.int .i64) w3 w.heap.size 2 Ak K) := by rw [hw3]; exact O2.out
  clear hw3 CL O1 O2 S1 S2
  go_upto_region 8 with (fail)
  go_cut [104] from 54 to 104 (fun v wx => v = .bool false ∧ wx = w3)
  case first =>
    have g1 : ¬ (home : Int) < 0 := by omega
    have g2 : ¬ (m : Int) + 2 ≤ (home : Int) := by omega
    have g3 : ¬ (last : Int) < 0 := by omega
    have g4 : ¬ (m : Int) + 2 - 1 ≤ (last : Int) := by omega
    by_cases hc : home = m + 1
    · have g6 : ((last : Int) != (home : Int)) = true := by
        rw [bne_iff_ne]; omega
      have HC := hid hc
      clear hc
      have g5 : ((home : Int) != (m : Int) + 2 - 1) = false := by
        rw [bne_eq_false_iff_eq]; have := HC.out; omega
      go_wp2
      clear g5
      rw [show (m : Int) + 2 - 1 = (home : Int) by have := HC.out; omega]
      go_meet
      case rel => exact ⟨rfl, rfl⟩
    · have g6 : ((last : Int) != (home : Int)) = false := by
        rw [bne_eq_false_iff_eq]; omega
      have g5 : ((home : Int) != (m : Int) + 2 - 1) = true := by
        rw [bne_iff_ne]; omega
      go_wp2
      go_meet
      case rel => exact ⟨rfl, rfl⟩
  case rest =>
  obtain ⟨rfl, rfl⟩ := hcut
  go_wp2
  have hh2 : (home : Int) < (m : Int) + 2 := by omega
  go_loopw [12] (fun t wr => ∃ i : Nat, i ≤ m + 2 ∧ t = .int .i64 i ∧ wr = wc) (fun t _ => m + 2 - (intOf t).toNat)
  case atStart => exact ⟨0, by omega, rfl, rfl⟩
  case round =>
    obtain ⟨i, hi, rfl, rfl⟩ := hrel
    by_cases hlt : i < m + 2
    · have hil : (i : Int) < (m : Int) + 2 := by omega
      obtain ⟨b, o, z1, rfl, hc1, hz1⟩ := O3.out.rd.at_ (k := i) (by rw [HKm.out]; exact hlt)
      obtain ⟨b', o', z2, hA, hc2, hz2⟩ := O3.out.rd.at_ (k := home) (by rw [HKm.out]; exact hh1)
      injection hA with hA; injection hA with e1 e2
      subst e1; subst e2
      obtain ⟨hx0, hx1⟩ := KB.out z1 (List.mem_of_getElem? hz1.out)
      obtain ⟨hy0, hy1⟩ := KB.out z2 (List.mem_of_getElem? hz2.out)
      obtain ⟨z1, rfl⟩ := Int.eq_ofNat_of_zero_le hx0
      obtain ⟨z2, rfl⟩ := Int.eq_ofNat_of_zero_le hy0
      have hle := HLE.out i hlt
      rw [nodeH_getD hz1.out, nodeH_getD hz2.out] at hle
      obtain ⟨p, hp⟩ : ∃ p, p = hashN key z1 := ⟨_, rfl⟩
      obtain ⟨q, hq⟩ : ∃ q, q = hashN key z2 := ⟨_, rfl⟩
      have C1 : Hid (∀ w, Calls Try.prog 46 #[.int .i64 key, .int .i64 z1] w fun e w' => e = .returned (.tuple #[.int .i64 p, .bool true]) ∧ w = w') := fun w => by rw [hp]; exact HashOf_any key z1 w hkb (by omega)
      have C2 : Hid (∀ w, Calls Try.prog 46 #[.int .i64 key, .int .i64 z2] w fun e w' => e = .returned (.tuple #[.int .i64 q, .bool true]) ∧ w = w') := fun w => by rw [hq]; exact HashOf_any key z2 w hkb (by omega)
      rw [← hp, ← hq] at hle
      have hle' : ¬ (q : Int) < (p : Int) := by omega
      clear hp hq hz1 hz2 hx0 hx1 hy0 hy1
      go_wp2_with fail
      refine (C1.out _).mono ?_
      rintro e w' ⟨rfl, rfl⟩
      go_wp2_with fail
      refine (C2.out _).mono ?_
      rintro e w' ⟨rfl, rfl⟩
      go_wp2
      exact ⟨⟨i + 1, by omega, by go_num, trivial⟩, by simp [intOf]; omega⟩
    · have hil : ¬ (i : Int) < (m : Int) + 2 := by omega
      obtain rfl : i = m + 2 := by omega
      clear HLE hh1 hl1 hhl hh2
      go_wp2_with fail
      refine (CA.out 43 100 _ (HY.out.below S3.out) (by decide) (by decide) (by decide) (by decide)).mono ?_
      rintro e w' ⟨⟨r3, rfl, h30, h31⟩, rfl⟩
      obtain ⟨q3, rfl⟩ := Int.eq_ofNat_of_zero_le h30
      obtain ⟨cnt, hcnt⟩ : ∃ cnt, cnt = q3 + 1 := ⟨_, rfl⟩
      have hcnt1 : 1 + (q3 : Int) = (cnt : Int) := by omega
      have hcb : 1 ≤ cnt ∧ cnt ≤ 100 := by omega
      have v3 : IntKind.i64.wrap (1 + (q3 : Int)) = 1 + (q3 : Int) := by rw [IntKind.wrap_i64]; omega
      have HCN := hid hcnt1
      clear hcnt hcnt1
      go_upto_region 18 with (fail)
      clear v3 h30 h31
      rw [HCN.out]
      have CJ1 := hid (fun w => JumpHome_any key cnt w hkb hcb.1 (by omega))
      have CJ2 := hid (fun w => jump_c2 key cnt w hkb hcb.2)
      have CJ3 := hid (fun w => jump_c1 key w hkb)
      go_wp2_with fail
      refine (CJ1.out _).mono ?_
      rintro e w' ⟨⟨k1, rfl, hA1, hB1⟩, rfl⟩
      have HA1 := hid (And.intro hA1 hB1)
      have hj1 : jj key k1 < cnt := hA1 k1 (Nat.le_refl _)
      clear hA1 hB1
      have v4 : IntKind.i64.wrap ((cnt : Int) + 1) = (cnt : Int) + 1 := by rw [IntKind.wrap_i64]; omega
      go_wp2_with fail
      refine (CJ2.out _).mono ?_
      rintro e w' ⟨⟨k2, rfl, hA2, hB2⟩, rfl⟩
      have hnx := jump_next hkb (by omega) HA1.out.1 HA1.out.2 hA2 hB2
      clear hA2 hB2 v4
      go_wp2_with fail
      refine (CJ3.out _).mono ?_
      rintro e w' ⟨rfl, rfl⟩
      clear CJ1 CJ2 CJ3 HA1
      obtain ⟨p1, hp1⟩ : ∃ p, p = jj key k1 := ⟨_, rfl⟩
      obtain ⟨p2, hp2⟩ : ∃ p, p = jj key k2 := ⟨_, rfl⟩
      rw [← hp1] at hj1 hnx
      rw [← hp2] at hnx
      go_upto_region 21 with (fail)
      rw [← hp1, ← hp2]
      clear hp1 hp2
      obtain ⟨w5, hw5⟩ : ∃ w5 : World, w5 = wr := ⟨_, rfl⟩
      go_cut [192] from 139 to 192 (fun v wx => v = .bool false ∧ wx = wr)
      case first =>
        have g1 : ¬ (p1 : Int) < 0 := by omega
        have g2 : ¬ (cnt : Int) ≤ (p1 : Int) := by omega
        rcases hnx with rfl | rfl
        · go_wp2
          go_meet
          case rel => exact ⟨rfl, rfl⟩
        · have g3 : ((p2 : Int) != (p1 : Int)) = true := by rw [bne_iff_ne]; omega
          go_wp2
          go_meet
          case rel => exact ⟨rfl, rfl⟩
      case rest =>
      obtain ⟨rfl, rfl⟩ := hcut
      clear hnx hj1 hcb HCN
      go_wp2_with fail
      refine (CA.out 44 256 _ (HY.out.below S3.out) (by decide) (by decide) (by decide) (by decide)).mono ?_
      rintro e w' ⟨⟨r4, rfl, h40, h41⟩, rfl⟩
      obtain ⟨salt, rfl⟩ := Int.eq_ofNat_of_zero_le h40
      have hsb : salt < 4294967296 := by omega
      obtain ⟨h, hh⟩ : ∃ h, h = hashN key salt := ⟨_, rfl⟩
      have CHs : Hid (∀ w, Calls Try.prog 46 #[.int .i64 key, .int .i64 salt] w fun e w' => e = .returned (.tuple #[.int .i64 h, .bool true]) ∧ w = w') := fun w => by rw [hh]; exact HashOf_any key salt w hkb hsb
      have CR : Hid (∀ A c w, RdL (Value.int .i64) w A ringP → Calls Try.prog 48 #[.int .i64 key, .int .i64 salt, .slice A 3 c] w fun e w' => e = .returned (.tuple #[.int .i64 (ringV (h : Int)), .bool true]) ∧ Below w.heap.size w w') := fun A c w hr => by rw [hh]; exact RingHome_any key salt A c w hkb hsb hr
      clear hh h40 h41
      go_wp2_with fail
      refine (CHs.out _).mono ?_
      rintro e w' ⟨rfl, rfl⟩
      clear CHs
      go_wp2_with fail
      refine (CR.out _ _ _ (Blk.rd0 (xs := ringP) (Blk.new _ _ _))).mono ?_
      rintro e w6 ⟨rfl, hb6⟩
      have S6 : Hid (Below w.heap.size w w6) := (S3.out.alloc S3.out.size _).trans (hb6.mono (by have := S3.out.size; simp; omega))
      clear hb6 CR O3 S3
      go_upto_region 28 with (fail)
      rcases ring_cases h with ⟨hr, h1⟩ | ⟨hr, h1, h2⟩ | ⟨hr, h1, h2⟩ | ⟨hr, h1⟩
      all_goals
        rw [hr]
        clear hr
        first
          | (have g1 : ¬ (1000000000 : Int) < (h : Int) := by omega
             have g2 : ¬ (2000000000 : Int) < (h : Int) := by omega)
          | (have g1 : (1000000000 : Int) < (h : Int) := by omega
             have g2 : ¬ (2000000000 : Int) < (h : Int) := by omega
             have g3 : (h : Int) ≤ 2000000000 := by omega)
          | (have g1 : (1000000000 : Int) < (h : Int) := by omega
             have g2 : (2000000000 : Int) < (h : Int) := by omega
             have g3 : ¬ (h : Int) ≤ 2000000000 := by omega
             have g4 : (h : Int) ≤ 3000000000 := by omega)
          | (have g1 : (1000000000 : Int) < (h : Int) := by omega
             have g2 : (2000000000 : Int) < (h : Int) := by omega
             have g3 : ¬ (h : Int) ≤ 2000000000 := by omega
             have g4 : ¬ (h : Int) ≤ 3000000000 := by omega)
        go_wp2_with fail
        refine (CA.out 45 60 _ (HY.out.below S6.out) (by decide) (by decide) (by decide) (by decide)).mono ?_
        rintro e w' ⟨⟨r5, rfl, h50, h51⟩, rfl⟩
        obtain ⟨q5, rfl⟩ := Int.eq_ofNat_of_zero_le h50
        obtain ⟨sz, hsz⟩ : ∃ sz, sz = q5 + 1 := ⟨_, rfl⟩
        have HSZ : Hid (1 + (q5 : Int) = (sz : Int)) := by show _ = _; omega
        have hszb : 1 ≤ sz ∧ sz ≤ 60 := by omega
        have v5 : IntKind.i64.wrap (1 + (q5 : Int)) = 1 + (q5 : Int) := by rw [IntKind.wrap_i64]; omega
        clear hsz
        go_upto_region 35 with (fail)
        clear v5 h50 h51 CA
        rw [HSZ.out]
        clear HSZ
        have hmk := run_make_row' (P := Try.prog) 69 4 (.bool false) 1 Try.underlying69 Try.infoHB rfl .i64 .i64 sz (by omega) (by omega)
        obtain ⟨hI, M, d, hHM, hhD, hMM, hMd⟩ := half_cases hszb.1 hszb.2
        go_wp2
        have hB0 : Hid (Blk (w6.alloc (.cells (madeCells #[.bool false] sz) 4)) w6.heap.size 4 ((List.replicate sz false).map Value.bool)) := by rw [List.map_replicate]; exact Blk.made _ _ _ _
        have hW0 : Hid (Below w.heap.size w (w6.alloc (.cells (madeCells #[.bool false] sz) 4))) := S6.out.alloc S6.out.size _
        clear hmk
        obtain ⟨g, hg⟩ : ∃ g, g = w6.heap.size := ⟨_, rfl⟩
        have hgw : w.heap.size ≤ g := by rw [hg]; exact S6.out.size
        rw [← hg] at hB0 ⊢
        clear hg g1 g2
        go_loopw [33] (fun t wr => ∃ (k : Nat) (sn : List Bool), k ≤ sz ∧ t = .int .i64 k ∧ Hid (sn.length = sz) ∧ Hid (Blk wr g 4 (sn.map Value.bool)) ∧ Hid (∀ p, sn[p]? = some true → ∃ k', k' < k ∧ Lands (swF hashN salt M) sz k' p) ∧ Hid (Below w.heap.size w wr)) (fun t _ => sz - (intOf t).toNat)
        case atStart => exact ⟨0, List.replicate sz false, Nat.zero_le _, rfl, by show _ = _; simp, hB0, fun p hp => by simp [List.getElem?_replicate] at hp, hW0⟩
        case round =>
          obtain ⟨k, sn, hk, rfl, hsl, hB, hsn, hW⟩ := hrel
          clear hB0 hW0 S6
          by_cases hlt : k < sz
          · have hil : (k : Int) < (sz : Int) := by omega
            obtain ⟨p, hL1, hL2⟩ := swap_place (s := salt) hlt hMM hMd
            have hps : p < sz := by obtain ⟨_, _, h, _⟩ := hL1; exact h
            have hfalse : sn[p]? = some false := by
              cases hb : sn[p]? with
              | none => have := List.getElem?_eq_none_iff.1 hb; have := hsl.out; omega
              | some b =>
                cases b with
                | false => rfl
                | true =>
                  exfalso
                  obtain ⟨k', hk', hL3⟩ := hsn.out p hb
                  have h4 : Lands (bkF hashN salt M) sz p k' := by
                    subst hMd
                    exact hL3.back (fun x hx => swF_lt hx) (fun x hx => bk_sw hx) hMM (by omega)
                  have := h4.uniq hL2
                  omega
            have hcell : wr.cell? ⟨g, p, none⟩ = some (.bool false) := hB.out.cell (by rw [List.getElem?_map, hfalse]; rfl)
            have hfz := hB.out.frozen p
            have hlt3 : p < sn.length := by rw [hsl.out]; exact hps
            have C1 : Hid (∀ w, Calls Try.prog 49 #[.int .i64 k, .int .i64 sz, .int .i64 salt] w fun e w' => e = .returned (.tuple #[.int .i64 p, .bool true]) ∧ ∃ q, w' = w.drewN q) := fun w => by
              obtain ⟨mm, e1, e2, e3⟩ := hL1
              exact SwapPlace_any k sz salt hI M w hlt (by omega) hsb hhD hHM hMM p mm e1 e2 e3
            have C2 : Hid (∀ w, Calls Try.prog 50 #[.int .i64 p, .int .i64 sz, .int .i64 salt] w fun e w' => e = .returned (.tuple #[.int .i64 k, .bool true]) ∧ ∃ q, w' = w.drewN q) := fun w => by
              obtain ⟨mm, e1, e2, e3⟩ := hL2
              exact BackPlace_any p sz salt hI M w hps (by omega) hsb hhD hHM hMM k mm e1 e2 e3
            have hsn2 : Hid (∀ p', (sn.set p true)[p']? = some true → ∃ k', k' < k + 1 ∧ Lands (swF hashN salt M) sz k' p') := fun p' hp' => by
              rcases Nat.decEq p p' with hne | rfl
              · rw [List.getElem?_set_ne hne] at hp'
                obtain ⟨k', h1, h2⟩ := hsn.out p' hp'
                exact ⟨k', by omega, h2⟩
              · exact ⟨k, by omega, hL1⟩
            have hsl2 : Hid ((sn.set p true).length = sz) := by show _ = _; rw [List.length_set]; exact hsl.out
            have hpi : (p : Int) < (sz : Int) := by omega
            have hpn : ¬ (sz : Int) ≤ (p : Int) := by omega
            have hp0 : ¬ (p : Int) < 0 := by omega
            clear hfalse hL1 hL2 hlt3
            go_wp2_with fail
            refine (C1.out _).mono ?_
            rintro e w7 ⟨rfl, n7, hw7⟩
            have HW7 := hid hw7
            clear hw7
            go_wp2_with fail
            refine (C2.out _).mono ?_
            rintro e w8 ⟨rfl, n8, hw8⟩
            have e8 : ∃ n, w8 = wr.drewN n := ⟨_, by rw [hw8, HW7.out]; exact World.drewN_drewN _ _ _⟩
            obtain ⟨n9, hw9⟩ := e8
            have hcell8 : w8.cell? ⟨g, p, none⟩ = some (.bool false) := by rw [hw9]; exact hcell
            have hfz8 : w8.frozen? ⟨g, p, none⟩ = false := by rw [hw9]; exact hfz
            have B8 : Hid (Blk w8 g 4 (sn.map Value.bool)) := by rw [hw9]; exact hB.out
            have W8 : Hid (Below w.heap.size w w8) := by rw [hw9]; exact ⟨hW.out.os, hW.out.tape, hW.out.output, hW.out.size, hW.out.block⟩
            clear hw8 hw9 HW7 C1 C2 hcell hfz hB hW
            have B9 : Hid (Blk (w8.setCell ⟨g, p, none⟩ (.bool true)) g 4 ((sn.set p true).map Value.bool)) := by
              have := B8.out.set_ p (.bool true)
              rw [List.map_set]; exact this
            have W9 : Hid (Below w.heap.size w (w8.setCell ⟨g, p, none⟩ (.bool true))) := W8.out.setCell hgw _
            clear B8 W8
            go_wp2
            exact ⟨⟨k + 1, sn.set p true, by omega, by go_num, hsl2, B9, hsn2, W9⟩, by simp [intOf]; omega⟩
          · have hil : ¬ (k : Int) < (sz : Int) := by omega
            go_wp2
            go_ret
            exact ⟨rfl, hW.out⟩
end Go.Proofs.Ytbodfepfapjikaa
