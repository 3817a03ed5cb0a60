/-
  The first index of the least hash: the reference, by contracts; and the shape of LikeShare's answer.
-/
import Derived.Test.YtnngepnfljkbhaaLeastWalk
import Derived.Test.YtnngepnfljkbhaaHash
import Derived.Test.YtnngepnfljkbhaaRet
import Derived.Test.YtnngepnfljkbhaaCellsDot
namespace Go.Proofs.Ytnngepnfljkbhaa
open Go.RowKit Ieee
set_option linter.unusedVariables false
set_option linter.unusedSimpArgs false

/-- The hash of the key at place k. -/
def hashAt (x : List Int) (salt k : Nat) : Nat := hashN (x.getD k 0).toNat salt
/-- The first index of the least hash of the first n keys. -/
def leastTo (x : List Int) (salt : Nat) : Nat → Nat
  | 0 => 0
  | n + 1 => if hashAt x salt n < hashAt x salt (leastTo x salt n) then n else leastTo x salt n
theorem leastTo_one (x : List Int) (salt : Nat) : leastTo x salt 1 = 0 := by
  unfold leastTo leastTo
  split <;> rfl
theorem leastTo_lt (x : List Int) (salt : Nat) {n : Nat} (h : 0 < n) : leastTo x salt n < n := by
  induction n with
  | zero => omega
  | succ n ih =>
    unfold leastTo
    split
    · omega
    · rcases (show n = 0 ∨ 0 < n by omega) with rfl | h1
      · unfold leastTo; omega
      · have := ih h1; omega
/-- No hash is less, and those before it are greater. -/
theorem leastTo_spec (x : List Int) (salt : Nat) : ∀ n k, k < n → hashAt x salt (leastTo x salt n) ≤ hashAt x salt k ∧ (k < leastTo x salt n → hashAt x salt (leastTo x salt n) < hashAt x salt k) := by
  intro n
  induction n with
  | zero => intro k hk; omega
  | succ n ih =>
    intro k hk
    rw [leastTo]
    split
    · rename_i h
      rcases (show k = n ∨ k < n by omega) with rfl | h1
      · exact ⟨Nat.le_refl _, fun h2 => absurd h2 (by omega)⟩
      · have := (ih k h1).1
        exact ⟨by omega, fun _ => by omega⟩
    · rename_i h
      rcases (show k = n ∨ k < n by omega) with rfl | h1
      · refine ⟨by omega, fun h2 => ?_⟩
        rcases (show k = 0 ∨ 0 < k by omega) with rfl | h3
        · unfold leastTo at h2; omega
        · have := leastTo_lt x salt h3; omega
      · exact ih k h1

set_option maxRecDepth 100000 in
set_option maxHeartbeats 1600000 in
theorem l02LeastAt_any (A : Option Addr) (c : Nat) (x : List Int) (salt : Nat) (w : World) (hx : RdL (Value.int .i64) w A x) (hn : x.length ≤ 1048576) (hp : 0 < x.length) (hbd : ∀ y ∈ x, 0 ≤ y ∧ y ≤ 4294967295) (hs : salt < 4294967296) :
    Calls Try.prog 83 #[.slice A x.length c, .int .i64 salt] w fun e w' => e = .returned (.int .i64 (leastTo x salt x.length)) ∧ ∃ m, w' = w.drewN m := by
  have HX := hid hx
  have HBD := hid hbd
  clear hx hbd
  go_enter Try.func83, Try.ntmps83
  go_wp2
  go_loopw [5, 6] (fun v i wr => ∃ k b n : Nat, 1 ≤ k ∧ k ≤ x.length ∧ i = .int .i64 k ∧ v = .int .i64 b ∧ b < k ∧ wr = w.drewN n ∧ Hid (leastTo x salt k = b)) (fun v i _ => x.length - (intOf i).toNat)
  case atStart => exact ⟨1, 0, 0, Nat.le_refl _, hp, rfl, rfl, by omega, rfl, leastTo_one x salt⟩
  case round =>
    obtain ⟨k, b, n, hk1, hk, rfl, rfl, hbk, rfl, hh⟩ := hrel
    by_cases hlt : k < x.length
    · have hi : (k : Int) < (x.length : Int) := by omega
      have hib : (b : Int) < (x.length : Int) := by omega
      obtain ⟨ba, oa, y, rfl, hcy, hyk⟩ := HX.out.at_ hlt
      obtain ⟨bb, ob, z, hA', hcz, hzk⟩ := HX.out.at_ (k := b) (by omega)
      injection hA' with hA'; injection hA' with e1 e2
      subst e1 e2
      have hyb := HBD.out y (List.mem_of_getElem? hyk.out)
      have hzb := HBD.out z (List.mem_of_getElem? hzk.out)
      obtain ⟨yn, rfl⟩ := Int.eq_ofNat_of_zero_le hyb.1
      obtain ⟨zn, rfl⟩ := Int.eq_ofNat_of_zero_le hzb.1
      have hyl : yn < 4294967296 := by omega
      have hzl : zn < 4294967296 := by omega
      have hstep : leastTo x salt (k + 1) = if hashN yn salt < hashN zn salt then k else b := by
        rw [leastTo, hh.out]
        unfold hashAt
        rw [getD_of hyk, getD_of hzk]
        simp only [Int.toNat_natCast]
      have HS := hid hstep
      clear hstep hyb hzb
      obtain ⟨hy, hye⟩ : ∃ h, h = hashN yn salt := ⟨_, rfl⟩
      obtain ⟨hz, hze⟩ : ∃ h, h = hashN zn salt := ⟨_, rfl⟩
      rw [← hye, ← hze] at HS
      have C1 : Hid (∀ w, Calls Try.prog 131 #[.int .i64 (yn : Int), .int .i64 (salt : Int)] w fun e w'' => e = .returned (.int .i64 hy) ∧ w = w'') := fun w => (l02Hash_any yn salt w hyl hs).mono fun _ _ ⟨h, h'⟩ => ⟨by rw [h, hye], h'⟩
      have C2 : Hid (∀ w, Calls Try.prog 131 #[.int .i64 (zn : Int), .int .i64 (salt : Int)] w fun e w'' => e = .returned (.int .i64 hz) ∧ w = w'') := fun w => (l02Hash_any zn salt w hzl hs).mono fun _ _ ⟨h, h'⟩ => ⟨by rw [h, hze], h'⟩
      clear hye hze
      by_cases hlt2 : hy < hz
      · have he : Hid (leastTo x salt (k + 1) = k) := by show _ = _; rw [HS.out, if_pos hlt2]
        have hd : decide ((hy : Int) < (hz : Int)) = true := decide_eq_true (by omega)
        have hd2 : (hy : Int) < (hz : Int) := by omega
        go_wp2
        go_quiet ((go_at_call 131; first | with_reducible exact quiet_more (C1.out _) | with_reducible exact quiet_more (C2.out _)))
        go_wp2
        exact ⟨⟨k + 1, k, _, by omega, by omega, by go_num, rfl, by omega, rfl, he⟩, by simp [intOf]; omega⟩
      · have he : Hid (leastTo x salt (k + 1) = b) := by show _ = _; rw [HS.out, if_neg hlt2]
        have hd : decide ((hy : Int) < (hz : Int)) = false := decide_eq_false (by omega)
        have hd2 : decide (hy < hz) = false := decide_eq_false hlt2
        have hd3 : hz ≤ hy := by omega
        go_wp2
        go_quiet ((go_at_call 131; first | with_reducible exact quiet_more (C1.out _) | with_reducible exact quiet_more (C2.out _)))
        go_wp2
        exact ⟨⟨k + 1, b, _, by omega, by omega, by go_num, rfl, by omega, rfl, he⟩, by simp [intOf]; omega⟩
    · have hi : ¬ (k : Int) < (x.length : Int) := by omega
      obtain rfl : k = x.length := by omega
      go_wp2
      go_ret
      exact ⟨ret_int (by rw [hh.out]), n, rfl⟩
/-- The hashes of the first n keys. -/
def rowH (x : List Int) (salt n : Nat) : List Int := (List.range n).map fun k => (hashAt x salt k : Int)
theorem rowH_succ (x : List Int) (salt n : Nat) : rowH x salt (n + 1) = rowH x salt n ++ [(hashAt x salt n : Int)] := by simp [rowH, List.range_succ]
theorem rowH_length (x : List Int) (salt n : Nat) : (rowH x salt n).length = n := by simp [rowH]
theorem rowH_at {x : List Int} {salt n k : Nat} (h : k < n) : (rowH x salt n)[k]? = some (hashAt x salt k : Int) := by simp [rowH, h]
theorem rowH_min (x : List Int) (salt : Nat) {n : Nat} (h : 0 < n) : minL (rowH x salt n) = (hashAt x salt (leastTo x salt n) : Int) := by
  induction n with
  | zero => omega
  | succ n ih =>
    rcases (show n = 0 ∨ 0 < n by omega) with rfl | h1
    · rw [leastTo_one]; rfl
    · rw [rowH_succ, minL_snoc _ (by intro h2; have h3 := congrArg List.length h2; rw [rowH_length] at h3; simp at h3; omega), ih h1, leastTo]
      split <;> omega
set_option maxRecDepth 100000 in
set_option maxHeartbeats 1600000 in
theorem hashRow_any (A : Option Addr) (c : Nat) (x : List Int) (salt : Nat) (w : World) (hx : RdL (Value.int .i64) w A x) (hn : x.length ≤ 256) (hbd : ∀ y ∈ x, 0 ≤ y ∧ y ≤ 4294967295) (hs : salt < 4294967296) :
    Calls Try.prog 134 #[.slice A x.length c, .int .i64 salt] w (RetL (Value.int .i64) 2 w (rowH x salt x.length)) := by
  obtain ⟨i0, hi0, hz0, hz1, hz2⟩ := info_parts Try.infoI
  have HX := hid hx
  have HBD := hid hbd
  clear hx hbd
  go_enter Try.func134, Try.ntmps134
  go_wp2
  go_loopw [5, 7, 11] (fun v e_ i wr => ∃ k : Nat, k ≤ x.length ∧ i = .int .i64 k ∧ Hid (wr.ownsRow w.heap.size 2 1 v k ((rowH x salt k).map (Value.int .i64))) ∧ Hid (Below w.heap.size w wr)) (fun _ e_ i _ => x.length - (intOf i).toNat)
  case atStart => exact ⟨0, Nat.zero_le _, rfl, World.ownsRow_made w #[] 0 (Nat.le_refl _) (Nat.zero_le _) rfl, below_a1 _ _⟩
  case round =>
    obtain ⟨k, hkr, rfl, hown, hW⟩ := hrel
    by_cases hlt : k < x.length
    · have hi : (k : Int) < (x.length : Int) := by omega
      obtain ⟨b, o, y, rfl, hcy, hyk⟩ := (HX.out.below hW.out).at_ hlt
      have hyb := HBD.out y (List.mem_of_getElem? hyk.out)
      obtain ⟨yn, rfl⟩ := Int.eq_ofNat_of_zero_le hyb.1
      have hyl : yn < 4294967296 := by omega
      obtain ⟨hv, hve⟩ : ∃ h, h = hashN yn salt := ⟨_, rfl⟩
      have HV : Hid (hashAt x salt k = hv) := by show _ = _; unfold hashAt; rw [getD_of hyk, hve]; simp
      have C1 : Hid (∀ w, Calls Try.prog 151 #[.int .i64 (yn : Int), .int .i64 (salt : Int)] w fun e w'' => e = .returned (.int .i64 hv) ∧ w = w'') := fun w => (ihash_any yn salt w hyl hs).mono fun _ _ ⟨h, h'⟩ => ⟨by rw [h, hve], h'⟩
      clear hve hyb
      go_wp2_with (first | (go_at_call 151; refine (C1.out _).mono ?_; rintro e w' ⟨rfl, rfl⟩) | (at_builtin; refine wpList_append_own _ rfl _ _ 35 rfl w.heap.size 2 i0 (.int .i64 0) 1 8 Try.underlying35 hi0 hz0 hz1 hz2 rfl (by decide) _ _ _ rfl (hown.out.alloc _) ⟨wr.heap.size, 0, none⟩ 1 1 [.int .i64 hv] rfl rfl ?c1 ?c2 ?c3 ?c4 ?c5 ?_))
      case c1 => exact cell_one_new _ _ _
      case c2 => intro u hu; simp at hu; subst hu; rfl
      case c3 => simp only [maxLen]; omega
      case c4 => omega
      case c5 => have := hW.out.size; simp; omega
      intro v' w1 hown' hgrow _
      have hd : (rowH x salt k).map (Value.int .i64) ++ [Value.int .i64 hv] = (rowH x salt (k + 1)).map (Value.int .i64) := by rw [rowH_succ, HV.out]; simp
      rw [hd] at hown'
      have O1 := hid hown'
      have W1 : Hid (Below w.heap.size w w1) := (hW.out.alloc hW.out.size _).grown hgrow (by have := hW.out.size; simp; omega) (fun g hg => (hown.out.alloc (.cells #[.int .i64 hv] 2)).lt g hg |>.1)
      clear hown' hgrow hd
      go_wp2
      exact ⟨⟨k + 1, by omega, by go_num, O1, W1⟩, by simp [intOf]; omega⟩
    · have hi : ¬ (k : Int) < (x.length : Int) := by omega
      obtain rfl : k = x.length := by omega
      go_wp2
      go_ret
      obtain ⟨A', c', hv, ho⟩ := ownS_of_row hown.out (rowH_length _ _ _)
      exact ⟨A', c', congrArg Ending.returned hv, ho, hW.out⟩
set_option maxHeartbeats 1600000 in
theorem slIndex_any (A : Option Addr) (c : Nat) (x : List Int) (v : Int) (k0 : Nat) (w : World) (hx : RdL (Value.int .i64) w A x) (hn : x.length ≤ 1048576) (h0 : x[k0]? = some v) (hmin : ∀ k, k < k0 → x[k]? ≠ some v) :
    Calls Try.prog 135 #[.slice A x.length c, .int .i64 v] w fun e w' => e = .returned (.int .i64 k0) ∧ w = w' := by
  have HX := hid hx
  have H0 := hid h0
  have HM := hid hmin
  have hk0 : k0 < x.length := by
    rcases Nat.lt_or_ge k0 x.length with h | h
    · exact h
    · rw [List.getElem?_eq_none h] at h0; cases h0
  clear hx h0 hmin
  go_enter Try.func135, Try.ntmps135
  go_wp2
  go_loop [5, 8] (fun e_ i => ∃ k : Nat, k ≤ k0 ∧ i = .int .i64 k) (fun e_ i => k0 - (intOf i).toNat)
  case atStart => exact ⟨0, Nat.zero_le _, rfl⟩
  case round =>
    obtain ⟨k, hk, rfl⟩ := hrel
    have hi : (k : Int) < (x.length : Int) := by omega
    obtain ⟨b, o, y, rfl, hcy, hyk⟩ := HX.out.at_ (k := k) (by omega)
    by_cases hke : k = k0
    · subst hke
      obtain rfl : y = v := by have h1 := hyk.out; rw [H0.out] at h1; injection h1 with h1; exact h1.symm
      go_wp2
      go_ret
      exact ⟨rfl, rfl⟩
    · have hne : (v == y) = false := by
        have h1 := HM.out k (by omega)
        have h2 := hyk.out
        cases h3 : (v == y) with
        | false => rfl
        | true => exact absurd (by rw [h2, beq_iff_eq.1 h3]) h1
      go_wp2
      exact ⟨⟨k + 1, by omega, by go_num⟩, by simp [intOf]; omega⟩
set_option maxHeartbeats 1600000 in
theorem least_any (A : Option Addr) (c : Nat) (x : List Int) (salt : Nat) (w : World) (hx : RdL (Value.int .i64) w A x) (hn : x.length ≤ 256) (hp : 0 < x.length) (hbd : ∀ y ∈ x, 0 ≤ y ∧ y ≤ 4294967295) (hs : salt < 4294967296) :
    Calls Try.prog 86 #[.slice A x.length c, .int .i64 salt] w fun e w' => e = .returned (.tuple #[.int .i64 (hashAt x salt (leastTo x salt x.length)), .int .i64 (leastTo x salt x.length)]) ∧ Below w.heap.size w w' := by
  have HX := hid hx
  have HBD := hid hbd
  clear hx hbd
  have hL := leastTo_lt x salt hp
  have HSP := hid (leastTo_spec x salt x.length)
  have HMN := hid (rowH_min x salt hp)
  obtain ⟨kL, hkL⟩ : ∃ k, k = leastTo x salt x.length := ⟨_, rfl⟩
  rw [← hkL] at hL HSP HMN ⊢
  obtain ⟨hh, hhe⟩ : ∃ h, h = hashAt x salt kL := ⟨_, rfl⟩
  have HHE := hid hhe
  rw [← hhe] at HMN ⊢
  clear hkL hhe
  go_enter Try.func86, Try.ntmps86
  go_wp2_with fail
  refine (hashRow_any A c x salt _ HX.out hn HBD.out hs).mono ?_
  rintro e w1 ⟨A1, c1, rfl, ho, hb⟩
  have HO := hid ho.rd
  have S1 := hid hb
  clear ho hb
  go_wp2_with fail
  refine (slMin_any A1 c1 (rowH x salt x.length) _ HO.out (by rw [rowH_length]; omega) (by rw [rowH_length]; omega)).mono ?_
  rw [HMN.out]
  rintro e w2 ⟨rfl, rfl⟩
  go_wp2_with fail
  refine (slIndex_any A1 c1 (rowH x salt x.length) hh kL _ HO.out (by rw [rowH_length]; omega) (by rw [rowH_at hL, HHE.out]) (fun k hk e => by
    rw [rowH_at (by omega)] at e
    injection e with e
    have h1 := ((HSP.out k (by omega)).2 hk)
    rw [← HHE.out] at h1
    omega)).mono ?_
  rintro e w2 ⟨rfl, rfl⟩
  go_wp2
  go_ret2
  exact ⟨rfl, S1.out⟩
end Go.Proofs.Ytnngepnfljkbhaa
