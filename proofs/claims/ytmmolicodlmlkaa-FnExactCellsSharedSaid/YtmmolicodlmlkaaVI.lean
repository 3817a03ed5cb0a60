/-
  Parts of the proof: The first index of the least hash: the reference, by contracts; and the shape of LikeShare's answer. At most 256 keys: the reference's l02Keys and the program's AreKeys, by contracts. CellsAt and PlacesOf, reference and program, by contracts. The hashes of keys as a row: reference and program, by contracts. Keys put to cells, list by list: apart and added, or one after the other. Four cells of a row of cells. The laws' helpers over Cells: size, copy, compare, mark, look for the marks: by contracts. Printed by gen_struct.py. No condition.
-/
import Derived.Test.YtmmolicodlmlkaaVG
import Derived.Test.YtmmolicodlmlkaaVH
set_option linter.unusedVariables false
set_option linter.unusedSimpArgs false
namespace Go.Proofs.Ytmmolicodlmlkaa
open Go.RowKit Ieee
set_option linter.unusedVariables false
set_option linter.unusedSimpArgs false

/-- The hash of the key at place k. -/
def hashAt (x : List Int) (salt k : Nat) : Nat := hashN (x.getD k 0).toNat salt
/-- The first index of the least hash of the first n keys. -/
def leastTo (x : List Int) (salt : Nat) : Nat → Nat
  | 0 => 0
  | n + 1 => if hashAt x salt n < hashAt x salt (leastTo x salt n) then n else leastTo x salt n
theorem leastTo_one (x : List Int) (salt : Nat) : leastTo x salt 1 = 0 := by
  unfold leastTo leastTo
  split <;> rfl
theorem leastTo_lt (x : List Int) (salt : Nat) {n : Nat} (h : 0 < n) : leastTo x salt n < n := by
  induction n with
  | zero => omega
  | succ n ih =>
    unfold leastTo
    split
    · omega
    · rcases (show n = 0 ∨ 0 < n by omega) with rfl | h1
      · unfold leastTo; omega
      · have := ih h1; omega
/-- No hash is less, and those before it are greater. -/
theorem leastTo_spec (x : List Int) (salt : Nat) : ∀ n k, k < n → hashAt x salt (leastTo x salt n) ≤ hashAt x salt k ∧ (k < leastTo x salt n → hashAt x salt (leastTo x salt n) < hashAt x salt k) := by
  intro n
  induction n with
  | zero => intro k hk; omega
  | succ n ih =>
    intro k hk
    rw [leastTo]
    split
    · rename_i h
      rcases (show k = n ∨ k < n by omega) with rfl | h1
      · exact ⟨Nat.le_refl _, fun h2 => absurd h2 (by omega)⟩
      · have := (ih k h1).1
        exact ⟨by omega, fun _ => by omega⟩
    · rename_i h
      rcases (show k = n ∨ k < n by omega) with rfl | h1
      · refine ⟨by omega, fun h2 => ?_⟩
        rcases (show k = 0 ∨ 0 < k by omega) with rfl | h3
        · unfold leastTo at h2; omega
        · have := leastTo_lt x salt h3; omega
      · exact ih k h1

/-- The hashes of the first n keys. -/
def rowH (x : List Int) (salt n : Nat) : List Int := (List.range n).map fun k => (hashAt x salt k : Int)
theorem rowH_succ (x : List Int) (salt n : Nat) : rowH x salt (n + 1) = rowH x salt n ++ [(hashAt x salt n : Int)] := by simp [rowH, List.range_succ]
theorem rowH_length (x : List Int) (salt n : Nat) : (rowH x salt n).length = n := by simp [rowH]
theorem rowH_at {x : List Int} {salt n k : Nat} (h : k < n) : (rowH x salt n)[k]? = some (hashAt x salt k : Int) := by simp [rowH, h]
theorem rowH_min (x : List Int) (salt : Nat) {n : Nat} (h : 0 < n) : minL (rowH x salt n) = (hashAt x salt (leastTo x salt n) : Int) := by
  induction n with
  | zero => omega
  | succ n ih =>
    rcases (show n = 0 ∨ 0 < n by omega) with rfl | h1
    · rw [leastTo_one]; rfl
    · rw [rowH_succ, minL_snoc _ (by intro h2; have h3 := congrArg List.length h2; rw [rowH_length] at h3; simp at h3; omega), ih h1, leastTo]
      split <;> omega
set_option maxRecDepth 100000 in
set_option maxHeartbeats 1600000 in
theorem hashRow_any (A : Option Addr) (c : Nat) (x : List Int) (salt : Nat) (w : World) (hx : RdL (Value.int .i64) w A x) (hn : x.length ≤ 256) (hbd : ∀ y ∈ x, 0 ≤ y ∧ y ≤ 4294967295) (hs : salt < 4294967296) :
    Calls Try.prog 83 #[.slice A x.length c, .int .i64 salt] w (RetL (Value.int .i64) 2 w (rowH x salt x.length)) := by
  obtain ⟨i0, hi0, hz0, hz1, hz2⟩ := info_parts Try.infoI
  have HX := hid hx
  have HBD := hid hbd
  clear hx hbd
  go_enter Try.func83, Try.ntmps83
  go_wp2
  go_loopw [5, 7, 11] (fun v e_ i wr => ∃ k : Nat, k ≤ x.length ∧ i = .int .i64 k ∧ Hid (wr.ownsRow w.heap.size 2 1 v k ((rowH x salt k).map (Value.int .i64))) ∧ Hid (Below w.heap.size w wr)) (fun _ e_ i _ => x.length - (intOf i).toNat)
  case atStart => exact ⟨0, Nat.zero_le _, rfl, World.ownsRow_made w #[] 0 (Nat.le_refl _) (Nat.zero_le _) rfl, below_a1 _ _⟩
  case round =>
    obtain ⟨k, hkr, rfl, hown, hW⟩ := hrel
    by_cases hlt : k < x.length
    · have hi : (k : Int) < (x.length : Int) := by omega
      obtain ⟨b, o, y, rfl, hcy, hyk⟩ := (HX.out.below hW.out).at_ hlt
      have hyb := HBD.out y (List.mem_of_getElem? hyk.out)
      obtain ⟨yn, rfl⟩ := Int.eq_ofNat_of_zero_le hyb.1
      have hyl : yn < 4294967296 := by omega
      obtain ⟨hv, hve⟩ : ∃ h, h = hashN yn salt := ⟨_, rfl⟩
      have HV : Hid (hashAt x salt k = hv) := by show _ = _; unfold hashAt; rw [getD_of hyk, hve]; simp
      have C1 : Hid (∀ w, Calls Try.prog 111 #[.int .i64 (yn : Int), .int .i64 (salt : Int)] w fun e w'' => e = .returned (.int .i64 hv) ∧ w = w'') := fun w => (ihash_any yn salt w hyl hs).mono fun _ _ ⟨h, h'⟩ => ⟨by rw [h, hve], h'⟩
      clear hve hyb
      go_wp2_with (first | (go_at_call 111; refine (C1.out _).mono ?_; rintro e w' ⟨rfl, rfl⟩) | (at_builtin; refine wpList_append_own _ rfl _ _ 22 rfl w.heap.size 2 i0 (.int .i64 0) 1 8 Try.underlying22 hi0 hz0 hz1 hz2 rfl (by decide) _ _ _ rfl (hown.out.alloc _) ⟨wr.heap.size, 0, none⟩ 1 1 [.int .i64 hv] rfl rfl ?c1 ?c2 ?c3 ?c4 ?c5 ?_))
      case c1 => exact cell_one_new _ _ _
      case c2 => intro u hu; simp at hu; subst hu; rfl
      case c3 => simp only [maxLen]; omega
      case c4 => omega
      case c5 => have := hW.out.size; simp; omega
      intro v' w1 hown' hgrow _
      have hd : (rowH x salt k).map (Value.int .i64) ++ [Value.int .i64 hv] = (rowH x salt (k + 1)).map (Value.int .i64) := by rw [rowH_succ, HV.out]; simp
      rw [hd] at hown'
      have O1 := hid hown'
      have W1 : Hid (Below w.heap.size w w1) := (hW.out.alloc hW.out.size _).grown hgrow (by have := hW.out.size; simp; omega) (fun g hg => (hown.out.alloc (.cells #[.int .i64 hv] 2)).lt g hg |>.1)
      clear hown' hgrow hd
      go_wp2
      exact ⟨⟨k + 1, by omega, by go_num, O1, W1⟩, by simp [intOf]; omega⟩
    · have hi : ¬ (k : Int) < (x.length : Int) := by omega
      obtain rfl : k = x.length := by omega
      go_wp2
      go_ret
      obtain ⟨A', c', hv, ho⟩ := ownS_of_row hown.out (rowH_length _ _ _)
      exact ⟨A', c', congrArg Ending.returned hv, ho, hW.out⟩
set_option maxHeartbeats 1600000 in
theorem slIndex_any (A : Option Addr) (c : Nat) (x : List Int) (v : Int) (k0 : Nat) (w : World) (hx : RdL (Value.int .i64) w A x) (hn : x.length ≤ 1048576) (h0 : x[k0]? = some v) (hmin : ∀ k, k < k0 → x[k]? ≠ some v) :
    Calls Try.prog 132 #[.slice A x.length c, .int .i64 v] w fun e w' => e = .returned (.int .i64 k0) ∧ w = w' := by
  have HX := hid hx
  have H0 := hid h0
  have HM := hid hmin
  have hk0 : k0 < x.length := by
    rcases Nat.lt_or_ge k0 x.length with h | h
    · exact h
    · rw [List.getElem?_eq_none h] at h0; cases h0
  clear hx h0 hmin
  go_enter Try.func132, Try.ntmps132
  go_wp2
  go_loop [5, 8] (fun e_ i => ∃ k : Nat, k ≤ k0 ∧ i = .int .i64 k) (fun e_ i => k0 - (intOf i).toNat)
  case atStart => exact ⟨0, Nat.zero_le _, rfl⟩
  case round =>
    obtain ⟨k, hk, rfl⟩ := hrel
    have hi : (k : Int) < (x.length : Int) := by omega
    obtain ⟨b, o, y, rfl, hcy, hyk⟩ := HX.out.at_ (k := k) (by omega)
    by_cases hke : k = k0
    · subst hke
      obtain rfl : y = v := by have h1 := hyk.out; rw [H0.out] at h1; injection h1 with h1; exact h1.symm
      go_wp2
      go_ret
      exact ⟨rfl, rfl⟩
    · have hne : (v == y) = false := by
        have h1 := HM.out k (by omega)
        have h2 := hyk.out
        cases h3 : (v == y) with
        | false => rfl
        | true => exact absurd (by rw [h2, beq_iff_eq.1 h3]) h1
      go_wp2
      exact ⟨⟨k + 1, by omega, by go_num⟩, by simp [intOf]; omega⟩
set_option maxHeartbeats 1600000 in
theorem least_any (A : Option Addr) (c : Nat) (x : List Int) (salt : Nat) (w : World) (hx : RdL (Value.int .i64) w A x) (hn : x.length ≤ 256) (hp : 0 < x.length) (hbd : ∀ y ∈ x, 0 ≤ y ∧ y ≤ 4294967295) (hs : salt < 4294967296) :
    Calls Try.prog 109 #[.slice A x.length c, .int .i64 salt] w fun e w' => e = .returned (.tuple #[.int .i64 (hashAt x salt (leastTo x salt x.length)), .int .i64 (leastTo x salt x.length)]) ∧ Below w.heap.size w w' := by
  have HX := hid hx
  have HBD := hid hbd
  clear hx hbd
  have hL := leastTo_lt x salt hp
  have HSP := hid (leastTo_spec x salt x.length)
  have HMN := hid (rowH_min x salt hp)
  obtain ⟨kL, hkL⟩ : ∃ k, k = leastTo x salt x.length := ⟨_, rfl⟩
  rw [← hkL] at hL HSP HMN ⊢
  obtain ⟨hh, hhe⟩ : ∃ h, h = hashAt x salt kL := ⟨_, rfl⟩
  have HHE := hid hhe
  rw [← hhe] at HMN ⊢
  clear hkL hhe
  go_enter Try.func109, Try.ntmps109
  go_wp2_with fail
  refine (hashRow_any A c x salt _ HX.out hn HBD.out hs).mono ?_
  rintro e w1 ⟨A1, c1, rfl, ho, hb⟩
  have HO := hid ho.rd
  have S1 := hid hb
  clear ho hb
  go_wp2_with fail
  refine (slMin_any A1 c1 (rowH x salt x.length) _ HO.out (by rw [rowH_length]; omega) (by rw [rowH_length]; omega)).mono ?_
  rw [HMN.out]
  rintro e w2 ⟨rfl, rfl⟩
  go_wp2_with fail
  refine (slIndex_any A1 c1 (rowH x salt x.length) hh kL _ HO.out (by rw [rowH_length]; omega) (by rw [rowH_at hL, HHE.out]) (fun k hk e => by
    rw [rowH_at (by omega)] at e
    injection e with e
    have h1 := ((HSP.out k (by omega)).2 hk)
    rw [← HHE.out] at h1
    omega)).mono ?_
  rintro e w2 ⟨rfl, rfl⟩
  go_wp2
  go_ret2
  exact ⟨rfl, S1.out⟩
end Go.Proofs.Ytmmolicodlmlkaa
namespace Go.Proofs.Ytmmolicodlmlkaa
open Go.RowKit
set_option linter.unusedVariables false
set_option linter.unusedSimpArgs false

/-- At most 256 keys. -/
def keysQ (x : List Int) : Bool := decide ((x.length : Int) ≤ 256) && allB x 0 4294967295
theorem keysQ_iff {x : List Int} (h : keysQ x = true) : x.length ≤ 256 ∧ ∀ y ∈ x, 0 ≤ y ∧ y ≤ 4294967295 := by
  simp only [keysQ, Bool.and_eq_true, decide_eq_true_eq] at h
  refine ⟨by omega, fun y hy => ?_⟩
  have := h.2
  unfold allB at this
  rw [List.all_eq_true] at this
  exact inB_iff.1 (this y hy)
set_option maxHeartbeats 1000000 in
theorem l02Keys_some (A : Option Addr) (c : Nat) (x : List Int) (w : World) (hx : RdL (Value.int .i64) w A x) (hn : x.length ≤ 256) :
    Calls Try.prog 72 #[.slice A x.length c] w fun e w' => e = .returned (.bool (allB x 0 4294967295)) ∧ w = w' := by
  have HX := hid hx
  clear hx
  have hn' : (x.length : Int) ≤ 256 := by omega
  go_enter Try.func72, Try.ntmps72
  go_wp2
  go_loop [3] (fun i => ∃ k : Nat, k ≤ x.length ∧ i = .int .i64 k ∧ Hid (allB (x.take k) 0 4294967295 = true)) (fun i => x.length - (intOf i).toNat)
  case atStart => exact ⟨0, Nat.zero_le _, rfl, rfl⟩
  case round =>
    obtain ⟨k, hk, rfl, hh⟩ := hrel
    by_cases hlt : k < x.length
    · have hi : (k : Int) < (x.length : Int) := by omega
      obtain ⟨b', o', z, rfl, hc, hxk⟩ := HX.out.at_ hlt
      cases hb : inB z 0 4294967295 with
      | true =>
        have he := hid (allB_snoc hh hxk hb)
        go_wp2_with ((go_at_call 73; refine (l02Key_any _ _).mono ?_; rintro e w' ⟨rfl, rfl⟩))
        exact ⟨⟨k + 1, by omega, by go_num, he⟩, by simp [intOf]; omega⟩
      | false =>
        have he := hid (allB_no hxk hb)
        go_wp2_with ((go_at_call 73; refine (l02Key_any _ _).mono ?_; rintro e w' ⟨rfl, rfl⟩))
        go_ret
        exact ⟨ret_bool he.out.symm, rfl⟩
    · have hi : ¬ (k : Int) < (x.length : Int) := by omega
      have he := hh.out
      rw [List.take_of_length_le (by omega)] at he
      have HE := hid he
      clear he
      go_wp2
      go_ret
      exact ⟨ret_bool (by first | (rw [HE.out]; done) | (rw [HE.out]; simp; omega)), rfl⟩
set_option maxHeartbeats 400000 in
theorem l02Keys_many (A : Option Addr) (c : Nat) (x : List Int) (w : World) (hx : RdL (Value.int .i64) w A x) (hn : 256 < x.length) :
    Calls Try.prog 72 #[.slice A x.length c] w fun e w' => e = .returned (.bool false) ∧ w = w' := by
  have hn' : (256 : Int) < (x.length : Int) := by omega
  have hp : (0 : Int) < (x.length : Int) := by omega
  have hd : decide ((x.length : Int) ≤ 256) = false := decide_eq_false (by omega)
  clear hx
  go_enter Try.func72, Try.ntmps72
  go_wp2
  go_loop [3] (fun i => i = .int .i64 0) (fun i => 0)
  case atStart => rfl
  case round =>
    obtain rfl := hrel
    go_wp2
    go_ret
    exact ⟨rfl, rfl⟩
theorem l02Keys_q (A : Option Addr) (c : Nat) (x : List Int) (w : World) (hx : RdL (Value.int .i64) w A x) :
    Calls Try.prog 72 #[.slice A x.length c] w fun e w' => e = .returned (.bool (keysQ x)) ∧ w = w' := by
  by_cases h : x.length ≤ 256
  · have hk : keysQ x = allB x 0 4294967295 := by unfold keysQ; rw [decide_eq_true (by omega), Bool.true_and]
    rw [hk]
    exact l02Keys_some A c x w hx h
  · have hk : keysQ x = false := by unfold keysQ; rw [decide_eq_false (by omega), Bool.false_and]
    rw [hk]
    exact l02Keys_many A c x w hx (by omega)
theorem AreKeys_q (A : Option Addr) (c : Nat) (xs : List Int) (w : World) (hx : RdL (Value.int .i64) w A xs) (hn : xs.length ≤ 1048576) :
    Calls Try.prog 65 #[.slice A xs.length c] w fun e w' => e = .returned (.bool (keysQ xs)) ∧ w = w' := by
  have HX := hid hx
  clear hx
  by_cases h : (xs.length : Int) ≤ 256
  · go_enter Try.func65, Try.ntmps65
    go_wp2_with fail
    refine (areAllKeys_any A c xs _ HX.out hn).mono ?_
    rintro e w' ⟨rfl, rfl⟩
    go_wp2
    go_ret
    exact ⟨by simp [keysQ, h], rfl⟩
  · go_enter Try.func65, Try.ntmps65
    go_wp2
    go_ret
    exact ⟨by simp [keysQ]; omega, rfl⟩
end Go.Proofs.Ytmmolicodlmlkaa
namespace Go.Proofs.Ytmmolicodlmlkaa
open Go.RowKit
set_option linter.unusedVariables false

/-- What CellsAt returns. -/
def pCellsAt (a0 a1 a2 : Int) (x : List Int) (key : Int) : Int × Bool :=
  if vCells a0 a1 a2 x = true ∧ inB key 0 4294967295 = true then (minAtM 1000000000000 x (cellsL a0.toNat a2.toNat key.toNat a1.toNat), true) else (0, false)
/-- What PlacesOf returns. -/
def pPlacesOf (a0 a1 a2 : Int) (x : List Int) (key : Int) : List Int × Bool :=
  if vCells a0 a1 a2 x = true ∧ inB key 0 4294967295 = true then (cellsL a0.toNat a2.toNat key.toNat a1.toNat, true) else ([], false)
/-- It hands back a slice of its own and a bool. -/
def RetLB {α : Type} (f : α → Value) (t : TypeId) (w : World) (r : List α × Bool) (e : Ending) (w' : World) : Prop :=
  ∃ A c, e = .returned (.tuple #[.slice A r.1.length c, .bool r.2]) ∧ OwnS f w' w.heap.size t A r.1 ∧ r.1.length ≤ 1048576 ∧ Below w.heap.size w w'
set_option maxRecDepth 100000 in
set_option maxHeartbeats 1600000 in
theorem iCellsAt_any (a0 a1 a2 : Int) (A : Option Addr) (c : Nat) (x : List Int) (key : Int) (w : World) (h0 : W64 a0) (h1 : W64 a1) (h2 : W64 a2) (hx : RdL (Value.int .i64) w A x) (hn : x.length ≤ 1048576) (we : ∀ y ∈ x, W64 y) (hkey : W64 key) :
    Calls Try.prog 48 #[.agg #[.int .i64 a0, .int .i64 a1, .int .i64 a2, .slice A x.length c], .int .i64 key] w fun e w' => e = .returned (.tuple #[.int .i64 (pCellsAt a0 a1 a2 x key).1, .bool (pCellsAt a0 a1 a2 x key).2]) ∧ Below w.heap.size w w' := by
  have HX := hid hx
  have b0 := hid (Blk.new w 37 [.int .i64 a0, .int .i64 a1, .int .i64 a2, .slice A x.length c])
  cases hv : vCells a0 a1 a2 x with
  | false =>
    have hp : pCellsAt a0 a1 a2 x key = (0, false) := by simp [pCellsAt, hv]
    rw [hp]
    clear hp
    go_enter Try.func48, Try.ntmps48
    go_wp2_with fail
    refine (iValidCells_any a0 a1 a2 A c x _ h0 h1 h2 (HX.out.below (below_a1 _ _)) hn we).mono ?_
    rintro e w1 ⟨rfl, hb⟩
    go_wp2
    go_ret2
    exact ⟨rfl, (below_call (below_a1 _ _) hb).out⟩
  | true =>
  cases hk : inB key 0 4294967295 with
  | false =>
    have hp : pCellsAt a0 a1 a2 x key = (0, false) := by simp [pCellsAt, hk]
    rw [hp]
    clear hp
    go_enter Try.func48, Try.ntmps48
    go_wp2_with fail
    refine (iValidCells_any a0 a1 a2 A c x _ h0 h1 h2 (HX.out.below (below_a1 _ _)) hn we).mono ?_
    rintro e w1 ⟨rfl, hb⟩
    go_wp2_with ((go_at_call 63; refine (IsKey_any _ _).mono ?_; rintro e w' ⟨rfl, rfl⟩))
    go_ret2
    exact ⟨rfl, (below_call (below_a1 _ _) hb).out⟩
  | true =>
  obtain ⟨⟨hw1, hw2⟩, ⟨hd1, hd2⟩, ⟨hs1, hs2⟩, hlen, hbd⟩ := vCells_iff hv
  obtain ⟨hk1, hk2⟩ := inB_iff.1 hk
  obtain ⟨wd, rfl⟩ := Int.eq_ofNat_of_zero_le (show 0 ≤ a0 by omega)
  obtain ⟨dp, rfl⟩ := Int.eq_ofNat_of_zero_le (show 0 ≤ a1 by omega)
  obtain ⟨s, rfl⟩ := Int.eq_ofNat_of_zero_le hs1
  obtain ⟨key, rfl⟩ := Int.eq_ofNat_of_zero_le hk1
  have hlen' : x.length = wd * dp := by rw [← Int.natCast_mul] at hlen; omega
  have hp : pCellsAt wd dp s x key = (minAtM 1000000000000 x (cellsL wd s key dp), true) := by simp [pCellsAt, hv, hk]
  rw [hp]
  clear hp hlen
  have HL := hid hlen'
  clear hlen'
  go_enter Try.func48, Try.ntmps48
  go_wp2_with fail
  refine (iValidCells_any wd dp s A c x _ h0 h1 h2 (HX.out.below (below_a1 _ _)) hn we).mono ?_
  rintro e w1 ⟨rfl, hb⟩
  have S1 := below_call (below_a1 _ _) hb
  have HX1 := hid (HX.out.below S1.out)
  obtain ⟨c0, c1, c2, c3⟩ := (b0.out.below hb).cells4
  clear hb b0
  go_wp2_with ((go_at_call 63; refine (IsKey_any _ _).mono ?_; rintro e w' ⟨rfl, rfl⟩))
  refine (iat_any wd dp s key c A x _ HX1.out (by omega) (by omega) (by omega) (by omega) (by omega) (by omega) HL.out).mono ?_
  rintro e w2 ⟨rfl, hb2⟩
  go_wp2
  go_ret2
  exact ⟨rfl, S1.out.trans (hb2.mono S1.out.size)⟩
set_option maxRecDepth 100000 in
set_option maxHeartbeats 1600000 in
theorem iPlacesOf_any (a0 a1 a2 : Int) (A : Option Addr) (c : Nat) (x : List Int) (key : Int) (w : World) (h0 : W64 a0) (h1 : W64 a1) (h2 : W64 a2) (hx : RdL (Value.int .i64) w A x) (hn : x.length ≤ 1048576) (we : ∀ y ∈ x, W64 y) (hkey : W64 key) :
    Calls Try.prog 49 #[.agg #[.int .i64 a0, .int .i64 a1, .int .i64 a2, .slice A x.length c], .int .i64 key] w (RetLB (Value.int .i64) 2 w (pPlacesOf a0 a1 a2 x key)) := by
  have HX := hid hx
  have b0 := hid (Blk.new w 37 [.int .i64 a0, .int .i64 a1, .int .i64 a2, .slice A x.length c])
  cases hv : vCells a0 a1 a2 x with
  | false =>
    have hp : pPlacesOf a0 a1 a2 x key = ([], false) := by simp [pPlacesOf, hv]
    rw [hp]
    clear hp
    go_enter Try.func49, Try.ntmps49
    go_wp2_with fail
    refine (iValidCells_any a0 a1 a2 A c x _ h0 h1 h2 (HX.out.below (below_a1 _ _)) hn we).mono ?_
    rintro e w1 ⟨rfl, hb⟩
    go_wp2
    go_ret2
    exact ⟨none, 0, rfl, OwnS.nil, by simp, (below_call (below_a1 _ _) hb).out⟩
  | true =>
  cases hk : inB key 0 4294967295 with
  | false =>
    have hp : pPlacesOf a0 a1 a2 x key = ([], false) := by simp [pPlacesOf, hk]
    rw [hp]
    clear hp
    go_enter Try.func49, Try.ntmps49
    go_wp2_with fail
    refine (iValidCells_any a0 a1 a2 A c x _ h0 h1 h2 (HX.out.below (below_a1 _ _)) hn we).mono ?_
    rintro e w1 ⟨rfl, hb⟩
    go_wp2_with ((go_at_call 63; refine (IsKey_any _ _).mono ?_; rintro e w' ⟨rfl, rfl⟩))
    go_ret2
    exact ⟨none, 0, rfl, OwnS.nil, by simp, (below_call (below_a1 _ _) hb).out⟩
  | true =>
  obtain ⟨⟨hw1, hw2⟩, ⟨hd1, hd2⟩, ⟨hs1, hs2⟩, hlen, hbd⟩ := vCells_iff hv
  obtain ⟨hk1, hk2⟩ := inB_iff.1 hk
  obtain ⟨wd, rfl⟩ := Int.eq_ofNat_of_zero_le (show 0 ≤ a0 by omega)
  obtain ⟨dp, rfl⟩ := Int.eq_ofNat_of_zero_le (show 0 ≤ a1 by omega)
  obtain ⟨s, rfl⟩ := Int.eq_ofNat_of_zero_le hs1
  obtain ⟨key, rfl⟩ := Int.eq_ofNat_of_zero_le hk1
  have hlen' : x.length = wd * dp := by rw [← Int.natCast_mul] at hlen; omega
  have hp : pPlacesOf wd dp s x key = (cellsL wd s key dp, true) := by simp [pPlacesOf, hv, hk]
  rw [hp]
  clear hp hlen
  have HL := hid hlen'
  clear hlen'
  go_enter Try.func49, Try.ntmps49
  go_wp2_with fail
  refine (iValidCells_any wd dp s A c x _ h0 h1 h2 (HX.out.below (below_a1 _ _)) hn we).mono ?_
  rintro e w1 ⟨rfl, hb⟩
  have S1 := below_call (below_a1 _ _) hb
  have HX1 := hid (HX.out.below S1.out)
  obtain ⟨c0, c1, c2, c3⟩ := (b0.out.below hb).cells4
  clear hb b0
  go_wp2_with ((go_at_call 63; refine (IsKey_any _ _).mono ?_; rintro e w' ⟨rfl, rfl⟩))
  refine (places_any wd dp s key x.length c A _ (by omega) (by omega) (by omega) (by omega) (by omega)).mono ?_
  rintro e w2 ⟨A', c', rfl, ho, hb2⟩
  go_wp2
  go_ret2
  exact ⟨A', c', rfl, ho.mono S1.out.size, by rw [cellsL_length]; omega, S1.out.trans (hb2.mono S1.out.size)⟩
end Go.Proofs.Ytmmolicodlmlkaa
namespace Go.Proofs.Ytmmolicodlmlkaa
open Go.RowKit
set_option linter.unusedVariables false
set_option linter.unusedSimpArgs false

set_option maxRecDepth 100000 in
set_option maxHeartbeats 1600000 in
theorem l02Row_any (A : Option Addr) (c : Nat) (x : List Int) (salt : Nat) (w : World) (hx : RdL (Value.int .i64) w A x) (hn : x.length ≤ 256) (hbd : ∀ y ∈ x, 0 ≤ y ∧ y ≤ 4294967295) (hs : salt < 4294967296) :
    Calls Try.prog 74 #[.slice A x.length c, .int .i64 salt] w (RetL (Value.int .i64) 2 w (rowH x salt x.length)) := by
  obtain ⟨i0, hi0, hz0, hz1, hz2⟩ := info_parts Try.infoI
  have HX := hid hx
  have HBD := hid hbd
  clear hx hbd
  go_enter Try.func74, Try.ntmps74
  go_wp2
  go_loopw [5, 6] (fun v i wr => ∃ k : Nat, k ≤ x.length ∧ i = .int .i64 k ∧ Hid (wr.ownsRow w.heap.size 2 1 v k ((rowH x salt k).map (Value.int .i64))) ∧ Hid (Below w.heap.size w wr)) (fun _ i _ => x.length - (intOf i).toNat)
  case atStart => exact ⟨0, Nat.zero_le _, rfl, World.ownsRow_made w #[] 0 (Nat.le_refl _) (Nat.zero_le _) rfl, below_a1 _ _⟩
  case round =>
    obtain ⟨k, hkr, rfl, hown, hW⟩ := hrel
    by_cases hlt : k < x.length
    · have hi : (k : Int) < (x.length : Int) := by omega
      obtain ⟨b, o, y, rfl, hcy, hyk⟩ := (HX.out.below hW.out).at_ hlt
      have hyb := HBD.out y (List.mem_of_getElem? hyk.out)
      obtain ⟨yn, rfl⟩ := Int.eq_ofNat_of_zero_le hyb.1
      have hyl : yn < 4294967296 := by omega
      obtain ⟨hv, hve⟩ : ∃ h, h = hashN yn salt := ⟨_, rfl⟩
      have HV : Hid (hashAt x salt k = hv) := by show _ = _; unfold hashAt; rw [getD_of hyk, hve]; simp
      have C1 : Hid (∀ w, Calls Try.prog 120 #[.int .i64 (yn : Int), .int .i64 (salt : Int)] w fun e w'' => e = .returned (.int .i64 hv) ∧ w = w'') := fun w => (l02Hash_any yn salt w hyl hs).mono fun _ _ ⟨h, h'⟩ => ⟨by rw [h, hve], h'⟩
      clear hve hyb
      go_wp2_with (first | (go_at_call 120; refine (C1.out _).mono ?_; rintro e w' ⟨rfl, rfl⟩) | (at_builtin; refine wpList_append_own _ rfl _ _ 22 rfl w.heap.size 2 i0 (.int .i64 0) 1 8 Try.underlying22 hi0 hz0 hz1 hz2 rfl (by decide) _ _ _ rfl (hown.out.alloc _) ⟨wr.heap.size, 0, none⟩ 1 1 [.int .i64 hv] rfl rfl ?c1 ?c2 ?c3 ?c4 ?c5 ?_))
      case c1 => exact cell_one_new _ _ _
      case c2 => intro u hu; simp at hu; subst hu; rfl
      case c3 => simp only [maxLen]; omega
      case c4 => omega
      case c5 => have := hW.out.size; simp; omega
      intro v' w1 hown' hgrow _
      have hd : (rowH x salt k).map (Value.int .i64) ++ [Value.int .i64 hv] = (rowH x salt (k + 1)).map (Value.int .i64) := by rw [rowH_succ, HV.out]; simp
      rw [hd] at hown'
      have O1 := hid hown'
      have W1 : Hid (Below w.heap.size w w1) := (hW.out.alloc hW.out.size _).grown hgrow (by have := hW.out.size; simp; omega) (fun g hg => (hown.out.alloc (.cells #[.int .i64 hv] 2)).lt g hg |>.1)
      clear hown' hgrow hd
      go_wp2
      exact ⟨⟨k + 1, by omega, by go_num, O1, W1⟩, by simp [intOf]; omega⟩
    · have hi : ¬ (k : Int) < (x.length : Int) := by omega
      obtain rfl : k = x.length := by omega
      go_wp2
      go_ret
      obtain ⟨A', c', hv, ho⟩ := ownS_of_row hown.out (rowH_length _ _ _)
      exact ⟨A', c', congrArg Ending.returned hv, ho, hW.out⟩
/-- What HashRow returns. -/
def pHashRow (x : List Int) (salt : Int) : List Int × Bool := if (keysQ x && inB salt 0 4294967295) = true then (rowH x salt.toNat x.length, true) else ([], false)
set_option maxRecDepth 100000 in
set_option maxHeartbeats 1600000 in
theorem iHashRow_any (A : Option Addr) (c : Nat) (x : List Int) (salt : Int) (w : World) (hx : RdL (Value.int .i64) w A x) (hn : x.length ≤ 1048576) :
    Calls Try.prog 53 #[.slice A x.length c, .int .i64 salt] w (RetLB (Value.int .i64) 2 w (pHashRow x salt)) := by
  have HX := hid hx
  clear hx
  cases hk : keysQ x with
  | false =>
    have hp : pHashRow x salt = ([], false) := by simp [pHashRow, hk]
    rw [hp]
    clear hp
    go_enter Try.func53, Try.ntmps53
    go_wp2_with (go_at_call 65; refine (AreKeys_q A c x _ HX.out hn).mono ?_; rw [hk]; rintro e w' ⟨rfl, rfl⟩)
    go_ret2
    exact ⟨none, 0, rfl, OwnS.nil, by simp, Below.refl _ _⟩
  | true =>
  cases hs : inB salt 0 4294967295 with
  | false =>
    have hp : pHashRow x salt = ([], false) := by simp [pHashRow, hs]
    rw [hp]
    clear hp
    go_enter Try.func53, Try.ntmps53
    go_wp2_with (first | (go_at_call 65; refine (AreKeys_q A c x _ HX.out hn).mono ?_; rw [hk]; rintro e w' ⟨rfl, rfl⟩) | (go_at_call 63; refine (IsKey_any _ _).mono ?_; rw [hs]; rintro e w' ⟨rfl, rfl⟩))
    go_ret2
    exact ⟨none, 0, rfl, OwnS.nil, by simp, Below.refl _ _⟩
  | true =>
    have hp : pHashRow x salt = (rowH x salt.toNat x.length, true) := by simp [pHashRow, hk, hs]
    rw [hp]
    clear hp
    obtain ⟨hl, hbd⟩ := keysQ_iff hk
    obtain ⟨hs1, hs2⟩ := inB_iff.1 hs
    obtain ⟨s, rfl⟩ := Int.eq_ofNat_of_zero_le hs1
    have C1 := hid (hashRow_any A c x s w HX.out hl hbd (by omega))
    obtain ⟨L, hL⟩ : ∃ L, L = rowH x s x.length := ⟨_, rfl⟩
    have hLl : L.length ≤ 1048576 := by rw [hL, rowH_length]; exact hn
    rw [Int.toNat_natCast]
    rw [← hL] at C1 ⊢
    have HL := hid hLl
    clear hbd hL hLl
    go_enter Try.func53, Try.ntmps53
    go_wp2_with (first | (go_at_call 65; refine (AreKeys_q A c x _ HX.out hn).mono ?_; rw [hk]; rintro e w' ⟨rfl, rfl⟩) | (go_at_call 63; refine (IsKey_any _ _).mono ?_; rw [hs]; rintro e w' ⟨rfl, rfl⟩))
    refine C1.out.mono ?_
    rintro e w1 ⟨A1, c1, rfl, ho, hb⟩
    have H1 := hid ho
    have H2 := hid hb
    clear ho hb C1 hk hs
    go_wp2
    go_ret2
    exact ⟨A1, c1, rfl, H1.out, HL.out, H2.out⟩
end Go.Proofs.Ytmmolicodlmlkaa
namespace Go.Proofs.Ytmmolicodlmlkaa
open Go.RowKit
set_option linter.unusedVariables false

/-- Keys are put to counts, each at its places. -/
def putKs (wd s dp : Nat) (y : List Int) (ks : List Int) : List Int := ks.foldl (fun y k => addAt 1 y (cellsL wd s k.toNat dp)) y
def addL (x y : List Int) : List Int := List.zipWith (fun a b => a + b) x y
theorem addL_length {x y : List Int} (h : x.length = y.length) : (addL x y).length = x.length := by simp [addL, h]
theorem putKs_length (wd s dp : Nat) (y ks : List Int) : (putKs wd s dp y ks).length = y.length := by
  unfold putKs
  induction ks generalizing y with
  | nil => rfl
  | cons k ks ih => rw [List.foldl_cons, ih, addAt_length]
theorem putKs_nil (wd s dp : Nat) (y : List Int) : putKs wd s dp y [] = y := rfl
theorem putKs_snoc (wd s dp : Nat) (y ks : List Int) (k : Int) : putKs wd s dp y (ks ++ [k]) = addAt 1 (putKs wd s dp y ks) (cellsL wd s k.toNat dp) := by simp [putKs]
theorem putKs_append (wd s dp : Nat) (y ks ks' : List Int) : putKs wd s dp y (ks ++ ks') = putKs wd s dp (putKs wd s dp y ks) ks' := by simp [putKs]
theorem addAt_addL (d : Int) (x y l : List Int) (h : x.length = y.length) : addAt d (addL x y) l = addL x (addAt d y l) := by
  unfold addAt
  induction l generalizing y with
  | nil => rfl
  | cons p l ih =>
    rw [List.foldl_cons, List.foldl_cons, ← ih _ (by simpa using h)]
    congr 1
    apply List.ext_getElem?
    intro i
    by_cases hp : p.toNat < y.length
    · have hx : p.toNat < x.length := by omega
      have hg : (addL x y).getD p.toNat 0 = x.getD p.toNat 0 + y.getD p.toNat 0 := by
        simp [addL, List.getD_eq_getElem?_getD, List.getElem?_zipWith, hp, hx]
      rw [hg]
      by_cases hi : p.toNat = i
      · subst hi
        have h1 : p.toNat < (addL x y).length := by rw [addL_length h]; exact hx
        rw [List.getElem?_set_self h1]
        simp [addL, List.getElem?_zipWith, hp, hx, List.getD_eq_getElem?_getD]
        omega
      · rw [List.getElem?_set_ne hi]
        simp [addL, List.getElem?_zipWith, List.getElem?_set_ne hi]
    · rw [List.set_eq_of_length_le (by rw [addL_length h]; omega), List.set_eq_of_length_le (by omega)]
theorem putKs_addL (wd s dp : Nat) (x y ks : List Int) (h : x.length = y.length) : putKs wd s dp (addL x y) ks = addL x (putKs wd s dp y ks) := by
  unfold putKs
  induction ks generalizing y with
  | nil => rfl
  | cons k ks ih => rw [List.foldl_cons, List.foldl_cons, addAt_addL _ _ _ _ h, ih _ (by rw [addAt_length]; exact h)]
theorem addL_zero (x : List Int) : addL x (List.replicate x.length 0) = x := by
  unfold addL
  induction x with
  | nil => rfl
  | cons a x ih => simp only [List.length_cons, List.replicate_succ, List.zipWith_cons_cons, Int.add_zero, ih]
theorem putKs_sum (wd s dp : Nat) (x ks : List Int) : putKs wd s dp x ks = addL x (putKs wd s dp (List.replicate x.length 0) ks) := by
  rw [← putKs_addL _ _ _ _ _ _ (by simp), addL_zero]
theorem putKs_bound {wd s dp : Nat} {y ks : List Int} {lo hi : Int} (hd : dp ≤ 6) (hy : ∀ z ∈ y, lo ≤ z ∧ z ≤ hi) : ∀ z ∈ putKs wd s dp y ks, lo - 6 * (ks.length : Int) ≤ z ∧ z ≤ hi + 6 * (ks.length : Int) := by
  unfold putKs
  induction ks generalizing y lo hi with
  | nil => intro z hz; have := hy z hz; simp; omega
  | cons k ks ih =>
    intro z hz
    have h1 := addAt_bound (d := 1) (l := cellsL wd s k.toNat dp) (D := 1) hy (by omega) (by omega)
    have h2 : ∀ z ∈ addAt 1 y (cellsL wd s k.toNat dp), lo - 6 ≤ z ∧ z ≤ hi + 6 := fun z hz => by
      have := h1 z hz
      rw [cellsL_length] at this
      omega
    have h3 := ih h2 z hz
    simp only [List.length_cons]
    omega
/-- What the worker for list number o makes. -/
def madeC (wd s dp : Nat) (xss : List (List Int)) (o : Nat) : List Int := putKs wd s dp (List.replicate (wd * dp) 0) (xss.getD o [])
/-- The sum of the first n. -/
def sumC (wd s dp : Nat) (xss : List (List Int)) : Nat → List Int
  | 0 => List.replicate (wd * dp) 0
  | n + 1 => addL (sumC wd s dp xss n) (madeC wd s dp xss n)
/-- The keys of the first n lists, one after the other. -/
def seqC (wd s dp : Nat) (xss : List (List Int)) (n : Nat) : List Int := (xss.take n).foldl (putKs wd s dp) (List.replicate (wd * dp) 0)
theorem madeC_length (wd s dp : Nat) (xss : List (List Int)) (o : Nat) : (madeC wd s dp xss o).length = wd * dp := by simp [madeC, putKs_length]
theorem sumC_length (wd s dp : Nat) (xss : List (List Int)) (n : Nat) : (sumC wd s dp xss n).length = wd * dp := by
  induction n with
  | zero => simp [sumC]
  | succ n ih => rw [sumC, addL_length (by rw [ih, madeC_length]), ih]
theorem seqC_succ {wd s dp n : Nat} {xss : List (List Int)} (h : n < xss.length) : seqC wd s dp xss (n + 1) = putKs wd s dp (seqC wd s dp xss n) (xss.getD n []) := by
  unfold seqC
  rw [List.take_add_one, List.getElem?_eq_getElem h, List.foldl_append, List.getD_eq_getElem?_getD, List.getElem?_eq_getElem h]
  rfl
theorem seqC_length {wd s dp n : Nat} {xss : List (List Int)} : (seqC wd s dp xss n).length = wd * dp := by
  unfold seqC
  generalize xss.take n = l
  suffices h : ∀ y : List Int, (l.foldl (putKs wd s dp) y).length = y.length by rw [h]; simp
  intro y
  induction l generalizing y with
  | nil => rfl
  | cons a l ih => rw [List.foldl_cons, ih, putKs_length]
theorem sumC_seqC {wd s dp n : Nat} {xss : List (List Int)} (h : n ≤ xss.length) : sumC wd s dp xss n = seqC wd s dp xss n := by
  induction n with
  | zero => rfl
  | succ n ih =>
    rw [sumC, ih (by omega), seqC_succ (by omega), putKs_sum, seqC_length]
    rfl
theorem madeC_bound {wd s dp : Nat} {xss : List (List Int)} {o : Nat} (hd : dp ≤ 6) (hk : ∀ x ∈ xss, x.length ≤ 256) : ∀ z ∈ madeC wd s dp xss o, -1536 ≤ z ∧ z ≤ 1536 := by
  intro z hz
  have h1 := putKs_bound (wd := wd) (s := s) (y := List.replicate (wd * dp) 0) (ks := xss.getD o []) (lo := 0) (hi := 0) hd (fun z hz => by
    obtain ⟨_, rfl⟩ := List.mem_replicate.1 hz
    omega) z hz
  have h2 : (xss.getD o []).length ≤ 256 := by
    rw [List.getD_eq_getElem?_getD]
    cases he : xss[o]? with
    | none => simp
    | some x => exact hk x (List.mem_of_getElem? he)
  omega
theorem sumC_bound {wd s dp : Nat} {xss : List (List Int)} (hd : dp ≤ 6) (hk : ∀ x ∈ xss, x.length ≤ 256) (n : Nat) : ∀ z ∈ sumC wd s dp xss n, -(1536 * (n : Int)) ≤ z ∧ z ≤ 1536 * (n : Int) := by
  induction n with
  | zero =>
    intro z hz
    obtain ⟨_, rfl⟩ := List.mem_replicate.1 hz
    omega
  | succ n ih =>
    intro z hz
    obtain ⟨i, hi, rfl⟩ := List.getElem_of_mem hz
    have hi1 : i < (sumC wd s dp xss n).length := by rw [sumC_length] at hi ⊢; exact hi
    have hi2 : i < (madeC wd s dp xss n).length := by rw [sumC_length] at hi; rw [madeC_length]; exact hi
    simp only [sumC, addL, List.getElem_zipWith]
    have h1 := ih ((sumC wd s dp xss n)[i]'hi1) (List.getElem_mem _)
    have h2 := madeC_bound (wd := wd) (s := s) (xss := xss) (o := n) hd hk ((madeC wd s dp xss n)[i]'hi2) (List.getElem_mem _)
    omega
theorem seqC_bound {wd s dp n : Nat} {xss : List (List Int)} (hd : dp ≤ 6) (hk : ∀ x ∈ xss, x.length ≤ 256) (hn : n ≤ xss.length) : ∀ z ∈ seqC wd s dp xss n, -(1536 * (n : Int)) ≤ z ∧ z ≤ 1536 * (n : Int) := by
  rw [← sumC_seqC hn]
  exact sumC_bound hd hk n
/-! ### an own row of numbers, whose block is known whole -/
/-- The slice's block holds just these numbers, and then what is spare. -/
def OwnE (ex : List Value) (w : World) (B : Nat) (t : TypeId) (A : Option Addr) (x : List Int) : Prop := ∃ g, A = some ⟨g, 0, none⟩ ∧ B ≤ g ∧ Blk w g t (x.map (Value.int .i64) ++ ex)
section
variable {ex : List Value} {w w' : World} {B B' : Nat} {t : TypeId} {A : Option Addr} {x : List Int}
theorem OwnE.own (h : OwnE ex w B t A x) : OwnS (Value.int .i64) w B t A x := fun _ => let ⟨g, h1, h2, h3⟩ := h; ⟨g, ex, h1, h2, h3⟩
theorem OwnE.mono (h : OwnE ex w B t A x) (hB : B' ≤ B) : OwnE ex w B' t A x := let ⟨g, h1, h2, h3⟩ := h; ⟨g, h1, by omega, h3⟩
theorem OwnE.below (h : OwnE ex w B t A x) (hb : Below w.heap.size w w') : OwnE ex w' B t A x := let ⟨g, h1, h2, h3⟩ := h; ⟨g, h1, h2, h3.below hb⟩
theorem OwnE.setFar (h : OwnE ex w B t A x) {p : Addr} (hp : p.block < B) (u : Value) : OwnE ex (w.setCell p u) B t A x := by
  obtain ⟨g, h1, h2, h3⟩ := h
  exact ⟨g, h1, h2, (heap_setCell_other w p g u (by omega)).trans h3⟩
theorem OwnE.put (h : OwnE ex w B t A x) {j : Nat} (hj : j < x.length) :
    ∃ g u, A = some ⟨g, 0, none⟩ ∧ B ≤ g ∧ w.cell? ⟨g, j, none⟩ = some (.int .i64 u) ∧ w.frozen? ⟨g, j, none⟩ = false ∧ Hid (x[j]? = some u) ∧
      ∀ v, Hid (OwnE ex (w.setCell ⟨g, j, none⟩ (.int .i64 v)) B t A (x.set j v)) := by
  obtain ⟨g, rfl, hB, hb⟩ := h
  refine ⟨g, x[j], rfl, hB, hb.cell (by rw [List.getElem?_append_left (by simpa using hj)]; simp [hj]), hb.frozen j, by show x[j]? = _; simp [hj], fun v => ⟨g, rfl, hB, ?_⟩⟩
  have := hb.set_ j (Value.int .i64 v)
  rw [List.set_append_left _ _ (by simpa using hj), ← List.map_set] at this
  exact this
end
end Go.Proofs.Ytmmolicodlmlkaa
namespace Go.Proofs.Ytmmolicodlmlkaa.Ph
set_option linter.unusedVariables false

/-- Four cells of a row of cells. -/
def Four (w : World) (C o wd dp s n R c : Nat) : Prop := w.cell? ⟨C, 4 * o, none⟩ = some (.int .i64 wd) ∧ w.cell? ⟨C, 4 * o + 1, none⟩ = some (.int .i64 dp) ∧ w.cell? ⟨C, 4 * o + 2, none⟩ = some (.int .i64 s) ∧ w.cell? ⟨C, 4 * o + 3, none⟩ = some (.slice (some ⟨R, 0, none⟩) n c)
end Go.Proofs.Ytmmolicodlmlkaa.Ph
namespace Go.Proofs.Ytmmolicodlmlkaa
open Go.RowKit

set_option maxHeartbeats 400000 in
theorem eqCells_yes (a0 a1 a2 : Int) (A3 A3' : Option Addr) (n3 c3 c3' : Nat) (x3 : List Int) (w : World) (hl3 : Hid (x3.length = n3)) (hx3 : RdL (Value.int .i64) w A3 x3) (hy3 : RdL (Value.int .i64) w A3' x3) (hn3 : n3 ≤ 1048576) :
    Calls Try.prog 29 #[.agg #[.int .i64 a0, .int .i64 a1, .int .i64 a2, .slice A3 n3 c3], .agg #[.int .i64 a0, .int .i64 a1, .int .i64 a2, .slice A3' n3 c3']] w fun e w' => e = .returned (.bool true) ∧ Below w.heap.size w w' := by
  obtain rfl := hl3.out
  have HX3 := hid hx3
  have HY3 := hid hy3
  clear hx3 hy3
  go_enter Try.func29, Try.ntmps29
  go_wp2_with fail
  refine (eqInt64S_any A3 A3' c3 c3' x3 x3 _ (HX3.out.below (below_alloc2 _ _ _)) (HY3.out.below (below_alloc2 _ _ _)) hn3).mono ?_
  rintro e w1 ⟨rfl, m3, rfl⟩
  simp only [decide_true]
  go_wp2
  go_ret
  exact ⟨rfl, below_drewN (below_alloc2 _ _ _) _⟩

set_option maxHeartbeats 400000 in
theorem markCells_any (a0 a1 a2 : Int) (A3 : Option Addr) (c3 B : Nat) (x3 : List Int) (q : Int) (w : World) (hx3 : OwnS (Value.int .i64) w B 2 A3 x3) (hn3 : x3.length ≤ 1048576) (hq0 : 0 ≤ q) (hq1 : q ≤ 1000000000) (hB : B ≤ w.heap.size) :
    Calls Try.prog 30 #[.agg #[.int .i64 a0, .int .i64 a1, .int .i64 a2, .slice A3 x3.length c3], .int .i64 q] w fun e w' => e = .returned (.int .i64 (q + (x3.length : Int))) ∧ OwnS (Value.int .i64) w' B 2 A3 (marks markI (q) x3.length) ∧ Below B w w' ∧ TouchAll w w' [(A3, x3.length)] := by
  have HX3 := hid hx3
  clear hx3
  go_enter Try.func30, Try.ntmps30
  go_wp2_with fail
  refine (markInt64S_any A3 c3 B x3 (q) _ (HX3.out.below (below_a1 _ _)) hn3 (by omega) (by omega)).mono ?_
  rintro e w1 ⟨rfl, ho3, ht3⟩
  have O3_1 := hid ho3
  have T3 := hid ht3
  have W1 : Hid (Below B w w1) := ((Below.refl _ _).alloc hB _).trans (T3.out.below (HX3.out.below (below_a1 _ _)))
  have Z1 : Hid (TouchAll w w1 [(A3, x3.length)]) := (TouchAll.alloc w _ _).trans T3.out
  clear ho3 ht3
  go_wp2_with fail
  go_ret
  exact ⟨rfl, O3_1.out, W1.out, Z1.out⟩

set_option maxHeartbeats 400000 in
theorem heldCells_yes (a0 a1 a2 : Int) (A3 : Option Addr) (n3 c3 : Nat) (q : Int) (w : World) (hx3 : RdL (Value.int .i64) w A3 (marks markI (q) n3)) (hn3 : n3 ≤ 1048576) (hq0 : 0 ≤ q) (hq1 : q ≤ 1000000000) :
    Calls Try.prog 31 #[.agg #[.int .i64 a0, .int .i64 a1, .int .i64 a2, .slice A3 n3 c3], .int .i64 q] w fun e w' => e = .returned (.int .i64 (q + (n3 : Int))) ∧ Below w.heap.size w w' := by
  have HX3 := hid hx3
  clear hx3
  go_enter Try.func31, Try.ntmps31
  go_wp2_with fail
  refine (heldInt64S_yes A3 n3 c3 (q) _ (HX3.out.below (below_a1 _ _)) hn3 (by omega) (by omega)).mono ?_
  rintro e w' ⟨rfl, rfl⟩
  have hp3 : 0 ≤ q + (n3 : Int) := by omega
  go_wp2_with fail
  go_ret
  exact ⟨rfl, below_a1 _ _⟩

end Go.Proofs.Ytmmolicodlmlkaa
