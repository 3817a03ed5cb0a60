/-
  The hashes of keys as a row: reference and program, by contracts.
-/
import Derived.Test.YtmafkkpdcajfoaaLike
import Derived.Test.YtmafkkpdcajfoaaKeys
import Derived.Test.YtmafkkpdcajfoaaCellsAtLaw
namespace Go.Proofs.Ytmafkkpdcajfoaa
open Go.RowKit
set_option linter.unusedVariables false
set_option linter.unusedSimpArgs false

set_option maxRecDepth 100000 in
set_option maxHeartbeats 1600000 in
theorem l02Row_any (A : Option Addr) (c : Nat) (x : List Int) (salt : Nat) (w : World) (hx : RdL (Value.int .i64) w A x) (hn : x.length ≤ 256) (hbd : ∀ y ∈ x, 0 ≤ y ∧ y ≤ 4294967295) (hs : salt < 4294967296) :
    Calls Try.prog 37 #[.slice A x.length c, .int .i64 salt] w (RetL (Value.int .i64) 2 w (rowH x salt x.length)) := by
  obtain ⟨i0, hi0, hz0, hz1, hz2⟩ := info_parts Try.infoI
  have HX := hid hx
  have HBD := hid hbd
  clear hx hbd
  go_enter Try.func37, Try.ntmps37
  go_wp2
  go_loopw [5, 6] (fun v i wr => ∃ k : Nat, k ≤ x.length ∧ i = .int .i64 k ∧ Hid (wr.ownsRow w.heap.size 2 1 v k ((rowH x salt k).map (Value.int .i64))) ∧ Hid (Below w.heap.size w wr)) (fun _ i _ => x.length - (intOf i).toNat)
  case atStart => exact ⟨0, Nat.zero_le _, rfl, World.ownsRow_made w #[] 0 (Nat.le_refl _) (Nat.zero_le _) rfl, below_a1 _ _⟩
  case round =>
    obtain ⟨k, hkr, rfl, hown, hW⟩ := hrel
    by_cases hlt : k < x.length
    · have hi : (k : Int) < (x.length : Int) := by omega
      obtain ⟨b, o, y, rfl, hcy, hyk⟩ := (HX.out.below hW.out).at_ hlt
      have hyb := HBD.out y (List.mem_of_getElem? hyk.out)
      obtain ⟨yn, rfl⟩ := Int.eq_ofNat_of_zero_le hyb.1
      have hyl : yn < 4294967296 := by omega
      obtain ⟨hv, hve⟩ : ∃ h, h = hashN yn salt := ⟨_, rfl⟩
      have HV : Hid (hashAt x salt k = hv) := by show _ = _; unfold hashAt; rw [getD_of hyk, hve]; simp
      have C1 : Hid (∀ w, Calls Try.prog 54 #[.int .i64 (yn : Int), .int .i64 (salt : Int)] w fun e w'' => e = .returned (.int .i64 hv) ∧ w = w'') := fun w => (l02Hash_any yn salt w hyl hs).mono fun _ _ ⟨h, h'⟩ => ⟨by rw [h, hve], h'⟩
      clear hve hyb
      go_wp2_with (first | (go_at_call 54; refine (C1.out _).mono ?_; rintro e w' ⟨rfl, rfl⟩) | (at_builtin; refine wpList_append_own _ rfl _ _ 24 rfl w.heap.size 2 i0 (.int .i64 0) 1 8 Try.underlying24 hi0 hz0 hz1 hz2 rfl (by decide) _ _ _ rfl (hown.out.alloc _) ⟨wr.heap.size, 0, none⟩ 1 1 [.int .i64 hv] rfl rfl ?c1 ?c2 ?c3 ?c4 ?c5 ?_))
      case c1 => exact cell_one_new _ _ _
      case c2 => intro u hu; simp at hu; subst hu; rfl
      case c3 => simp only [maxLen]; omega
      case c4 => omega
      case c5 => have := hW.out.size; simp; omega
      intro v' w1 hown' hgrow _
      have hd : (rowH x salt k).map (Value.int .i64) ++ [Value.int .i64 hv] = (rowH x salt (k + 1)).map (Value.int .i64) := by rw [rowH_succ, HV.out]; simp
      rw [hd] at hown'
      have O1 := hid hown'
      have W1 : Hid (Below w.heap.size w w1) := (hW.out.alloc hW.out.size _).grown hgrow (by have := hW.out.size; simp; omega) (fun g hg => (hown.out.alloc (.cells #[.int .i64 hv] 2)).lt g hg |>.1)
      clear hown' hgrow hd
      go_wp2
      exact ⟨⟨k + 1, by omega, by go_num, O1, W1⟩, by simp [intOf]; omega⟩
    · have hi : ¬ (k : Int) < (x.length : Int) := by omega
      obtain rfl : k = x.length := by omega
      go_wp2
      go_ret
      obtain ⟨A', c', hv, ho⟩ := ownS_of_row hown.out (rowH_length _ _ _)
      exact ⟨A', c', congrArg Ending.returned hv, ho, hW.out⟩
/-- What HashRow returns. -/
def pHashRow (x : List Int) (salt : Int) : List Int × Bool := if (keysQ x && inB salt 0 4294967295) = true then (rowH x salt.toNat x.length, true) else ([], false)
set_option maxRecDepth 100000 in
set_option maxHeartbeats 1600000 in
theorem iHashRow_any (A : Option Addr) (c : Nat) (x : List Int) (salt : Int) (w : World) (hx : RdL (Value.int .i64) w A x) (hn : x.length ≤ 1048576) :
    Calls Try.prog 38 #[.slice A x.length c, .int .i64 salt] w (RetLB (Value.int .i64) 2 w (pHashRow x salt)) := by
  have HX := hid hx
  clear hx
  cases hk : keysQ x with
  | false =>
    have hp : pHashRow x salt = ([], false) := by simp [pHashRow, hk]
    rw [hp]
    clear hp
    go_enter Try.func38, Try.ntmps38
    go_wp2_with (go_at_call 32; refine (AreKeys_q A c x _ HX.out hn).mono ?_; rw [hk]; rintro e w' ⟨rfl, rfl⟩)
    go_ret2
    exact ⟨none, 0, rfl, OwnS.nil, by simp, Below.refl _ _⟩
  | true =>
  cases hs : inB salt 0 4294967295 with
  | false =>
    have hp : pHashRow x salt = ([], false) := by simp [pHashRow, hs]
    rw [hp]
    clear hp
    go_enter Try.func38, Try.ntmps38
    go_wp2_with (first | (go_at_call 32; refine (AreKeys_q A c x _ HX.out hn).mono ?_; rw [hk]; rintro e w' ⟨rfl, rfl⟩) | (go_at_call 23; refine (IsKey_any _ _).mono ?_; rw [hs]; rintro e w' ⟨rfl, rfl⟩))
    go_ret2
    exact ⟨none, 0, rfl, OwnS.nil, by simp, Below.refl _ _⟩
  | true =>
    have hp : pHashRow x salt = (rowH x salt.toNat x.length, true) := by simp [pHashRow, hk, hs]
    rw [hp]
    clear hp
    obtain ⟨hl, hbd⟩ := keysQ_iff hk
    obtain ⟨hs1, hs2⟩ := inB_iff.1 hs
    obtain ⟨s, rfl⟩ := Int.eq_ofNat_of_zero_le hs1
    have C1 := hid (hashRow_any A c x s w HX.out hl hbd (by omega))
    obtain ⟨L, hL⟩ : ∃ L, L = rowH x s x.length := ⟨_, rfl⟩
    have hLl : L.length ≤ 1048576 := by rw [hL, rowH_length]; exact hn
    rw [Int.toNat_natCast]
    rw [← hL] at C1 ⊢
    have HL := hid hLl
    clear hbd hL hLl
    go_enter Try.func38, Try.ntmps38
    go_wp2_with (first | (go_at_call 32; refine (AreKeys_q A c x _ HX.out hn).mono ?_; rw [hk]; rintro e w' ⟨rfl, rfl⟩) | (go_at_call 23; refine (IsKey_any _ _).mono ?_; rw [hs]; rintro e w' ⟨rfl, rfl⟩))
    refine C1.out.mono ?_
    rintro e w1 ⟨A1, c1, rfl, ho, hb⟩
    have H1 := hid ho
    have H2 := hid hb
    clear ho hb C1 hk hs
    go_wp2
    go_ret2
    exact ⟨A1, c1, rfl, H1.out, HL.out, H2.out⟩
end Go.Proofs.Ytmafkkpdcajfoaa
