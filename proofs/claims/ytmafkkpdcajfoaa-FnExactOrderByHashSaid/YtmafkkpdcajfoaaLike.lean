/-
  The first index of the least hash: the reference, by contracts; and the shape of LikeShare's answer.
-/
import Derived.Test.YtmafkkpdcajfoaaLeastWalk
import Derived.Test.YtmafkkpdcajfoaaHash
import Derived.Test.YtmafkkpdcajfoaaRet
import Derived.Test.YtmafkkpdcajfoaaCellsDot
namespace Go.Proofs.Ytmafkkpdcajfoaa
open Go.RowKit Ieee
set_option linter.unusedVariables false
set_option linter.unusedSimpArgs false

/-- The hash of the key at place k. -/
def hashAt (x : List Int) (salt k : Nat) : Nat := hashN (x.getD k 0).toNat salt
/-- The first index of the least hash of the first n keys. -/
def leastTo (x : List Int) (salt : Nat) : Nat → Nat
  | 0 => 0
  | n + 1 => if hashAt x salt n < hashAt x salt (leastTo x salt n) then n else leastTo x salt n
theorem leastTo_one (x : List Int) (salt : Nat) : leastTo x salt 1 = 0 := by
  unfold leastTo leastTo
  split <;> rfl
theorem leastTo_lt (x : List Int) (salt : Nat) {n : Nat} (h : 0 < n) : leastTo x salt n < n := by
  induction n with
  | zero => omega
  | succ n ih =>
    unfold leastTo
    split
    · omega
    · rcases (show n = 0 ∨ 0 < n by omega) with rfl | h1
      · unfold leastTo; omega
      · have := ih h1; omega
/-- No hash is less, and those before it are greater. -/
theorem leastTo_spec (x : List Int) (salt : Nat) : ∀ n k, k < n → hashAt x salt (leastTo x salt n) ≤ hashAt x salt k ∧ (k < leastTo x salt n → hashAt x salt (leastTo x salt n) < hashAt x salt k) := by
  intro n
  induction n with
  | zero => intro k hk; omega
  | succ n ih =>
    intro k hk
    rw [leastTo]
    split
    · rename_i h
      rcases (show k = n ∨ k < n by omega) with rfl | h1
      · exact ⟨Nat.le_refl _, fun h2 => absurd h2 (by omega)⟩
      · have := (ih k h1).1
        exact ⟨by omega, fun _ => by omega⟩
    · rename_i h
      rcases (show k = n ∨ k < n by omega) with rfl | h1
      · refine ⟨by omega, fun h2 => ?_⟩
        rcases (show k = 0 ∨ 0 < k by omega) with rfl | h3
        · unfold leastTo at h2; omega
        · have := leastTo_lt x salt h3; omega
      · exact ih k h1

/-- The hashes of the first n keys. -/
def rowH (x : List Int) (salt n : Nat) : List Int := (List.range n).map fun k => (hashAt x salt k : Int)
theorem rowH_succ (x : List Int) (salt n : Nat) : rowH x salt (n + 1) = rowH x salt n ++ [(hashAt x salt n : Int)] := by simp [rowH, List.range_succ]
theorem rowH_length (x : List Int) (salt n : Nat) : (rowH x salt n).length = n := by simp [rowH]
theorem rowH_at {x : List Int} {salt n k : Nat} (h : k < n) : (rowH x salt n)[k]? = some (hashAt x salt k : Int) := by simp [rowH, h]
theorem rowH_min (x : List Int) (salt : Nat) {n : Nat} (h : 0 < n) : minL (rowH x salt n) = (hashAt x salt (leastTo x salt n) : Int) := by
  induction n with
  | zero => omega
  | succ n ih =>
    rcases (show n = 0 ∨ 0 < n by omega) with rfl | h1
    · rw [leastTo_one]; rfl
    · rw [rowH_succ, minL_snoc _ (by intro h2; have h3 := congrArg List.length h2; rw [rowH_length] at h3; simp at h3; omega), ih h1, leastTo]
      split <;> omega
set_option maxRecDepth 100000 in
set_option maxHeartbeats 1600000 in
theorem hashRow_any (A : Option Addr) (c : Nat) (x : List Int) (salt : Nat) (w : World) (hx : RdL (Value.int .i64) w A x) (hn : x.length ≤ 256) (hbd : ∀ y ∈ x, 0 ≤ y ∧ y ≤ 4294967295) (hs : salt < 4294967296) :
    Calls Try.prog 55 #[.slice A x.length c, .int .i64 salt] w (RetL (Value.int .i64) 2 w (rowH x salt x.length)) := by
  obtain ⟨i0, hi0, hz0, hz1, hz2⟩ := info_parts Try.infoI
  have HX := hid hx
  have HBD := hid hbd
  clear hx hbd
  go_enter Try.func55, Try.ntmps55
  go_wp2
  go_loopw [5, 7, 11] (fun v e_ i wr => ∃ k : Nat, k ≤ x.length ∧ i = .int .i64 k ∧ Hid (wr.ownsRow w.heap.size 2 1 v k ((rowH x salt k).map (Value.int .i64))) ∧ Hid (Below w.heap.size w wr)) (fun _ e_ i _ => x.length - (intOf i).toNat)
  case atStart => exact ⟨0, Nat.zero_le _, rfl, World.ownsRow_made w #[] 0 (Nat.le_refl _) (Nat.zero_le _) rfl, below_a1 _ _⟩
  case round =>
    obtain ⟨k, hkr, rfl, hown, hW⟩ := hrel
    by_cases hlt : k < x.length
    · have hi : (k : Int) < (x.length : Int) := by omega
      obtain ⟨b, o, y, rfl, hcy, hyk⟩ := (HX.out.below hW.out).at_ hlt
      have hyb := HBD.out y (List.mem_of_getElem? hyk.out)
      obtain ⟨yn, rfl⟩ := Int.eq_ofNat_of_zero_le hyb.1
      have hyl : yn < 4294967296 := by omega
      obtain ⟨hv, hve⟩ : ∃ h, h = hashN yn salt := ⟨_, rfl⟩
      have HV : Hid (hashAt x salt k = hv) := by show _ = _; unfold hashAt; rw [getD_of hyk, hve]; simp
      have C1 : Hid (∀ w, Calls Try.prog 75 #[.int .i64 (yn : Int), .int .i64 (salt : Int)] w fun e w'' => e = .returned (.int .i64 hv) ∧ w = w'') := fun w => (ihash_any yn salt w hyl hs).mono fun _ _ ⟨h, h'⟩ => ⟨by rw [h, hve], h'⟩
      clear hve hyb
      go_wp2_with (first | (go_at_call 75; refine (C1.out _).mono ?_; rintro e w' ⟨rfl, rfl⟩) | (at_builtin; refine wpList_append_own _ rfl _ _ 24 rfl w.heap.size 2 i0 (.int .i64 0) 1 8 Try.underlying24 hi0 hz0 hz1 hz2 rfl (by decide) _ _ _ rfl (hown.out.alloc _) ⟨wr.heap.size, 0, none⟩ 1 1 [.int .i64 hv] rfl rfl ?c1 ?c2 ?c3 ?c4 ?c5 ?_))
      case c1 => exact cell_one_new _ _ _
      case c2 => intro u hu; simp at hu; subst hu; rfl
      case c3 => simp only [maxLen]; omega
      case c4 => omega
      case c5 => have := hW.out.size; simp; omega
      intro v' w1 hown' hgrow _
      have hd : (rowH x salt k).map (Value.int .i64) ++ [Value.int .i64 hv] = (rowH x salt (k + 1)).map (Value.int .i64) := by rw [rowH_succ, HV.out]; simp
      rw [hd] at hown'
      have O1 := hid hown'
      have W1 : Hid (Below w.heap.size w w1) := (hW.out.alloc hW.out.size _).grown hgrow (by have := hW.out.size; simp; omega) (fun g hg => (hown.out.alloc (.cells #[.int .i64 hv] 2)).lt g hg |>.1)
      clear hown' hgrow hd
      go_wp2
      exact ⟨⟨k + 1, by omega, by go_num, O1, W1⟩, by simp [intOf]; omega⟩
    · have hi : ¬ (k : Int) < (x.length : Int) := by omega
      obtain rfl : k = x.length := by omega
      go_wp2
      go_ret
      obtain ⟨A', c', hv, ho⟩ := ownS_of_row hown.out (rowH_length _ _ _)
      exact ⟨A', c', congrArg Ending.returned hv, ho, hW.out⟩
end Go.Proofs.Ytmafkkpdcajfoaa
