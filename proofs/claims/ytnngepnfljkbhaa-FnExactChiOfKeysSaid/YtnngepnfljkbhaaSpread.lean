/-
  How many keys fall on each place: reference and program, by contracts. Printed by gen_spread.py.
-/
import Derived.Test.YtnngepnfljkbhaaLikeShare
import Derived.Test.YtnngepnfljkbhaaAdd
namespace Go.Proofs.Ytnngepnfljkbhaa
open Go.RowKit
set_option linter.unusedVariables false
set_option linter.unusedSimpArgs false

/-- The places of the keys. -/
def spreadP (x : List Int) (salt n : Nat) : List Int := (List.range x.length).map fun i => (belowN (x.getD i 0).toNat salt n : Int)
theorem spreadP_at {x : List Int} {salt n k : Nat} (h : k < x.length) : (spreadP x salt n)[k]? = some (belowN (x.getD k 0).toNat salt n : Int) := by simp [spreadP, h]
theorem spreadP_length (x : List Int) (salt n : Nat) : (spreadP x salt n).length = x.length := by simp [spreadP]
/-- How many keys fall on each place. -/
def spreadL (x : List Int) (salt n : Nat) : List Int := addAt 1 (List.replicate n 0) (spreadP x salt n)
theorem spreadL_length (x : List Int) (salt n : Nat) : (spreadL x salt n).length = n := by unfold spreadL; rw [addAt_length, List.length_replicate]
/-- It hands back n counts of its own, and true. -/
def RetSp (w : World) (n : Nat) (l : List Int) (e : Ending) (w' : World) : Prop := ∃ A c, e = .returned (.tuple #[.slice A n c, .bool true]) ∧ OwnS (Value.int .i64) w' w.heap.size 2 A l ∧ Below w.heap.size w w'
def vSpread (x : List Int) (salt n : Int) : Bool := keysB x && inB salt 0 4294967295 && inB n 1 256
theorem take_bound {l : List Int} {n k : Nat} (hl : l.length ≤ 256) : ∀ y ∈ addAt 1 (List.replicate n 0) (l.take k), -256 ≤ y ∧ y ≤ 256 := fun y hy => by
  have h1 := addAt_bound (lo := 0) (hi := 0) (D := 1) (d := 1) (x := List.replicate n 0) (l := l.take k) (fun z hz => by obtain ⟨_, rfl⟩ := List.mem_replicate.1 hz; omega) (by omega) (by omega) y hy
  have h2 : (l.take k).length ≤ 256 := by rw [List.length_take]; omega
  omega
set_option maxRecDepth 100000 in
set_option maxHeartbeats 1600000 in
theorem sSpread_yes (A : Option Addr) (c : Nat) (x : List Int) (salt n : Nat) (w : World) (hx : RdL (Value.int .i64) w A x) (hn : x.length ≤ 1048576) (hv : vSpread x salt n = true) :
    Calls Try.prog 80 #[.slice A x.length c, .int .i64 salt, .int .i64 n] w (RetSp w n (spreadL x salt n)) := by
  have X := hid hx
  clear hx
  simp only [vSpread, Bool.and_eq_true] at hv
  obtain ⟨⟨hk, hs⟩, hn0⟩ := hv
  obtain ⟨h256, hbd⟩ := keysB_iff hk
  obtain ⟨hs1, hs2⟩ := inB_iff.1 hs
  obtain ⟨hn1, hn2⟩ := inB_iff.1 hn0
  have K : Hid (Calls Try.prog 82 #[.slice A x.length c] w fun e w' => e = .returned (.bool true) ∧ w = w') := hk ▸ l02Keys_gen A c x w X.out
  have BD := hid hbd
  have hmk := run_make_row' (P := Try.prog) 35 2 (.int .i64 0) 8 Try.underlying35 (by kernel_rfl) rfl .i64 .i64 n (by omega) (by omega)
  obtain ⟨w0, hw0⟩ : ∃ w0, w0 = w.alloc (.cells (madeCells #[.int .i64 0] n) 2) := ⟨_, rfl⟩
  have O0 : Hid (OwnS (Value.int .i64) w0 w.heap.size 2 (some ⟨w.heap.size, 0, none⟩) (List.replicate n 0)) := by
    rw [hw0]
    refine OwnS.of_blk ?_ (Nat.le_refl _)
    rw [madeCells_one, List.map_replicate]
    exact Blk.new _ _ _
  have S0 : Hid (Below w.heap.size w w0) := by rw [hw0]; exact below_a1 _ _
  clear hk hbd
  go_enter Try.func80, Try.ntmps80
  go_wp2_with (go_at_call 82; with_reducible refine K.out.mono ?_; rintro e w' ⟨rfl, rfl⟩)
  go_wp2_with (first | (go_at_call 96; refine (l02Key_any _ _).mono ?_; rintro e w' ⟨rfl, rfl⟩) | (go_at_call 106; refine (l00In_any _ _ _ _).mono ?_; rintro e w' ⟨rfl, rfl⟩))
  rw [← hw0]
  clear hw0 hmk hs hn0
  go_loopw [9, 10] (fun i at_ wr => ∃ k : Nat, k ≤ x.length ∧ i = .int .i64 k ∧ Hid (OwnS (Value.int .i64) wr w.heap.size 2 (some ⟨w.heap.size, 0, none⟩) (addAt 1 (List.replicate n 0) ((spreadP x salt n).take k))) ∧ Hid (Touch w0 wr (some ⟨w.heap.size, 0, none⟩) n)) (fun i at_ _ => x.length - (intOf i).toNat)
  case atStart => exact ⟨0, Nat.zero_le _, rfl, by rw [addAt_zero]; exact O0, Touch.refl⟩
  case round =>
    obtain ⟨k, hkr, rfl, hok, hT⟩ := hrel
    have hTB := hid ((show Touch w0 wr (some ⟨w.heap.size, 0, none⟩) (List.replicate n (0 : Int)).length by rw [List.length_replicate]; exact hT.out).below O0.out)
    have SR := hid (S0.out.trans hTB.out)
    by_cases hlt : k < x.length
    · have hi : (k : Int) < (x.length : Int) := by omega
      obtain ⟨b, o, y, rfl, hcy, hyk⟩ := (X.out.below SR.out).at_ hlt
      have hyb := BD.out y (List.mem_of_getElem? hyk.out)
      obtain ⟨yn, rfl⟩ := Int.eq_ofNat_of_zero_le hyb.1
      have hyl : yn < 4294967296 := by omega
      have hat := belowN_lt yn salt n (by omega)
      obtain ⟨m, hme⟩ : ∃ m, m = belowN yn salt n := ⟨_, rfl⟩
      have C1 : Hid (∀ w, Calls Try.prog 129 #[.int .i64 (yn : Int), .int .i64 (salt : Int), .int .i64 (n : Int)] w fun e w'' => e = .returned (.int .i64 m) ∧ w = w'') := fun w => hme ▸ l02Below_any yn salt n w hyl (by omega) (by omega)
      have hsp : Hid ((spreadP x salt n)[k]? = some (m : Int)) := by
        show _ = _
        rw [spreadP_at hlt, getD_of hyk, hme]
        simp
      rw [← hme] at hat
      clear hme hyb
      obtain ⟨g', u, hg', hgB, hcu, hfu, hum, hput⟩ := hok.out.put (j := m) (by rw [addAt_length, List.length_replicate]; exact hat)
      injection hg' with hg'; injection hg' with hg'
      subst hg'
      have hub := take_bound (l := spreadP x salt n) (n := n) (k := k) (by rw [spreadP_length]; omega) u (List.mem_of_getElem? hum.out)
      have hO2 := hput (u + 1)
      rw [addAt_succ hsp hum] at hO2
      have hT2 := hid (hT.out.set_ (by omega) m (.int .i64 (u + 1)))
      have hm1 : (m : Int) < (n : Int) := by omega
      have hm0 : (0 : Int) ≤ (m : Int) := by omega
      have hu1 := hub.1
      have hu2 := hub.2
      clear hput hgB hub hum
      go_wp2_with (go_at_call 129; refine (C1.out _).mono ?_; rintro e w' ⟨rfl, rfl⟩)
      exact ⟨⟨k + 1, by omega, by go_num, hO2, hT2⟩, by simp [intOf]; omega⟩
    · have hi : ¬ (k : Int) < (x.length : Int) := by omega
      have he := hok.out
      rw [List.take_of_length_le (by rw [spreadP_length]; omega)] at he
      have HE := hid he
      clear he
      go_wp2
      go_ret2
      exact ⟨some ⟨w.heap.size, 0, none⟩, n, rfl, HE.out, SR.out⟩
set_option maxRecDepth 100000 in
set_option maxHeartbeats 1600000 in
theorem iSpread_yes (A : Option Addr) (c : Nat) (x : List Int) (salt n : Nat) (w : World) (hx : RdL (Value.int .i64) w A x) (hn : x.length ≤ 1048576) (hv : vSpread x salt n = true) :
    Calls Try.prog 81 #[.slice A x.length c, .int .i64 salt, .int .i64 n] w (RetSp w n (spreadL x salt n)) := by
  have X := hid hx
  clear hx
  simp only [vSpread, Bool.and_eq_true] at hv
  obtain ⟨⟨hk, hs⟩, hn0⟩ := hv
  obtain ⟨h256, hbd⟩ := keysB_iff hk
  obtain ⟨hs1, hs2⟩ := inB_iff.1 hs
  obtain ⟨hn1, hn2⟩ := inB_iff.1 hn0
  have K : Hid (Calls Try.prog 84 #[.slice A x.length c] w fun e w' => e = .returned (.bool true) ∧ w = w') := hk ▸ AreKeys_any A c x w X.out hn
  have BD := hid hbd
  have hmk := run_make_row' (P := Try.prog) 35 2 (.int .i64 0) 8 Try.underlying35 (by kernel_rfl) rfl .i64 .i64 n (by omega) (by omega)
  obtain ⟨w0, hw0⟩ : ∃ w0, w0 = w.alloc (.cells (madeCells #[.int .i64 0] n) 2) := ⟨_, rfl⟩
  have O0 : Hid (OwnS (Value.int .i64) w0 w.heap.size 2 (some ⟨w.heap.size, 0, none⟩) (List.replicate n 0)) := by
    rw [hw0]
    refine OwnS.of_blk ?_ (Nat.le_refl _)
    rw [madeCells_one, List.map_replicate]
    exact Blk.new _ _ _
  have S0 : Hid (Below w.heap.size w w0) := by rw [hw0]; exact below_a1 _ _
  clear hk hbd
  go_enter Try.func81, Try.ntmps81
  go_wp2_with (go_at_call 84; with_reducible refine K.out.mono ?_; rintro e w' ⟨rfl, rfl⟩)
  go_wp2_with (first | (go_at_call 89; refine (IsKey_any _ _).mono ?_; rintro e w' ⟨rfl, rfl⟩) | (go_at_call 112; refine (within_any _ _ _ _).mono ?_; rintro e w' ⟨rfl, rfl⟩))
  rw [← hw0]
  clear hw0 hmk hs hn0
  go_loopw [10, 28] (fun at_ i wr => ∃ k : Nat, k ≤ x.length ∧ i = .int .i64 k ∧ Hid (OwnS (Value.int .i64) wr w.heap.size 2 (some ⟨w.heap.size, 0, none⟩) (addAt 1 (List.replicate n 0) ((spreadP x salt n).take k))) ∧ Hid (Touch w0 wr (some ⟨w.heap.size, 0, none⟩) n)) (fun at_ i _ => x.length - (intOf i).toNat)
  case atStart => exact ⟨0, Nat.zero_le _, rfl, by rw [addAt_zero]; exact O0, Touch.refl⟩
  case round =>
    obtain ⟨k, hkr, rfl, hok, hT⟩ := hrel
    have hTB := hid ((show Touch w0 wr (some ⟨w.heap.size, 0, none⟩) (List.replicate n (0 : Int)).length by rw [List.length_replicate]; exact hT.out).below O0.out)
    have SR := hid (S0.out.trans hTB.out)
    by_cases hlt : k < x.length
    · have hi : (k : Int) < (x.length : Int) := by omega
      obtain ⟨b, o, y, rfl, hcy, hyk⟩ := (X.out.below SR.out).at_ hlt
      have hyb := BD.out y (List.mem_of_getElem? hyk.out)
      obtain ⟨yn, rfl⟩ := Int.eq_ofNat_of_zero_le hyb.1
      have hyl : yn < 4294967296 := by omega
      have hat := belowN_lt yn salt n (by omega)
      obtain ⟨m, hme⟩ : ∃ m, m = belowN yn salt n := ⟨_, rfl⟩
      have C1 : Hid (∀ w, Calls Try.prog 130 #[.int .i64 (yn : Int), .int .i64 (salt : Int), .int .i64 (n : Int)] w fun e w'' => e = .returned (.int .i64 m) ∧ w = w'') := fun w => hme ▸ ibelow_any yn salt n w hyl (by omega) (by omega)
      have hsp : Hid ((spreadP x salt n)[k]? = some (m : Int)) := by
        show _ = _
        rw [spreadP_at hlt, getD_of hyk, hme]
        simp
      rw [← hme] at hat
      clear hme hyb
      obtain ⟨g', u, hg', hgB, hcu, hfu, hum, hput⟩ := hok.out.put (j := m) (by rw [addAt_length, List.length_replicate]; exact hat)
      injection hg' with hg'; injection hg' with hg'
      subst hg'
      have hub := take_bound (l := spreadP x salt n) (n := n) (k := k) (by rw [spreadP_length]; omega) u (List.mem_of_getElem? hum.out)
      have hO2 := hput (u + 1)
      rw [addAt_succ hsp hum] at hO2
      have hT2 := hid (hT.out.set_ (by omega) m (.int .i64 (u + 1)))
      have hm1 : (m : Int) < (n : Int) := by omega
      have hm0 : (0 : Int) ≤ (m : Int) := by omega
      have hu1 := hub.1
      have hu2 := hub.2
      clear hput hgB hub hum
      go_wp2_with (go_at_call 130; refine (C1.out _).mono ?_; rintro e w' ⟨rfl, rfl⟩)
      exact ⟨⟨k + 1, by omega, by go_num, hO2, hT2⟩, by simp [intOf]; omega⟩
    · have hi : ¬ (k : Int) < (x.length : Int) := by omega
      have he := hok.out
      rw [List.take_of_length_le (by rw [spreadP_length]; omega)] at he
      have HE := hid he
      clear he
      go_wp2
      go_ret2
      exact ⟨some ⟨w.heap.size, 0, none⟩, n, rfl, HE.out, SR.out⟩
end Go.Proofs.Ytnngepnfljkbhaa
