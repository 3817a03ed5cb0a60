/-
  What the laws of this set draw from bytes (r8): by contracts.
-/
import Derived.Test.YtbodfepfapjikaaB10
namespace Go.Proofs.Ytbodfepfapjikaa
open Go.RowKit
set_option linter.unusedVariables false
set_option linter.unusedSimpArgs false

set_option maxHeartbeats 800000 in
theorem r8Long_any (A A' : Option Addr) (n n' c c' : Nat) (w : World) : Calls Try.prog 42 #[.slice A n c, .slice A' n' c'] w fun e w' => e = .returned (.bool (decide (48 < n ∨ 48 < n'))) ∧ w = w' := by
  by_cases h : (48 : Int) < (n : Int)
  · have hd : decide (48 < n ∨ 48 < n') = true := decide_eq_true (.inl (by omega))
    rw [hd]
    clear hd
    go_enter Try.func42, Try.ntmps42
    go_wp2
    go_ret
    exact ⟨rfl, rfl⟩
  · by_cases h' : (48 : Int) < (n' : Int)
    · have hd : decide (48 < n ∨ 48 < n') = true := decide_eq_true (.inr (by omega))
      rw [hd]
      clear hd
      go_enter Try.func42, Try.ntmps42
      go_wp2
      go_ret
      exact ⟨rfl, rfl⟩
    · have hd : decide (48 < n ∨ 48 < n') = false := decide_eq_false (by omega)
      rw [hd]
      clear hd
      go_enter Try.func42, Try.ntmps42
      go_wp2
      go_ret
      exact ⟨rfl, rfl⟩
set_option maxHeartbeats 800000 in
theorem r8At_any (A : Option Addr) (c : Nat) (x : List Int) (i n : Int) (w : World) (hx : RdL (Value.int .u8) w A x) (hb : Byt x) (hn : x.length ≤ 1048576) (hi0 : 0 ≤ i) (hi1 : i ≤ 1000) (hn1 : 1 < n) (hn2 : n ≤ 256) :
    Calls Try.prog 44 #[.slice A x.length c, .int .i64 i, .int .i64 n] w fun e w' => (∃ r, e = .returned (.int .i64 r) ∧ 0 ≤ r ∧ r < n) ∧ w = w' := by
  have HX := hid hx
  have HB := hid hb
  clear hx hb
  obtain ⟨k, rfl⟩ := Int.eq_ofNat_of_zero_le hi0
  have hn1' : ¬ n ≤ 1 := by omega
  have hnz : (n == 0) = false := beq_eq_false_iff_ne.2 (by omega)
  have hnz' : n ≠ 0 := by omega
  by_cases hlt : k < x.length
  · have hi : ¬ (x.length : Int) ≤ (k : Int) := by omega
    have hi2 : (k : Int) < (x.length : Int) := by omega
    obtain ⟨b, o, y, rfl, hc, hy⟩ := HX.out.at_ hlt
    have hyb := HB.out y (List.mem_of_getElem? hy.out)
    have v1 : IntKind.i64.wrap y = y := by rw [IntKind.wrap_i64]; omega
    go_enter Try.func44, Try.ntmps44
    go_wp2
    go_ret
    exact ⟨⟨_, rfl, Int.emod_nonneg _ hnz', Int.emod_lt_of_pos _ (by omega)⟩, rfl⟩
  · have hi : (x.length : Int) ≤ (k : Int) := by omega
    go_enter Try.func44, Try.ntmps44
    go_wp2
    go_ret
    exact ⟨⟨_, rfl, by omega, by omega⟩, rfl⟩
set_option maxHeartbeats 1600000 in
theorem pick100_any (q : Nat) (A : Option Addr) (c : Nat) (x : List Int) (at_ sd : Int) (w : World) (hs : SrcB w q A x.length c at_ sd) (hx : RdL (Value.int .u8) w A x) (hb : Byt x) (hn : x.length ≤ 1048576) (ha0 : 0 ≤ at_) (ha1 : at_ ≤ 1000) (hA : ∀ g o, A = some ⟨g, o, none⟩ → x ≠ [] → g ≠ q) :
    Calls Try.prog 98 #[.pointer (some ⟨q, 0, none⟩), .int .i64 100] w fun e w' => ∃ v sd', (e = .returned (.int .i64 v) ∧ 0 ≤ v ∧ v ≤ 99) ∧ SrcB w' q A x.length c (at_ + 1) sd' ∧ Touch w w' (some ⟨q, 0, none⟩) 3 := by
  have C := hid (next_any q A c x at_ sd w hs hx hb hn ha0 (by omega) hA)
  clear hs hx hb hA
  go_enter Try.func98, Try.ntmps98
  go_wp2_with fail
  refine C.out.mono ?_
  rintro e w' ⟨v, sd', ⟨rfl, hv0, hv1⟩, hS, hT⟩
  have HS := hid hS
  have HT := hid hT
  clear hS hT C
  go_wp2
  go_ret
  exact ⟨_, _, ⟨rfl, by omega, by omega⟩, HS.out, HT.out⟩
theorem Touch.then {w w1 w2 : World} {A : Option Addr} {n : Nat} (h : Touch w w1 A n) (k : Touch w1 w2 A n) : Touch w w2 A n :=
  ⟨k.os.trans h.os, k.tape.trans h.tape, k.output.trans h.output, by rw [k.size]; exact h.size, fun b hb => (k.block b hb).trans (h.block b hb)⟩
theorem RdL.touchQ {f : Int → Value} {w w' : World} {A : Option Addr} {x : List Int} {q n : Nat} (h : RdL f w A x) (ht : Touch w w' (some ⟨q, 0, none⟩) n) (hA : ∀ g o, A = some ⟨g, o, none⟩ → x ≠ [] → g ≠ q) : RdL f w' A x := fun j hj => by
  obtain ⟨b, o, hb, hc⟩ := h j hj
  refine ⟨b, o, hb, ?_⟩
  have hne : b ≠ q := hA b o hb (by rintro rfl; simp at hj)
  have e := ht.block b (.inr fun o' e => by injection e with e; injection e with e; exact hne e.symm)
  rw [← hc]
  simp only [World.cell?, e]
set_option maxHeartbeats 1600000 in
theorem pickM_any (q : Nat) (A : Option Addr) (c : Nat) (x : List Int) (at_ sd : Int) (w : World) (hs : SrcB w q A x.length c at_ sd) (hx : RdL (Value.int .u8) w A x) (hb : Byt x) (hn : x.length ≤ 1048576) (ha0 : 0 ≤ at_) (ha1 : at_ ≤ 1000) (hA : ∀ g o, A = some ⟨g, o, none⟩ → x ≠ [] → g ≠ q) :
    Calls Try.prog 98 #[.pointer (some ⟨q, 0, none⟩), .int .i64 1000000] w fun e w' => ∃ v sd', (e = .returned (.int .i64 v) ∧ 0 ≤ v ∧ v ≤ 999999) ∧ SrcB w' q A x.length c (at_ + 1 + 1) sd' ∧ Touch w w' (some ⟨q, 0, none⟩) 3 := by
  have C := hid (next_any q A c x at_ sd w hs hx hb hn ha0 (by omega) hA)
  have HX := hid hx
  have HB := hid hb
  have HA := hid hA
  clear hs hx hb hA
  go_enter Try.func98, Try.ntmps98
  go_wp2_with fail
  refine C.out.mono ?_
  rintro e w' ⟨v, sd', ⟨rfl, hv0, hv1⟩, hS, hT⟩
  have C2 := hid (next_any q A c x (at_ + 1) sd' w' hS (HX.out.touchQ hT HA.out) HB.out hn (by omega) (by omega) HA.out)
  have HT := hid hT
  clear hS hT C
  go_wp2_with fail
  refine C2.out.mono ?_
  rintro e w2 ⟨v2, sd2, ⟨rfl, hv20, hv21⟩, hS, hT⟩
  have HS2 := hid hS
  have HT2 := hid hT
  clear hS hT C2
  go_wp2
  go_ret
  exact ⟨_, _, ⟨rfl, by omega, by omega⟩, HS2.out, HT.out.then HT2.out⟩
set_option maxRecDepth 100000 in
set_option maxHeartbeats 1600000 in
theorem r8Different_any (A : Option Addr) (c : Nat) (x : List Int) (n : Int) (w : World) (hx : RdL (Value.int .u8) w A x) (hb : Byt x) (hn : x.length ≤ 1048576) (hn0 : 0 ≤ n) (hn1 : n ≤ 100) :
    Calls Try.prog 43 #[.slice A x.length c, .int .i64 n] w fun e w' => ∃ v K, e = .returned v ∧ OwnV w' w.heap.size v K ∧ (K.length : Int) = n ∧ (∀ y ∈ K, 0 ≤ y ∧ y ≤ 4294967295) ∧ Below w.heap.size w w' := by
  have HX := hid hx
  have HB := hid hb
  clear hx hb
  have HA : Hid (∀ g o, A = some ⟨g, o, none⟩ → x ≠ [] → g ≠ w.heap.size) := by
    intro g o hA hne hg
    obtain ⟨b, o', y, hA', hc, _⟩ := HX.out.at_ (k := 0) (List.length_pos_iff.2 hne)
    rw [hA] at hA'; injection hA' with hA'; injection hA' with h1 h2
    have := World.block_lt_of_cell? w _ hc
    simp at this
    omega
  go_enter Try.func43, Try.ntmps43
  go_wp2_with fail
  refine (l00From_any A x.length c w).mono ?_
  rintro e w1 ⟨rfl, hw1⟩
  have hq1 : w.heap.size < w1.heap.size := by rw [hw1]; simp
  have S1 : Hid (Below w.heap.size w w1) := by rw [hw1]; exact below_a1 _ _
  have B1 : Hid (SrcB w1 w.heap.size A x.length c 0 0) := by rw [hw1]; exact Blk.new _ _ _
  clear hw1
  have C1 := hid (pick100_any w.heap.size A c x 0 0 (w1.alloc (.cells #[] 2)) (B1.out.alloc _) ((HX.out.below S1.out).below ((Below.refl _ _).alloc (Nat.le_refl _) _)) HB.out hn (by decide) (by decide) HA.out)
  go_wp2_with fail
  refine C1.out.mono ?_
  rintro e w2 ⟨at0, sd1, ⟨rfl, hat0, hat1⟩, hS, hT⟩
  have HS2 := hid hS
  have O2 : Hid (OwnV w2 w1.heap.size (.slice (some ⟨w1.heap.size, 0, none⟩) 0 0) []) := OwnV.touchQ (OwnV.made w1 (Nat.le_refl _)) hT hq1
  have W2 : Hid (Below w.heap.size w w2) := by
    have k := S1.out.alloc (Nat.le_of_lt hq1) (.cells #[] 2)
    exact ⟨hT.os.trans k.os, hT.tape.trans k.tape, hT.output.trans k.output, by rw [hT.size]; exact k.size, fun b hb => (hT.block b (.inr fun o e => by injection e with e; injection e with e; omega)).trans (k.block b hb)⟩
  have hsz2 : w1.heap.size ≤ w2.heap.size := by rw [hT.size]; simp
  clear hS hT C1 B1 S1
  go_wp2
  go_loopw [1, 6, 7] (fun t v u wr => ∃ (k : Nat) (K : List Int) (sd a : Int), (k : Int) ≤ n ∧ t = .int .i64 (n - (k : Int)) ∧ u = .int .i64 a ∧ 0 ≤ a ∧ a ≤ 100 + 1000000 * (k : Int) ∧ Hid (K.length = k) ∧ Hid (∀ y ∈ K, 0 ≤ y ∧ y ≤ 4294967295) ∧ Hid (OwnV wr w1.heap.size v K) ∧ Hid (SrcB wr w.heap.size A x.length c (1 + 2 * (k : Int)) sd) ∧ Hid (Below w.heap.size w wr) ∧ w1.heap.size ≤ wr.heap.size) (fun t _ _ _ => (intOf t).toNat)
  case atStart => exact ⟨0, [], sd1, at0, by omega, by simp, rfl, hat0, by omega, rfl, by show ∀ y ∈ [], _; simp, O2, HS2, W2, hsz2⟩
  case round =>
    obtain ⟨k, K, sd, a, hk, rfl, rfl, ha0, ha1, hKl, hKb, hO, hS, hW, hsz⟩ := hrel
    by_cases hlt : (k : Int) < n
    · have hpos : (0 : Int) < n - (k : Int) := by omega
      have hKn : K.length ≤ 1048577 := by rw [hKl.out]; omega
      clear HS2 O2 W2
      go_wp2_with (at_builtin; refine app_int rfl _ _ rfl a hO.out (Below.refl w1.heap.size wr) rfl rfl hKn hsz ?_)
      intro v' w' O3 W3 hg3 KP
      have S3 : Hid (SrcB w' w.heap.size A x.length c (1 + 2 * (k : Int)) sd) := (W3.out.block w.heap.size hq1).trans hS.out
      have W4 := hid (hW.out.trans (W3.out.mono (Nat.le_of_lt hq1)))
      have hsz3 : w1.heap.size ≤ w'.heap.size := by have := hg3.out; omega
      have hb2 : Hid (∀ y ∈ K ++ [a], 0 ≤ y ∧ y ≤ 4294967295) := fun y hy => by
        rcases List.mem_append.1 hy with h | h
        · exact hKb.out y h
        · simp at h; subst h; omega
      have hl2 : Hid ((K ++ [a]).length = k + 1) := by show _ = _; rw [List.length_append, hKl.out]; rfl
      have C := hid (pickM_any w.heap.size A c x (1 + 2 * (k : Int)) sd w' S3.out (HX.out.below W4.out) HB.out hn (by omega) (by omega) HA.out)
      clear KP W3 hO hS hW S3
      go_wp2_with fail
      refine C.out.mono ?_
      rintro e w3 ⟨v, sd', ⟨rfl, hv0, hv1⟩, hS4, hT⟩
      have HS4 : Hid (SrcB w3 w.heap.size A x.length c (1 + 2 * ((k + 1 : Nat) : Int)) sd') := by
        have e : (1 + 2 * (k : Int) + 1 + 1) = 1 + 2 * ((k + 1 : Nat) : Int) := by omega
        rw [← e]; exact hS4
      have O4 := hid (OwnV.touchQ O3.out hT hq1)
      have W5 : Hid (Below w.heap.size w w3) := ⟨hT.os.trans W4.out.os, hT.tape.trans W4.out.tape, hT.output.trans W4.out.output, by rw [hT.size]; exact W4.out.size, fun b hb => (hT.block b (.inr fun o e => by injection e with e; injection e with e; omega)).trans (W4.out.block b hb)⟩
      have hsz4 : w1.heap.size ≤ w3.heap.size := by rw [hT.size]; exact hsz3
      clear hS4 hT C O3 W4
      go_wp2
      exact ⟨⟨k + 1, _, sd', _, by omega, by go_num, rfl, by omega, by omega, hl2, hb2, O4, HS4, W5, hsz4⟩, by simp [intOf]; omega⟩
    · have hpos : ¬ (0 : Int) < n - (k : Int) := by omega
      have hkn : Hid ((K.length : Int) = n) := by show _ = _; rw [hKl.out]; omega
      go_wp2
      go_ret
      exact ⟨u6, rfl, K, hO.out.mono (Nat.le_of_lt hq1), hkn.out, hKb.out, hW.out⟩
end Go.Proofs.Ytbodfepfapjikaa
