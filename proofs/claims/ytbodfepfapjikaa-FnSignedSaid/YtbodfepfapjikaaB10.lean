/-
  What the laws of this set draw from bytes, and how they compare: by contracts.
-/
import Derived.Test.YtbodfepfapjikaaApp
import Derived.Test.YtbodfepfapjikaaNum
import Derived.Test.YtbodfepfapjikaaOwn
import Derived.Deep.QuietTactic
namespace Go.Proofs.Ytbodfepfapjikaa
open Go.RowKit
set_option linter.unusedVariables false
set_option linter.unusedSimpArgs false

/-- All are bytes. -/
def Byt (x : List Int) : Prop := ∀ y ∈ x, 0 ≤ y ∧ y ≤ 255
set_option maxHeartbeats 800000 in
theorem b10Long_any (A A' : Option Addr) (n n' c c' : Nat) (w : World) : Calls Try.prog 51 #[.slice A n c, .slice A' n' c'] w fun e w' => e = .returned (.bool (decide (1048576 < n ∨ 1048576 < n'))) ∧ w = w' := by
  by_cases h : (1048576 : Int) < (n : Int)
  · have hd : decide (1048576 < n ∨ 1048576 < n') = true := decide_eq_true (.inl (by omega))
    rw [hd]
    clear hd
    go_enter Try.func51, Try.ntmps51
    go_wp2
    go_ret
    exact ⟨rfl, rfl⟩
  · by_cases h' : (1048576 : Int) < (n' : Int)
    · have hd : decide (1048576 < n ∨ 1048576 < n') = true := decide_eq_true (.inr (by omega))
      rw [hd]
      clear hd
      go_enter Try.func51, Try.ntmps51
      go_wp2
      go_ret
      exact ⟨rfl, rfl⟩
    · have hd : decide (1048576 < n ∨ 1048576 < n') = false := decide_eq_false (by omega)
      rw [hd]
      clear hd
      go_enter Try.func51, Try.ntmps51
      go_wp2
      go_ret
      exact ⟨rfl, rfl⟩
set_option maxHeartbeats 800000 in
theorem b10At_any (A : Option Addr) (c : Nat) (x : List Int) (i n : Int) (w : World) (hx : RdL (Value.int .u8) w A x) (hb : Byt x) (hn : x.length ≤ 1048576) (hi0 : 0 ≤ i) (hi1 : i ≤ 1000) (hn1 : 1 < n) (hn2 : n ≤ 256) :
    Calls Try.prog 53 #[.slice A x.length c, .int .i64 i, .int .i64 n] w fun e w' => (∃ r, e = .returned (.int .i64 r) ∧ 0 ≤ r ∧ r < n) ∧ w = w' := by
  have HX := hid hx
  have HB := hid hb
  clear hx hb
  obtain ⟨k, rfl⟩ := Int.eq_ofNat_of_zero_le hi0
  have hn1' : ¬ n ≤ 1 := by omega
  have hnz : (n == 0) = false := beq_eq_false_iff_ne.2 (by omega)
  have hnz' : n ≠ 0 := by omega
  by_cases hlt : k < x.length
  · have hi : (k : Int) < (x.length : Int) := by omega
    obtain ⟨b, o, y, rfl, hc, hy⟩ := HX.out.at_ hlt
    have hyb := HB.out y (List.mem_of_getElem? hy.out)
    have v1 : IntKind.i64.wrap y = y := by rw [IntKind.wrap_i64]; omega
    go_enter Try.func53, Try.ntmps53
    go_wp2
    go_ret
    exact ⟨⟨_, rfl, Int.emod_nonneg _ hnz', Int.emod_lt_of_pos _ (by omega)⟩, rfl⟩
  · have hi : ¬ (k : Int) < (x.length : Int) := by omega
    have v1 : IntKind.i64.wrap ((k : Int) * 37) = (k : Int) * 37 := by rw [IntKind.wrap_i64]; omega
    have v3 : IntKind.i64.wrap ((k : Int) * 37 + 11) = (k : Int) * 37 + 11 := by rw [IntKind.wrap_i64]; omega
    go_enter Try.func53, Try.ntmps53
    go_wp2
    go_ret
    exact ⟨⟨_, rfl, Int.emod_nonneg _ hnz', Int.emod_lt_of_pos _ (by omega)⟩, rfl⟩
set_option maxHeartbeats 800000 in
theorem b10Ints_yes (A A' : Option Addr) (c c' : Nat) (xs : List Int) (w : World) (hx : RdL (Value.int .i64) w A xs) (hy : RdL (Value.int .i64) w A' xs) (hn : xs.length ≤ 1048576) :
    Calls Try.prog 56 #[.slice A xs.length c, .slice A' xs.length c'] w fun e w' => e = .returned (.bool true) ∧ ∃ n, w' = w.drewN n := by
  have HX := hid hx
  have HY := hid hy
  clear hx hy
  go_enter Try.func56, Try.ntmps56
  go_wp2
  go_loopw [13] (fun i wr => ∃ k n : Nat, k ≤ xs.length ∧ i = .int .i64 k ∧ wr = w.drewN n) (fun i _ => xs.length - (intOf i).toNat)
  case atStart => exact ⟨0, 0, Nat.zero_le _, rfl, rfl⟩
  case round =>
    obtain ⟨k, n, hk, rfl, rfl⟩ := hrel
    by_cases hlt : k < xs.length
    · have hi : (k : Int) < (xs.length : Int) := by omega
      obtain ⟨b, o, x, rfl, hc, hxk⟩ := HX.out.at_ hlt
      obtain ⟨b', o', y, rfl, hc', hyk⟩ := HY.out.at_ hlt
      obtain rfl : y = x := by have h1 := hyk.out; rw [hxk.out] at h1; injection h1 with h1; exact h1.symm
      clear hyk
      go_wp2
      go_quiet (fail)
      go_wp2
      exact ⟨⟨k + 1, _, by omega, by go_num, rfl⟩, by simp [intOf]; omega⟩
    · have hi : ¬ (k : Int) < (xs.length : Int) := by omega
      go_wp2
      go_ret
      exact ⟨rfl, _, rfl⟩
/-- A slice of the call's own behind a block that is written. -/
theorem OwnV.touchQ {w w' : World} {B q n : Nat} {v : Value} {xs : List Int} (h : OwnV w B v xs) (ht : Touch w w' (some ⟨q, 0, none⟩) n) (hq : q < B) : OwnV w' B v xs := by
  obtain ⟨hn, h | ⟨g, cap, cur, hv, hB, hgg, hc, hm, hs, hh⟩⟩ := h
  · exact ⟨hn, .inl h⟩
  · exact ⟨hn, .inr ⟨g, cap, cur, hv, hB, (ht.block g (.inr fun o e => by injection e with e; injection e with e; omega)).trans hgg, hc, hm, hs, hh⟩⟩
theorem wrapU_nn (z : Int) : 0 ≤ IntKind.u64.wrap z := by
  rw [IntKind.wrap_u64]
  omega
theorem wrapU_lt (z : Int) : IntKind.u64.wrap z < 18446744073709551616 := by
  rw [IntKind.wrap_u64]
  omega
/-- The byte that is taken of it. -/
theorem byte_of {m : Nat} (h : m < 18446744073709551616) : 0 ≤ wrap64 (bits .and .u64 ((m : Int) / 1099511627776) 255) ∧ wrap64 (bits .and .u64 ((m : Int) / 1099511627776) 255) ≤ 255 := by
  have e : bits .and .u64 ((m : Int) / 1099511627776) 255 = (((m / 1099511627776) &&& 255 : Nat) : Int) := by
    rw [show ((m : Int) / 1099511627776) = ((m / 1099511627776 : Nat) : Int) by omega]
    exact bits_and_u64_nat _ 255 (by omega) (by decide)
  have h2 : (m / 1099511627776) &&& 255 ≤ 255 := Nat.and_le_right
  rw [e]
  unfold wrap64
  omega
theorem touch_two (w : World) (q m n : Nat) (u v : Value) : Touch w ((((w.drewN m).setCell ⟨q, 1, none⟩ u).setCell ⟨q, 2, none⟩ v).drewN n) (some ⟨q, 0, none⟩) 3 := by
  refine ⟨rfl, rfl, rfl, by simp, fun b hb => ?_⟩
  have hbq : b ≠ q := by
    rcases hb with h | h
    · omega
    · rintro rfl; exact h 0 rfl
  exact (Below.heap_setCell _ ⟨q, 2, none⟩ v b hbq).trans (Below.heap_setCell _ ⟨q, 1, none⟩ u b hbq)
/-- The source's box. -/
def SrcB (w : World) (q : Nat) (A : Option Addr) (n c : Nat) (at_ sd : Int) : Prop := Blk w q 122 [.slice A n c, .int .i64 at_, .int .u64 sd]
set_option maxHeartbeats 1600000 in
theorem next_any (q : Nat) (A : Option Addr) (c : Nat) (x : List Int) (at_ sd : Int) (w : World) (hs : SrcB w q A x.length c at_ sd) (hx : RdL (Value.int .u8) w A x) (hb : Byt x) (hn : x.length ≤ 1048576) (ha0 : 0 ≤ at_) (ha1 : at_ ≤ 1000000) (hA : ∀ g o, A = some ⟨g, o, none⟩ → x ≠ [] → g ≠ q) :
    Calls Try.prog 133 #[.pointer (some ⟨q, 0, none⟩)] w fun e w' => ∃ v sd', (e = .returned (.int .i64 v) ∧ 0 ≤ v ∧ v ≤ 255) ∧ SrcB w' q A x.length c (at_ + 1) sd' ∧ Touch w w' (some ⟨q, 0, none⟩) 3 := by
  have HS := hid hs
  have HX := hid hx
  have HB := hid hb
  obtain ⟨k, rfl⟩ := Int.eq_ofNat_of_zero_le ha0
  obtain ⟨c0, c1, c2⟩ := Blk.cells3 hs
  have f0 := Blk.frozen hs 0
  have f1 := Blk.frozen hs 1
  have f2 := Blk.frozen hs 2
  clear hs hx hb
  have v1 : IntKind.i64.wrap ((k : Int) + 1) = (k : Int) + 1 := by rw [IntKind.wrap_i64]; omega
  by_cases hlt : k < x.length
  · have hi : (k : Int) < (x.length : Int) := by omega
    have hi2 : (k : Int) + 1 ≤ (x.length : Int) := by omega
    obtain ⟨b, o, y, rfl, hc, hy⟩ := HX.out.at_ hlt
    have hyb := HB.out y (List.mem_of_getElem? hy.out)
    have hbq := hA b o rfl (by rintro rfl; simp at hlt)
    have v2 : IntKind.i64.wrap y = y := by rw [IntKind.wrap_i64]; omega
    go_enter Try.func133, Try.ntmps133
    go_wp2
    go_quiet (fail)
    go_wp2
    go_quiet (fail)
    go_wp2
    go_quiet (fail)
    go_wp2
    go_ret
    exact ⟨_, _, ⟨rfl, hyb.1, hyb.2⟩, ((Blk.drewN HS.out _).set_ 1 _).set_ 2 _, touch_two _ _ _ _ _ _⟩
  · have hi : ¬ (k : Int) < (x.length : Int) := by omega
    have hi2 : ¬ (k : Int) + 1 ≤ (x.length : Int) := by omega
    go_enter Try.func133, Try.ntmps133
    go_wp2
    go_quiet (fail)
    go_wp2
    go_quiet (fail)
    go_wp2
    go_ret
    obtain ⟨m, hm⟩ := Int.eq_ofNat_of_zero_le (wrapU_nn (IntKind.u64.wrap (IntKind.u64.wrap (sd * 6364136223846793005)) + 1442695040888963407))
    have hml : m < 18446744073709551616 := by have := wrapU_lt (IntKind.u64.wrap (IntKind.u64.wrap (sd * 6364136223846793005)) + 1442695040888963407); omega
    refine ⟨_, _, ⟨rfl, ?_, ?_⟩, ((Blk.drewN HS.out _).set_ 1 _).set_ 2 _, touch_two _ _ _ _ _ _⟩
    · rw [hm]; exact (byte_of hml).1
    · rw [hm]; exact (byte_of hml).2
set_option maxHeartbeats 1600000 in
theorem pick9_any (q : Nat) (A : Option Addr) (c : Nat) (x : List Int) (at_ sd : Int) (w : World) (hs : SrcB w q A x.length c at_ sd) (hx : RdL (Value.int .u8) w A x) (hb : Byt x) (hn : x.length ≤ 1048576) (ha0 : 0 ≤ at_) (ha1 : at_ ≤ 1000000) (hA : ∀ g o, A = some ⟨g, o, none⟩ → x ≠ [] → g ≠ q) :
    Calls Try.prog 98 #[.pointer (some ⟨q, 0, none⟩), .int .i64 9] w fun e w' => ∃ v sd', (e = .returned (.int .i64 v) ∧ 0 ≤ v ∧ v ≤ 8) ∧ SrcB w' q A x.length c (at_ + 1) sd' ∧ Touch w w' (some ⟨q, 0, none⟩) 3 := by
  have C := hid (next_any q A c x at_ sd w hs hx hb hn ha0 ha1 hA)
  clear hs hx hb hA
  go_enter Try.func98, Try.ntmps98
  go_wp2_with fail
  refine C.out.mono ?_
  rintro e w' ⟨v, sd', ⟨rfl, hv0, hv1⟩, hS, hT⟩
  have HS := hid hS
  have HT := hid hT
  clear hS hT C
  go_wp2
  go_ret
  exact ⟨_, _, ⟨rfl, by omega, by omega⟩, HS.out, HT.out⟩
set_option maxHeartbeats 1600000 in
theorem l00From_any (A : Option Addr) (n c : Nat) (w : World) : Calls Try.prog 97 #[.slice A n c] w fun e w' => e = .returned (.pointer (some ⟨w.heap.size, 0, none⟩)) ∧ w' = w.alloc (.cells #[.slice A n c, .int .i64 0, .int .u64 0] 122) := by
  go_enter Try.func97, Try.ntmps97
  go_wp2
  go_ret
  exact ⟨rfl, rfl⟩
set_option maxRecDepth 100000 in
set_option maxHeartbeats 1600000 in
theorem b10Keys_any (A : Option Addr) (c : Nat) (x : List Int) (n : Int) (w : World) (hx : RdL (Value.int .u8) w A x) (hb : Byt x) (hn : x.length ≤ 1048576) (hn0 : 0 ≤ n) (hn1 : n ≤ 1000) :
    Calls Try.prog 57 #[.slice A x.length c, .int .i64 n] w fun e w' => ∃ v K, e = .returned v ∧ OwnV w' w.heap.size v K ∧ (K.length : Int) = n ∧ (∀ y ∈ K, 0 ≤ y ∧ y ≤ 8) ∧ Below w.heap.size w w' := by
  have HX := hid hx
  have HB := hid hb
  clear hx hb
  go_enter Try.func57, Try.ntmps57
  go_wp2_with fail
  refine (l00From_any A x.length c w).mono ?_
  rintro e w1 ⟨rfl, hw1⟩
  have hq1 : w.heap.size < w1.heap.size := by rw [hw1]; simp
  have S1 : Hid (Below w.heap.size w w1) := by rw [hw1]; exact below_a1 _ _
  have B1 : Hid (SrcB w1 w.heap.size A x.length c 0 0) := by rw [hw1]; exact Blk.new _ _ _
  clear hw1
  go_wp2
  go_loopw [1, 6] (fun t v wr => ∃ (k : Nat) (K : List Int) (sd : Int), (k : Int) ≤ n ∧ t = .int .i64 (n - (k : Int)) ∧ Hid (K.length = k) ∧ Hid (∀ y ∈ K, 0 ≤ y ∧ y ≤ 8) ∧ Hid (OwnV wr w1.heap.size v K) ∧ Hid (SrcB wr w.heap.size A x.length c (k : Int) sd) ∧ Hid (Below w.heap.size w wr) ∧ w1.heap.size ≤ wr.heap.size) (fun t _ _ => (intOf t).toNat)
  case atStart => exact ⟨0, [], 0, by omega, by simp, rfl, by show ∀ y ∈ [], _; simp, OwnV.made w1 (Nat.le_refl _), B1.out.alloc _, S1.out.alloc (Nat.le_of_lt hq1) _, by simp⟩
  case round =>
    obtain ⟨k, K, sd, hk, rfl, hKl, hKb, hO, hS, hW, hsz⟩ := hrel
    by_cases hlt : (k : Int) < n
    · have hpos : (0 : Int) < n - (k : Int) := by omega
      have hA : ∀ g o, A = some ⟨g, o, none⟩ → x ≠ [] → g ≠ w.heap.size := by
        intro g o hA hne hg
        obtain ⟨b, o', y, hA', hc, _⟩ := HX.out.at_ (k := 0) (List.length_pos_iff.2 hne)
        rw [hA] at hA'; injection hA' with hA'; injection hA' with h1 h2
        have := World.block_lt_of_cell? w _ hc
        simp at this
        omega
      have C := hid (pick9_any w.heap.size A c x (k : Int) sd wr hS.out (HX.out.below hW.out) HB.out hn (by omega) (by omega) hA)
      have hKn : K.length ≤ 1048577 := by rw [hKl.out]; omega
      clear hA
      go_wp2_with fail
      refine C.out.mono ?_
      rintro e w2 ⟨v, sd', ⟨rfl, hv0, hv1⟩, hS2, hT⟩
      have HS2 := hid hS2
      have O2 := hid (OwnV.touchQ hO.out hT hq1)
      have W2 : Hid (Below w.heap.size w w2) := ⟨hT.os.trans hW.out.os, hT.tape.trans hW.out.tape, hT.output.trans hW.out.output, by rw [hT.size]; exact hW.out.size, fun b hb => (hT.block b (.inr fun o e => by injection e with e; injection e with e; omega)).trans (hW.out.block b hb)⟩
      have hsz2 : w1.heap.size ≤ w2.heap.size := by rw [hT.size]; exact hsz
      have hb2 : Hid (∀ y ∈ K ++ [v], 0 ≤ y ∧ y ≤ 8) := fun y hy => by
        rcases List.mem_append.1 hy with h | h
        · exact hKb.out y h
        · simp at h; subst h; exact ⟨hv0, hv1⟩
      have hl2 : Hid ((K ++ [v]).length = k + 1) := by show _ = _; rw [List.length_append, hKl.out]; rfl
      clear hS2 hT C hO hS hW
      go_wp2_with (at_builtin; refine app_int rfl _ _ rfl v O2.out (Below.refl w1.heap.size w2) rfl rfl hKn hsz2 ?_)
      intro v' w' O3 W3 hg3 KP
      have S3 : Hid (SrcB w' w.heap.size A x.length c ((k : Int) + 1) sd') := (W3.out.block w.heap.size hq1).trans HS2.out
      have W4 := hid (W2.out.trans (W3.out.mono (Nat.le_of_lt hq1)))
      have hsz3 : w1.heap.size ≤ w'.heap.size := by have := hg3.out; omega
      clear KP W3 W2
      go_wp2
      exact ⟨⟨k + 1, _, sd', by omega, by go_num, hl2, hb2, O3, S3, W4, hsz3⟩, by simp [intOf]; omega⟩
    · have hpos : ¬ (0 : Int) < n - (k : Int) := by omega
      have hkn : Hid ((K.length : Int) = n) := by show _ = _; rw [hKl.out]; omega
      go_wp2
      go_ret
      exact ⟨u6, rfl, K, hO.out.mono (Nat.le_of_lt hq1), hkn.out, hKb.out, hW.out⟩
end Go.Proofs.Ytbodfepfapjikaa
