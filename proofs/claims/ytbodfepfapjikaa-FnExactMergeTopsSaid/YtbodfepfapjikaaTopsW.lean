/-
  Valid tops, their bounds, and the heavy ones: reference and program, by contracts. Printed by gen_topsw.py.
-/
import Derived.Test.YtbodfepfapjikaaTopsP
import Derived.Test.YtbodfepfapjikaaSeek
import Derived.Test.YtbodfepfapjikaaDiff
namespace Go.Proofs.Ytbodfepfapjikaa
open Go.RowKit
set_option linter.unusedVariables false
set_option linter.unusedSimpArgs false

theorem getD_at {x : List Int} {i : Nat} {y : Int} (h : Hid (x[i]? = some y)) : x.getD i 0 = y := by rw [List.getD_eq_getElem?_getD, h.out]; rfl
theorem topAt_at {k c e : List Int} {i : Nat} {y u z : Int} (hk : Hid (k[i]? = some y)) (hc : Hid (c[i]? = some u)) (he : Hid (e[i]? = some z)) :
    topAt k c e i = (inB y 0 4294967295 && !hasI (k.take i) y && inB u 1 1000000000000 && inB z 0 (u - 1)) := by
  unfold topAt
  rw [getD_at hk, getD_at hc, getD_at he]
theorem all_snoc {f : Nat → Bool} {i : Nat} (h : Hid ((List.range i).all f = true)) (hf : f i = true) : (List.range (i + 1)).all f = true := by
  rw [List.range_succ, List.all_append, h.out]; simp [hf]
theorem all_no {f : Nat → Bool} {i n : Nat} (hi : i < n) (hf : f i = false) : (List.range n).all f = false := by
  rw [Bool.eq_false_iff]
  intro h
  rw [List.all_eq_true] at h
  have := h i (List.mem_range.2 hi)
  rw [hf] at this; cases this
theorem l00Has_take (A : Option Addr) (c : Nat) (x : List Int) (i : Nat) (v : Int) (w : World) (hx : RdL (Value.int .i64) w A x) (hn : x.length ≤ 1048576) (hi : i ≤ x.length) :
    Calls Try.prog 89 #[.slice A i c, .int .i64 v] w fun e w' => e = .returned (.bool (hasI (x.take i) v)) ∧ w = w' := by
  have hl : (x.take i).length = i := by simp; omega
  have hx' : RdL (Value.int .i64) w A (x.take i) := fun j hj => by
    obtain ⟨b, o, hA, hc⟩ := hx j (by omega)
    exact ⟨b, o, hA, by rw [hc, List.getElem_take]⟩
  have h := l00Has_any A c (x.take i) v w hx' (by omega)
  rw [hl] at h
  exact h
set_option maxRecDepth 100000 in
set_option maxHeartbeats 3200000 in
theorem l03Tops_cap (p c1 c2 c3 : Nat) (A1 A2 A3 : Option Addr) (r : Int) (k c e : List Int) (w : World) (h0 : w.cell? ⟨p, 0, none⟩ = some (.int .i64 r)) (h1 : w.cell? ⟨p, 1, none⟩ = some (.slice A1 k.length c1))
    (h2 : w.cell? ⟨p, 2, none⟩ = some (.slice A2 c.length c2)) (h3 : w.cell? ⟨p, 3, none⟩ = some (.slice A3 e.length c3)) (hk : RdL (Value.int .i64) w A1 k) (hc : RdL (Value.int .i64) w A2 c) (he : RdL (Value.int .i64) w A3 e)
    (hnk : k.length ≤ 1048576) (hnc : c.length ≤ 1048576) (hne : e.length ≤ 1048576) (hcap : k.length ≤ c1) (hcap2 : c1 ≤ 9223372036854775807) :
    Calls Try.prog 66 #[.pointer (some ⟨p, 0, none⟩)] w fun en w' => en = .returned (.bool (vTops r k c e)) ∧ ∃ n, w' = w.drewN n := by
  have HK := hid hk
  have HC := hid hc
  have HE := hid he
  clear hk hc he
  cases e0 : inB r 1 32 with
  | false =>
    have hv := hid (show vTops r k c e = false by simp [vTops, e0])
    go_enter Try.func66, Try.ntmps66
    go_wp2_with ((go_at_call 113; refine (l00In_any _ _ _ _).mono ?_; rintro e w' ⟨rfl, rfl⟩))
    go_ret
    exact ⟨ret_bool hv.out.symm, 0, rfl⟩
  | true =>
  by_cases g1 : (k.length : Int) > r
  · have hv := hid (show vTops r k c e = false by simp only [vTops, decide_eq_true g1]; simp)
    have g1' : decide (r < (k.length : Int)) = true := decide_eq_true g1
    clear g1
    go_enter Try.func66, Try.ntmps66
    go_wp2_with ((go_at_call 113; refine (l00In_any _ _ _ _).mono ?_; rintro e w' ⟨rfl, rfl⟩))
    go_ret
    exact ⟨ret_bool hv.out.symm, 0, rfl⟩
  have g1' : decide (r < (k.length : Int)) = false := decide_eq_false g1
  by_cases g2 : c.length = k.length
  case neg =>
    have hv := hid (show vTops r k c e = false by simp only [vTops, beq_eq_false_iff_ne.2 g2]; simp)
    have g2' : ((c.length : Int) == (k.length : Int)) = false := beq_eq_false_iff_ne.2 (by omega)
    have g2n : ((c.length : Int) != (k.length : Int)) = true := by unfold bne; rw [g2']; rfl
    clear g1 g2
    go_enter Try.func66, Try.ntmps66
    go_wp2_with ((go_at_call 113; refine (l00In_any _ _ _ _).mono ?_; rintro e w' ⟨rfl, rfl⟩))
    go_ret
    exact ⟨ret_bool hv.out.symm, 0, rfl⟩
  have g2' : ((c.length : Int) == (k.length : Int)) = true := beq_iff_eq.2 (by omega)
  have g2n : ((c.length : Int) != (k.length : Int)) = false := by unfold bne; rw [g2']; rfl
  by_cases g3 : e.length = k.length
  case neg =>
    have hv := hid (show vTops r k c e = false by simp only [vTops, beq_eq_false_iff_ne.2 g3]; simp)
    have g3' : ((e.length : Int) == (k.length : Int)) = false := beq_eq_false_iff_ne.2 (by omega)
    have g3n : ((e.length : Int) != (k.length : Int)) = true := by unfold bne; rw [g3']; rfl
    have G2 := hid g2
    clear g1 g2 g3
    go_enter Try.func66, Try.ntmps66
    go_wp2_with ((go_at_call 113; refine (l00In_any _ _ _ _).mono ?_; rintro e w' ⟨rfl, rfl⟩))
    go_ret
    exact ⟨ret_bool hv.out.symm, 0, rfl⟩
  have g3' : ((e.length : Int) == (k.length : Int)) = true := beq_iff_eq.2 (by omega)
  have g3n : ((e.length : Int) != (k.length : Int)) = false := by unfold bne; rw [g3']; rfl
  have hv := hid (show vTops r k c e = (List.range k.length).all (topAt k c e) by simp only [vTops, e0, decide_eq_false g1, beq_iff_eq.2 g2, beq_iff_eq.2 g3]; simp)
  have G2 := hid g2
  have G3 := hid g3
  clear g1 g2 g3
  go_enter Try.func66, Try.ntmps66
  go_wp2_with ((go_at_call 113; refine (l00In_any _ _ _ _).mono ?_; rintro e w' ⟨rfl, rfl⟩))
  clear e0 g1' g2' g3' g2n g3n
  go_loopw [47] (fun j wr => ∃ i n : Nat, i ≤ k.length ∧ j = .int .i64 i ∧ wr = w.drewN n ∧ Hid ((List.range i).all (topAt k c e) = true)) (fun j _ => k.length - (intOf j).toNat)
  case atStart => exact ⟨0, 0, Nat.zero_le _, rfl, rfl, rfl⟩
  case round =>
    obtain ⟨i, n, hik, rfl, rfl, hh⟩ := hrel
    by_cases hlt : i < k.length
    · have hi : (i : Int) < (k.length : Int) := by omega
      have hic : (i : Int) < (c.length : Int) := by have := G2.out; omega
      have hie : (i : Int) < (e.length : Int) := by have := G3.out; omega
      have hi0 : (0 : Int) ≤ (i : Int) := by omega
      have hcp : (i : Int) ≤ (c1 : Int) := by omega
      obtain ⟨bk, ok, y, rfl, hcy, hyk⟩ := HK.out.at_ hlt
      obtain ⟨bc, oc, u, rfl, hcu, huk⟩ := HC.out.at_ (k := i) (by omega)
      obtain ⟨be, oe, z, rfl, hcz, hzk⟩ := HE.out.at_ (k := i) (by omega)
      have hta := topAt_at hyk huk hzk
      cases b1 : inB y 0 4294967295 with
      | false =>
        have hf := hid (all_no (f := topAt k c e) hlt (by rw [hta, b1]; rfl))
        clear hta hyk huk hzk
        go_wp2
        go_quiet ((first | (go_at_call 113; exact quiet_more (l00In_any _ _ _ _)) | (go_at_call 70; exact quiet_more (l02Key_any _ _)) | (go_at_call 89; exact quiet_more (l00Has_take _ c1 k i y _ (HK.out.drewN _) hnk (by omega)))))
        go_wp2
        go_ret
        exact ⟨ret_bool (by rw [hv.out, hf.out]), n + nq, by first | rfl | rw [World.drewN_drewN]⟩
      | true =>
      cases b2 : hasI (k.take i) y with
      | true =>
        have hf := hid (all_no (f := topAt k c e) hlt (by rw [hta, b1, b2]; rfl))
        clear hta hyk huk hzk
        go_wp2
        go_quiet ((first | (go_at_call 113; exact quiet_more (l00In_any _ _ _ _)) | (go_at_call 70; exact quiet_more (l02Key_any _ _)) | (go_at_call 89; exact quiet_more (l00Has_take _ c1 k i y _ (HK.out.drewN _) hnk (by omega)))))
        go_wp2
        go_ret
        exact ⟨ret_bool (by rw [hv.out, hf.out]), n + nq, by first | rfl | rw [World.drewN_drewN]⟩
      | false =>
      cases b3 : inB u 1 1000000000000 with
      | false =>
        have hf := hid (all_no (f := topAt k c e) hlt (by rw [hta, b1, b2, b3]; rfl))
        clear hta hyk huk hzk
        go_wp2
        go_quiet ((first | (go_at_call 113; exact quiet_more (l00In_any _ _ _ _)) | (go_at_call 70; exact quiet_more (l02Key_any _ _)) | (go_at_call 89; exact quiet_more (l00Has_take _ c1 k i y _ (HK.out.drewN _) hnk (by omega)))))
        go_wp2
        go_ret
        exact ⟨ret_bool (by rw [hv.out, hf.out]), n + nq, by first | rfl | rw [World.drewN_drewN]⟩
      | true =>
      have hub := inB_iff.1 b3
      have hwr : IntKind.i64.wrap (u - 1) = u - 1 := by rw [IntKind.wrap_i64]; omega
      clear hub
      cases b4 : inB z 0 (u - 1) with
      | false =>
        have hf := hid (all_no (f := topAt k c e) hlt (by rw [hta, b1, b2, b3, b4]; rfl))
        clear hta hyk huk hzk
        go_wp2
        go_quiet ((first | (go_at_call 113; exact quiet_more (l00In_any _ _ _ _)) | (go_at_call 70; exact quiet_more (l02Key_any _ _)) | (go_at_call 89; exact quiet_more (l00Has_take _ c1 k i y _ (HK.out.drewN _) hnk (by omega)))))
        go_wp2
        go_ret
        exact ⟨ret_bool (by rw [hv.out, hf.out]), n + nq, by first | rfl | rw [World.drewN_drewN]⟩
      | true =>
        have hf := hid (all_snoc (f := topAt k c e) hh (by rw [hta, b1, b2, b3, b4]; rfl))
        clear hta hyk huk hzk
        go_wp2
        go_quiet ((first | (go_at_call 113; exact quiet_more (l00In_any _ _ _ _)) | (go_at_call 70; exact quiet_more (l02Key_any _ _)) | (go_at_call 89; exact quiet_more (l00Has_take _ c1 k i y _ (HK.out.drewN _) hnk (by omega)))))
        go_wp2
        exact ⟨⟨i + 1, n + nq, by omega, by go_num, by first | rfl | rw [World.drewN_drewN], hf⟩, by simp [intOf]; omega⟩
    · have hi : ¬ (i : Int) < (k.length : Int) := by omega
      have he := hh.out
      rw [show i = k.length by omega] at he
      have HH := hid he
      clear he
      go_wp2
      go_ret
      exact ⟨ret_bool (by rw [hv.out, HH.out]), _, rfl⟩
theorem l03Tops_any (p c1 c2 c3 : Nat) (A1 A2 A3 : Option Addr) (r : Int) (k c e : List Int) (w : World) (h0 : w.cell? ⟨p, 0, none⟩ = some (.int .i64 r)) (h1 : w.cell? ⟨p, 1, none⟩ = some (.slice A1 k.length c1))
    (h2 : w.cell? ⟨p, 2, none⟩ = some (.slice A2 c.length c2)) (h3 : w.cell? ⟨p, 3, none⟩ = some (.slice A3 e.length c3)) (hk : RdL (Value.int .i64) w A1 k) (hc : RdL (Value.int .i64) w A2 c) (he : RdL (Value.int .i64) w A3 e)
    (hnk : k.length ≤ 1048576) (hnc : c.length ≤ 1048576) (hne : e.length ≤ 1048576) (hcap : k.length ≤ c1) (hcap2 : c1 ≤ 1048576) :
    Calls Try.prog 66 #[.pointer (some ⟨p, 0, none⟩)] w fun en w' => en = .returned (.bool (vTops r k c e)) ∧ ∃ n, w' = w.drewN n :=
  l03Tops_cap p c1 c2 c3 A1 A2 A3 r k c e w h0 h1 h2 h3 hk hc he hnk hnc hne hcap (Nat.le_trans hcap2 (by decide))
set_option maxRecDepth 100000 in
set_option maxHeartbeats 3200000 in
theorem ValidTops_any (r : Int) (A1 : Option Addr) (c1 : Nat) (k : List Int) (A2 : Option Addr) (c2 : Nat) (c : List Int) (A3 : Option Addr) (c3 : Nat) (e : List Int) (w : World) (hr : W64 r) (hk : RdL (Value.int .i64) w A1 k) (hnk : k.length ≤ 1048576) (wk : ∀ y ∈ k, W64 y) (hc : RdL (Value.int .i64) w A2 c) (hnc : c.length ≤ 1048576) (wc : ∀ y ∈ c, W64 y) (he : RdL (Value.int .i64) w A3 e) (hne : e.length ≤ 1048576) (we : ∀ y ∈ e, W64 y) :
    Calls Try.prog 22 #[.agg #[.int .i64 r, .slice A1 k.length c1, .slice A2 c.length c2, .slice A3 e.length c3]] w fun en w' => en = .returned (.bool (vTops r k c e)) ∧ Below w.heap.size w w' := by
  have HK := hid hk
  have HC := hid hc
  have HE := hid he
  have WC := hid wc
  clear hk hc he wk wc we
  cases e0 : inB r 1 32 with
  | false =>
    have hv := hid (show vTops r k c e = false by simp [vTops, e0])
    go_enter Try.func22, Try.ntmps22
    go_wp2_with ((go_at_call 67; refine (within_any _ _ _ _).mono ?_; rintro e w' ⟨rfl, rfl⟩))
    go_ret
    exact ⟨ret_bool hv.out.symm, below_a1 _ _⟩
  | true =>
  by_cases g1 : (k.length : Int) > r
  · have hv := hid (show vTops r k c e = false by simp only [vTops, decide_eq_true g1]; simp)
    have g1' : decide (r < (k.length : Int)) = true := decide_eq_true g1
    clear g1
    go_enter Try.func22, Try.ntmps22
    go_wp2_with ((go_at_call 67; refine (within_any _ _ _ _).mono ?_; rintro e w' ⟨rfl, rfl⟩))
    go_ret
    exact ⟨ret_bool hv.out.symm, below_a1 _ _⟩
  have g1' : decide (r < (k.length : Int)) = false := decide_eq_false g1
  by_cases g2 : c.length = k.length
  case neg =>
    have hv := hid (show vTops r k c e = false by simp only [vTops, beq_eq_false_iff_ne.2 g2]; simp)
    have g2' : ((c.length : Int) == (k.length : Int)) = false := beq_eq_false_iff_ne.2 (by omega)
    have g2n : ((c.length : Int) != (k.length : Int)) = true := by unfold bne; rw [g2']; rfl
    clear g1 g2
    go_enter Try.func22, Try.ntmps22
    go_wp2_with ((go_at_call 67; refine (within_any _ _ _ _).mono ?_; rintro e w' ⟨rfl, rfl⟩))
    go_ret
    exact ⟨ret_bool hv.out.symm, below_a1 _ _⟩
  have g2' : ((c.length : Int) == (k.length : Int)) = true := beq_iff_eq.2 (by omega)
  have g2n : ((c.length : Int) != (k.length : Int)) = false := by unfold bne; rw [g2']; rfl
  by_cases g3 : e.length = k.length
  case neg =>
    have hv := hid (show vTops r k c e = false by simp only [vTops, beq_eq_false_iff_ne.2 g3]; simp)
    have g3' : ((e.length : Int) == (k.length : Int)) = false := beq_eq_false_iff_ne.2 (by omega)
    have g3n : ((e.length : Int) != (k.length : Int)) = true := by unfold bne; rw [g3']; rfl
    have G2 := hid g2
    clear g1 g2 g3
    go_enter Try.func22, Try.ntmps22
    go_wp2_with ((go_at_call 67; refine (within_any _ _ _ _).mono ?_; rintro e w' ⟨rfl, rfl⟩))
    go_ret
    exact ⟨ret_bool hv.out.symm, below_a1 _ _⟩
  have g3' : ((e.length : Int) == (k.length : Int)) = true := beq_iff_eq.2 (by omega)
  have g3n : ((e.length : Int) != (k.length : Int)) = false := by unfold bne; rw [g3']; rfl
  have hv := hid (show vTops r k c e = ((List.range c.length).all (topCE c e) && allB k 0 4294967295 && decide k.Nodup) by rw [← topAt_all k c e g2]; simp only [vTops, e0, decide_eq_false g1, beq_iff_eq.2 g2, beq_iff_eq.2 g3]; simp)
  have G2 := hid g2
  have G3 := hid g3
  clear g1 g2 g3
  have HC1 := hid (HC.out.below (below_a1 w (.cells #[.int .i64 r, .slice A1 k.length c1, .slice A2 c.length c2, .slice A3 e.length c3] 33)))
  have HE1 := hid (HE.out.below (below_a1 w (.cells #[.int .i64 r, .slice A1 k.length c1, .slice A2 c.length c2, .slice A3 e.length c3] 33)))
  have HK1 := hid (HK.out.below (below_a1 w (.cells #[.int .i64 r, .slice A1 k.length c1, .slice A2 c.length c2, .slice A3 e.length c3] 33)))
  go_enter Try.func22, Try.ntmps22
  go_wp2_with ((go_at_call 67; refine (within_any _ _ _ _).mono ?_; rintro e w' ⟨rfl, rfl⟩))
  clear e0 g1' g2' g3' g2n g3n
  go_loop [38] (fun j => ∃ i : Nat, i ≤ c.length ∧ j = .int .i64 i ∧ Hid ((List.range i).all (topCE c e) = true)) (fun j => c.length - (intOf j).toNat)
  case atStart => exact ⟨0, Nat.zero_le _, rfl, rfl⟩
  case round =>
    obtain ⟨i, hik, rfl, hh⟩ := hrel
    by_cases hlt : i < c.length
    · have hi : (i : Int) < (c.length : Int) := by omega
      have hie : (i : Int) < (e.length : Int) := by have := G2.out; have := G3.out; omega
      have hi0 : (0 : Int) ≤ (i : Int) := by omega
      obtain ⟨bc, oc, u, rfl, hcu, huk⟩ := HC1.out.at_ (k := i) hlt
      obtain ⟨be, oe, z, rfl, hcz, hzk⟩ := HE1.out.at_ (k := i) (by omega)
      have hta : topCE c e i = (inB u 1 1000000000000 && inB z 0 (u - 1)) := by unfold topCE; rw [getD_at huk, getD_at hzk]
      cases b3 : inB u 1 1000000000000 with
      | false =>
        have hf := hid (all_no (f := topCE c e) hlt (by rw [hta, b3]; rfl))
        clear hta huk hzk
        go_wp2_with ((go_at_call 67; refine (within_any _ _ _ _).mono ?_; rintro e w' ⟨rfl, rfl⟩))
        go_ret
        exact ⟨ret_bool (by rw [hv.out, hf.out]; rfl), below_a1 _ _⟩
      | true =>
      have hub := inB_iff.1 b3
      have hwr : IntKind.i64.wrap (u - 1) = u - 1 := by rw [IntKind.wrap_i64]; omega
      clear hub
      cases b4 : inB z 0 (u - 1) with
      | false =>
        have hf := hid (all_no (f := topCE c e) hlt (by rw [hta, b3, b4]; rfl))
        clear hta huk hzk
        go_wp2_with ((go_at_call 67; refine (within_any _ _ _ _).mono ?_; rintro e w' ⟨rfl, rfl⟩))
        go_ret
        exact ⟨ret_bool (by rw [hv.out, hf.out]; rfl), below_a1 _ _⟩
      | true =>
        have hf := hid (all_snoc (f := topCE c e) hh (by rw [hta, b3, b4]; rfl))
        clear hta huk hzk
        go_wp2_with ((go_at_call 67; refine (within_any _ _ _ _).mono ?_; rintro e w' ⟨rfl, rfl⟩))
        exact ⟨⟨i + 1, by omega, by go_num, hf⟩, by simp [intOf]; omega⟩
    · have hi : ¬ (i : Int) < (c.length : Int) := by omega
      have he := hh.out
      rw [show i = c.length by omega] at he
      have hv2 : Hid (vTops r k c e = (allB k 0 4294967295 && decide k.Nodup)) := by show _ = _; rw [hv.out, he]; simp
      clear he hv
      cases hak : allB k 0 4294967295 with
      | false =>
        go_wp2_with (go_at_call 68; refine (areAllKeys_any _ c1 k _ HK1.out hnk).mono ?_; rw [hak]; rintro e w' ⟨rfl, rfl⟩)
        go_ret
        exact ⟨ret_bool (by rw [hv2.out, hak]; rfl), below_a1 _ _⟩
      | true =>
        have hv3 : Hid (vTops r k c e = decide k.Nodup) := by show _ = _; rw [hv2.out, hak]; simp
        go_wp2_with (first | (go_at_call 68; refine (areAllKeys_any _ c1 k _ HK1.out hnk).mono ?_; rw [hak]; rintro e w' ⟨rfl, rfl⟩) | (go_at_call 69; refine (areDifferent_any _ c1 k _ HK1.out hnk).mono ?_; rintro e w3 ⟨rfl, hb3⟩))
        go_ret
        exact ⟨ret_bool hv3.out.symm, (below_a1 _ _).trans (hb3.mono (below_a1 _ _).size)⟩
theorem iValidTops_any (r : Int) (A1 : Option Addr) (c1 : Nat) (k : List Int) (A2 : Option Addr) (c2 : Nat) (c : List Int) (A3 : Option Addr) (c3 : Nat) (e : List Int) (w : World) (hr : W64 r) (hk : RdL (Value.int .i64) w A1 k) (hnk : k.length ≤ 1048576) (wk : ∀ y ∈ k, W64 y) (hc : RdL (Value.int .i64) w A2 c) (hnc : c.length ≤ 1048576) (wc : ∀ y ∈ c, W64 y) (he : RdL (Value.int .i64) w A3 e) (hne : e.length ≤ 1048576) (we : ∀ y ∈ e, W64 y) :
    Calls Try.prog 22 #[.agg #[.int .i64 r, .slice A1 k.length c1, .slice A2 c.length c2, .slice A3 e.length c3]] w fun en w' => en = .returned (.bool (vTops r k c e)) ∧ Below w.heap.size w w' :=
  ValidTops_any r A1 c1 k A2 c2 c A3 c3 e w hr hk hnk wk hc hnc wc he hne we
theorem sValidTops_any (r : Int) (A1 : Option Addr) (c1 : Nat) (k : List Int) (A2 : Option Addr) (c2 : Nat) (c : List Int) (A3 : Option Addr) (c3 : Nat) (e : List Int) (w : World) (hr : W64 r) (hk : RdL (Value.int .i64) w A1 k) (hnk : k.length ≤ 1048576) (wk : ∀ y ∈ k, W64 y) (hc : RdL (Value.int .i64) w A2 c) (hnc : c.length ≤ 1048576) (wc : ∀ y ∈ c, W64 y) (he : RdL (Value.int .i64) w A3 e) (hne : e.length ≤ 1048576) (we : ∀ y ∈ e, W64 y) (hcap : k.length ≤ c1 := by exact Nat.le_refl _) (hcap2 : c1 ≤ 1048576 := by assumption) :
    Calls Try.prog 20 #[.agg #[.int .i64 r, .slice A1 k.length c1, .slice A2 c.length c2, .slice A3 e.length c3]] w fun en w' => en = .returned (.bool (vTops r k c e)) ∧ Below w.heap.size w w' := by
  have HK := hid (hk.below (below_a1 w (.cells #[.int .i64 r, .slice A1 k.length c1, .slice A2 c.length c2, .slice A3 e.length c3] 33)))
  have HC := hid (hc.below (below_a1 w (.cells #[.int .i64 r, .slice A1 k.length c1, .slice A2 c.length c2, .slice A3 e.length c3] 33)))
  have HE := hid (he.below (below_a1 w (.cells #[.int .i64 r, .slice A1 k.length c1, .slice A2 c.length c2, .slice A3 e.length c3] 33)))
  clear hk hc he wk wc we
  go_enter Try.func20, Try.ntmps20
  go_wp2_with fail
  refine (l03Tops_any _ c1 c2 c3 A1 A2 A3 r k c e _ (by simp) (by simp) (by simp) (by simp) HK.out HC.out HE.out hnk hnc hne hcap hcap2).mono ?_
  rintro en w1 ⟨rfl, n, rfl⟩
  go_wp2
  go_ret
  exact ⟨rfl, below_drewN (below_a1 _ _) _⟩
end Go.Proofs.Ytbodfepfapjikaa
