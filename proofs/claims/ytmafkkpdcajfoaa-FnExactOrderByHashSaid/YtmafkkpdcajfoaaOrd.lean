/-
  The places of keys in ascending order of their hashes: reference and program, by contracts.
-/
import Derived.Test.YtmafkkpdcajfoaaHRow
import Derived.Test.YtmafkkpdcajfoaaOrdP
import Derived.Test.YtmafkkpdcajfoaaStab4
import Derived.Test.YtmafkkpdcajfoaaApp
namespace Go.Proofs.Ytmafkkpdcajfoaa
open Go.RowKit Go.Shelf
set_option linter.unusedVariables false
set_option linter.unusedSimpArgs false

/-- What OrderByHash returns. -/
def pOrderByHash (x : List Int) (salt : Int) : List Int × Bool := if (keysQ x && inB salt 0 4294967295) = true then (ordL (rowH x salt.toNat x.length) x.length, true) else ([], false)
theorem ordL_mem {row : List Int} {n : Nat} {y : Int} (h : y ∈ ordL row n) : ∃ k : Nat, y = k ∧ k < n := by
  have h1 := (isrt_mg (RelR.tr row) (idxL n) (idxL_cr row n)).1.mem_iff.1 h
  exact idxL_mem h1
theorem ordL_succ (row : List Int) (n : Nat) : ordL row (n + 1) = insR (ltR row) (ordL row n) (n : Int) := by
  unfold ordL
  rw [idxL_succ, isrt_snoc]
theorem atR_of {row : List Int} {k : Nat} {u : Int} (h : Hid (row[k]? = some u)) : atR row (k : Int) = u := by
  unfold atR
  rw [Int.toNat_natCast, List.getD_eq_getElem?_getD, h.out]; rfl
set_option maxRecDepth 100000 in
set_option maxHeartbeats 3200000 in
theorem sOrderByHash_any (A : Option Addr) (c : Nat) (x : List Int) (salt : Int) (w : World) (hx : RdL (Value.int .i64) w A x) (hn : x.length ≤ 1048576) (we : ∀ y ∈ x, W64 y) (hsalt : W64 salt) :
    Calls Try.prog 15 #[.slice A x.length c, .int .i64 salt] w (RetLB (Value.int .i64) 2 w (pOrderByHash x salt)) := by
  have HX := hid hx
  clear hx we hsalt
  cases hk : keysQ x with
  | false =>
    have hp : pOrderByHash x salt = ([], false) := by simp [pOrderByHash, hk]
    rw [hp]
    clear hp
    go_enter Try.func15, Try.ntmps15
    go_wp2_with (go_at_call 35; refine (l02Keys_q A c x _ HX.out).mono ?_; rw [hk]; rintro e w' ⟨rfl, rfl⟩)
    go_ret2
    exact ⟨none, 0, rfl, OwnS.nil, by simp, Below.refl _ _⟩
  | true =>
  cases hs : inB salt 0 4294967295 with
  | false =>
    have hp : pOrderByHash x salt = ([], false) := by simp [pOrderByHash, hs]
    rw [hp]
    clear hp
    go_enter Try.func15, Try.ntmps15
    go_wp2_with (first | (go_at_call 35; refine (l02Keys_q A c x _ HX.out).mono ?_; rw [hk]; rintro e w' ⟨rfl, rfl⟩) | (go_at_call 36; refine (l02Key_any _ _).mono ?_; rw [hs]; rintro e w' ⟨rfl, rfl⟩))
    go_ret2
    exact ⟨none, 0, rfl, OwnS.nil, by simp, Below.refl _ _⟩
  | true =>
    have hp : pOrderByHash x salt = (ordL (rowH x salt.toNat x.length) x.length, true) := by simp [pOrderByHash, hk, hs]
    rw [hp]
    clear hp
    obtain ⟨hl, hbd⟩ := keysQ_iff hk
    obtain ⟨hs1, hs2⟩ := inB_iff.1 hs
    obtain ⟨s, rfl⟩ := Int.eq_ofNat_of_zero_le hs1
    have C1 := hid (l02Row_any A c x s w HX.out hl hbd (by omega))
    obtain ⟨row, hL⟩ : ∃ L, L = rowH x s x.length := ⟨_, rfl⟩
    have hRl : row.length = x.length := by rw [hL, rowH_length]
    rw [Int.toNat_natCast]
    rw [← hL] at C1 ⊢
    have RL := hid hRl
    clear hbd hL hRl
    go_enter Try.func15, Try.ntmps15
    go_wp2_with (first | (go_at_call 35; refine (l02Keys_q A c x _ HX.out).mono ?_; rw [hk]; rintro e w' ⟨rfl, rfl⟩) | (go_at_call 36; refine (l02Key_any _ _).mono ?_; rw [hs]; rintro e w' ⟨rfl, rfl⟩))
    refine C1.out.mono ?_
    rintro e w1 ⟨A1, c1, rfl, ho, hb⟩
    have R1 := hid ho.rd
    have S1 := hid hb
    obtain ⟨nr, hnr⟩ : ∃ nr, nr = row.length := ⟨_, rfl⟩
    rw [← hnr]
    have NR : Hid (nr = x.length) := by show _ = _; rw [hnr, RL.out]
    clear ho hb C1 hk hs hnr
    go_wp2
    go_loopw [7, 8] (fun v t wr => ∃ i : Nat, i ≤ x.length ∧ t = .int .i64 i ∧ Hid (OwnV wr w1.heap.size v (ordL row i)) ∧ Hid (Below w1.heap.size w1 wr)) (fun v t _ => x.length - (intOf t).toNat)
    case atStart => exact ⟨0, Nat.zero_le _, rfl, OwnV.made w1 (Nat.le_refl _), below_a1 _ _⟩
    case round =>
      obtain ⟨i, hi, rfl, hO, hW⟩ := hrel
      by_cases hlt : i < x.length
      · have hil : (i : Int) < (x.length : Int) := by omega
        have hol : (ordL row i).length ≤ 1048577 := by rw [ordL_length]; omega
        have hsz := hW.out.size
        go_wp2_with (at_builtin; refine app_int rfl _ _ rfl (i : Int) hO.out hW.out rfl rfl hol hsz ?_)
        intro v' w3 O3 W3 _ _
        have HOL := ordL_length row i
        have O4 : Hid (OwnV w3 w1.heap.size v' (midR (ordL row i) (i : Int) i [])) := by
          have h := midR_top (ordL row i) (i : Int) []
          rw [HOL] at h
          rw [h]; exact O3
        have hnext := hid (ordL_succ row i)
        have hmem : Hid (∀ z ∈ ordL row i, ∃ k : Nat, z = k ∧ k < i) := fun z hz => ordL_mem hz
        obtain ⟨L, hL⟩ : ∃ L, L = ordL row i := ⟨_, rfl⟩
        rw [← hL] at O4 hnext hmem HOL
        have HLEN := hid HOL
        clear O3 hL hO hW hol hsz HOL
        go_wp2
        go_loopw [9] (fun t wq => ∃ j : Nat, j ≤ i ∧ t = .int .i64 j ∧ Hid (posR (ltR row) (i : Int) L j = posR (ltR row) (i : Int) L L.length) ∧ Hid (OwnV wq w1.heap.size v' (midR L (i : Int) j [])) ∧ Hid (Below w1.heap.size w1 wq)) (fun t _ => (intOf t).toNat)
        case atStart => exact ⟨i, Nat.le_refl _, rfl, by have := HLEN.out; show _ = _; rw [this], O4, W3⟩
        case round =>
          obtain ⟨j, hj, rfl, hpos, hOq, hWq⟩ := hrel
          cases j with
          | zero =>
            have hfin : Hid (OwnV wr w1.heap.size v' (ordL row (i + 1))) := by
              show OwnV _ _ _ _
              have h := hOq.out
              rw [midR_end (lt := ltR row) (by rw [← hpos.out]; rfl), List.append_nil, ← hnext.out] at h
              exact h
            clear hOq
            go_wp2
            go_quiet (fail)
            go_wp2
            exact ⟨⟨i + 1, by omega, by go_num, hfin, below_drewN hWq.out _⟩, by simp [intOf]; omega⟩
          | succ j =>
            have hll := HLEN.out
            obtain ⟨z, hz⟩ : ∃ z, L[j]? = some z := ⟨_, List.getElem?_eq_getElem (by omega)⟩
            have hml : (midR L (i : Int) (j + 1) []).length = i + 1 := by rw [midR_length (by omega)]; simp; omega
            obtain ⟨zk, rfl, hzk⟩ := hmem.out z (List.mem_of_getElem? hz)
            obtain ⟨g, cv, u, rfl, hgB, hgl, hcu, hfu, hum, hput⟩ := hOq.out.put (j := j + 1) (by omega)
            obtain ⟨g', cv', u', hg', hgB', hgl', hcu', hfu', hum', hput'⟩ := hOq.out.put (j := j) (by omega)
            injection hg' with hg' h1 h2; clear h1 h2; injection hg' with hg'; injection hg' with hg'
            subst hg'
            have hu : u = (i : Int) := by
              have h1 := hum.out
              rw [midR_at (by omega)] at h1
              injection h1 with h1; exact h1.symm
            have hu' : u' = (zk : Int) := by
              have h1 := hum'.out
              rw [midR_below hz] at h1
              injection h1 with h1; exact h1.symm
            subst hu hu'
            obtain ⟨br, or_, ry, hA1, hcy, hry⟩ := (R1.out.below hWq.out).at_ (k := i) (by rw [RL.out]; exact hlt)
            obtain ⟨br', or', rz, hA1', hcz, hrz⟩ := (R1.out.below hWq.out).at_ (k := zk) (by rw [RL.out]; omega)
            subst hA1
            injection hA1' with hA1'; injection hA1' with h1 h2
            subst h1 h2
            have n1 : (i : Int) < (nr : Int) := by have := NR.out; omega
            have n2 : (zk : Int) < (nr : Int) := by have := NR.out; omega
            obtain ⟨ml, hmlv⟩ : ∃ ml, ml = (midR L (i : Int) (j + 1) []).length := ⟨_, rfl⟩
            rw [← hmlv] at hml ⊢
            have hlj : ((j + 1 : Nat) : Int) < (ml : Int) := by omega
            have hlj' : ((j : Nat) : Int) < (ml : Int) := by omega
            have hj0 : (0 : Int) ≤ (j : Int) := by omega
            have hltv : ltR row (i : Int) (zk : Int) = decide (ry < rz) := by unfold ltR; rw [atR_of hry, atR_of hrz]
            have MLV := hid hmlv
            by_cases hyz : ry < rz
            · have hd : decide (ry < rz) = true := decide_eq_true hyz
              have hpos2 : Hid (posR (ltR row) (i : Int) L j = posR (ltR row) (i : Int) L L.length) := by show _ = _; rw [← hpos.out, posR_go hz (by rw [hltv]; exact hd)]
              have hA := hput (zk : Int)
              obtain ⟨g3, cv3, u3, hg3, _, _, hcu3, hfu3, _, hput3⟩ := hA.out.put (j := j) (by rw [List.length_set]; omega)
              injection hg3 with hg3 h1 h2; clear h1 h2; injection hg3 with hg3; injection hg3 with hg3
              subst hg3
              have hB := hput3 (i : Int)
              rw [midR_swap hz, ← hmlv] at hB
              clear hput hput' hput3 hA hum hum' hpos hOq hltv hml hmlv hll hry hrz hz
              go_wp2
              go_quiet (fail)
              go_wp2
              exact ⟨⟨j, by omega, by go_num, hpos2, hB, ((below_drewN hWq.out _).setCell (p := ⟨g, j + 1, none⟩) hgB _).setCell (p := ⟨g, j, none⟩) hgB _⟩, by simp [intOf]⟩
            · have hd : decide (ry < rz) = false := decide_eq_false hyz
              have hfin : Hid (OwnV wr w1.heap.size (.slice (some ⟨g, 0, none⟩) ml cv) (ordL row (i + 1))) := by
                show OwnV _ _ _ _
                have h := hOq.out
                rw [← hmlv, midR_end (lt := ltR row) (by rw [← hpos.out, posR_stop hz (by rw [hltv]; exact hd)]), List.append_nil, ← hnext.out] at h
                exact h
              clear hput hput' hum hum' hpos hOq hltv hml hmlv hll hry hrz hz
              go_wp2
              go_quiet (fail)
              go_wp2
              exact ⟨⟨i + 1, by omega, by go_num, hfin, below_drewN hWq.out _⟩, by simp [intOf]; omega⟩
      · have hil : ¬ (i : Int) < (x.length : Int) := by omega
        obtain rfl : i = x.length := by omega
        obtain ⟨A3, c3, rfl, hoS⟩ := hO.out.ownS
        have H1 := hid (hoS.mono S1.out.size)
        have H2 := hid (S1.out.trans (hW.out.mono S1.out.size))
        obtain ⟨M, hM⟩ : ∃ M, M = ordL row x.length := ⟨_, rfl⟩
        have hMl : Hid (M.length ≤ 1048576) := by show _ ≤ _; rw [hM, ordL_length]; exact hn
        rw [← hM] at H1 ⊢
        have HM := hid hM
        clear hoS hO hW hM
        go_wp2
        go_ret2
        rw [← HM.out]
        exact ⟨A3, c3, rfl, H1.out, hMl.out, H2.out⟩
end Go.Proofs.Ytmafkkpdcajfoaa
