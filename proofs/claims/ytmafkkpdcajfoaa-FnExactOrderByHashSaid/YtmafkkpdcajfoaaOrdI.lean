/-
  The places of keys in ascending order of their hashes: the program, by contract, over the library's stable sort.
-/
import Derived.Test.YtmafkkpdcajfoaaOrd
namespace Go.Proofs.Ytmafkkpdcajfoaa
open Go.RowKit Go.Shelf
set_option linter.unusedVariables false
set_option linter.unusedSimpArgs false

/-- Where the comparing function finds its row: in the box q. -/
def RowBox (w : World) (q : Nat) (A : Option Addr) (n c : Nat) (row : List Int) : Prop := w.cell? ⟨q, 0, none⟩ = some (.slice A n c) ∧ row.length = n ∧ RdL (Value.int .i64) w A row
set_option maxHeartbeats 1600000 in
theorem cmpRow_any (q : Nat) (A : Option Addr) (n c : Nat) (row : List Int) (a b : Nat) (w : World) (hb : RowBox w q A n c row) (ha : a < n) (hb' : b < n) :
    Calls Try.prog 40 #[.int .i64 (a : Int), .int .i64 (b : Int), .pointer (some ⟨q, 0, none⟩)] w fun e w' => e = .returned (.int .i64 (cfR row (a : Int) (b : Int))) ∧ Below w.heap.size w w' := by
  obtain ⟨c0, hl, hr⟩ := hb
  obtain ⟨g, o, u, rfl, cu, hu⟩ := hr.at_ (k := a) (by omega)
  obtain ⟨g', o', v, hA', cv, hv⟩ := hr.at_ (k := b) (by omega)
  injection hA' with hA'; injection hA' with h1 h2
  subst h1 h2
  have n1 : (a : Int) < (n : Int) := by omega
  have n2 : (b : Int) < (n : Int) := by omega
  have HV : Hid (cfR row (a : Int) (b : Int) = cmpI u v) := by show _ = _; unfold cfR; rw [atR_of hu, atR_of hv]
  have CC : Hid (∀ w, Calls Try.prog 41 #[.int .i64 u, .int .i64 v] w fun e w' => e = .returned (.int .i64 (cmpI u v)) ∧ w = w') := fun w => compare_any u v w
  obtain ⟨z, hz⟩ : ∃ z, z = cmpI u v := ⟨_, rfl⟩
  rw [← hz] at HV CC
  clear hr hl hu hv hz
  go_enter Try.func40, Try.ntmps40
  go_wp2
  go_quiet ((go_at_call 41; exact Calls.quiet_of_same ((CC.out _).mono fun _ _ ⟨h, h'⟩ => ⟨h, h'.symm⟩)))
  go_wp2
  go_ret
  exact ⟨ret_int HV.out.symm, below_drewN (Below.refl _ _) _⟩
theorem ltC_cfR (row : List Int) : ltC (cfR row) = ltR row := by
  funext a b
  exact cfR_lt row a b
theorem RowBox.bes {w w' : World} {q g B : Nat} {A : Option Addr} {n c : Nat} {row : List Int} (h : RowBox w q A n c row) (hb : Bes g B w w') (hB : B = w.heap.size) (hq : q ≠ g) (hA : ∀ g' o, A = some ⟨g', o, none⟩ → row ≠ [] → g' ≠ g) : RowBox w' q A n c row := by
  obtain ⟨c0, hl, hr⟩ := h
  have hcell : ∀ b o v, b ≠ g → w.cell? ⟨b, o, none⟩ = some v → w'.cell? ⟨b, o, none⟩ = some v := fun b o v hne hc => by
    have hlt := World.block_lt_of_cell? w _ hc
    have hblk := hb.block b (by rw [hB]; exact hlt) hne
    unfold World.cell? at hc ⊢
    rw [hblk]; exact hc
  refine ⟨hcell q 0 _ hq c0, hl, fun j hj => ?_⟩
  obtain ⟨b, o, hA', hc⟩ := hr j hj
  exact ⟨b, o, hA', hcell b _ _ (hA b o hA' (by rintro rfl; simp at hj)) hc⟩
theorem Bes.belowOf {g B B0 : Nat} {w w' : World} (h : Bes g B w w') (h0 : B0 ≤ g) (h1 : B0 ≤ B) : Below B0 w w' := ⟨h.os, h.tape, h.output, h.size, fun k hk => h.block k (by omega) (by omega)⟩
set_option maxRecDepth 100000 in
set_option maxHeartbeats 3200000 in
theorem iOrderByHash_any (A : Option Addr) (c : Nat) (x : List Int) (salt : Int) (w : World) (hx : RdL (Value.int .i64) w A x) (hn : x.length ≤ 1048576) (we : ∀ y ∈ x, W64 y) (hsalt : W64 salt) :
    Calls Try.prog 17 #[.slice A x.length c, .int .i64 salt] w (RetLB (Value.int .i64) 2 w (pOrderByHash x salt)) := by
  have C0 := hid (iHashRow_any A c x salt w hx hn)
  clear hx we hsalt
  cases hg : (keysQ x && inB salt 0 4294967295) with
  | false =>
    have hp : pOrderByHash x salt = ([], false) := by simp only [pOrderByHash, hg]; rfl
    have hp2 : pHashRow x salt = ([], false) := by simp only [pHashRow, hg]; rfl
    rw [hp]
    rw [hp2] at C0
    clear hp hp2 hg
    go_enter Try.func17, Try.ntmps17
    go_wp2_with fail
    refine C0.out.mono ?_
    rintro e w1 ⟨A1, c1, rfl, ho, _, hb⟩
    have S1 := hid hb
    clear ho hb C0
    go_wp2
    go_ret2
    exact ⟨none, 0, rfl, OwnS.nil, by simp, S1.out.alloc S1.out.size _⟩
  | true =>
    have hp : pOrderByHash x salt = (ordL (rowH x salt.toNat x.length) x.length, true) := by simp only [pOrderByHash, hg]; rfl
    have hp2 : pHashRow x salt = (rowH x salt.toNat x.length, true) := by simp only [pHashRow, hg]; rfl
    rw [hp]
    rw [hp2] at C0
    obtain ⟨row, hL⟩ : ∃ L, L = rowH x salt.toNat x.length := ⟨_, rfl⟩
    have hRl : row.length = x.length := by rw [hL, rowH_length]
    rw [← hL] at C0 ⊢
    have RL := hid hRl
    clear hp hp2 hg hL hRl
    go_enter Try.func17, Try.ntmps17
    go_wp2_with fail
    refine C0.out.mono ?_
    rintro e w1 ⟨A1, c1, rfl, ho, _, hb⟩
    have R1 := hid ho.rd
    have S1 := hid hb
    obtain ⟨nr, hnr⟩ : ∃ nr, nr = row.length := ⟨_, rfl⟩
    rw [← hnr]
    have NR : Hid (row.length = nr) := hnr.symm
    have NX : Hid (nr = x.length) := by show _ = _; rw [hnr, RL.out]
    have hAlt : Hid (∀ g o, A1 = some ⟨g, o, none⟩ → row ≠ [] → g < w1.heap.size) := fun g o hA hne => by
      obtain ⟨b, o', y, hA', hc, _⟩ := R1.out.at_ (k := 0) (List.length_pos_iff.2 hne)
      rw [hA] at hA'; injection hA' with hA'; injection hA' with h1 h2
      have h3 := World.block_lt_of_cell? w1 _ hc
      rw [h1]; exact h3
    have BX : Hid (RowBox (w1.alloc (.cells #[.slice A1 nr c1] 24)) w1.heap.size A1 nr c1 row) := ⟨by simp, NR.out, R1.out.below (below_a1 _ _)⟩
    have S2 : Hid (Below w.heap.size w (w1.alloc (.cells #[.slice A1 nr c1] 24))) := S1.out.alloc S1.out.size _
    obtain ⟨B, hB⟩ : ∃ B, B = w1.heap.size + 1 := ⟨_, rfl⟩
    have HB := hid hB
    have hB2 : Hid ((w1.alloc (.cells #[.slice A1 nr c1] 24)).heap.size = B) := by show _ = _; rw [hB]; simp
    have hS0 : w.heap.size ≤ w1.heap.size := S1.out.size
    have hq : w1.heap.size < B := by omega
    clear ho hb C0 R1 S1 hnr hB
    go_wp2
    go_loopw [8, 21] (fun v t wr => ∃ k : Nat, k ≤ x.length ∧ t = .int .i64 k ∧ Hid (OwnV wr B v (idxL k)) ∧ Hid (Below B (w1.alloc (.cells #[.slice A1 nr c1] 24)) wr) ∧ Hid (k = 0 → v = .slice (some ⟨B, 0, none⟩) 0 0 ∧ Blk wr B 2 []) ∧ B ≤ wr.heap.size) (fun v t _ => x.length - (intOf t).toNat)
    case atStart =>
      have h := below_a1 (w1.alloc (.cells #[.slice A1 nr c1] 24)) (.cells #[] 2)
      have e := hB2.out
      refine ⟨0, Nat.zero_le _, rfl, ?_, ?_, fun _ => ⟨?_, ?_⟩, ?_⟩
      · have := OwnV.made (w1.alloc (.cells #[.slice A1 nr c1] 24)) (B := B) (by omega)
        show OwnV _ _ _ _
        simpa [idxL] using this
      · rw [← e]; exact h
      · rw [HB.out]
      · have := Blk.new (w1.alloc (.cells #[.slice A1 nr c1] 24)) 2 []
        rw [e] at this; exact this
      · have := h.size; omega
    case round =>
      obtain ⟨k, hk, rfl, hO, hW, hz, hsz⟩ := hrel
      by_cases hlt : k < x.length
      · have hi : (k : Int) < (x.length : Int) := by omega
        have hol : (idxL k).length ≤ 1048577 := by rw [idxL_length]; omega
        go_wp2_with (at_builtin; refine app_int rfl _ _ rfl (k : Int) hO.out hW.out rfl rfl hol hsz ?_)
        intro v' w3 O3 W3 hg3 _
        have O4 : Hid (OwnV w3 B v' (idxL (k + 1))) := by show OwnV _ _ _ _; rw [idxL_succ]; exact O3
        have hs3 : B ≤ w3.heap.size := by have := hg3.out; omega
        have hz' : Hid (k + 1 = 0 → v' = .slice (some ⟨B, 0, none⟩) 0 0 ∧ Blk w3 B 2 []) := fun h => by omega
        clear O3 hz hO hW hol hg3
        go_wp2
        exact ⟨⟨k + 1, by omega, by go_num, O4, W3, hz', hs3⟩, by simp [intOf]; omega⟩
      · have hi : ¬ (k : Int) < (x.length : Int) := by omega
        obtain rfl : k = x.length := by omega
        obtain ⟨n, hnx⟩ : ∃ n, n = x.length := ⟨_, rfl⟩
        have NXX := hid hnx
        rw [← hnx] at hO hz
        obtain ⟨g, cv, ex, rfl, hgB, hgD, hgl⟩ : ∃ g cv ex, u8 = .slice (some ⟨g, 0, none⟩) n cv ∧ B ≤ g ∧ Dat wr g ex (idxL n) ∧ g < wr.heap.size := by
          rcases Nat.eq_zero_or_pos n with h0 | h0
          · obtain ⟨h1, h2⟩ := hz.out h0
            subst h0
            exact ⟨B, 0, [], h1, Nat.le_refl _, by simpa [Dat, idxL] using h2, h2.lt⟩
          · obtain ⟨A3, c3, h1, h2⟩ := hO.out.ownS
            rw [idxL_length] at h1
            obtain ⟨g, ex, h3, h4, h5⟩ := h2 (by intro h6; have := congrArg List.length h6; rw [idxL_length] at this; simp at this; omega)
            subst h3
            exact ⟨g, c3, ex, h1, h4, h5, h5.lt⟩
        have WR := hW
        have BR : Hid (RowBox wr w1.heap.size A1 nr c1 row) := by
          obtain ⟨b0, b1, b2⟩ := BX.out
          have hb : Below (w1.alloc (.cells #[.slice A1 nr c1] 24)).heap.size (w1.alloc (.cells #[.slice A1 nr c1] 24)) wr := by rw [hB2.out]; exact WR.out
          exact ⟨(hb.cell (World.block_lt_of_cell? _ _ b0)).trans b0, b1, b2.below hb⟩
        have CK : Hid (CmpOk 40 #[.pointer (some ⟨w1.heap.size, 0, none⟩)] g wr.heap.size wr (fun y => ∃ j : Nat, y = j ∧ j < n) (cfR row)) :=
          ⟨enters_of Try.func40 (by kernel_rfl) rfl, Nat.le_refl _, fun w' hb' u v ⟨j, hj, hjl⟩ ⟨j', hj', hjl'⟩ => by
            subst hj hj'
            exact cmpRow_any w1.heap.size A1 nr c1 row j j' w' (BR.out.bes hb' rfl (by omega) (fun g' o hA hne => by have := hAlt.out g' o hA hne; omega)) (by have := NX.out; have := NXX.out; omega) (by have := NX.out; have := NXX.out; omega)⟩
        have CS := hid (sortStable_any g wr.heap.size cv n 40 #[.pointer (some ⟨w1.heap.size, 0, none⟩)] ex (idxL n) (cfR row) (RelR row) (fun y => ∃ j : Nat, y = j ∧ j < n) wr wr (RelR.tr row) CK.out (by have := NXX.out; omega) (Bes.refl _ _ _) (fun y hy => idxL_mem hy) (idxL_length n) (by show List.Pairwise _ _; rw [ltC_cfR]; exact idxL_cr row n) hgD)
        have hwB : w.heap.size ≤ g := by omega
        have hn0 : n ≤ 1048576 := by have := NXX.out; omega
        clear hO hz hgD hnx CK BR
        go_wp2_with fail
        refine CS.out.mono ?_
        rintro e w5 ⟨M, rfl, hm, hD5, hW5⟩
        have HM : Hid (M = ordL row x.length) := by show _ = _; rw [← NXX.out]; exact ordL_of hm
        have H1 : Hid (OwnS (Value.int .i64) w5 w.heap.size 2 (some ⟨g, 0, none⟩) M) := fun _ => ⟨g, ex, rfl, hwB, hD5⟩
        have H2 : Hid (Below w.heap.size w w5) := (S2.out.trans (WR.out.mono (by omega))).trans (hW5.belowOf hwB (by omega))
        have HL : Hid (M.length = n) := by show _ = _; rw [hm.1.length_eq, idxL_length]
        clear hm hD5 hW5 CS
        go_wp2
        go_ret2
        rw [← HM.out, ← HL.out]
        exact ⟨_, cv, rfl, H1.out, by have := HL.out; show M.length ≤ _; omega, H2.out⟩
end Go.Proofs.Ytmafkkpdcajfoaa
